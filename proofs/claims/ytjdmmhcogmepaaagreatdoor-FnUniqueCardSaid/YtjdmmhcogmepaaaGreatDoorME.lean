import Derived.Test.YtjdmmhcogmepaaaGreatDoorMD
import Derived.Test.YtjdmmhcogmepaaaGreatDoorMC
import Derived.Recover
import Derived.Test.YtjdmmhcogmepaaaGreatDoorMB
namespace Go.Proofs.YtjdmmhcogmepaaaGreatDoor.V
open Go.RowKit
set_option linter.unusedVariables false
set_option linter.unusedSimpArgs false
set_option linter.constructorNameAsVariable false
set_option maxHeartbeats 4000000 in
set_option maxRecDepth 100000 in
theorem c_l3DrawTreeOver (r : Rd) (hr : r.ok) : VProc Tryz.prog 37 [.ptr 0 2 0 0] [rdOb r] [] (fun av mem maps => av = .tup [.agg [.own 1], .agg [(overAt r).treeA 2]] ∧ mem = [rdOb (overAt r).rd, tab (overAt r).tab, nodRow (overAt r).row] ∧ maps = []) := by
 have cr : ∀ (r : Rd) (i : Nat) (c : AV), i < r.n → c ∈ rdCells r.f i → Closed c := fun r i c _ h => rdClosed r.f i c h
 have c1 := c_next r hr
 have hn := Rd.nx_ok hr
 have hk := Rd.v_lt hr
 have c2 := c_l1DrawTable r.nx hn
 have h1 := drawTab_len r.nx
 have h2 := drawTab_txt r.nx
 have h3 := drawTab_ok hn
 have h0 := drawTab_tbl r.nx
 have hks := kinds_of h0
 have h4 := drawTree_len (drawTab r.nx).1 (decide (r.v % 2 = 1)) (drawTab r.nx).2
 have h5 := drawTree_tx r.nx (decide (r.v % 2 = 1)) (drawTab r.nx).2
 have h6 : (drawTree (drawTab r.nx).1 (decide (r.v % 2 = 1)) (drawTab r.nx).2).2.ok := gen_ok _ _ _ (Rd.nx_ok h3)
 have hO := over0_ok (k := r.v) (g := decide (r.v % 2 = 1)) hn hk
 have c3 := c_l3DrawTree (drawTab r.nx).1 (by omega) hks (decide (r.v % 2 = 1)) (drawTab r.nx).2 h3
 unfold overAt
 have hval : ∀ o : Over, o.ok → True := fun _ _ => trivial
 generalize drawTree (drawTab r.nx).1 (decide (r.v % 2 = 1)) (drawTab r.nx).2 = d at *
 generalize drawTab r.nx = q at *
 generalize hK : r.v = k at *
 have e2 : (k : Int).tmod 2 = ((k % 2 : Nat) : Int) := tmod_nat k 2
 have e5 : (k : Int).tmod 5 = ((k % 5 : Nat) : Int) := tmod_nat k 5
 have e7 : (k : Int).tmod 7 = ((k % 7 : Nat) : Int) := tmod_nat k 7
 have e20 : (k : Int).tmod 20 = ((k % 20 : Nat) : Int) := tmod_nat k 20
 have e32 : (k : Int).tmod 32 = ((k % 32 : Nat) : Int) := tmod_nat k 32
 have e4 : (k : Int).tmod 4 = ((k % 4 : Nat) : Int) := tmod_nat k 4
 have b2 : k % 2 < 2 := Nat.mod_lt _ (by decide)
 have b7 : k % 7 < 7 := Nat.mod_lt _ (by decide)
 have w7 : IntKind.i64.wrap (1 + ((k % 7 : Nat) : Int)) = ((1 + k % 7 : Nat) : Int) := by rw [wrap_i64 (by omega)]; omega
 have eg : ((k : Int).tmod 2 == 1) = decide (k % 2 = 1) := by
  rw [e2, Bool.eq_iff_iff]; simp; omega
 simp only [rdOb, tab, nodRow] at c1 c2 c3 ⊢
 refine vproc_start Tryz.func37 (by kernel_rfl) rfl (by simp [Tryz.ntmps37]) ?_; simp only [Tryz.ntmps37, Tryz.results37]; simp [go_sem]
 refine vcall_share [0] c1 (by simp) ?_ ?_ trivial ?_
 ·simp [go_sem]
 ·simp [go_sem]
  exact cr r
 ·rintro av mem maps ⟨rfl, rfl, rfl⟩
  simp [go_sem]
  refine vcall_share [0] c2 (by simp) ?_ ?_ trivial ?_
  ·simp [go_sem]
  ·simp [go_sem]
   exact cr r.nx
  ·rintro av mem maps ⟨rfl, rfl, rfl⟩
   simp [go_sem, eg]
   refine vcall_share [0, 3] c3 (by simp) ?_ ?_ trivial ?_
   ·simp [go_sem]
   ·simp [go_sem]
    exact ⟨cr q.2, fun i _ => cellsRn_lits (opLit _ i)⟩
   ·rintro av mem maps ⟨rfl, rfl, rfl⟩
    have hwk : IntKind.i64.wrap (1 + ((k % 7 : Nat) : Int)) = ((1 + k % 7 : Nat) : Int) := w7
    have hwk : IntKind.i64.wrap (1 + ((k % 7 : Nat) : Int)) = ((1 + k % 7 : Nat) : Int) := w7
    by_cases hA : k % 5 = 4
    ·have hA' : (k : Int).tmod 5 = 4 := by rw [e5, hA]; rfl
     have hB' : ¬ (k : Int).tmod 20 = 3 := by rw [e20]; omega
     have c4 := c_l3SpoilTree d.1 (by omega) (fun i hi => by have := h5 i hi; omega) { d.2 with p := 1 + k % 7 } ⟨h6.1, by simp only; omega, h6.2.2⟩
     have hov : over0 k q.1 d.1 d.2 = overT q.1 d.1 { d.2 with p := 1 + k % 7 } := by rw [over0, if_pos hA]
     rw [hov] at hO ⊢
     unfold overT at hO ⊢
     have hrs : ({ d.2 with p := 1 + k % 7 } : Rd).n = d.2.n ∧ ({ d.2 with p := 1 + k % 7 } : Rd).f = d.2.f ∧ ({ d.2 with p := 1 + k % 7 } : Rd).p = 1 + k % 7 := ⟨rfl, rfl, rfl⟩
     generalize ({ d.2 with p := 1 + k % 7 } : Rd) = rs at *
     have hi := Nat.mod_lt rs.nx.v h4.1
     simp only [rdOb, nodRow, hrs.1, hrs.2.1, hrs.2.2] at c4
     generalize k % 7 = m7 at *
     simp only [go_sem, hA', e7, w7]
     simp [go_sem, hA', e7, w7]
     refine vcall_share [0, 5] c4 (by simp) ?_ ?_ trivial ?_
     ·simp [go_sem]
     ·simp [go_sem]
      exact ⟨cr d.2, fun i _ => cellsRn_lits (nodLit _ i)⟩
     ·rintro av mem maps ⟨rfl, ⟨hc, rfl, rfl⟩ | ⟨hc, rfl, rfl⟩ | ⟨⟨hc, hc'⟩, rfl, rfl⟩⟩
      ·rw [if_pos hc] at hO ⊢
       generalize q.1 = L at *
       generalize d.1 = R at *
       generalize rs.nx.v % R.length = n at *
       generalize rs.nx.nx = rx at *
       have clL : ∀ (i : Nat) (c : AV), i < L.length → c ∈ opCells L i → Closed c := fun i c _ h => opClosed L i c h
       have htx := hO.treeTx
       have hrow := hO.row
       have htab := hO.tab
       have htxt : ∀ p, p ∈ L → p.text.size ≤ 17 := hO.txt
       simp only [Over.tree] at htx hrow htab
       by_cases h21 : k % 32 = 21
       ·have h21' : (k : Int).tmod 32 = 21 := by rw [e32, h21]; rfl
        have c5 := c_nextW rx hO.rd
        have v5 : (rx.v : Int).tmod 5 = ((rx.v % 5 : Nat) : Int) := tmod_nat rx.v 5
        have w5 : rx.v % 5 < 5 := Nat.mod_lt _ (by decide)
        have ho : over1 k ⟨L, R, some n, rx⟩ = ⟨[minusOp], chainN (997 + rx.v % 5), none, rx.nx⟩ := by rw [over1, if_pos h21]
        rw [ho]
        generalize rx.v % 5 = y at *
        have wy : IntKind.i64.wrap (1000 + (y : Int)) = 1000 + (y : Int) := wrap_i64 (by omega)
        have wz : IntKind.i64.wrap (1000 + (y : Int) - 3) = ((997 + y : Nat) : Int) := by rw [wrap_i64 (by omega)]; omega
        have c6 := c_l3Chain (997 + y) (by omega)
        simp only [rdOb] at c5
        simp [go_sem, hA', hB', h21']
        refine vcall_use c_l3Minus (by simp [go_sem]) ?_
        rintro av obs ⟨rfl, rfl⟩
        simp [go_sem]
        refine vcall_share [0] c5 (by simp) ?_ ?_ trivial ?_
        ·simp [go_sem]
        ·simp [go_sem]
         exact cr rx
        ·rintro av mem maps ⟨rfl, rfl, rfl⟩
         simp only [go_sem, v5, wy, wz]
         simp [go_sem, v5, wy, wz]
         refine vcall_use c6 (by simp [go_sem]) ?_
         rintro av obs ⟨rfl, rfl⟩
         simp [go_sem, Over.treeA]
         refine ⟨rfl, [7, 8], [rdOb rx.nx, tab [minusOp], nodRow (chainN (997 + y))], by simp, by simp, by simp [go_sem], ?_, by simp [go_sem], ?_⟩
         ·simp [go_sem, rdOb, tab, nodRow, chainN_len]
          exact ⟨rdOut, outAt_lits (fun _ _ => rfl) (fun j _ => opLit _ j), outAt_lits (fun _ _ => rfl) (fun j _ => nodLit _ j)⟩
         ·simp [go_sem, rdOb, tab, nodRow, chainN_len]
          try rfl
       ·have h21' : ¬ (k : Int).tmod 32 = 21 := by rw [e32]; omega
        by_cases h4' : k % 4 = 2
        ·have h4'' : (k : Int).tmod 4 = 2 := by rw [e4, h4']; rfl
         have hTL : (R.take n).length = n := by simp; omega
         have cg := c_specGroup L (by omega) (fun i hi => by show (opAt L i).wf; have := htxt _ (opAt_mem hi); simp only [POp.wf, maxLen]; omega) (R.take n) (by omega) (fun i hi => by have := htx i hi; simp only [PNode.wf, maxLen]; omega)
         rw [hTL] at cg
         have hgl := groupZ_len2 L (R.take n)
         have ho : over1 k ⟨L, R, some n, rx⟩ = if groupOk L (R.take n) = true then ⟨L, groupZ L (R.take n), none, rx⟩ else ⟨L, R, some n, rx⟩ := by
          cases hg : groupOk L (R.take n) with
          | true => rw [if_pos rfl, over1, if_neg h21, if_pos ⟨h4', hg⟩]; rfl
          | false => rw [if_neg (by simp), over1, if_neg h21, if_neg (fun h => by rw [show (Over.mk L R (some n) rx).tree = (R.take n) from rfl] at h; simp [hg] at h)]
         rw [ho]
         generalize groupZ L (R.take n) = G at *
         simp [go_sem, hA', hB', h21', h4'']
         refine vcall_use cg ?_ ?_
         ·simp [go_sem]
          exact ⟨argSl_own rfl (by omega) clL, argSl_sub rfl (by omega) (by omega) fun i hi => ⟨by rw [Nat.zero_add, nodCells_take hi], fun c hc => nodClosed _ i c hc⟩⟩
         ·rintro av obs ⟨rfl, rfl⟩
          cases hg : groupOk L (R.take n) with
          | true =>
           simp [go_sem, Over.treeA]
           refine vc_drawn [2,3] (.q 0 <| .or 1 (.or 2 (.or 3 (.done) (.nil)) (.nil)) (.or 2 (.q 1 <| .or 3 (.done) (.nil)) (.nil))) (by kernel_rfl) ?_
           simp [go_sem]
           refine ⟨rfl, [3, 7], [rdOb rx, tab L, nodRow G], by simp, by simp, by simp [go_sem], ?_, by simp [go_sem], ?_⟩
           ·simp [go_sem, rdOb, tab, nodRow]
            exact ⟨rdOut, outAt_lits (fun _ _ => rfl) (fun j _ => opLit _ j), outAt_lits (fun _ _ => rfl) (fun j _ => nodLit _ j)⟩
           ·simp [go_sem, rdOb, tab, nodRow]
            try rfl
          | false =>
           simp [go_sem, Over.treeA]
           refine vc_drawn [2,3] (.q 0 <| .or 1 (.or 2 (.or 3 (.done) (.nil)) (.nil)) (.or 2 (.q 1 <| .or 3 (.done) (.nil)) (.nil))) (by kernel_rfl) ?_
           simp [go_sem]
           refine ⟨rfl, [3, 5], [rdOb rx, tab L, nodRow R], by simp, by simp, by simp [go_sem], ?_, by simp [go_sem], ?_⟩
           ·simp [go_sem, rdOb, tab, nodRow]
            exact ⟨rdOut, outAt_lits (fun _ _ => rfl) (fun j _ => opLit _ j), outAt_lits (fun _ _ => rfl) (fun j _ => nodLit _ j)⟩
           ·simp [go_sem, rdOb, tab, nodRow]
            try rfl
        ·have h4'' : ¬ (k : Int).tmod 4 = 2 := by rw [e4]; omega
         have ho : over1 k ⟨L, R, some n, rx⟩ = ⟨L, R, some n, rx⟩ := by rw [over1, if_neg h21, if_neg (fun h => h4' h.1)]
         rw [ho]
         simp [go_sem, hA', hB', h21', h4'', Over.treeA]
         refine vc_drawn [2,3] (.q 0 <| .or 1 (.or 2 (.or 3 (.done) (.nil)) (.nil)) (.or 2 (.q 1 <| .or 3 (.done) (.nil)) (.nil))) (by kernel_rfl) ?_
         simp [go_sem]
         refine ⟨rfl, [3, 5], [rdOb rx, tab L, nodRow R], by simp, by simp, by simp [go_sem], ?_, by simp [go_sem], ?_⟩
         ·simp [go_sem, rdOb, tab, nodRow]
          exact ⟨rdOut, outAt_lits (fun _ _ => rfl) (fun j _ => opLit _ j), outAt_lits (fun _ _ => rfl) (fun j _ => nodLit _ j)⟩
         ·simp [go_sem, rdOb, tab, nodRow]
          try rfl
      ·rw [if_neg (by omega), if_pos hc] at hO ⊢
       generalize q.1 = L at *
       generalize bigN (19998 + rs.v / 8 % 3) = R at *
       generalize rs.nx.nx = rx at *
       have clL : ∀ (i : Nat) (c : AV), i < L.length → c ∈ opCells L i → Closed c := fun i c _ h => opClosed L i c h
       have htx := hO.treeTx
       have hrow := hO.row
       have htab := hO.tab
       have htxt : ∀ p, p ∈ L → p.text.size ≤ 17 := hO.txt
       simp only [Over.tree] at htx hrow htab
       by_cases h21 : k % 32 = 21
       ·have h21' : (k : Int).tmod 32 = 21 := by rw [e32, h21]; rfl
        have c5 := c_nextW rx hO.rd
        have v5 : (rx.v : Int).tmod 5 = ((rx.v % 5 : Nat) : Int) := tmod_nat rx.v 5
        have w5 : rx.v % 5 < 5 := Nat.mod_lt _ (by decide)
        have ho : over1 k ⟨L, R, none, rx⟩ = ⟨[minusOp], chainN (997 + rx.v % 5), none, rx.nx⟩ := by rw [over1, if_pos h21]
        rw [ho]
        generalize rx.v % 5 = y at *
        have wy : IntKind.i64.wrap (1000 + (y : Int)) = 1000 + (y : Int) := wrap_i64 (by omega)
        have wz : IntKind.i64.wrap (1000 + (y : Int) - 3) = ((997 + y : Nat) : Int) := by rw [wrap_i64 (by omega)]; omega
        have c6 := c_l3Chain (997 + y) (by omega)
        simp only [rdOb] at c5
        simp [go_sem, hA', hB', h21']
        refine vcall_use c_l3Minus (by simp [go_sem]) ?_
        rintro av obs ⟨rfl, rfl⟩
        simp [go_sem]
        refine vcall_share [0] c5 (by simp) ?_ ?_ trivial ?_
        ·simp [go_sem]
        ·simp [go_sem]
         exact cr rx
        ·rintro av mem maps ⟨rfl, rfl, rfl⟩
         simp only [go_sem, v5, wy, wz]
         simp [go_sem, v5, wy, wz]
         refine vcall_use c6 (by simp [go_sem]) ?_
         rintro av obs ⟨rfl, rfl⟩
         simp [go_sem, Over.treeA]
         refine ⟨rfl, [8, 9], [rdOb rx.nx, tab [minusOp], nodRow (chainN (997 + y))], by simp, by simp, by simp [go_sem], ?_, by simp [go_sem], ?_⟩
         ·simp [go_sem, rdOb, tab, nodRow, chainN_len]
          exact ⟨rdOut, outAt_lits (fun _ _ => rfl) (fun j _ => opLit _ j), outAt_lits (fun _ _ => rfl) (fun j _ => nodLit _ j)⟩
         ·simp [go_sem, rdOb, tab, nodRow, chainN_len]
          try rfl
       ·have h21' : ¬ (k : Int).tmod 32 = 21 := by rw [e32]; omega
        by_cases h4' : k % 4 = 2
        ·have h4'' : (k : Int).tmod 4 = 2 := by rw [e4, h4']; rfl
         have hTL : R.length = R.length := rfl
         have cg := c_specGroup L (by omega) (fun i hi => by show (opAt L i).wf; have := htxt _ (opAt_mem hi); simp only [POp.wf, maxLen]; omega) R (by omega) (fun i hi => by have := htx i hi; simp only [PNode.wf, maxLen]; omega)
         rw [hTL] at cg
         have hgl := groupZ_len2 L R
         have ho : over1 k ⟨L, R, none, rx⟩ = if groupOk L R = true then ⟨L, groupZ L R, none, rx⟩ else ⟨L, R, none, rx⟩ := by
          cases hg : groupOk L R with
          | true => rw [if_pos rfl, over1, if_neg h21, if_pos ⟨h4', hg⟩]; rfl
          | false => rw [if_neg (by simp), over1, if_neg h21, if_neg (fun h => by rw [show (Over.mk L R none rx).tree = R from rfl] at h; simp [hg] at h)]
         rw [ho]
         generalize groupZ L R = G at *
         simp [go_sem, hA', hB', h21', h4'']
         refine vcall_use cg ?_ ?_
         ·simp [go_sem]
          exact ⟨argSl_own rfl (by omega) clL, argSl_own rfl (by omega) (fun i c _ hc => nodClosed _ i c hc)⟩
         ·rintro av obs ⟨rfl, rfl⟩
          cases hg : groupOk L R with
          | true =>
           simp [go_sem, Over.treeA]
           refine vc_drawn [2,3] (.q 0 <| .or 1 (.or 2 (.or 3 (.done) (.nil)) (.nil)) (.or 2 (.q 1 <| .or 3 (.done) (.nil)) (.nil))) (by kernel_rfl) ?_
           simp [go_sem]
           refine ⟨rfl, [3, 8], [rdOb rx, tab L, nodRow G], by simp, by simp, by simp [go_sem], ?_, by simp [go_sem], ?_⟩
           ·simp [go_sem, rdOb, tab, nodRow]
            exact ⟨rdOut, outAt_lits (fun _ _ => rfl) (fun j _ => opLit _ j), outAt_lits (fun _ _ => rfl) (fun j _ => nodLit _ j)⟩
           ·simp [go_sem, rdOb, tab, nodRow]
            try rfl
          | false =>
           simp [go_sem, Over.treeA]
           refine vc_drawn [2,3] (.q 0 <| .or 1 (.or 2 (.or 3 (.done) (.nil)) (.nil)) (.or 2 (.q 1 <| .or 3 (.done) (.nil)) (.nil))) (by kernel_rfl) ?_
           simp [go_sem]
           refine ⟨rfl, [3, 7], [rdOb rx, tab L, nodRow R], by simp, by simp, by simp [go_sem], ?_, by simp [go_sem], ?_⟩
           ·simp [go_sem, rdOb, tab, nodRow]
            exact ⟨rdOut, outAt_lits (fun _ _ => rfl) (fun j _ => opLit _ j), outAt_lits (fun _ _ => rfl) (fun j _ => nodLit _ j)⟩
           ·simp [go_sem, rdOb, tab, nodRow]
            try rfl
        ·have h4'' : ¬ (k : Int).tmod 4 = 2 := by rw [e4]; omega
         have ho : over1 k ⟨L, R, none, rx⟩ = ⟨L, R, none, rx⟩ := by rw [over1, if_neg h21, if_neg (fun h => h4' h.1)]
         rw [ho]
         simp [go_sem, hA', hB', h21', h4'', Over.treeA]
         refine vc_drawn [2,3] (.q 0 <| .or 1 (.or 2 (.or 3 (.done) (.nil)) (.nil)) (.or 2 (.q 1 <| .or 3 (.done) (.nil)) (.nil))) (by kernel_rfl) ?_
         simp [go_sem]
         refine ⟨rfl, [3, 7], [rdOb rx, tab L, nodRow R], by simp, by simp, by simp [go_sem], ?_, by simp [go_sem], ?_⟩
         ·simp [go_sem, rdOb, tab, nodRow]
          exact ⟨rdOut, outAt_lits (fun _ _ => rfl) (fun j _ => opLit _ j), outAt_lits (fun _ _ => rfl) (fun j _ => nodLit _ j)⟩
         ·simp [go_sem, rdOb, tab, nodRow]
          try rfl
      ·rw [if_neg hc, if_neg hc'] at hO ⊢
       generalize q.1 = L at *
       generalize d.1.set (rs.nx.v % d.1.length) (spoilN (nodAt d.1 (rs.nx.v % d.1.length)) rs.v) = R at *
       generalize rs.nx.nx = rx at *
       have clL : ∀ (i : Nat) (c : AV), i < L.length → c ∈ opCells L i → Closed c := fun i c _ h => opClosed L i c h
       have htx := hO.treeTx
       have hrow := hO.row
       have htab := hO.tab
       have htxt : ∀ p, p ∈ L → p.text.size ≤ 17 := hO.txt
       simp only [Over.tree] at htx hrow htab
       by_cases h21 : k % 32 = 21
       ·have h21' : (k : Int).tmod 32 = 21 := by rw [e32, h21]; rfl
        have c5 := c_nextW rx hO.rd
        have v5 : (rx.v : Int).tmod 5 = ((rx.v % 5 : Nat) : Int) := tmod_nat rx.v 5
        have w5 : rx.v % 5 < 5 := Nat.mod_lt _ (by decide)
        have ho : over1 k ⟨L, R, none, rx⟩ = ⟨[minusOp], chainN (997 + rx.v % 5), none, rx.nx⟩ := by rw [over1, if_pos h21]
        rw [ho]
        generalize rx.v % 5 = y at *
        have wy : IntKind.i64.wrap (1000 + (y : Int)) = 1000 + (y : Int) := wrap_i64 (by omega)
        have wz : IntKind.i64.wrap (1000 + (y : Int) - 3) = ((997 + y : Nat) : Int) := by rw [wrap_i64 (by omega)]; omega
        have c6 := c_l3Chain (997 + y) (by omega)
        simp only [rdOb] at c5
        simp [go_sem, hA', hB', h21']
        refine vcall_use c_l3Minus (by simp [go_sem]) ?_
        rintro av obs ⟨rfl, rfl⟩
        simp [go_sem]
        refine vcall_share [0] c5 (by simp) ?_ ?_ trivial ?_
        ·simp [go_sem]
        ·simp [go_sem]
         exact cr rx
        ·rintro av mem maps ⟨rfl, rfl, rfl⟩
         simp only [go_sem, v5, wy, wz]
         simp [go_sem, v5, wy, wz]
         refine vcall_use c6 (by simp [go_sem]) ?_
         rintro av obs ⟨rfl, rfl⟩
         simp [go_sem, Over.treeA]
         refine ⟨rfl, [7, 8], [rdOb rx.nx, tab [minusOp], nodRow (chainN (997 + y))], by simp, by simp, by simp [go_sem], ?_, by simp [go_sem], ?_⟩
         ·simp [go_sem, rdOb, tab, nodRow, chainN_len]
          exact ⟨rdOut, outAt_lits (fun _ _ => rfl) (fun j _ => opLit _ j), outAt_lits (fun _ _ => rfl) (fun j _ => nodLit _ j)⟩
         ·simp [go_sem, rdOb, tab, nodRow, chainN_len]
          try rfl
       ·have h21' : ¬ (k : Int).tmod 32 = 21 := by rw [e32]; omega
        by_cases h4' : k % 4 = 2
        ·have h4'' : (k : Int).tmod 4 = 2 := by rw [e4, h4']; rfl
         have hTL : R.length = R.length := rfl
         have cg := c_specGroup L (by omega) (fun i hi => by show (opAt L i).wf; have := htxt _ (opAt_mem hi); simp only [POp.wf, maxLen]; omega) R (by omega) (fun i hi => by have := htx i hi; simp only [PNode.wf, maxLen]; omega)
         rw [hTL] at cg
         have hgl := groupZ_len2 L R
         have ho : over1 k ⟨L, R, none, rx⟩ = if groupOk L R = true then ⟨L, groupZ L R, none, rx⟩ else ⟨L, R, none, rx⟩ := by
          cases hg : groupOk L R with
          | true => rw [if_pos rfl, over1, if_neg h21, if_pos ⟨h4', hg⟩]; rfl
          | false => rw [if_neg (by simp), over1, if_neg h21, if_neg (fun h => by rw [show (Over.mk L R none rx).tree = R from rfl] at h; simp [hg] at h)]
         rw [ho]
         generalize groupZ L R = G at *
         simp [go_sem, hA', hB', h21', h4'']
         refine vcall_use cg ?_ ?_
         ·simp [go_sem]
          exact ⟨argSl_own rfl (by omega) clL, argSl_own rfl (by omega) (fun i c _ hc => nodClosed _ i c hc)⟩
         ·rintro av obs ⟨rfl, rfl⟩
          cases hg : groupOk L R with
          | true =>
           simp [go_sem, Over.treeA]
           refine vc_drawn [2,3] (.q 0 <| .or 1 (.or 2 (.or 3 (.done) (.nil)) (.nil)) (.or 2 (.q 1 <| .or 3 (.done) (.nil)) (.nil))) (by kernel_rfl) ?_
           simp [go_sem]
           refine ⟨rfl, [3, 7], [rdOb rx, tab L, nodRow G], by simp, by simp, by simp [go_sem], ?_, by simp [go_sem], ?_⟩
           ·simp [go_sem, rdOb, tab, nodRow]
            exact ⟨rdOut, outAt_lits (fun _ _ => rfl) (fun j _ => opLit _ j), outAt_lits (fun _ _ => rfl) (fun j _ => nodLit _ j)⟩
           ·simp [go_sem, rdOb, tab, nodRow]
            try rfl
          | false =>
           simp [go_sem, Over.treeA]
           refine vc_drawn [2,3] (.q 0 <| .or 1 (.or 2 (.or 3 (.done) (.nil)) (.nil)) (.or 2 (.q 1 <| .or 3 (.done) (.nil)) (.nil))) (by kernel_rfl) ?_
           simp [go_sem]
           refine ⟨rfl, [3, 5], [rdOb rx, tab L, nodRow R], by simp, by simp, by simp [go_sem], ?_, by simp [go_sem], ?_⟩
           ·simp [go_sem, rdOb, tab, nodRow]
            exact ⟨rdOut, outAt_lits (fun _ _ => rfl) (fun j _ => opLit _ j), outAt_lits (fun _ _ => rfl) (fun j _ => nodLit _ j)⟩
           ·simp [go_sem, rdOb, tab, nodRow]
            try rfl
        ·have h4'' : ¬ (k : Int).tmod 4 = 2 := by rw [e4]; omega
         have ho : over1 k ⟨L, R, none, rx⟩ = ⟨L, R, none, rx⟩ := by rw [over1, if_neg h21, if_neg (fun h => h4' h.1)]
         rw [ho]
         simp [go_sem, hA', hB', h21', h4'', Over.treeA]
         refine vc_drawn [2,3] (.q 0 <| .or 1 (.or 2 (.or 3 (.done) (.nil)) (.nil)) (.or 2 (.q 1 <| .or 3 (.done) (.nil)) (.nil))) (by kernel_rfl) ?_
         simp [go_sem]
         refine ⟨rfl, [3, 5], [rdOb rx, tab L, nodRow R], by simp, by simp, by simp [go_sem], ?_, by simp [go_sem], ?_⟩
         ·simp [go_sem, rdOb, tab, nodRow]
          exact ⟨rdOut, outAt_lits (fun _ _ => rfl) (fun j _ => opLit _ j), outAt_lits (fun _ _ => rfl) (fun j _ => nodLit _ j)⟩
         ·simp [go_sem, rdOb, tab, nodRow]
          try rfl
    ·have hA' : ¬ (k : Int).tmod 5 = 4 := by rw [e5]; omega
     by_cases hB : k % 20 = 3
     ·have hB' : (k : Int).tmod 20 = 3 := by rw [e20, hB]; rfl
      have c4 := c_l1SpoilTable q.1 (by omega) (fun i hi => by have := h2 _ (opAt_mem hi); omega) d.2 h6
      have hov : over0 k q.1 d.1 d.2 = ⟨spoilTab q.1 d.2, d.1, none, spoilRd q.1 d.2⟩ := by rw [over0, if_neg hA, if_pos hB]
      rw [hov] at hO ⊢
      simp only [rdOb, tab] at c4
      simp [go_sem, hA', hB']
      refine vcall_share [0, 3] c4 (by simp) ?_ ?_ trivial ?_
      ·simp [go_sem]
      ·simp [go_sem]
       exact ⟨cr d.2, fun i _ => cellsRn_lits (opLit _ i)⟩
      ·rintro av mem maps ⟨rfl, ⟨hc, rfl, rfl⟩ | ⟨hc, rfl, rfl⟩⟩
       ·generalize spoilTab q.1 d.2 = L at *
        generalize d.1 = R at *
        generalize spoilRd q.1 d.2 = rx at *
        have clL : ∀ (i : Nat) (c : AV), i < L.length → c ∈ opCells L i → Closed c := fun i c _ h => opClosed L i c h
        have htx := hO.treeTx
        have hrow := hO.row
        have htab := hO.tab
        have htxt : ∀ p, p ∈ L → p.text.size ≤ 17 := hO.txt
        simp only [Over.tree] at htx hrow htab
        by_cases h21 : k % 32 = 21
        ·have h21' : (k : Int).tmod 32 = 21 := by rw [e32, h21]; rfl
         have c5 := c_nextW rx hO.rd
         have v5 : (rx.v : Int).tmod 5 = ((rx.v % 5 : Nat) : Int) := tmod_nat rx.v 5
         have w5 : rx.v % 5 < 5 := Nat.mod_lt _ (by decide)
         have ho : over1 k ⟨L, R, none, rx⟩ = ⟨[minusOp], chainN (997 + rx.v % 5), none, rx.nx⟩ := by rw [over1, if_pos h21]
         rw [ho]
         generalize rx.v % 5 = y at *
         have wy : IntKind.i64.wrap (1000 + (y : Int)) = 1000 + (y : Int) := wrap_i64 (by omega)
         have wz : IntKind.i64.wrap (1000 + (y : Int) - 3) = ((997 + y : Nat) : Int) := by rw [wrap_i64 (by omega)]; omega
         have c6 := c_l3Chain (997 + y) (by omega)
         simp only [rdOb] at c5
         simp [go_sem, hA', hB', h21']
         refine vcall_use c_l3Minus (by simp [go_sem]) ?_
         rintro av obs ⟨rfl, rfl⟩
         simp [go_sem]
         refine vcall_share [0] c5 (by simp) ?_ ?_ trivial ?_
         ·simp [go_sem]
         ·simp [go_sem]
          exact cr rx
         ·rintro av mem maps ⟨rfl, rfl, rfl⟩
          simp only [go_sem, v5, wy, wz]
          simp [go_sem, v5, wy, wz]
          refine vcall_use c6 (by simp [go_sem]) ?_
          rintro av obs ⟨rfl, rfl⟩
          simp [go_sem, Over.treeA]
          refine ⟨rfl, [8, 9], [rdOb rx.nx, tab [minusOp], nodRow (chainN (997 + y))], by simp, by simp, by simp [go_sem], ?_, by simp [go_sem], ?_⟩
          ·simp [go_sem, rdOb, tab, nodRow, chainN_len]
           exact ⟨rdOut, outAt_lits (fun _ _ => rfl) (fun j _ => opLit _ j), outAt_lits (fun _ _ => rfl) (fun j _ => nodLit _ j)⟩
          ·simp [go_sem, rdOb, tab, nodRow, chainN_len]
           try rfl
        ·have h21' : ¬ (k : Int).tmod 32 = 21 := by rw [e32]; omega
         by_cases h4' : k % 4 = 2
         ·have h4'' : (k : Int).tmod 4 = 2 := by rw [e4, h4']; rfl
          have hTL : R.length = R.length := rfl
          have cg := c_specGroup L (by omega) (fun i hi => by show (opAt L i).wf; have := htxt _ (opAt_mem hi); simp only [POp.wf, maxLen]; omega) R (by omega) (fun i hi => by have := htx i hi; simp only [PNode.wf, maxLen]; omega)
          rw [hTL] at cg
          have hgl := groupZ_len2 L R
          have ho : over1 k ⟨L, R, none, rx⟩ = if groupOk L R = true then ⟨L, groupZ L R, none, rx⟩ else ⟨L, R, none, rx⟩ := by
           cases hg : groupOk L R with
           | true => rw [if_pos rfl, over1, if_neg h21, if_pos ⟨h4', hg⟩]; rfl
           | false => rw [if_neg (by simp), over1, if_neg h21, if_neg (fun h => by rw [show (Over.mk L R none rx).tree = R from rfl] at h; simp [hg] at h)]
          rw [ho]
          generalize groupZ L R = G at *
          simp [go_sem, hA', hB', h21', h4'']
          refine vcall_use cg ?_ ?_
          ·simp [go_sem]
           exact ⟨argSl_own rfl (by omega) clL, argSl_own rfl (by omega) (fun i c _ hc => nodClosed _ i c hc)⟩
          ·rintro av obs ⟨rfl, rfl⟩
           cases hg : groupOk L R with
           | true =>
            simp [go_sem, Over.treeA]
            refine vc_drawn [2,3] (.q 0 <| .or 1 (.or 2 (.or 3 (.done) (.nil)) (.nil)) (.or 2 (.q 1 <| .or 3 (.done) (.nil)) (.nil))) (by kernel_rfl) ?_
            simp [go_sem]
            refine ⟨rfl, [7, 8], [rdOb rx, tab L, nodRow G], by simp, by simp, by simp [go_sem], ?_, by simp [go_sem], ?_⟩
            ·simp [go_sem, rdOb, tab, nodRow]
             exact ⟨rdOut, outAt_lits (fun _ _ => rfl) (fun j _ => opLit _ j), outAt_lits (fun _ _ => rfl) (fun j _ => nodLit _ j)⟩
            ·simp [go_sem, rdOb, tab, nodRow]
             try rfl
           | false =>
            simp [go_sem, Over.treeA]
            refine vc_drawn [2,3] (.q 0 <| .or 1 (.or 2 (.or 3 (.done) (.nil)) (.nil)) (.or 2 (.q 1 <| .or 3 (.done) (.nil)) (.nil))) (by kernel_rfl) ?_
            simp [go_sem]
            refine ⟨rfl, [7, 5], [rdOb rx, tab L, nodRow R], by simp, by simp, by simp [go_sem], ?_, by simp [go_sem], ?_⟩
            ·simp [go_sem, rdOb, tab, nodRow]
             exact ⟨rdOut, outAt_lits (fun _ _ => rfl) (fun j _ => opLit _ j), outAt_lits (fun _ _ => rfl) (fun j _ => nodLit _ j)⟩
            ·simp [go_sem, rdOb, tab, nodRow]
             try rfl
         ·have h4'' : ¬ (k : Int).tmod 4 = 2 := by rw [e4]; omega
          have ho : over1 k ⟨L, R, none, rx⟩ = ⟨L, R, none, rx⟩ := by rw [over1, if_neg h21, if_neg (fun h => h4' h.1)]
          rw [ho]
          simp [go_sem, hA', hB', h21', h4'', Over.treeA]
          refine vc_drawn [2,3] (.q 0 <| .or 1 (.or 2 (.or 3 (.done) (.nil)) (.nil)) (.or 2 (.q 1 <| .or 3 (.done) (.nil)) (.nil))) (by kernel_rfl) ?_
          simp [go_sem]
          refine ⟨rfl, [7, 5], [rdOb rx, tab L, nodRow R], by simp, by simp, by simp [go_sem], ?_, by simp [go_sem], ?_⟩
          ·simp [go_sem, rdOb, tab, nodRow]
           exact ⟨rdOut, outAt_lits (fun _ _ => rfl) (fun j _ => opLit _ j), outAt_lits (fun _ _ => rfl) (fun j _ => nodLit _ j)⟩
          ·simp [go_sem, rdOb, tab, nodRow]
           try rfl
       ·generalize spoilTab q.1 d.2 = L at *
        generalize d.1 = R at *
        generalize spoilRd q.1 d.2 = rx at *
        have clL : ∀ (i : Nat) (c : AV), i < L.length → c ∈ opCells L i → Closed c := fun i c _ h => opClosed L i c h
        have htx := hO.treeTx
        have hrow := hO.row
        have htab := hO.tab
        have htxt : ∀ p, p ∈ L → p.text.size ≤ 17 := hO.txt
        simp only [Over.tree] at htx hrow htab
        by_cases h21 : k % 32 = 21
        ·have h21' : (k : Int).tmod 32 = 21 := by rw [e32, h21]; rfl
         have c5 := c_nextW rx hO.rd
         have v5 : (rx.v : Int).tmod 5 = ((rx.v % 5 : Nat) : Int) := tmod_nat rx.v 5
         have w5 : rx.v % 5 < 5 := Nat.mod_lt _ (by decide)
         have ho : over1 k ⟨L, R, none, rx⟩ = ⟨[minusOp], chainN (997 + rx.v % 5), none, rx.nx⟩ := by rw [over1, if_pos h21]
         rw [ho]
         generalize rx.v % 5 = y at *
         have wy : IntKind.i64.wrap (1000 + (y : Int)) = 1000 + (y : Int) := wrap_i64 (by omega)
         have wz : IntKind.i64.wrap (1000 + (y : Int) - 3) = ((997 + y : Nat) : Int) := by rw [wrap_i64 (by omega)]; omega
         have c6 := c_l3Chain (997 + y) (by omega)
         simp only [rdOb] at c5
         simp [go_sem, hA', hB', h21']
         refine vcall_use c_l3Minus (by simp [go_sem]) ?_
         rintro av obs ⟨rfl, rfl⟩
         simp [go_sem]
         refine vcall_share [0] c5 (by simp) ?_ ?_ trivial ?_
         ·simp [go_sem]
         ·simp [go_sem]
          exact cr rx
         ·rintro av mem maps ⟨rfl, rfl, rfl⟩
          simp only [go_sem, v5, wy, wz]
          simp [go_sem, v5, wy, wz]
          refine vcall_use c6 (by simp [go_sem]) ?_
          rintro av obs ⟨rfl, rfl⟩
          simp [go_sem, Over.treeA]
          refine ⟨rfl, [7, 8], [rdOb rx.nx, tab [minusOp], nodRow (chainN (997 + y))], by simp, by simp, by simp [go_sem], ?_, by simp [go_sem], ?_⟩
          ·simp [go_sem, rdOb, tab, nodRow, chainN_len]
           exact ⟨rdOut, outAt_lits (fun _ _ => rfl) (fun j _ => opLit _ j), outAt_lits (fun _ _ => rfl) (fun j _ => nodLit _ j)⟩
          ·simp [go_sem, rdOb, tab, nodRow, chainN_len]
           try rfl
        ·have h21' : ¬ (k : Int).tmod 32 = 21 := by rw [e32]; omega
         by_cases h4' : k % 4 = 2
         ·have h4'' : (k : Int).tmod 4 = 2 := by rw [e4, h4']; rfl
          have hTL : R.length = R.length := rfl
          have cg := c_specGroup L (by omega) (fun i hi => by show (opAt L i).wf; have := htxt _ (opAt_mem hi); simp only [POp.wf, maxLen]; omega) R (by omega) (fun i hi => by have := htx i hi; simp only [PNode.wf, maxLen]; omega)
          rw [hTL] at cg
          have hgl := groupZ_len2 L R
          have ho : over1 k ⟨L, R, none, rx⟩ = if groupOk L R = true then ⟨L, groupZ L R, none, rx⟩ else ⟨L, R, none, rx⟩ := by
           cases hg : groupOk L R with
           | true => rw [if_pos rfl, over1, if_neg h21, if_pos ⟨h4', hg⟩]; rfl
           | false => rw [if_neg (by simp), over1, if_neg h21, if_neg (fun h => by rw [show (Over.mk L R none rx).tree = R from rfl] at h; simp [hg] at h)]
          rw [ho]
          generalize groupZ L R = G at *
          simp [go_sem, hA', hB', h21', h4'']
          refine vcall_use cg ?_ ?_
          ·simp [go_sem]
           exact ⟨argSl_own rfl (by omega) clL, argSl_own rfl (by omega) (fun i c _ hc => nodClosed _ i c hc)⟩
          ·rintro av obs ⟨rfl, rfl⟩
           cases hg : groupOk L R with
           | true =>
            simp [go_sem, Over.treeA]
            refine vc_drawn [2,3] (.q 0 <| .or 1 (.or 2 (.or 3 (.done) (.nil)) (.nil)) (.or 2 (.q 1 <| .or 3 (.done) (.nil)) (.nil))) (by kernel_rfl) ?_
            simp [go_sem]
            refine ⟨rfl, [3, 7], [rdOb rx, tab L, nodRow G], by simp, by simp, by simp [go_sem], ?_, by simp [go_sem], ?_⟩
            ·simp [go_sem, rdOb, tab, nodRow]
             exact ⟨rdOut, outAt_lits (fun _ _ => rfl) (fun j _ => opLit _ j), outAt_lits (fun _ _ => rfl) (fun j _ => nodLit _ j)⟩
            ·simp [go_sem, rdOb, tab, nodRow]
             try rfl
           | false =>
            simp [go_sem, Over.treeA]
            refine vc_drawn [2,3] (.q 0 <| .or 1 (.or 2 (.or 3 (.done) (.nil)) (.nil)) (.or 2 (.q 1 <| .or 3 (.done) (.nil)) (.nil))) (by kernel_rfl) ?_
            simp [go_sem]
            refine ⟨rfl, [3, 5], [rdOb rx, tab L, nodRow R], by simp, by simp, by simp [go_sem], ?_, by simp [go_sem], ?_⟩
            ·simp [go_sem, rdOb, tab, nodRow]
             exact ⟨rdOut, outAt_lits (fun _ _ => rfl) (fun j _ => opLit _ j), outAt_lits (fun _ _ => rfl) (fun j _ => nodLit _ j)⟩
            ·simp [go_sem, rdOb, tab, nodRow]
             try rfl
         ·have h4'' : ¬ (k : Int).tmod 4 = 2 := by rw [e4]; omega
          have ho : over1 k ⟨L, R, none, rx⟩ = ⟨L, R, none, rx⟩ := by rw [over1, if_neg h21, if_neg (fun h => h4' h.1)]
          rw [ho]
          simp [go_sem, hA', hB', h21', h4'', Over.treeA]
          refine vc_drawn [2,3] (.q 0 <| .or 1 (.or 2 (.or 3 (.done) (.nil)) (.nil)) (.or 2 (.q 1 <| .or 3 (.done) (.nil)) (.nil))) (by kernel_rfl) ?_
          simp [go_sem]
          refine ⟨rfl, [3, 5], [rdOb rx, tab L, nodRow R], by simp, by simp, by simp [go_sem], ?_, by simp [go_sem], ?_⟩
          ·simp [go_sem, rdOb, tab, nodRow]
           exact ⟨rdOut, outAt_lits (fun _ _ => rfl) (fun j _ => opLit _ j), outAt_lits (fun _ _ => rfl) (fun j _ => nodLit _ j)⟩
          ·simp [go_sem, rdOb, tab, nodRow]
           try rfl
     ·have hB' : ¬ (k : Int).tmod 20 = 3 := by rw [e20]; omega
      have hov : over0 k q.1 d.1 d.2 = ⟨q.1, d.1, none, d.2⟩ := by rw [over0, if_neg hA, if_neg hB]
      rw [hov] at hO ⊢
      generalize q.1 = L at *
      generalize d.1 = R at *
      generalize d.2 = rx at *
      have clL : ∀ (i : Nat) (c : AV), i < L.length → c ∈ opCells L i → Closed c := fun i c _ h => opClosed L i c h
      have htx := hO.treeTx
      have hrow := hO.row
      have htab := hO.tab
      have htxt : ∀ p, p ∈ L → p.text.size ≤ 17 := hO.txt
      simp only [Over.tree] at htx hrow htab
      by_cases h21 : k % 32 = 21
      ·have h21' : (k : Int).tmod 32 = 21 := by rw [e32, h21]; rfl
       have c5 := c_nextW rx hO.rd
       have v5 : (rx.v : Int).tmod 5 = ((rx.v % 5 : Nat) : Int) := tmod_nat rx.v 5
       have w5 : rx.v % 5 < 5 := Nat.mod_lt _ (by decide)
       have ho : over1 k ⟨L, R, none, rx⟩ = ⟨[minusOp], chainN (997 + rx.v % 5), none, rx.nx⟩ := by rw [over1, if_pos h21]
       rw [ho]
       generalize rx.v % 5 = y at *
       have wy : IntKind.i64.wrap (1000 + (y : Int)) = 1000 + (y : Int) := wrap_i64 (by omega)
       have wz : IntKind.i64.wrap (1000 + (y : Int) - 3) = ((997 + y : Nat) : Int) := by rw [wrap_i64 (by omega)]; omega
       have c6 := c_l3Chain (997 + y) (by omega)
       simp only [rdOb] at c5
       simp [go_sem, hA', hB', h21']
       refine vcall_use c_l3Minus (by simp [go_sem]) ?_
       rintro av obs ⟨rfl, rfl⟩
       simp [go_sem]
       refine vcall_share [0] c5 (by simp) ?_ ?_ trivial ?_
       ·simp [go_sem]
       ·simp [go_sem]
        exact cr rx
       ·rintro av mem maps ⟨rfl, rfl, rfl⟩
        simp only [go_sem, v5, wy, wz]
        simp [go_sem, v5, wy, wz]
        refine vcall_use c6 (by simp [go_sem]) ?_
        rintro av obs ⟨rfl, rfl⟩
        simp [go_sem, Over.treeA]
        refine ⟨rfl, [7, 8], [rdOb rx.nx, tab [minusOp], nodRow (chainN (997 + y))], by simp, by simp, by simp [go_sem], ?_, by simp [go_sem], ?_⟩
        ·simp [go_sem, rdOb, tab, nodRow, chainN_len]
         exact ⟨rdOut, outAt_lits (fun _ _ => rfl) (fun j _ => opLit _ j), outAt_lits (fun _ _ => rfl) (fun j _ => nodLit _ j)⟩
        ·simp [go_sem, rdOb, tab, nodRow, chainN_len]
         try rfl
      ·have h21' : ¬ (k : Int).tmod 32 = 21 := by rw [e32]; omega
       by_cases h4' : k % 4 = 2
       ·have h4'' : (k : Int).tmod 4 = 2 := by rw [e4, h4']; rfl
        have hTL : R.length = R.length := rfl
        have cg := c_specGroup L (by omega) (fun i hi => by show (opAt L i).wf; have := htxt _ (opAt_mem hi); simp only [POp.wf, maxLen]; omega) R (by omega) (fun i hi => by have := htx i hi; simp only [PNode.wf, maxLen]; omega)
        rw [hTL] at cg
        have hgl := groupZ_len2 L R
        have ho : over1 k ⟨L, R, none, rx⟩ = if groupOk L R = true then ⟨L, groupZ L R, none, rx⟩ else ⟨L, R, none, rx⟩ := by
         cases hg : groupOk L R with
         | true => rw [if_pos rfl, over1, if_neg h21, if_pos ⟨h4', hg⟩]; rfl
         | false => rw [if_neg (by simp), over1, if_neg h21, if_neg (fun h => by rw [show (Over.mk L R none rx).tree = R from rfl] at h; simp [hg] at h)]
        rw [ho]
        generalize groupZ L R = G at *
        simp [go_sem, hA', hB', h21', h4'']
        refine vcall_use cg ?_ ?_
        ·simp [go_sem]
         exact ⟨argSl_own rfl (by omega) clL, argSl_own rfl (by omega) (fun i c _ hc => nodClosed _ i c hc)⟩
        ·rintro av obs ⟨rfl, rfl⟩
         cases hg : groupOk L R with
         | true =>
          simp [go_sem, Over.treeA]
          refine vc_drawn [2,3] (.q 0 <| .or 1 (.or 2 (.or 3 (.done) (.nil)) (.nil)) (.or 2 (.q 1 <| .or 3 (.done) (.nil)) (.nil))) (by kernel_rfl) ?_
          simp [go_sem]
          refine ⟨rfl, [3, 7], [rdOb rx, tab L, nodRow G], by simp, by simp, by simp [go_sem], ?_, by simp [go_sem], ?_⟩
          ·simp [go_sem, rdOb, tab, nodRow]
           exact ⟨rdOut, outAt_lits (fun _ _ => rfl) (fun j _ => opLit _ j), outAt_lits (fun _ _ => rfl) (fun j _ => nodLit _ j)⟩
          ·simp [go_sem, rdOb, tab, nodRow]
           try rfl
         | false =>
          simp [go_sem, Over.treeA]
          refine vc_drawn [2,3] (.q 0 <| .or 1 (.or 2 (.or 3 (.done) (.nil)) (.nil)) (.or 2 (.q 1 <| .or 3 (.done) (.nil)) (.nil))) (by kernel_rfl) ?_
          simp [go_sem]
          refine ⟨rfl, [3, 5], [rdOb rx, tab L, nodRow R], by simp, by simp, by simp [go_sem], ?_, by simp [go_sem], ?_⟩
          ·simp [go_sem, rdOb, tab, nodRow]
           exact ⟨rdOut, outAt_lits (fun _ _ => rfl) (fun j _ => opLit _ j), outAt_lits (fun _ _ => rfl) (fun j _ => nodLit _ j)⟩
          ·simp [go_sem, rdOb, tab, nodRow]
           try rfl
       ·have h4'' : ¬ (k : Int).tmod 4 = 2 := by rw [e4]; omega
        have ho : over1 k ⟨L, R, none, rx⟩ = ⟨L, R, none, rx⟩ := by rw [over1, if_neg h21, if_neg (fun h => h4' h.1)]
        rw [ho]
        simp [go_sem, hA', hB', h21', h4'', Over.treeA]
        refine vc_drawn [2,3] (.q 0 <| .or 1 (.or 2 (.or 3 (.done) (.nil)) (.nil)) (.or 2 (.q 1 <| .or 3 (.done) (.nil)) (.nil))) (by kernel_rfl) ?_
        simp [go_sem]
        refine ⟨rfl, [3, 5], [rdOb rx, tab L, nodRow R], by simp, by simp, by simp [go_sem], ?_, by simp [go_sem], ?_⟩
        ·simp [go_sem, rdOb, tab, nodRow]
         exact ⟨rdOut, outAt_lits (fun _ _ => rfl) (fun j _ => opLit _ j), outAt_lits (fun _ _ => rfl) (fun j _ => nodLit _ j)⟩
        ·simp [go_sem, rdOb, tab, nodRow]
         try rfl
end Go.Proofs.YtjdmmhcogmepaaaGreatDoor.V
namespace Go.Proofs.YtjdmmhcogmepaaaGreatDoor.V
open Go.RowKit
set_option linter.unusedVariables false
set_option linter.unusedSimpArgs false
set_option linter.constructorNameAsVariable false
def drTO (N : Nat) (f : Nat → Nat) : Over := overAt (rdOf N f)
theorem overAt_ok {r : Rd} (hr : r.ok) : (overAt r).ok := over1_ok (over0_ok (Rd.nx_ok hr) (Rd.v_lt hr))
theorem drTO_ok {N : Nat} {f : Nat → Nat} (hf : ∀ i, f i < 256) : (drTO N f).ok := overAt_ok (rdOf_ok N f hf)
theorem c_DrawTreeOk (N : Nat) (f : Nat → Nat) (hN : N ≤ 9223372036854775807) (hf : ∀ i, f i < 256) : VFun Tryz.prog 14 [.sl 1 N (rdCells f)] (fun av obs => av = .tup [.agg [.own 0], .agg [(drTO N f).treeA 1]] ∧ obs = [⟨133, 4, (drTO N f).tab.length, opCells (drTO N f).tab⟩, ⟨77, 4, (drTO N f).row.length, nodCells (drTO N f).row⟩]) := by
 have clf : ∀ (i : Nat) (c : AV), i < N → c ∈ rdCells f i → Closed c := fun i c _ h => rdClosed f i c h
 have hr := rdOf_ok N f hf
 have c1 := c_l1Open N f hN
 have c2 := c_l3DrawTreeOver (rdOf N f) hr
 unfold drTO
 generalize rdOf N f = r at *
 simp only [rdOb, tab, nodRow] at c1 c2
 generalize overAt r = o at *
 obtain ⟨L, R, cut, rd⟩ := o
 refine vfun_start Tryz.func14 (by kernel_rfl) rfl (by simp [Tryz.ntmps14]) ?_; simp only [Tryz.ntmps14, Tryz.results14]; simp [go_sem]
 refine vcall_share [] c1 (by simp) ?_ ?_ trivial ?_
 ·simp [go_sem]
  exact clf
 ·simp [go_sem]
 ·rintro av mem maps ⟨rfl, rfl, rfl⟩
  simp [go_sem]
  refine vcall_share [2] c2 (by simp) ?_ ?_ trivial ?_
  ·simp [go_sem]
  ·simp [go_sem]
   exact fun i c _ h => rdClosed _ i c h
  ·rintro av mem maps ⟨rfl, rfl, rfl⟩
   cases cut with
   | none =>
    simp [go_sem, Over.treeA]
    exact ⟨⟨⟨rfl, rfl, rfl, fun j _ => ⟨rfl, opLit _ j⟩⟩, ⟨rfl, rfl, rfl, fun j _ => ⟨rfl, nodLit _ j⟩⟩, trivial⟩, rfl⟩
   | some n =>
    simp [go_sem, Over.treeA]
    exact ⟨⟨⟨rfl, rfl, rfl, fun j _ => ⟨rfl, opLit _ j⟩⟩, ⟨rfl, rfl, rfl, fun j _ => ⟨rfl, nodLit _ j⟩⟩, trivial⟩, rfl⟩
end Go.Proofs.YtjdmmhcogmepaaaGreatDoor.V
namespace Go.Proofs.YtjdmmhcogmepaaaGreatDoor.V
open Go.RowKit
set_option linter.unusedVariables false
set_option linter.unusedSimpArgs false
set_option linter.constructorNameAsVariable false
theorem ext_app (z : ByteArray) {f i k : Nat} (h1 : f ≤ i) (h2 : i ≤ k) : z.extract f i ++ z.extract i k = z.extract f k := by
 apply ByteArray.ext
 simp only [ByteArray.data_append, ByteArray.data_extract]
 rw [Array.extract_append_extract]
 congr 1 <;> omega
theorem rend_cons (o : PTok) (l : List PTok) : rend (o :: l) = o.gap ++ o.text ++ rend l := by
 have gen : ∀ (l : List PTok) (b : ByteArray), l.foldl (fun b o => b ++ o.gap ++ o.text) b = b ++ l.foldl (fun b o => b ++ o.gap ++ o.text) ByteArray.empty := by
  intro l
  induction l with
  | nil => intro b; simp
  | cons o l ih =>
   intro b
   simp only [List.foldl_cons]
   rw [ih (b ++ o.gap ++ o.text), ih (ByteArray.empty ++ o.gap ++ o.text)]
   simp [ByteArray.append_assoc]
 unfold rend
 simp only [List.foldl_cons]
 rw [gen]
 simp
theorem rend_lexFrom (l : List POp) (z : ByteArray) (f : Nat) (hf : f ≤ z.size) : rend (lexFrom l z f) = z.extract f z.size := by
 generalize hn : z.size - f = n
 induction n using Nat.strongRecOn generalizing f with
 | ind n ih =>
  have hr := run_le isBl z f hf
  by_cases h : f + run isBl z f < z.size
  ·rw [lexFrom_go rfl h, rend_cons]
   have hg := longest_ge l z (f + run isBl z f)
   have hl := longest_le l z (f + run isBl z f) h
   obtain ⟨i, hi⟩ : ∃ i, i = f + run isBl z f := ⟨_, rfl⟩
   rw [← hi] at hg hl h hr ⊢
   have hfi : f ≤ i := by omega
   obtain ⟨j, hj⟩ : ∃ j, j = i + longest l z i := ⟨_, rfl⟩
   rw [← hj] at hl ⊢
   simp only
   rw [ih (z.size - j) (by omega) j hl rfl, ext_app z hfi (by omega), ext_app z (by omega) hl]
  ·have e : f + run isBl z f = z.size := by omega
   rw [lexFrom_end rfl h, rend_cons, e]
   simp only [rend, List.foldl_nil]
   rw [show (⟨#[]⟩ : ByteArray) = ByteArray.empty from rfl, ByteArray.append_empty, ByteArray.append_empty]
theorem ext_size_leZ (z : ByteArray) (a b : Nat) : (z.extract a b).size ≤ z.size := by
 rw [ByteArray.size_extract]; omega
theorem lexZ_texts {l : List POp} {z : ByteArray} (hz : z.size ≤ 200000) : (lexZ l z).length ≤ 200001 ∧ tokSum (lexZ l z) ≤ 200000 := by
 unfold lexZ
 split
 ·rename_i h
  have h1 := lexFrom_len l z 0 (by omega)
  have h2 := rend_lexFrom l z 0 (by omega)
  have h3 := rend_size (lexFrom l z 0)
  rw [h2] at h3
  have h4 := ext_size_leZ z 0 z.size
  exact ⟨by omega, by omega⟩
 ·exact ⟨by simp, by simp [tokSum]⟩
theorem tok_le {l : List PTok} {i : Nat} (hi : i < l.length) : tokSize (tokAt l i) ≤ tokSum l := by
 induction l generalizing i with
 | nil => simp at hi
 | cons o l ih =>
  unfold tokSum at *
  cases i with
  | zero => simp [tokAt]
  | succ i =>
   have := ih (i := i) (by simpa using hi)
   simp only [List.map_cons, List.sum_cons]
   have e : tokAt (o :: l) (i + 1) = tokAt l i := by simp [tokAt]
   rw [e]
   omega
end Go.Proofs.YtjdmmhcogmepaaaGreatDoor.V
namespace Go.Proofs.YtjdmmhcogmepaaaGreatDoor.V
open Go.RowKit
set_option linter.unusedVariables false
set_option linter.unusedSimpArgs false
theorem byteAt_ext {z : ByteArray} {p q i : Nat} (h : p + i < q) (hq : q ≤ z.size) : byteAt (z.extract p q) i = byteAt z (p + i) := by
 have h1 : i < (z.extract p q).size := by rw [ByteArray.size_extract]; omega
 have h2 : p + i < z.size := by omega
 unfold byteAt
 rw [dif_pos h1, dif_pos h2, ByteArray.getElem_extract]
theorem byteAt_app1 {a b : ByteArray} {i : Nat} (h : i < a.size) : byteAt (a ++ b) i = byteAt a i := by
 have h1 : i < (a ++ b).size := by rw [ByteArray.size_append]; omega
 unfold byteAt
 rw [dif_pos h1, dif_pos h, ByteArray.getElem_append_left h]
theorem byteAt_app2 {a b : ByteArray} {i : Nat} (h : i < b.size) : byteAt (a ++ b) (a.size + i) = byteAt b i := by
 have h1 : a.size + i < (a ++ b).size := by rw [ByteArray.size_append]; omega
 unfold byteAt
 rw [dif_pos h1, dif_pos h, ByteArray.getElem_append_right (by omega)]
 simp
theorem ext_mid (a b c : ByteArray) : (a ++ b ++ c).extract a.size (a.size + b.size) = b := by
 apply ByteArray.ext
 simp only [ByteArray.data_extract, ByteArray.data_append]
 apply Array.toList_inj.1
 simp [← ByteArray.size_data]
theorem sg_not {c : Int} (h : isSg c = true) : isDg c = false ∧ isLt c = false ∧ isBl c = false ∧ c ≠ 40 ∧ c ≠ 41 := by
 simp only [isSg, List.any_eq_true, List.mem_range, decide_eq_true_eq] at h
 obtain ⟨i, hi, rfl⟩ := h
 rcases (by omega : i = 0 ∨ i = 1 ∨ i = 2 ∨ i = 3 ∨ i = 4 ∨ i = 5 ∨ i = 6 ∨ i = 7 ∨ i = 8 ∨ i = 9 ∨ i = 10 ∨ i = 11 ∨ i = 12 ∨ i = 13 ∨ i = 14 ∨ i = 15 ∨ i = 16 ∨ i = 17) with h | h | h | h | h | h | h | h | h | h | h | h | h | h | h | h | h | h <;> subst h <;> decide
theorem al_not {c : Int} (h : alnum c = true) : isSg c = false ∧ isBl c = false ∧ c ≠ 40 ∧ c ≠ 41 := by
 refine ⟨?_, ?_⟩
 ·cases e : isSg c with
  | false => rfl
  | true =>
   obtain ⟨h1, h2, _⟩ := sg_not e
   simp [alnum, h1, h2] at h
 ·simp only [alnum, isDg, isLt, Bool.or_eq_true, Bool.and_eq_true, decide_eq_true_eq] at h
  simp only [isBl, decide_eq_false_iff_not]
  omega
def Signs (w : ByteArray) : Prop := ∀ i, i < w.size → isSg (byteAt w i) = true
def Alnum (w : ByteArray) : Prop := ∀ i, i < w.size → alnum (byteAt w i) = true
theorem num_al {w : ByteArray} (h : numZ w = true) : Alnum w ∧ 0 < w.size := by
 simp only [numZ, Bool.and_eq_true, List.all_eq_true, List.mem_range, decide_eq_true_eq] at h
 exact ⟨fun i hi => by simp [alnum, h.1 i hi], h.2⟩
theorem nam_al {w : ByteArray} (h : namZ w = true) : Alnum w ∧ 0 < w.size := by
 simp only [namZ, Bool.and_eq_true, List.all_eq_true, List.mem_range, decide_eq_true_eq, namAt, Bool.or_eq_true] at h
 refine ⟨fun i hi => ?_, h.2⟩
 rcases h.1 i hi with e | ⟨_, e⟩ <;> simp [alnum, e]
theorem sg_signs {w : ByteArray} (h : sgOk w = true) : Signs w ∧ 0 < w.size ∧ w.size ≤ 16 := by
 simp only [sgOk, sgAll, Bool.and_eq_true, List.all_eq_true, List.mem_range, decide_eq_true_eq] at h
 exact ⟨h.1.1, h.1.2, h.2⟩
theorem opOk_signs {o : POp} (h : opOk o = true) : sgOk o.text = true := by
 simp only [opOk, Bool.and_eq_true] at h
 exact h.1
theorem isOp_signs {l : List POp} (hok : ∀ j, j < l.length → opOk (opAt l j) = true) {w : ByteArray} (h : isOpZ l w = true) : sgOk w = true := by
 simp only [isOpZ, Bool.or_eq_true, opHas_iff] at h
 rcases h with (⟨j, hj, e, _⟩ | ⟨j, hj, e, _⟩) | ⟨j, hj, e, _⟩ <;> (rw [← e]; exact opOk_signs (hok j hj))
inductive WordOk (l : List POp) (w : ByteArray) : Prop where
 | op (h : Signs w) (h0 : 0 < w.size) (h1 : w.size ≤ 16) (k : kindZ l w = 3)
 | al (h : Alnum w) (h0 : 0 < w.size) (k : kindZ l w = 1 ∨ kindZ l w = 2)
 | opn (h : w = ⟨#[40]⟩) (k : kindZ l w = 4)
 | cls (h : w = ⟨#[41]⟩) (k : kindZ l w = 5)
theorem word_ok {l : List POp} (hok : ∀ j, j < l.length → opOk (opAt l j) = true) {w : ByteArray} (h : kindZ l w ≠ 6) : WordOk l w := by
 by_cases h1 : numZ w = true
 ·exact .al (num_al h1).1 (num_al h1).2 (by simp [kindZ, h1])
 ·by_cases h2 : namZ w = true
  ·exact .al (nam_al h2).1 (nam_al h2).2 (by simp [kindZ, h1, h2])
  ·by_cases h3 : w = ⟨#[40]⟩
   ·refine .opn h3 ?_
    simp only [kindZ, h1, h2]
    simp [h3]
   ·by_cases h4 : w = ⟨#[41]⟩
    ·refine .cls h4 ?_
     simp only [kindZ, h1, h2, h3]
     simp [h4]
    ·by_cases h5 : isOpZ l w = true
     ·obtain ⟨g1, g2, g3⟩ := sg_signs (isOp_signs hok h5)
      exact .op g1 g2 g3 (by simp [kindZ, h1, h2, h3, h4, h5])
     ·exact absurd (by simp [kindZ, h1, h2, h3, h4, h5]) h
theorem kind_mixed {l : List POp} (hok : ∀ j, j < l.length → opOk (opAt l j) = true) {w : ByteArray} (h0 : 0 < w.size) (hs : isSg (byteAt w 0) = true) {j : Nat} (hj : j < w.size) (hn : isSg (byteAt w j) = false) : kindZ l w = 6 := by
 refine Decidable.byContradiction fun hk => ?_
 obtain ⟨s1, s2, s3, s4, s5⟩ := sg_not hs
 cases word_ok hok hk with
 | op h => rw [h j hj] at hn; cases hn
 | al h => have := h 0 h0; simp [alnum, s1, s2] at this
 | opn h => subst h; exact s4 rfl
 | cls h => subst h; exact s5 rfl
theorem longF_stop {l : List POp} {z : ByteArray} {i : Nat} {m : Nat} (hm : 1 ≤ m) (hk : m = 1 ∨ kindZ l (z.extract i (i + m)) ≠ 6) : ∀ n, m ≤ n → (∀ k, m < k → k ≤ n → kindZ l (z.extract i (i + k)) = 6) → longF l z i n = m
 | 0, h, _ => by omega
 | n + 1, h, h6 => by
  unfold longF
  by_cases e : m = n + 1
  ·by_cases e0 : n = 0
   ·rw [if_pos e0]; omega
   ·rw [if_neg e0]
    rcases hk with hk | hk
    ·omega
    ·rw [← e, if_pos hk]
  ·rw [if_neg (by omega), if_neg (by rw [h6 (n + 1) (by omega) (by omega)]; simp)]
   exact longF_stop hm hk n (by omega) fun k h1 h2 => h6 k h1 (by omega)
theorem run_eq {p : Int → Bool} {z : ByteArray} : ∀ (n f : Nat), f + n ≤ z.size → (∀ j, j < n → p (byteAt z (f + j)) = true) → (f + n = z.size ∨ p (byteAt z (f + n)) = false) → run p z f = n
 | 0, f, h, _, hs => by
  rcases hs with hs | hs
  ·exact run_end (by omega)
  ·by_cases e : f < z.size
   ·exact run_no e (by simpa using hs)
   ·exact run_end (by omega)
 | n + 1, f, h, ha, hs => by
  have h0 := ha 0 (by omega)
  rw [run_yes (by omega) (by simpa using h0), run_eq n (f + 1) (by omega) (fun j hj => by have := ha (j + 1) (by omega); rwa [show f + (j + 1) = f + 1 + j by omega] at this) (by rwa [show f + 1 + n = f + (n + 1) by omega])]
  omega
def Apart (w : ByteArray) (c : Int) : Prop := (isSg (byteAt w 0) = true → isSg c = false) ∧ (alnum (byteAt w 0) = true → alnum c = false)
theorem longest_eq {l : List POp} (hok : ∀ j, j < l.length → opOk (opAt l j) = true) {z : ByteArray} {p q : Nat} (hpq : p < q) (hq : q ≤ z.size) (hw : WordOk l (z.extract p q)) (hs : q = z.size ∨ Apart (z.extract p q) (byteAt z q)) : longest l z p = q - p := by
 have hsz : (z.extract p q).size = q - p := by rw [ByteArray.size_extract]; omega
 have hb0 : byteAt (z.extract p q) 0 = byteAt z p := by rw [byteAt_ext (by omega) hq]; rfl
 have hext : p + (q - p) = q := by omega
 unfold longest
 have hr := reachZ_le z p (by omega)
 cases hw with
 | op h h0 h1 k =>
  have hf : isSg (byteAt z p) = true := by rw [← hb0]; exact h 0 h0
  rw [hsz] at h1
  refine longF_stop (by omega) (.inr (by rw [hext, k]; decide)) _ (by unfold reachZ; rw [if_pos hf]; split <;> omega) fun n hn1 hn2 => ?_
  rcases hs with hs | hs
  ·omega
  ·have hx : (z.extract p (p + n)).size = n := by rw [ByteArray.size_extract]; omega
   refine kind_mixed hok (by omega) (by rw [byteAt_ext (by omega) (by omega)]; exact hf) (j := q - p) (by omega) ?_
   rw [byteAt_ext (by omega) (by omega), hext]
   exact hs.1 (by rw [hb0]; exact hf)
 | al h h0 k =>
  have hf : alnum (byteAt z p) = true := by rw [← hb0]; exact h 0 h0
  have hrn : 1 + run alnum z (p + 1) = q - p := by
   rw [run_eq (p := alnum) (q - p - 1) (p + 1) (by omega) (fun j hj => by
    have := h (j + 1) (by omega)
    rw [byteAt_ext (by omega) hq] at this
    rwa [show p + 1 + j = p + (j + 1) by omega]) ?_]
   ·omega
   ·rw [show p + 1 + (q - p - 1) = q by omega]
    rcases hs with hs | hs
    ·exact .inl hs
    ·exact .inr (hs.2 (by rw [hb0]; exact hf))
  have hre : reachZ z p = q - p := by
   unfold reachZ
   rw [if_neg (by rw [(al_not hf).1]; simp), if_pos hf, hrn]
  rw [hre]
  refine longF_stop (by omega) (.inr ?_) _ (Nat.le_refl _) fun n hn1 hn2 => by omega
  rw [hext]; omega
 | opn h k =>
  have e1 : q - p = 1 := by rw [← hsz, h]; rfl
  have hf : byteAt z p = 40 := by rw [← hb0, h]; rfl
  have hre : reachZ z p = 1 := by
   unfold reachZ
   rw [hf, if_neg (by decide), if_neg (by decide)]
  rw [hre, e1]
  exact longF_stop (by omega) (.inl rfl) 1 (by omega) fun n hn1 hn2 => by omega
 | cls h k =>
  have e1 : q - p = 1 := by rw [← hsz, h]; rfl
  have hf : byteAt z p = 41 := by rw [← hb0, h]; rfl
  have hre : reachZ z p = 1 := by
   unfold reachZ
   rw [hf, if_neg (by decide), if_neg (by decide)]
  rw [hre, e1]
  exact longF_stop (by omega) (.inl rfl) 1 (by omega) fun n hn1 hn2 => by omega
theorem word_begin {l : List POp} {w : ByteArray} (h : WordOk l w) : 0 < w.size ∧ isBl (byteAt w 0) = false := by
 cases h with
 | op h h0 h1 k => exact ⟨h0, (sg_not (h 0 h0)).2.2.1⟩
 | al h h0 k => exact ⟨h0, (al_not (h 0 h0)).2.1⟩
 | opn h k => subst h; exact ⟨by decide, by decide⟩
 | cls h k => subst h; exact ⟨by decide, by decide⟩
theorem lex_word {l : List POp} (hok : ∀ j, j < l.length → opOk (opAt l j) = true) {z : ByteArray} {f p q : Nat} (hfp : f ≤ p) (hpq : p < q) (hq : q ≤ z.size) (hg : ∀ j, f ≤ j → j < p → isBl (byteAt z j) = true) (hw : WordOk l (z.extract p q)) (hs : q = z.size ∨ Apart (z.extract p q) (byteAt z q)) :
  lexFrom l z f = ⟨kindZ l (z.extract p q), z.extract f p, z.extract p q⟩ :: lexFrom l z q := by
 have hr : run isBl z f = p - f := by
  refine run_eq (p - f) f (by omega) (fun j hj => hg _ (by omega) (by omega)) (.inr ?_)
  have := (word_begin hw).2
  rw [byteAt_ext (by omega) hq] at this
  rw [show f + (p - f) = p by omega]; exact this
 have hl := longest_eq hok hpq hq hw hs
 rw [lexFrom_go (i := p) (by omega) (by omega), hl, show p + (q - p) = q by omega]
theorem lex_end {l : List POp} {z : ByteArray} {f : Nat} (hf : f ≤ z.size) (hg : ∀ j, f ≤ j → j < z.size → isBl (byteAt z j) = true) : lexFrom l z f = [⟨7, z.extract f z.size, ⟨#[]⟩⟩] := by
 have hr : run isBl z f = z.size - f := run_eq (z.size - f) f (by omega) (fun j hj => hg _ (by omega) (by omega)) (.inl (by omega))
 rw [lexFrom_end (i := z.size) (by omega) (by omega)]
def Blanks (g : ByteArray) : Prop := ∀ i, i < g.size → isBl (byteAt g i) = true
def joinW : List (ByteArray × ByteArray) → ByteArray → ByteArray
 | [], g => g
 | x :: r, g => x.1 ++ x.2 ++ joinW r g
def JoinOk (l : List POp) : List (ByteArray × ByteArray) → ByteArray → Prop
 | [], g => Blanks g
 | x :: r, g => Blanks x.1 ∧ WordOk l x.2 ∧ (match r with | [] => True | y :: _ => 0 < y.1.size ∨ Apart x.2 (byteAt y.2 0)) ∧ JoinOk l r g
theorem join_begin {l : List POp} : ∀ (r : List (ByteArray × ByteArray)) (g : ByteArray), JoinOk l r g → (joinW r g).size = 0 ∨ (0 < (joinW r g).size ∧ ((isBl (byteAt (joinW r g) 0) = true) ∨ ∃ y s, r = y :: s ∧ y.1.size = 0 ∧ byteAt (joinW r g) 0 = byteAt y.2 0))
 | [], g, h => by
  by_cases e : g.size = 0
  ·exact .inl e
  ·exact .inr ⟨by simp only [joinW]; omega, .inl (h 0 (by omega))⟩
 | y :: s, g, h => by
  have hw := word_begin h.2.1
  refine .inr ⟨by simp only [joinW, ByteArray.size_append]; omega, ?_⟩
  by_cases e : y.1.size = 0
  ·refine .inr ⟨y, s, rfl, e, ?_⟩
   simp only [joinW]
   rw [byteAt_app1 (by rw [ByteArray.size_append]; omega)]
   have := byteAt_app2 (a := y.1) (b := y.2) (i := 0) hw.1
   rwa [e] at this
  ·refine .inl ?_
   simp only [joinW]
   rw [byteAt_app1 (by rw [ByteArray.size_append]; omega), byteAt_app1 (by omega)]
   exact h.1 0 (by omega)
theorem apart_blank {w : ByteArray} {c : Int} (h : isBl c = true) : Apart w c := by
 refine ⟨fun _ => ?_, fun _ => ?_⟩
 ·cases e : isSg c with
  | false => rfl
  | true => rw [(sg_not e).2.2.1] at h; cases h
 ·cases e : alnum c with
  | false => rfl
  | true => rw [(al_not e).2.1] at h; cases h
theorem lex_join {l : List POp} (hok : ∀ j, j < l.length → opOk (opAt l j) = true) : ∀ (r : List (ByteArray × ByteArray)) (g pre : ByteArray), JoinOk l r g → lexFrom l (pre ++ joinW r g) pre.size = r.map (fun x => ⟨kindZ l x.2, x.1, x.2⟩) ++ [⟨7, g, ⟨#[]⟩⟩]
 | [], g, pre, h => by
  simp only [joinW, List.map_nil, List.nil_append]
  rw [lex_end (by rw [ByteArray.size_append]; omega) fun j h1 h2 => ?_]
  ·have := ext_mid pre g ByteArray.empty
   rw [ByteArray.append_empty] at this
   rw [ByteArray.size_append, this]
  ·rw [ByteArray.size_append] at h2
   rw [show j = pre.size + (j - pre.size) by omega, byteAt_app2 (by omega)]
   exact h _ (by omega)
 | x :: r, g, pre, h => by
  obtain ⟨hb, hw, hn, hr⟩ := h
  obtain ⟨z, hz⟩ : ∃ z, z = pre ++ joinW (x :: r) g := ⟨_, rfl⟩
  have hzs : z.size = pre.size + x.1.size + x.2.size + (joinW r g).size := by rw [hz]; simp only [joinW, ByteArray.size_append]; omega
  have e1 : z = pre ++ x.1 ++ (x.2 ++ joinW r g) := by rw [hz]; simp [joinW, ByteArray.append_assoc]
  have e2 : z = (pre ++ x.1) ++ x.2 ++ joinW r g := by rw [hz]; simp [joinW, ByteArray.append_assoc]
  have x1 : z.extract pre.size (pre.size + x.1.size) = x.1 := by rw [e1]; exact ext_mid _ _ _
  have x2 : z.extract (pre.size + x.1.size) (pre.size + x.1.size + x.2.size) = x.2 := by
   have := ext_mid (pre ++ x.1) x.2 (joinW r g)
   rw [ByteArray.size_append] at this
   rw [e2]; exact this
  have hpos := (word_begin hw).1
  rw [← hz]
  have hword := lex_word hok (z := z) (f := pre.size) (p := pre.size + x.1.size) (q := pre.size + x.1.size + x.2.size) (by omega) (by omega) (by omega) (fun j h1 h2 => by
   rw [e1, byteAt_app1 (by rw [ByteArray.size_append]; omega), show j = pre.size + (j - pre.size) by omega, byteAt_app2 (by omega)]
   exact hb _ (by omega)) (by rw [x2]; exact hw) (by
   rw [x2]
   rcases join_begin r g hr with e | ⟨e, e3⟩
   ·exact .inl (by omega)
   ·refine .inr ?_
    have hc : byteAt z (pre.size + x.1.size + x.2.size) = byteAt (joinW r g) 0 := by
     have := byteAt_app2 (a := (pre ++ x.1) ++ x.2) (b := joinW r g) (i := 0) e
     rw [← e2] at this
     simp only [ByteArray.size_append, Nat.add_zero] at this
     exact this
    rw [hc]
    rcases e3 with e3 | ⟨y, s, rfl, e4, e5⟩
    ·exact apart_blank e3
    ·rcases hn with hn | hn
     ·omega
     ·rw [e5]; exact hn)
  rw [hword, x1, x2]
  have ih := lex_join hok r g ((pre ++ x.1) ++ x.2) hr
  rw [← e2] at ih
  simp only [ByteArray.size_append] at ih
  rw [ih]
  rfl
end Go.Proofs.YtjdmmhcogmepaaaGreatDoor.V
namespace Go.Proofs.YtjdmmhcogmepaaaGreatDoor.V
open Go.RowKit
open Go.Proofs.YtjdmmhcogmepaaaGreatDoor.Ops (Tr Tk Lv Res Fit OF)
set_option linter.unusedVariables false
set_option linter.unusedSimpArgs false
theorem seg_append {l : List POp} {t : List PTok} {rs : List Int} : ∀ {u w : List TkP} {i : Nat}, SegIs l t rs i (u ++ w) ↔ SegIs l t rs i u ∧ SegIs l t rs (i + u.length) w
 | [], w, i => by simp [SegIs]
 | x :: u, w, i => by
  simp only [List.cons_append, SegIs, List.length_cons, seg_append (u := u), and_assoc]
  rw [show i + (u.length + 1) = i + 1 + u.length by omega]
theorem seg_ok {l : List POp} {t : List PTok} {rs : List Int} : ∀ (e : PT) (i : Nat), SegIs l t rs i e.yield → LeavesOk e ∧ e.All lvO (InL l) ∧ KindsOk e
 | .leaf b, i, h => by
  simp only [Tr.yield, SegIs, TokIs] at h
  refine ⟨?_, trivial, trivial⟩
  have := h.1
  simp only [LeavesOk]
  rw [this.2]; exact this.1
 | .grp e, i, h => by
  simp only [Tr.yield, SegIs] at h
  exact seg_ok e _ (seg_append.1 h.2.2).1
 | .pre o e, i, h => by
  simp only [Tr.yield, SegIs, TokIs] at h
  obtain ⟨⟨_, _, hk, hj⟩, _, h2⟩ := h
  obtain ⟨g0, g1, g2⟩ := seg_ok e _ h2
  exact ⟨g0, ⟨hj, by simp [lvO, sortN, hk], g1⟩, hk, g2⟩
 | .post o e, i, h => by
  simp only [Tr.yield] at h
  obtain ⟨h1, h3⟩ := seg_append.1 h
  obtain ⟨g0, g1, g2⟩ := seg_ok e _ h1
  simp only [SegIs, TokIs] at h3
  obtain ⟨⟨_, _, hk, hj⟩, _⟩ := h3
  exact ⟨g0, ⟨hj, by simp [lvO, sortN, hk], g1⟩, hk, g2⟩
 | .inf o x y, i, h => by
  simp only [Tr.yield] at h
  obtain ⟨h1, h3⟩ := seg_append.1 h
  obtain ⟨g0, g1, g2⟩ := seg_ok x _ h1
  simp only [SegIs, TokIs] at h3
  obtain ⟨⟨_, _, hk, hj⟩, _, h4⟩ := h3
  obtain ⟨q0, q1, q2⟩ := seg_ok y _ h4
  exact ⟨⟨g0, q0⟩, ⟨hj, g1, q1⟩, hk, g2, q2⟩
theorem lay_yield : ∀ (e : PT) (out : List PNode), (lay e out).length ≤ out.length + e.yield.length
 | .leaf _, out => by simp [lay, Tr.yield]
 | .grp e, out => by have := lay_yield e out; simp [lay, Tr.yield]; omega
 | .pre _ e, out => by have := lay_yield e out; simp [lay, Tr.yield]; omega
 | .post _ e, out => by have := lay_yield e out; simp [lay, Tr.yield]; omega
 | .inf _ x y, out => by have := lay_yield x out; have := lay_yield y (lay x out); simp [lay, Tr.yield]; omega
end Go.Proofs.YtjdmmhcogmepaaaGreatDoor.V
namespace Go.Proofs.YtjdmmhcogmepaaaGreatDoor.V
open Go.RowKit
open Go.Proofs.YtjdmmhcogmepaaaGreatDoor.Ops (Tr Tk Lv Res Fit OF)
set_option linter.unusedVariables false
set_option linter.unusedSimpArgs false
def below (T : List PNode) (H : List Int) (i : Nat) : Int :=
 if kidsN (nodAt T i).kind = 0 then 0 else if kidsN (nodAt T i).kind = 1 then intAt H (nodAt T i).a.toNat else max (intAt H (nodAt T i).a.toNat) (intAt H (nodAt T i).b.toNat)
structure HStep (T : List PNode) (H : List Int) (i : Nat) : Prop where
 a : kidsN (nodAt T i).kind ≠ 0 → 0 ≤ (nodAt T i).a ∧ (nodAt T i).a < i
 b : kidsN (nodAt T i).kind = 2 → 0 ≤ (nodAt T i).b ∧ (nodAt T i).b < i
 h : intAt H i = below T H i + 1
 lo : 1 ≤ intAt H i ∧ intAt H i ≤ i + 1
def HOk (T : List PNode) (H : List Int) : Prop := H.length = T.length ∧ ∀ i, i < T.length → HStep T H i
theorem intAt_old {H : List Int} {h : Int} {i : Nat} (hi : i < H.length) : intAt (H ++ [h]) i = intAt H i := by
 simp [intAt, List.getD_eq_getElem?_getD, List.getElem?_append_left hi]
theorem intAt_new {H : List Int} {h : Int} {i : Nat} (hi : i = H.length) : intAt (H ++ [h]) i = h := by
 subst hi; simp [intAt, List.getD_eq_getElem?_getD]
theorem one0 : ((1 : Int) = 0) = False := by simp
theorem two0 : ((2 : Int) = 0) = False := by simp
theorem two1 : ((2 : Int) = 1) = False := by simp
theorem kids_012 (k : Int) : kidsN k = 0 ∨ kidsN k = 1 ∨ kidsN k = 2 := kidsN_cases k
theorem below_old {T : List PNode} {H : List Int} {n : PNode} {h : Int} {i : Nat} (hl : H.length = T.length) (hi : i < T.length) (s : HStep T H i) : below (T ++ [n]) (H ++ [h]) i = below T H i := by
 unfold below
 rw [nodAt_old hi]
 rcases kids_012 (nodAt T i).kind with e | e | e
 ·rw [if_pos e, if_pos e]
 ·have := s.a (by omega)
  simp only [e, one0, if_false, if_true]
  rw [intAt_old (by omega)]
 ·have := s.a (by omega)
  have := s.b e
  simp only [e, two0, two1, if_false]
  rw [intAt_old (by omega), intAt_old (by omega)]
theorem hOk_app {T : List PNode} {H : List Int} {n : PNode} {h : Int} (ok : HOk T H) (ha : kidsN n.kind ≠ 0 → 0 ≤ n.a ∧ n.a < T.length) (hb : kidsN n.kind = 2 → 0 ≤ n.b ∧ n.b < T.length)
  (hh : h = (if kidsN n.kind = 0 then 0 else if kidsN n.kind = 1 then intAt H n.a.toNat else max (intAt H n.a.toNat) (intAt H n.b.toNat)) + 1) : HOk (T ++ [n]) (H ++ [h]) := by
 obtain ⟨hl, hs⟩ := ok
 refine ⟨by simp [hl], fun i hi => ?_⟩
 simp only [List.length_append, List.length_singleton] at hi
 by_cases e : i < T.length
 ·have s := hs i e
  refine ⟨?_, ?_, ?_, ?_⟩
  ·rw [nodAt_old e]; exact s.a
  ·rw [nodAt_old e]; exact s.b
  ·rw [below_old hl e s, intAt_old (by omega)]; exact s.h
  ·rw [intAt_old (by omega)]; exact s.lo
 ·obtain rfl : i = T.length := by omega
  have hn : nodAt (T ++ [n]) T.length = n := nodAt_new
  have hb' : below (T ++ [n]) (H ++ [h]) T.length + 1 = h := by
   unfold below
   rw [hn, hh]
   rcases kids_012 n.kind with e | e | e
   ·rw [if_pos e, if_pos e]
   ·have := ha (by omega)
    simp only [e, one0, if_false, if_true]
    rw [intAt_old (by omega)]
   ·have := ha (by omega)
    have := hb e
    simp only [e, two0, two1, if_false]
    rw [intAt_old (by omega), intAt_old (by omega)]
  refine ⟨?_, ?_, ?_, ?_⟩
  ·rw [hn]; exact ha
  ·rw [hn]; exact hb
  ·rw [hb', intAt_new hl.symm]
  ·rw [intAt_new hl.symm, hh]
   rcases kids_012 n.kind with e | e | e
   ·rw [if_pos e]; omega
   ·have := ha (by omega)
    have := (hs n.a.toNat (by omega)).lo
    rw [if_neg (by omega), if_pos e]; omega
   ·have := ha (by omega)
    have := hb e
    have := (hs n.a.toNat (by omega)).lo
    have := (hs n.b.toNat (by omega)).lo
    rw [if_neg (by omega), if_neg (by omega)]; omega
def his : PT → List Int → List Int
 | .leaf _, hs => hs ++ [1]
 | .grp e, hs => his e hs ++ [1 + highT e]
 | .pre _ e, hs => his e hs ++ [1 + highT e]
 | .post _ e, hs => his e hs ++ [1 + highT e]
 | .inf _ x y, hs => his y (his x hs) ++ [1 + max (highT x) (highT y)]
theorem his_last (e : PT) (hs : List Int) : intAt (his e hs) ((his e hs).length - 1) = highT e := by
 cases e <;> simp only [his, highT] <;> rw [intAt_new (by simp)]
theorem his_pos (e : PT) (hs : List Int) : hs.length < (his e hs).length := by
 induction e generalizing hs with
 | leaf _ => simp [his]
 | grp e ih => have := ih hs; simp [his]; omega
 | pre _ e ih => have := ih hs; simp [his]; omega
 | post _ e ih => have := ih hs; simp [his]; omega
 | inf _ x y ihx ihy => have := ihx hs; have := ihy (his x hs); simp [his]; omega
theorem his_old (e : PT) : ∀ (hs : List Int) (i : Nat), i < hs.length → intAt (his e hs) i = intAt hs i := by
 induction e with
 | leaf _ => intro hs i h; simp only [his]; exact intAt_old h
 | grp e ih => intro hs i h; have := his_pos e hs; simp only [his]; rw [intAt_old (by omega), ih hs i h]
 | pre _ e ih => intro hs i h; have := his_pos e hs; simp only [his]; rw [intAt_old (by omega), ih hs i h]
 | post _ e ih => intro hs i h; have := his_pos e hs; simp only [his]; rw [intAt_old (by omega), ih hs i h]
 | inf _ x y ihx ihy => intro hs i h; have := his_pos x hs; have := his_pos y (his x hs); simp only [his]; rw [intAt_old (by omega), ihy _ i (by omega), ihx hs i h]
theorem hOk_lay : ∀ (e : PT) (out : List PNode) (hs : List Int), LeavesOk e → KindsOk e → HOk out hs → HOk (lay e out) (his e hs)
 | .leaf b, out, hs, h1, h2, ok => by
  have k0 : kidsN b.1 = 0 := by have h : b.1 = 1 ∨ b.1 = 2 := h1; rcases h with e | e <;> simp [kidsN, e]
  simp only [lay, his]
  exact hOk_app ok (fun h => absurd k0 h) (fun h => by simp only at h; omega) (by simp [k0])
 | .grp e, out, hs, h1, h2, ok => by
  have := hOk_lay e out hs h1 h2 ok
  have hl := this.1
  have hp := his_pos e hs
  have hlast := his_last e hs
  have k1 : kidsN 6 = 1 := rfl
  simp only [lay, his]
  refine hOk_app this (fun _ => by simp only; omega) (fun h => by simp only at h; omega) ?_
  simp only [k1, one0, if_false, if_true]
  rw [show (((lay e out).length : Int) - 1).toNat = (his e hs).length - 1 by omega, hlast]
  omega
 | .pre o e, out, hs, h1, h2, ok => by
  have := hOk_lay e out hs h1 h2.2 ok
  have hl := this.1
  have hp := his_pos e hs
  have hlast := his_last e hs
  have k1 : kidsN (o.kind + 2) = 1 := by rw [h2.1]; rfl
  simp only [lay, his]
  refine hOk_app this (fun _ => by simp only; omega) (fun h => by simp only at h; omega) ?_
  simp only [k1, one0, if_false, if_true]
  rw [show (((lay e out).length : Int) - 1).toNat = (his e hs).length - 1 by omega, hlast]
  omega
 | .post o e, out, hs, h1, h2, ok => by
  have := hOk_lay e out hs h1 h2.2 ok
  have hl := this.1
  have hp := his_pos e hs
  have hlast := his_last e hs
  have k1 : kidsN (o.kind + 2) = 1 := by rw [h2.1]; rfl
  simp only [lay, his]
  refine hOk_app this (fun _ => by simp only; omega) (fun h => by simp only at h; omega) ?_
  simp only [k1, one0, if_false, if_true]
  rw [show (((lay e out).length : Int) - 1).toNat = (his e hs).length - 1 by omega, hlast]
  omega
 | .inf o x y, out, hs, h1, h2, ok => by
  have okx := hOk_lay x out hs h1.1 h2.2.1 ok
  have := hOk_lay y _ _ h1.2 h2.2.2 okx
  have hl := this.1
  have hlx := okx.1
  have hp := his_pos y (his x hs)
  have hpx := his_pos x hs
  have hlast := his_last y (his x hs)
  have hlastx := his_last x hs
  have k2 : kidsN (o.kind + 2) = 2 := by rw [h2.1]; rfl
  simp only [lay, his]
  refine hOk_app this (fun _ => by simp only; omega) (fun h => by simp only; omega) ?_
  simp only [k2, two0, two1, if_false]
  rw [show (((lay y (lay x out)).length : Int) - 1).toNat = (his y (his x hs)).length - 1 by omega, hlast, show (((lay x out).length : Int) - 1).toNat = (his x hs).length - 1 by omega, his_old y _ _ (by omega), hlastx]
  omega
end Go.Proofs.YtjdmmhcogmepaaaGreatDoor.V
namespace Go.Proofs.YtjdmmhcogmepaaaGreatDoor.V
open Go.RowKit
set_option linter.unusedVariables false
set_option linter.unusedSimpArgs false
set_option linter.constructorNameAsVariable false
theorem take_succI {H : List Int} {i : Nat} (h : i < H.length) : H.take (i + 1) = H.take i ++ [intAt H i] := by
 rw [List.take_add_one]
 simp [intAt, List.getD_eq_getElem?_getD, h]
theorem intAt_take {H : List Int} {i j : Nat} (h : j < i) : intAt (H.take i) j = intAt H j := by
 simp [intAt, List.getD_eq_getElem?_getD, h]
set_option maxRecDepth 100000 in
theorem c_l3Height (T : List PNode) (H : List Int) (hT : 0 < T.length ∧ T.length ≤ 3000000) (ok : HOk T H) : VFun Tryz.prog 48 [.agg [.sl 4 T.length (nodCells T)]] (fun av obs => obs = [] ∧ av = .lit (.int .i64 (intAt H (T.length - 1)))) := by
 have clt : ∀ (i : Nat) (c : AV), i < T.length → c ∈ nodCells T i → Closed c := fun i c _ h => nodClosed T i c h
 obtain ⟨hl, hs⟩ := ok
 refine vfun_start Tryz.func48 (by kernel_rfl) rfl (by simp [Tryz.ntmps48]) ?_; simp only [Tryz.ntmps48, Tryz.results48]; simp [go_sem]
 refine vc_loopE (fun i : Nat => i ≤ T.length) (fun i => T.length - i) (fun i => .of [(1, .ptr 0 1 0 0), (3, .own 1), (4, .lit (.int .i64 i))] [some ⟨37, 1, 1, fun _ => [.sl 4 T.length (nodCells T)]⟩, some ⟨3, 1, i, intCells (H.take i)⟩]) ⟨0, by omega, ?_⟩ (fun i hi => ?_)
 ·refine ent_ks [0, 1] (by simp) (by simp) (by simp) (by simp) trivial ?_ ?_
  ·simp [go_sem]
  ·simp [go_sem]
   exact clt
 ·have hlen : (H.take i).length = i := by simp; omega
  simp [go_sem, nodCells_at]
  refine ⟨by omega, fun h => ⟨h, vcall_pure (c_l3Kids (nodAt T i).kind) ?_ ?_⟩, fun h => ?_⟩
  ·simp [go_sem]
  ·obtain ⟨sa, sb, sh, slo⟩ := hs i h
   have next : ∀ (mm : Int) (f : Nat → List AV), mm = below T H i → (f 0 = [.lit (.int .i64 (IntKind.i64.wrap (mm + 1)))]) → ∀ j, j < i + 1 → joinF i (intCells (H.take i)) f j = intCells (H.take (i + 1)) j := fun mm f h1 h2 j hj => by
    rw [take_succI (by omega), ← int_app1 (H.take i) (intAt H i) j (by omega), hlen]
    unfold joinF
    split
    ·rfl
    ·have : j - i = 0 := by omega
     rw [this, h2, h1, sh]
     rw [wrap_i64 (by omega)]
     rfl
   rcases kids_012 (nodAt T i).kind with e | e | e
   ·simp [go_sem, e]
    refine vcall_pure (c_l3Kids (nodAt T i).kind) ?_ ?_
    ·simp [go_sem]
    ·simp [go_sem, e]
     refine ⟨by omega, by omega, i + 1, by omega, by omega, ?_⟩
     ·refine ent_ks [0, 4] (by simp) (by simp) (by simp) (by simp) trivial ?_ ?_
      ·simp [go_sem]
       exact wrap_succ (by omega)
      ·simp [go_sem]
       exact ⟨clt, .inl fun j hj => ⟨next 0 _ (by simp [below, e]) rfl j hj, intClosed _ _⟩⟩
   ·have ha := sa (by omega)
    have ia : intAt (H.take i) (nodAt T i).a.toNat = intAt H (nodAt T i).a.toNat := intAt_take (by omega)
    simp [go_sem, e, intCells_at]
    refine ⟨ha.1, ha.2, by omega, vcall_pure (c_l3Kids (nodAt T i).kind) ?_ ?_⟩
    ·simp [go_sem]
    ·simp [go_sem, e]
     refine ⟨by omega, by omega, i + 1, by omega, by omega, ?_⟩
     ·refine ent_ks [0, 4] (by simp) (by simp) (by simp) (by simp) trivial ?_ ?_
      ·simp [go_sem]
       exact wrap_succ (by omega)
      ·simp [go_sem]
       exact ⟨clt, .inl fun j hj => ⟨next _ _ (by simp [below, e, ia]) rfl j hj, intClosed _ _⟩⟩
   ·have ha := sa (by omega)
    have hb := sb e
    have ia : intAt (H.take i) (nodAt T i).a.toNat = intAt H (nodAt T i).a.toNat := intAt_take (by omega)
    have ib : intAt (H.take i) (nodAt T i).b.toNat = intAt H (nodAt T i).b.toNat := intAt_take (by omega)
    simp [go_sem, e, intCells_at]
    refine ⟨ha.1, ha.2, by omega, vcall_pure (c_l3Kids (nodAt T i).kind) ?_ ?_⟩
    ·simp [go_sem]
    ·simp [go_sem, e, intCells_at]
     refine ⟨hb.1, hb.2, by omega, fun hc => ⟨hb.1, hb.2, by omega, by omega, by omega, i + 1, by omega, by omega, ?_⟩, fun hc => ⟨by omega, by omega, i + 1, by omega, by omega, ?_⟩⟩
     ·refine ent_ks [0, 4] (by simp) (by simp) (by simp) (by simp) trivial ?_ ?_
      ·simp [go_sem]
       exact wrap_succ (by omega)
      ·simp [go_sem]
       exact ⟨clt, .inl fun j hj => ⟨next _ _ (by rw [ia, ib] at hc; simp [below, e, ib]; omega) rfl j hj, intClosed _ _⟩⟩
     ·refine ent_ks [0, 4] (by simp) (by simp) (by simp) (by simp) trivial ?_ ?_
      ·simp [go_sem]
       exact wrap_succ (by omega)
      ·simp [go_sem]
       exact ⟨clt, .inl fun j hj => ⟨next _ _ (by rw [ia, ib] at hc; simp [below, e, ia]; omega) rfl j hj, intClosed _ _⟩⟩
  ·obtain rfl : i = T.length := by omega
   have w : IntKind.i64.wrap ((T.length : Int) - 1) = ((T.length - 1 : Nat) : Int) := by rw [wrap_i64 (by omega)]; omega
   rw [w]
   simp only [Int.toNat_natCast]
   simp [go_sem, intCells_at, intAt_take (H := H) (i := T.length) (j := T.length - 1) (by omega)]
   omega
end Go.Proofs.YtjdmmhcogmepaaaGreatDoor.V
namespace Go.Proofs.YtjdmmhcogmepaaaGreatDoor.V
open Go.RowKit
set_option linter.unusedVariables false
set_option linter.unusedSimpArgs false
set_option linter.constructorNameAsVariable false
def offZ (t : List PTok) (i : Nat) : Int := (tokSum (t.take i) + (tokAt t i).gap.size : Nat)
end Go.Proofs.YtjdmmhcogmepaaaGreatDoor.V
namespace Go.Proofs.YtjdmmhcogmepaaaGreatDoor.V
open Go.RowKit
open Go.Proofs.YtjdmmhcogmepaaaGreatDoor.Ops (Tr Tk Lv Res Fit OF)
set_option linter.unusedVariables false
set_option linter.unusedSimpArgs false
def badAt (t : List PTok) : Option Nat := (List.range t.length).find? fun i => decide ((tokAt t i).kind = 6)
theorem badAt_some {t : List PTok} {i : Nat} (hi : i < t.length) (h : ∀ j, j < i → (tokAt t j).kind ≠ 6) (hb : (tokAt t i).kind = 6) : badAt t = some i := by
 unfold badAt
 rw [List.find?_range_eq_some]
 refine ⟨by simpa using hb, by simpa using hi, fun j hj => ?_⟩
 simpa using h j hj
theorem badAt_none {t : List PTok} (h : ∀ j, j < t.length → (tokAt t j).kind ≠ 6) : badAt t = none := by
 unfold badAt
 rw [List.find?_eq_none]
 intro j hj
 simpa using h j (by simpa using hj)
open Classical in
noncomputable def toksZ (l : List POp) (t : List PTok) : List TkP := if h : ∃ ts : List TkP, ToksAre l t 0 ts ∧ Fit true 0 ts then Classical.choose h else []
theorem toksZ_ok {l : List POp} {t : List PTok} (h : ∃ ts : List TkP, ToksAre l t 0 ts ∧ Fit true 0 ts) : ToksAre l t 0 (toksZ l t) ∧ Fit true 0 (toksZ l t) := by
 unfold toksZ
 rw [dif_pos h]
 exact Classical.choose_spec h
noncomputable def partT (l : List POp) (t : List PTok) : Option PT := Ops.build lvO (toksZ l t).length (toksZ l t)
noncomputable def parK (l : List POp) (t : List PTok) : List PNode × Int × Int := match badAt t with
 | some i => ([], 3, offZ t i)
 | none => if 0 ≤ (rolesZ l t).2 then ([], 4, offZ t (rolesZ l t).2.toNat) else match partT l t with
  | none => ([], 5, 0)
  | some e => if highT e ≤ 1000 then (lay e [], 0, 0) else ([], 6, 0)
noncomputable def parZ (l : List POp) (z : ByteArray) : List PNode × Int × Int :=
 if tblOk l ≠ 0 then ([], 1, 0) else if ¬ z.size ≤ 20000 then ([], 2, 0) else parK l (lexZ l z)
theorem parK_bad {l : List POp} {t : List PTok} {i : Nat} (h : badAt t = some i) : parK l t = ([], 3, offZ t i) := by unfold parK; rw [h]
theorem parK_roles {l : List POp} {t : List PTok} (h : badAt t = none) (hr : 0 ≤ (rolesZ l t).2) : parK l t = ([], 4, offZ t (rolesZ l t).2.toNat) := by unfold parK; rw [h]; simp only; rw [if_pos hr]
theorem parK_none {l : List POp} {t : List PTok} (h : badAt t = none) (hr : (rolesZ l t).2 = -1) (hp : partT l t = none) : parK l t = ([], 5, 0) := by unfold parK; rw [h]; simp only; rw [if_neg (by omega), hp]
theorem parK_high {l : List POp} {t : List PTok} {e : PT} (h : badAt t = none) (hr : (rolesZ l t).2 = -1) (hp : partT l t = some e) (he : ¬ highT e ≤ 1000) : parK l t = ([], 6, 0) := by unfold parK; rw [h]; simp only; rw [if_neg (by omega), hp]; simp only; rw [if_neg he]
theorem parK_ok {l : List POp} {t : List PTok} {e : PT} (h : badAt t = none) (hr : (rolesZ l t).2 = -1) (hp : partT l t = some e) (he : highT e ≤ 1000) : parK l t = (lay e [], 0, 0) := by unfold parK; rw [h]; simp only; rw [if_neg (by omega), hp]; simp only; rw [if_pos he]
theorem lexFrom_last {l : List POp} {z : ByteArray} (f : Nat) (hf : f ≤ z.size) : (lexFrom l z f).length ≠ 0 ∧ (tokAt (lexFrom l z f) ((lexFrom l z f).length - 1)).kind = 7 := by
 generalize hn : z.size - f = n
 induction n using Nat.strongRecOn generalizing f with
 | ind n ih =>
  have hr := run_le isBl z f hf
  by_cases h : f + run isBl z f < z.size
  ·have hg := longest_ge l z (f + run isBl z f)
   have hl := longest_le l z (f + run isBl z f) h
   obtain ⟨h1, h2⟩ := ih (z.size - (f + run isBl z f + longest l z (f + run isBl z f))) (by omega) (f + run isBl z f + longest l z (f + run isBl z f)) hl rfl
   rw [lexFrom_go rfl h]
   refine ⟨by simp, ?_⟩
   obtain ⟨q, hq⟩ : ∃ q, q = lexFrom l z (f + run isBl z f + longest l z (f + run isBl z f)) := ⟨_, rfl⟩
   rw [← hq] at h1 h2 ⊢
   rw [← h2]
   simp only [tokAt, List.getD_eq_getElem?_getD, List.length_cons, Nat.add_sub_cancel]
   rw [show q.length = (q.length - 1) + 1 by omega, List.getElem?_cons_succ]
   simp
  ·rw [lexFrom_end rfl h]
   simp [tokAt]
theorem lexZ_ends {l : List POp} {z : ByteArray} (h : lexOk l z = true) : endsOk (lexZ l z) = true := by
 obtain ⟨h1, h2⟩ := lexFrom_last (l := l) (z := z) 0 (by omega)
 rw [lexZ, if_pos h]
 simp only [endsOk, h1, h2, ne_eq, not_false_eq_true, decide_true, Bool.and_self]
theorem roles_two {l : List POp} {t : List PTok} (h0 : tblOk l = 0) (he : endsOk t = true) : ((rolesZ l t).2 = -1 ∧ (rolesZ l t).1 = rolesUp l t t.length) ∨ (0 ≤ (rolesZ l t).2 ∧ (rolesZ l t).2 < t.length) := by
 unfold rolesZ
 rw [if_neg (by omega)]
 split
 ·rename_i i hb
  unfold firstBad at hb
  rw [List.find?_range_eq_some] at hb
  have := hb.2.1
  simp only [List.mem_range] at this
  exact .inr ⟨by simp, by simp; omega⟩
 ·rw [if_pos he]
  exact .inl ⟨rfl, rfl⟩
structure Fits (l : List POp) (t : List PTok) : Prop where
 len : (toksZ l t).length + 1 = t.length
 toks : ToksAre l t 0 (toksZ l t)
 fit : Fit true 0 (toksZ l t)
 seg : SegIs l t (rolesUp l t t.length) 0 (toksZ l t)
 all : ∀ e : PT, e.yield = toksZ l t → e.All lvO (InL l)
theorem fits_of {l : List POp} {t : List PTok} (h0 : tblOk l = 0) (hr : (rolesZ l t).2 = -1) : Fits l t := by
 have hu := uniq_of_ok h0
 obtain ⟨h1, h2⟩ := toksZ_ok (toks_of hu hr)
 have hl := toksAre_len h1
 have hs := seg_of hu _ 0 0 h1 h2 rfl
 exact ⟨by omega, h1, h2, hs, fun e he => by rw [← he] at hs; exact (seg_ok e 0 hs).2.1⟩
theorem partT_ok {l : List POp} {t : List PTok} {e : PT} (F : Fits l t) (h : partT l t = some e) : e.Adm lvO ∧ e.yield = toksZ l t ∧ LeavesOk e ∧ e.All lvO (InL l) ∧ KindsOk e := by
 obtain ⟨h1, h2⟩ := Ops.build_sound lvO _ _ _ (OF.of_fit F.fit) h
 have hs := F.seg
 rw [← h2] at hs
 exact ⟨h1, h2, seg_ok e 0 hs⟩
theorem parZ_len (l : List POp) (z : ByteArray) : (parZ l z).1.length ≤ 300000 := by
 unfold parZ
 split
 ·simp
 ·rename_i h0
  have h0 : tblOk l = 0 := Decidable.byContradiction h0
  split
  ·simp
  ·rename_i h1
   have h1 : z.size ≤ 20000 := Decidable.byContradiction h1
   have hok : lexOk l z = true := by simp [lexOk, h0, h1]
   obtain ⟨hq1, hq2⟩ := lexZ_texts (l := l) (z := z) (by omega)
   cases hb : badAt (lexZ l z) with
   | some i => rw [parK_bad hb]; simp
   | none =>
    rcases roles_two h0 (lexZ_ends hok) with ⟨hr, _⟩ | ⟨hr, _⟩
    ·have F := fits_of h0 hr
     cases hp : partT l (lexZ l z) with
     | none => rw [parK_none hb hr hp]; simp
     | some e =>
      obtain ⟨e1, e2, e3, e4, e5⟩ := partT_ok F hp
      by_cases he : highT e ≤ 1000
      ·rw [parK_ok hb hr hp he]
       have := lay_yield e []
       have := F.len
       rw [e2] at *
       simp only [List.length_nil] at *
       omega
      ·rw [parK_high hb hr hp he]; simp
    ·rw [parK_roles hb hr]; simp
theorem run_of {l : List POp} {t : List PTok} (h0 : tblOk l = 0) (F : Fits l t) : ∃ r : Option (PT × List TkP), Ops.operand lvO (2 * (toksZ l t).length + 2) 0 (toksZ l t) = some r ∧
  (match r with
  | none => partT l t = none
  | some (e, rest) => t.length - 1 - rest.length < t.length ∧ ((partT l t = some e ∧ (tokAt t (t.length - 1 - rest.length)).kind = 7) ∨ (partT l t = none ∧ (tokAt t (t.length - 1 - rest.length)).kind ≠ 7))) := by
 have hof := OF.of_fit F.fit
 have hbe := Ops.build_eq_operand lvO (good_of_ok h0) (toksZ l t) hof F.all
 have hlen := F.len
 obtain ⟨r, hr⟩ := (Ops.fuel_all lvO (2 * (toksZ l t).length + 2)).1 0 (toksZ l t) (by omega)
 refine ⟨r, hr, ?_⟩
 have hno : (∀ e, r ≠ some (e, [])) → partT l t = none := fun h => by
  cases hp : partT l t with
  | none => rfl
  | some e =>
   have := (hbe e).1 hp
   rw [hr] at this
   exact absurd (Option.some.inj this) (h e)
 cases r with
 | none => exact hno fun e => by simp
 | some x =>
  obtain ⟨e, rest⟩ := x
  obtain ⟨h1, h2, _⟩ := (Ops.sound_all lvO _).1 _ _ _ _ hr
  have htk := F.toks
  rw [h1] at htk
  have hl := toksAre_len htk
  have hrest := toksAre_rest htk
  refine ⟨by omega, ?_⟩
  cases rest with
  | nil =>
   refine .inl ⟨(hbe e).2 hr, ?_⟩
   exact hrest.2
  | cons tk r =>
   refine .inr ⟨hno fun e' => by simp, ?_⟩
   have := hrest.1
   cases tk with
   | leaf b => have h := this.1; omega
   | opn => have h : _ = _ := this; omega
   | cls => have h : _ = _ := this; omega
   | pre o => have h := this.1; omega
   | inf o => have h := this.1; omega
   | post o => have h := this.1; omega
end Go.Proofs.YtjdmmhcogmepaaaGreatDoor.V
namespace Go.Proofs.YtjdmmhcogmepaaaGreatDoor.V
open Go.RowKit
open Go.Proofs.YtjdmmhcogmepaaaGreatDoor.Ops (Tr Tk Lv Res Fit OF)
set_option linter.unusedVariables false
set_option linter.unusedSimpArgs false
set_option linter.constructorNameAsVariable false
def tkW : TkP → ByteArray
 | .leaf b => b.2
 | .opn => ⟨#[40]⟩
 | .cls => ⟨#[41]⟩
 | .pre o => o.text
 | .inf o => o.text
 | .post o => o.text
def TkOk (l : List POp) : TkP → Prop
 | .leaf b => (b.1 = 1 ∧ numZ b.2 = true) ∨ (b.1 = 2 ∧ namZ b.2 = true)
 | .pre o => o.kind = 1 ∧ InL l o
 | .inf o => o.kind = 2 ∧ InL l o
 | .post o => o.kind = 3 ∧ InL l o
 | _ => True
theorem nam_not {w : ByteArray} (h : namZ w = true) : numZ w = false := by
 cases e : numZ w with
 | false => rfl
 | true =>
  simp only [numZ, namZ, namAt, Bool.and_eq_true, List.all_eq_true, List.mem_range, decide_eq_true_eq, Bool.or_eq_true] at h e
  have h1 := h.1 0 h.2
  have h2 := e.1 0 h.2
  simp at h1
  simp only [isDg, isLt, Bool.and_eq_true, decide_eq_true_eq] at h1 h2
  omega
theorem kind_op {l : List POp} (hok : ∀ j, j < l.length → opOk (opAt l j) = true) {o : POp} (h : InL l o) (hk : 1 ≤ o.kind ∧ o.kind ≤ 3) : kindZ l o.text = 3 := by
 obtain ⟨j, hj, rfl⟩ := h
 have hs := opOk_signs (hok j hj)
 obtain ⟨s1, s2, s3⟩ := sg_signs hs
 obtain ⟨n1, n2, n3, n4, n5⟩ := sg_not (s1 0 s2)
 have e1 : numZ (opAt l j).text = false := by
  cases e : numZ (opAt l j).text with
  | false => rfl
  | true =>
   simp only [numZ, Bool.and_eq_true, List.all_eq_true, List.mem_range, decide_eq_true_eq] at e
   rw [e.1 0 s2] at n1; cases n1
 have e2 : namZ (opAt l j).text = false := by
  cases e : namZ (opAt l j).text with
  | false => rfl
  | true =>
   have := (nam_al e).1 0 s2
   simp [alnum, n1, n2] at this
 have e3 : ¬ (opAt l j).text = ⟨#[40]⟩ := fun e => n4 (by rw [e]; rfl)
 have e4 : ¬ (opAt l j).text = ⟨#[41]⟩ := fun e => n5 (by rw [e]; rfl)
 have e5 : isOpZ l (opAt l j).text = true := by
  have hh : opHas l (opAt l j).text (opAt l j).kind = true := (opHas_iff l _ _).2 ⟨j, hj, rfl, rfl⟩
  rcases (by omega : (opAt l j).kind = 1 ∨ (opAt l j).kind = 2 ∨ (opAt l j).kind = 3) with e | e | e <;> rw [e] at hh <;> simp [isOpZ, hh]
 simp [kindZ, e1, e2, e3, e4, e5]
theorem tk_is {l : List POp} (hok : ∀ j, j < l.length → opOk (opAt l j) = true) {tk : TkP} (h : TkOk l tk) (g : ByteArray) : TokIs l ⟨kindZ l (tkW tk), g, tkW tk⟩ tk ∧ WordOk l (tkW tk) := by
 cases tk with
 | leaf b =>
  obtain ⟨k, w⟩ := b
  rcases h with ⟨h1, h2⟩ | ⟨h1, h2⟩
  ·simp only at h1 h2
   subst h1
   have e : kindZ l w = 1 := by simp [kindZ, h2]
   exact ⟨⟨.inl e, by simp only [tkW]; rw [e]⟩, .al (num_al h2).1 (num_al h2).2 (.inl e)⟩
  ·simp only at h1 h2
   subst h1
   have e : kindZ l w = 2 := by simp [kindZ, h2, nam_not h2]
   exact ⟨⟨.inr e, by simp only [tkW]; rw [e]⟩, .al (nam_al h2).1 (nam_al h2).2 (.inr e)⟩
 | opn =>
  have e : kindZ l ⟨#[40]⟩ = 4 := by
   have e1 : numZ ⟨#[40]⟩ = false := by decide
   have e2 : namZ ⟨#[40]⟩ = false := by decide
   simp [kindZ, e1, e2]
  exact ⟨e, .opn rfl e⟩
 | cls =>
  have e : kindZ l ⟨#[41]⟩ = 5 := by
   have e1 : numZ ⟨#[41]⟩ = false := by decide
   have e2 : namZ ⟨#[41]⟩ = false := by decide
   simp [kindZ, e1, e2]
  exact ⟨e, .cls rfl e⟩
 | pre o =>
  have e := kind_op hok h.2 (by have := h.1; omega)
  obtain ⟨j, hj, rfl⟩ := h.2
  have hs := sg_signs (opOk_signs (hok j hj))
  exact ⟨⟨e, rfl, h.1, j, hj, rfl⟩, .op hs.1 hs.2.1 hs.2.2 e⟩
 | inf o =>
  have e := kind_op hok h.2 (by have := h.1; omega)
  obtain ⟨j, hj, rfl⟩ := h.2
  have hs := sg_signs (opOk_signs (hok j hj))
  exact ⟨⟨e, rfl, h.1, j, hj, rfl⟩, .op hs.1 hs.2.1 hs.2.2 e⟩
 | post o =>
  have e := kind_op hok h.2 (by have := h.1; omega)
  obtain ⟨j, hj, rfl⟩ := h.2
  have hs := sg_signs (opOk_signs (hok j hj))
  exact ⟨⟨e, rfl, h.1, j, hj, rfl⟩, .op hs.1 hs.2.1 hs.2.2 e⟩
def tokL (l : List POp) (ps : List (ByteArray × TkP)) (g : ByteArray) : List PTok := ps.map (fun x => ⟨kindZ l (tkW x.2), x.1, tkW x.2⟩) ++ [⟨7, g, ⟨#[]⟩⟩]
theorem toks_tokL {l : List POp} (hok : ∀ j, j < l.length → opOk (opAt l j) = true) (g : ByteArray) : ∀ (ps : List (ByteArray × TkP)) (pre : List PTok), (∀ x, x ∈ ps → TkOk l x.2) → ToksAre l (pre ++ tokL l ps g) pre.length (ps.map (·.2))
 | [], pre, _ => by
  simp only [tokL, List.map_nil, List.nil_append, ToksAre, List.length_append, List.length_singleton, true_and]
  rw [tokAt_app, if_neg (by omega), Nat.sub_self]; rfl
 | x :: r, pre, h => by
  simp only [List.map_cons, ToksAre]
  have e : pre ++ tokL l (x :: r) g = (pre ++ [⟨kindZ l (tkW x.2), x.1, tkW x.2⟩]) ++ tokL l r g := by simp [tokL]
  refine ⟨?_, ?_⟩
  ·have e2 : tokAt (pre ++ tokL l (x :: r) g) pre.length = ⟨kindZ l (tkW x.2), x.1, tkW x.2⟩ := by
    rw [tokAt_app, if_neg (by omega), Nat.sub_self]; rfl
   rw [e2]
   exact (tk_is hok (h x (by simp)) x.1).1
  ·have := toks_tokL hok g r (pre ++ [⟨kindZ l (tkW x.2), x.1, tkW x.2⟩]) fun y hy => h y (by simp [hy])
   rw [← e] at this
   simpa using this
theorem lexZ_join {l : List POp} (h0 : tblOk l = 0) {ps : List (ByteArray × TkP)} {g : ByteArray} (hj : JoinOk l (ps.map fun x => (x.1, tkW x.2)) g) (hz : (joinW (ps.map fun x => (x.1, tkW x.2)) g).size ≤ 20000) : lexZ l (joinW (ps.map fun x => (x.1, tkW x.2)) g) = tokL l ps g := by
 have h1 : lexOk l (joinW (ps.map fun x => (x.1, tkW x.2)) g) = true := by simp [lexOk, h0, hz]
 have := lex_join (ok_of_ok h0) _ g ByteArray.empty hj
 rw [ByteArray.empty_append] at this
 rw [lexZ, if_pos h1]
 refine this.trans ?_
 simp [tokL]
theorem yield_fit : ∀ (e : PT) (d : Nat) (rest : List TkP), Fit false d rest → Fit true d (e.yield ++ rest)
 | .leaf b, d, rest, h => by simpa [Tr.yield, Fit] using h
 | .grp e, d, rest, h => by
  have := yield_fit e (d + 1) (.cls :: rest) (by simpa [Fit] using h)
  simpa [Tr.yield, Fit] using this
 | .pre o e, d, rest, h => by
  have := yield_fit e d rest h
  simpa [Tr.yield, Fit] using this
 | .post o e, d, rest, h => by
  have := yield_fit e d (.post o :: rest) (by simpa [Fit] using h)
  simpa [Tr.yield] using this
 | .inf o x y, d, rest, h => by
  have := yield_fit x d (.inf o :: (y.yield ++ rest)) (by simpa [Fit] using yield_fit y d rest h)
  simpa [Tr.yield] using this
theorem role_ge (tk : TkP) : 0 ≤ roleT tk := by cases tk <;> simp [roleT]
theorem fit_state {l : List POp} {t : List PTok} (hu : Uniq l) : ∀ (ts : List TkP) (i d : Nat), ToksAre l t i ts → Fit (!stAt l t i) d ts → (d : Int) = openAt t i → stAt l t (i + ts.length) = true ∧ openAt t (i + ts.length) = 0
 | [], i, d, _, hf, hd => by
  cases hs : stAt l t i with
  | false => rw [hs] at hf; simp [Fit] at hf
  | true => rw [hs] at hf; simp [Fit] at hf; simp [hs]; omega
 | tk :: r, i, d, ht, hf, hd => by
  obtain ⟨h1, h2⟩ := ht
  have nxt : ∀ (st : Bool) (d' : Nat), stAt l t (i + 1) = st → (d' : Int) = openAt t (i + 1) → Fit (!st) d' r → stAt l t (i + (tk :: r).length) = true ∧ openAt t (i + (tk :: r).length) = 0 := fun st d' e1 e2 e3 => by
   have := fit_state hu r (i + 1) d' h2 (by rw [e1]; exact e3) e2
   simp only [List.length_cons]
   rw [show i + (r.length + 1) = i + 1 + r.length by omega]; exact this
  have has : ∀ {o : POp}, o.text = (tokAt t i).text → (∃ j, j < l.length ∧ opAt l j = o) → opHas l (tokAt t i).text o.kind = true := fun {o} e ⟨j, hj, e2⟩ => (opHas_iff l _ _).2 ⟨j, hj, by rw [e2]; exact e, by rw [e2]⟩
  have hasno : ∀ {o : POp} {k : Int}, o.text = (tokAt t i).text → (∃ j, j < l.length ∧ opAt l j = o) → o.kind ≠ 1 → k ≠ 1 → o.kind ≠ k → opHas l (tokAt t i).text k = false := fun {o k} e ⟨j, hj, e2⟩ n1 n2 n3 => by
   cases hh : opHas l (tokAt t i).text k with
   | false => rfl
   | true =>
    obtain ⟨j', hj', g1, g2⟩ := (opHas_iff l _ _).1 hh
    have := hu j j' hj hj' (by rw [e2, e, g1]) (by
     rw [e2, g2]
     have a1 : (o.kind == 1) = false := by simpa using n1
     have a2 : (k == 1) = false := by simpa using n2
     rw [a1, a2])
    rw [e2] at this
    rw [← this] at g2
    exact absurd g2 n3
  cases hs : stAt l t i with
  | false =>
   rw [hs] at hf
   cases tk with
   | leaf b =>
    refine nxt true d ?_ ?_ (by simpa [Fit] using hf)
    ·rcases h1.1 with e | e <;> simp [stAt, e]
    ·rcases h1.1 with e | e <;> simp [openAt, e, hd]
   | opn =>
    have k4 : (tokAt t i).kind = 4 := h1
    exact nxt false (d + 1) (by simp [stAt, k4]) (by simp [openAt, k4]; omega) (by simpa [Fit] using hf)
   | pre o => exact nxt false d (by simp [stAt, h1.1, hs]) (by simp [openAt, h1.1, hd]) (by simpa [Fit] using hf)
   | cls => simp [Fit] at hf
   | inf o => simp [Fit] at hf
   | post o => simp [Fit] at hf
  | true =>
   rw [hs] at hf
   cases tk with
   | leaf b => simp [Fit] at hf
   | opn => simp [Fit] at hf
   | pre o => simp [Fit] at hf
   | inf o =>
    have no := hasno (k := 3) h1.2.1 h1.2.2.2 (by rw [h1.2.2.1]; omega) (by omega) (by rw [h1.2.2.1]; omega)
    exact nxt false d (by simp [stAt, h1.1, hs, no]) (by simp [openAt, h1.1, hd]) (by simpa [Fit] using hf)
   | post o =>
    have hh := has h1.2.1 h1.2.2.2
    rw [h1.2.2.1] at hh
    exact nxt true d (by simp [stAt, h1.1, hs, hh]) (by simp [openAt, h1.1, hd]) (by simpa [Fit] using hf)
   | cls =>
    have k5 : (tokAt t i).kind = 5 := h1
    cases d with
    | zero => simp [Fit] at hf
    | succ d => exact nxt true d (by simp [stAt, k5]) (by simp [openAt, k5]; omega) (by simpa [Fit] using hf)
theorem roles_fit {l : List POp} {t : List PTok} (h0 : tblOk l = 0) {ts : List TkP} (ht : ToksAre l t 0 ts) (hf : Fit true 0 ts) : (rolesZ l t).2 = -1 := by
 have hu := uniq_of_ok h0
 have hlen := toksAre_len ht
 have hs := seg_of hu ts 0 0 ht hf rfl
 obtain ⟨s1, s2⟩ := fit_state hu ts 0 0 ht hf rfl
 have hend := toksAre_drop (u := ts) (ts := []) (i := 0) (by simpa using ht)
 simp only [ToksAre, Nat.zero_add] at hend s1 s2
 have hall : ∀ j, j < t.length → 0 ≤ roleAt l t j (stAt l t j) := fun j hj => by
  by_cases e : j < ts.length
  ·obtain ⟨tk, htk⟩ : ∃ tk, ts[j]? = some tk := ⟨_, List.getElem?_eq_getElem e⟩
   have := (seg_at hs htk).2
   rw [Nat.zero_add, roles_at hj] at this
   rw [this]; exact role_ge tk
  ·obtain rfl : j = ts.length := by omega
   rw [s1]
   simp [roleAt, hend.2, s2, hend.1]
 have hb := firstBad_none hall
 have he : endsOk t = true := by
  have e1 : t.length - 1 = ts.length := by omega
  simp only [endsOk, e1, hend.2, Bool.and_eq_true, decide_eq_true_eq, and_true]
  omega
 unfold rolesZ
 rw [if_neg (by omega), hb]
 simp only
 rw [if_pos he]
theorem seg_unique {l : List POp} {t : List PTok} {rs : List Int} (hu : Uniq l) : ∀ (ts ts' : List TkP) (i : Nat), SegIs l t rs i ts → SegIs l t rs i ts' → ts.length = ts'.length → ts = ts'
 | [], [], _, _, _, _ => rfl
 | tk :: r, tk' :: r', i, h, h', hl => by
  have e := seg_unique hu r r' (i + 1) h.2.2 h'.2.2 (by simpa using hl)
  have e2 : tk = tk' := by
   have q := h.1
   have q' := h'.1
   have hr : roleT tk = roleT tk' := h.2.1.symm.trans h'.2.1
   have opq : ∀ {o o' : POp} {k : Int}, o.text = (tokAt t i).text → o'.text = (tokAt t i).text → o.kind = k → o'.kind = k → (∃ j, j < l.length ∧ opAt l j = o) → (∃ j, j < l.length ∧ opAt l j = o') → o = o' := fun {o o' k} a1 a2 a3 a4 a5 a6 => by
    have p1 := (op_unique hu a1 a5).2
    have p2 := (op_unique hu a2 a6).2
    rw [a3] at p1
    rw [a4] at p2
    rw [← p1, p2]
   cases tk <;> cases tk' <;> simp only [roleT] at hr <;> simp only [TokIs] at q q' <;> first | omega | rfl | skip
   ·rw [q.2, q'.2]
   ·rw [opq q.2.1 q'.2.1 q.2.2.1 q'.2.2.1 q.2.2.2 q'.2.2.2]
   ·rw [opq q.2.1 q'.2.1 q.2.2.1 q'.2.2.1 q.2.2.2 q'.2.2.2]
   ·rw [opq q.2.1 q'.2.1 q.2.2.1 q'.2.2.1 q.2.2.2 q'.2.2.2]
  rw [e, e2]
 | [], _ :: _, _, _, _, hl => by simp at hl
 | _ :: _, [], _, _, _, hl => by simp at hl
theorem toksZ_eq {l : List POp} {t : List PTok} (h0 : tblOk l = 0) {ts : List TkP} (ht : ToksAre l t 0 ts) (hf : Fit true 0 ts) : toksZ l t = ts := by
 have hu := uniq_of_ok h0
 obtain ⟨h1, h2⟩ := toksZ_ok ⟨ts, ht, hf⟩
 have l1 := toksAre_len h1
 have l2 := toksAre_len ht
 exact seg_unique hu _ _ 0 (seg_of hu _ 0 0 h1 h2 rfl) (seg_of hu _ 0 0 ht hf rfl) (by omega)
theorem tokIs_kind {l : List POp} {k : PTok} {tk : TkP} (h : TokIs l k tk) : k.kind ≠ 6 := by
 cases tk with
 | leaf b => have := h.1; omega
 | opn => have h : _ = _ := h; omega
 | cls => have h : _ = _ := h; omega
 | pre o => have := h.1; omega
 | inf o => have := h.1; omega
 | post o => have := h.1; omega
theorem toks_bad {l : List POp} {t : List PTok} : ∀ (ts : List TkP) (i : Nat), ToksAre l t i ts → ∀ j, i ≤ j → j < t.length → (tokAt t j).kind ≠ 6
 | [], i, h, j, h1, h2 => by
  have h3 := h.1
  have h4 := h.2
  obtain rfl : j = i := by omega
  omega
 | tk :: r, i, h, j, h1, h2 => by
  by_cases e : j = i
  ·subst e; exact tokIs_kind h.1
  ·exact toks_bad r (i + 1) h.2 j (by omega) h2
structure Reads (l : List POp) (e : PT) (z : ByteArray) : Prop where
 bad : badAt (lexZ l z) = none
 roles : (rolesZ l (lexZ l z)).2 = -1
 toks : toksZ l (lexZ l z) = e.yield
 len : z.size ≤ 20000
theorem reads_join {l : List POp} (h0 : tblOk l = 0) {e : PT} {ps : List (ByteArray × TkP)} {g : ByteArray} (hp : ps.map (·.2) = e.yield) (hk : ∀ tk, tk ∈ e.yield → TkOk l tk) (hj : JoinOk l (ps.map fun x => (x.1, tkW x.2)) g) (hz : (joinW (ps.map fun x => (x.1, tkW x.2)) g).size ≤ 20000) : Reads l e (joinW (ps.map fun x => (x.1, tkW x.2)) g) := by
 have hl := lexZ_join h0 hj hz
 have ht := toks_tokL (ok_of_ok h0) g ps [] fun x hx => hk x.2 (by rw [← hp]; exact List.mem_map.2 ⟨x, hx, rfl⟩)
 simp only [List.nil_append, List.length_nil] at ht
 rw [hp] at ht
 have hf : Fit true 0 e.yield := by
  have := yield_fit e 0 [] (by simp [Fit])
  simpa using this
 refine ⟨?_, ?_, ?_, hz⟩
 ·rw [hl]; exact badAt_none fun j hj => toks_bad _ 0 ht j (by omega) hj
 ·rw [hl]; exact roles_fit h0 ht hf
 ·rw [hl]; exact toksZ_eq h0 ht hf
theorem Reads.adm {l : List POp} {e : PT} {z : ByteArray} (h : Reads l e z) (h0 : tblOk l = 0) (ha : e.Adm lvO) (hh : highT e ≤ 1000) : parZ l z = (lay e [], 0, 0) := by
 have F := fits_of h0 h.roles
 have hp : partT l (lexZ l z) = some e := by
  unfold partT
  rw [h.toks]
  exact Ops.build_complete lvO (good_of_ok h0) e _ (Nat.le_refl _) (F.all e h.toks.symm) ha
 rw [parZ, if_neg (by omega), if_neg (by have := h.len; omega), parK_ok h.bad h.roles hp hh]
theorem Reads.only {l : List POp} {e : PT} {z : ByteArray} (h : Reads l e z) (h0 : tblOk l = 0) (hc : (parZ l z).2.1 = 0) : ∃ e', e'.Adm lvO ∧ e'.yield = e.yield ∧ LeavesOk e' ∧ e'.All lvO (InL l) ∧ KindsOk e' ∧ highT e' ≤ 1000 ∧ (parZ l z).1 = lay e' [] := by
 have F := fits_of h0 h.roles
 rw [parZ, if_neg (by omega), if_neg (by have := h.len; omega)] at hc ⊢
 cases hp : partT l (lexZ l z) with
 | none => rw [parK_none h.bad h.roles hp] at hc; simp at hc
 | some e' =>
  obtain ⟨g1, g2, g3, g4, g5⟩ := partT_ok F hp
  by_cases hh : highT e' ≤ 1000
  ·rw [parK_ok h.bad h.roles hp hh]
   exact ⟨e', g1, by rw [g2, h.toks], g3, g4, g5, hh, rfl⟩
  ·rw [parK_high h.bad h.roles hp hh] at hc; simp at hc
end Go.Proofs.YtjdmmhcogmepaaaGreatDoor.V
namespace Go.Proofs.YtjdmmhcogmepaaaGreatDoor.V
open Go.RowKit
open Go.Proofs.YtjdmmhcogmepaaaGreatDoor.Ops (Tr)
set_option linter.unusedVariables false
set_option linter.unusedSimpArgs false
set_option linter.constructorNameAsVariable false
def adoptM (mem : List (Option Ob)) (j : Nat) (ob : Ob) (c ty sz : Nat) (g : Nat → List AV) : List (Option Ob) := mem.set j (some { ob with f := fun _ => (ob.f 0).set c (.own mem.length) }) ++ [some ⟨ty, sz, 0, g⟩]
theorem memRel_adopt {B : Nat → Prop} {w : World} {hd : Nat → Value} {mem : List (Option Ob)} (h : MemRel B w hd mem) {j : Nat} {ob : Ob} (hj : mem[j]? = some (some ob)) (hn : ob.n = 1) {c : Nat} (hc : (ob.f 0)[c]? = some (.lit (.slice none 0 0))) (ty sz : Nat) (hsz : 0 < sz) (g : Nat → List AV) :
  ∃ HD : Nat → Value, (∀ k, k < mem.length → HD k = hd k) ∧ TailEq hd HD ∧ (HD mem.length).ownBlock = none ∧ MemRel B w HD (adoptM mem j ob c ty sz g) ∧ (∀ {av : AV} {u : Value}, Rep w (okOf mem hd) hd mem.length av u → Rep w (okOf (adoptM mem j ob c ty sz g) HD) HD (adoptM mem j ob c ty sz g).length av u) ∧
   (∀ k o', (adoptM mem j ob c ty sz g)[k]? = some (some o') → k < mem.length → ∃ o, mem[k]? = some (some o)) ∧ (adoptM mem j ob c ty sz g).length = mem.length + 1 := by
 obtain ⟨HD, hHD⟩ : ∃ HD : Nat → Value, HD = fun k => if k = mem.length then .slice none 0 0 else hd k := ⟨_, rfl⟩
 have hlow : ∀ k, k < mem.length → HD k = hd k := fun k hk => by rw [hHD]; exact if_neg (by omega)
 have hnew : HD mem.length = .slice none 0 0 := by rw [hHD]; exact if_pos rfl
 have heqT : TailEq hd HD := ⟨mem.length + 1, fun k hk => by rw [hHD]; exact if_neg (by omega)⟩
 have hjl : j < mem.length := (List.getElem?_eq_some_iff.1 hj).1
 obtain ⟨mem', hmem'⟩ : ∃ mem', mem' = adoptM mem j ob c ty sz g := ⟨_, rfl⟩
 rw [← hmem']
 have hlen' : mem'.length = mem.length + 1 := by rw [hmem']; simp [adoptM]
 have live : ∀ k o', mem'[k]? = some (some o') → (k = mem.length ∧ o' = ⟨ty, sz, 0, g⟩) ∨ (k < mem.length ∧ k ≠ j ∧ mem[k]? = some (some o')) ∨ (k = j ∧ o' = { ob with f := fun _ => (ob.f 0).set c (.own mem.length) }) := by
  intro k o' hk
  rw [hmem', adoptM, List.getElem?_append] at hk
  simp only [List.length_set] at hk
  split at hk
  ·rename_i hkl
   by_cases e : j = k
   ·subst e
    rw [List.getElem?_set_self hjl] at hk
    simp only [Option.some.injEq] at hk
    exact .inr (.inr ⟨rfl, hk.symm⟩)
   ·rw [List.getElem?_set_ne e] at hk
    exact .inr (.inl ⟨hkl, fun e2 => e e2.symm, hk⟩)
  ·rename_i hkl
   have : k = mem.length := by
    have := (List.getElem?_eq_some_iff.1 hk).1
    simp at this; omega
   subst this
   simp at hk
   exact .inl ⟨rfl, hk.symm⟩
 have old : ∀ k o', mem'[k]? = some (some o') → k < mem.length → ∃ o, mem[k]? = some (some o) := by
  intro k o' hk hkl
  rcases live k o' hk with ⟨e, _⟩ | ⟨_, _, h2⟩ | ⟨rfl, _⟩
  ·omega
  ·exact ⟨o', h2⟩
  ·exact ⟨ob, hj⟩
 have hok : ∀ ad u, okOf mem hd ad.block → w.cell? ad = some u → w.cell? ad = some u ∧ okOf mem' HD ad.block := by
  intro ad u ho hcl
  refine ⟨hcl, fun k o' hk e => ?_, ho.2.eq heqT⟩
  by_cases hkl : k < mem.length
  ·obtain ⟨o, h1⟩ := old k o' hk hkl
   rw [hlow k hkl] at e
   exact ho.1 k o h1 e
  ·have : k = mem.length := by have := (List.getElem?_eq_some_iff.1 hk).1; omega
   subst this
   rw [hnew] at e; simp [Value.ownBlock] at e
 have hle : mem.length ≤ mem'.length := by omega
 have ltOf : ∀ k o', mem'[k]? = some (some o') → k < mem.length + 1 := fun k o' hk => by rw [← hlen']; exact (List.getElem?_eq_some_iff.1 hk).1
 refine ⟨HD, hlow, heqT, by rw [hnew]; rfl, ⟨fun k o' hk b hb => ?_, fun k o' hk => ?_, fun k hk => ?_, fun k k' o o' hk hk' hne => ?_⟩, fun hr => hr.mono hok hlow hle, old, hlen'⟩
 ·by_cases hkl : k < mem.length
  ·obtain ⟨o, h1⟩ := old k o' hk hkl
   rw [hlow k hkl] at hb
   exact h.alw k o h1 b hb
  ·have : k = mem.length := by have := ltOf k o' hk; omega
   subst this
   rw [hnew] at hb; simp [Value.ownBlock] at hb
 ·rcases live k o' hk with ⟨rfl, rfl⟩ | ⟨hkl, _, h2⟩ | ⟨rfl, rfl⟩
  ·rw [hnew]
   exact ⟨hsz, [], ⟨by simp, .inl ⟨rfl, rfl⟩⟩, fun i hi => by simp at hi⟩
  ·obtain ⟨hs, vals, ho, hr⟩ := h.obs k o' h2
   rw [hlow k hkl]
   refine ⟨hs, vals, ho, fun i hi => ⟨(hr i hi).1, fun q av hq => ?_⟩⟩
   obtain ⟨u, g1, g2, g3⟩ := (hr i hi).2 q av hq
   exact ⟨u, g1, g2, g3.mono hok hlow hle⟩
  ·obtain ⟨hs, vals, ho, hr⟩ := h.obs k ob hj
   rw [hlow k hjl]
   refine ⟨hs, vals, ho, fun i hi => ?_⟩
   have hi0 : i = 0 := by have hi' : i < ob.n := hi; omega
   subst hi0
   obtain ⟨q1, q2⟩ := hr 0 hi
   refine ⟨by simpa using q1, fun q av hq => ?_⟩
   simp only at hq
   by_cases e : c = q
   ·subst e
    have hcl : c < (ob.f 0).length := (List.getElem?_eq_some_iff.1 hc).1
    rw [List.getElem?_set_self hcl] at hq
    simp only [Option.some.injEq] at hq
    subst hq
    obtain ⟨u, g1, g2, g3⟩ := q2 c _ hc
    cases g3
    refine ⟨_, g1, g2, ?_⟩
    rw [← hnew]
    exact .own _ (by show mem.length < mem'.length; omega)
   ·rw [List.getElem?_set_ne e] at hq
    obtain ⟨u, g1, g2, g3⟩ := q2 q av hq
    exact ⟨u, g1, g2, g3.mono hok hlow hle⟩
 ·by_cases hkl : k < mem.length
  ·rw [hlow k hkl]; exact h.hds k hkl
  ·have : k = mem.length := by have hk' : k < mem'.length := hk; omega
   subst this
   exact ⟨none, 0, 0, hnew⟩
 ·by_cases e1 : k = mem.length
  ·subst e1; rw [hnew]; exact .inl rfl
  ·by_cases e2 : k' = mem.length
   ·subst e2
    rw [hnew]
    cases hq : (HD k).ownBlock with
    | none => exact .inl rfl
    | some b => exact .inr (by simp [Value.ownBlock])
   ·have l1 : k < mem.length := by have := ltOf k o hk; omega
    have l2 : k' < mem.length := by have := ltOf k' o' hk'; omega
    obtain ⟨o1, h1⟩ := old k o hk l1
    obtain ⟨o2, h2⟩ := old k' o' hk' l2
    rw [hlow k l1, hlow k' l2]
    exact h.apart k k' o1 o2 h1 h2 hne
theorem VProc.adopt {P : Program} {f : FuncId} {args : List AV} {mem : List (Option Ob)} {maps0 : List (Nat × Mp)} {R : AV → List (Option Ob) → List (Nat × Mp) → Prop} {j : Nat} {ob : Ob} {c ty sz : Nat} {g : Nat → List AV}
  (h : VProc P f args (adoptM mem j ob c ty sz g) maps0 R) (hj : mem[j]? = some (some ob)) (hn : ob.n = 1) (hc : (ob.f 0)[c]? = some (.lit (.slice none 0 0))) (hsz : 0 < sz) : VProc P f args mem maps0 R := by
 refine ⟨h.1, fun w vs hd0 hl hv hm hmp htl => ?_⟩
 obtain ⟨HD, h1, h1', h2, h3, h4, h5, h6⟩ := memRel_adopt hm hj hn hc ty sz hsz g
 have hsh : ∀ b, Sh w HD (adoptM mem j ob c ty sz g) maps0 b → Sh w hd0 mem maps0 b := by
  rintro b (q | ⟨k, o, hk, hb⟩ | q)
  ·exact .inl q
  ·have hkl := (List.getElem?_eq_some_iff.1 hk).1
   by_cases e : k < mem.length
   ·obtain ⟨o', ho⟩ := h5 k o hk e
    exact .inr (.inl ⟨k, o', ho, by rw [← h1 k e]; exact hb⟩)
   ·have : k = mem.length := by omega
    subst this
    rw [h2] at hb; cases hb
  ·exact .inr (.inr q)
 have htl' : TailNot HD (Sh w HD (adoptM mem j ob c ty sz g) maps0) := by
  obtain ⟨K, hK⟩ := htl
  obtain ⟨M, hM⟩ := h1'
  refine ⟨K + M, fun k hk b hb hs => ?_⟩
  rw [hM k (by omega)] at hb
  exact hK k (by omega) b hb (hsh b hs)
 refine (h.2 w vs HD hl (fun j a u ha hu => h4 (hv j a u ha hu)) h3 hmp htl').mono fun e w' ⟨v, e1, bel, hd, av, mm, maps, r, po, hfix, hmr, hmap, hrep⟩ => ?_
 refine ⟨v, e1, bel.weak hsh, hd, av, mm, maps, r, ⟨by have := po.len; omega, po.flat, po.cells, po.maps⟩, ⟨fun k hk => (hfix.1 k (by omega)).trans (h1 k hk), h1'.trans hfix.2⟩, ⟨fun k o hk b hb => hsh b (hmr.alw k o hk b hb), hmr.obs, hmr.hds, hmr.apart⟩, fun b mp hb => ?_, hrep⟩
 obtain ⟨q1, q2⟩ := hmap b mp hb
 exact ⟨hsh b q1, q2⟩
end Go.Proofs.YtjdmmhcogmepaaaGreatDoor.V
namespace Go.Proofs.YtjdmmhcogmepaaaGreatDoor.V
open Go.RowKit
open Go.Proofs.YtjdmmhcogmepaaaGreatDoor.Ops (Tr)
set_option linter.unusedVariables false
set_option linter.unusedSimpArgs false
set_option linter.constructorNameAsVariable false
structure PWord where
 text : ByteArray
 infix_ : Bool
 op : Bool
deriving Inhabited
def PWord.cells (o : PWord) : List AV := [.lit (.string o.text), .lit (.bool o.infix_), .lit (.bool o.op)]
def wdAt (t : List PWord) (i : Nat) : PWord := t.getD i default
def wdCells (l : List PWord) (i : Nat) : List AV := (l.getD i default).cells
@[go_sem] theorem wdCells_ren (f : Nat → Nat) (l : List PWord) (i : Nat) : (wdCells l i).map (ren1 f) = wdCells l i := rfl
def lpar : PWord := ⟨⟨#[40]⟩, false, false⟩
def rpar : PWord := ⟨⟨#[41]⟩, false, false⟩
def opWord (o : POp) : PWord := ⟨o.text, decide (o.kind = 2), true⟩
def yieldW : ET → List PWord
 | .leaf b => [⟨b.2, false, false⟩]
 | .grp e => lpar :: (yieldW e ++ [rpar])
 | .pre o e => opWord o :: yieldW e
 | .post o e => yieldW e ++ [opWord o]
 | .inf o x y => yieldW x ++ opWord o :: yieldW y
theorem yieldW_len : ∀ e : ET, (yieldW e).length ≤ 2 * sizeE e
 | .leaf b => by simp [yieldW, sizeE]
 | .grp e => by have := yieldW_len e; simp [yieldW, sizeE]; omega
 | .pre o e => by have := yieldW_len e; simp [yieldW, sizeE]; omega
 | .post o e => by have := yieldW_len e; simp [yieldW, sizeE]; omega
 | .inf o x y => by have := yieldW_len x; have := yieldW_len y; simp [yieldW, sizeE]; omega
def IsN (T : List PNode) (n : Nat) (f : Nat → List AV) : Prop := n = T.length ∧ ∀ j, j < n → f j = nodCells T j
def IsW (T : List PWord) (n : Nat) (f : Nat → List AV) : Prop := n = T.length ∧ ∀ j, j < n → f j = wdCells T j
theorem IsN.refl (T : List PNode) {n : Nat} (h : n = T.length := by simp) : IsN T n (nodCells T) := ⟨h, fun _ _ => rfl⟩
theorem IsW.refl (T : List PWord) {n : Nat} (h : n = T.length := by simp) : IsW T n (wdCells T) := ⟨h, fun _ _ => rfl⟩
theorem IsN.app {T : List PNode} {n : Nat} {f : Nat → List AV} (h : IsN T n f) (o : PNode) {g : Nat → List AV} (hg : g 0 = o.cells) : IsN (T ++ [o]) (n + 1) (joinF n f g) := by
 refine ⟨by rw [h.1]; simp, fun j hj => ?_⟩
 unfold joinF
 by_cases e : j < n
 ·rw [if_pos e, h.2 j e]
  have := h.1
  unfold nodCells
  rw [List.getD_eq_getElem?_getD, List.getD_eq_getElem?_getD, List.getElem?_append_left (by omega)]
 ·have e1 : j = T.length := by have := h.1; omega
  have e2 : j - n = 0 := by omega
  rw [if_neg e, e2, hg, e1]
  simp [nodCells]
theorem IsW.app {T : List PWord} {n : Nat} {f : Nat → List AV} (h : IsW T n f) (o : PWord) {g : Nat → List AV} (hg : g 0 = o.cells) : IsW (T ++ [o]) (n + 1) (joinF n f g) := by
 refine ⟨by rw [h.1]; simp, fun j hj => ?_⟩
 unfold joinF
 by_cases e : j < n
 ·rw [if_pos e, h.2 j e]
  have := h.1
  unfold wdCells
  rw [List.getD_eq_getElem?_getD, List.getD_eq_getElem?_getD, List.getElem?_append_left (by omega)]
 ·have e1 : j = T.length := by have := h.1; omega
  have e2 : j - n = 0 := by omega
  rw [if_neg e, e2, hg, e1]
  simp [wdCells]
end Go.Proofs.YtjdmmhcogmepaaaGreatDoor.V
namespace Go.Proofs.YtjdmmhcogmepaaaGreatDoor.V
open Go.RowKit
open Go.Proofs.YtjdmmhcogmepaaaGreatDoor.Ops (Tr)
set_option linter.unusedVariables false
set_option linter.unusedSimpArgs false
set_option linter.constructorNameAsVariable false
def PWord.cellsY (o : PWord) : List AV := [.lit (.string o.text), .lit (.bool o.op), .lit (.bool o.infix_)]
def ysCells (l : List PWord) (i : Nat) : List AV := (l.getD i default).cellsY
theorem ysCells_at (l : List PWord) (i : Nat) : ysCells l i = [.lit (.string (wdAt l i).text), .lit (.bool (wdAt l i).op), .lit (.bool (wdAt l i).infix_)] := rfl
theorem ysLit (l : List PWord) (i : Nat) : (ysCells l i).all isLit = true := rfl
@[go_sem] theorem ysCells_ren (f : Nat → Nat) (l : List PWord) (i : Nat) : (ysCells l i).map (ren1 f) = ysCells l i := rfl
def ysRow (t : List PWord) : Option Ob := some ⟨83, 3, t.length, ysCells t⟩
theorem ys_app {T : List PWord} {n : Nat} {g : Nat → List AV} (o : PWord) (hn : n = T.length) (hg : g 0 = o.cellsY) (j : Nat) (hj : j < n + 1) : joinF n (ysCells T) g j = ysCells (T ++ [o]) j := by
 subst hn
 unfold joinF
 by_cases e : j < T.length
 ·rw [if_pos e]
  unfold ysCells
  rw [List.getD_eq_getElem?_getD, List.getD_eq_getElem?_getD, List.getElem?_append_left e]
 ·have e1 : j = T.length := by omega
  subst e1
  rw [if_neg e, Nat.sub_self, hg]
  simp [ysCells]
theorem sh0Y {idx : Nat → Nat} {m k : Nat} {T : List PWord} : ∀ i, i < k → CellsRn idx m (ysCells T i) (ysCells T i) := fun i _ => cellsRn_lits (ysLit _ i)
theorem sh1Y {idx : Nat → Nat} {m n k : Nat} {T T' : List PWord} {g : Nat → List AV} (o : PWord) (hn : n = T'.length) (hg : g 0 = o.cellsY) (e : T' ++ [o] = T) (hk : k = T.length) : ∀ i, i < k → CellsRn idx m (joinF n (ysCells T') g i) (ysCells T i) := fun i hi => by
 subst e; subst hk
 rw [ys_app o hn hg i (by rw [hn]; simpa using hi)]
 exact cellsRn_lits (ysLit _ i)
theorem out0Y {idx : Nat → Nat} {ks : List Nat} {T : List PWord} {n ty : Nat} : OutAt idx ks ⟨ty, 3, n, ysCells T⟩ (some (some ⟨ty, 3, n, ysCells T⟩)) := outAt_lits (fun _ _ => rfl) (fun j _ => ysLit _ j)
theorem out1Y {idx : Nat → Nat} {ks : List Nat} {T T' : List PWord} {g : Nat → List AV} {n k ty : Nat} (o : PWord) (hn : n = T'.length) (hg : g 0 = o.cellsY) (e : T' ++ [o] = T) (hk : k = T.length) : OutAt idx ks ⟨ty, 3, k, ysCells T⟩ (some (some ⟨ty, 3, k, joinF n (ysCells T') g⟩)) := by
 subst e; subst hk
 exact outAt_lits (fun i hi => ys_app o hn hg i (by rw [hn]; simpa using hi)) (fun j _ => ysLit _ j)
def YOk (g : List PNode) (e : ET) : Prop := ∀ pre : List PNode, (∀ j, j < (lay e pre).length → nodAt g j = nodAt (lay e pre) j) → (lay e pre).length ≤ g.length → ∀ (ws : List PWord), ws.length + 2 * sizeE e ≤ 6000000 →
 VProc Tryz.prog 47 [.sl 4 g.length (nodCells g), .lit (.int .i64 ((lay e pre).length - 1 : Nat)), .own 0] [ysRow ws] [] (fun av mem maps => av = .own 1 ∧ mem = [none, ysRow (ws ++ yieldW e)] ∧ maps = [])
theorem layPre {e : ET} {pre : List PNode} {g : List PNode} {n : PNode} (hn : ∀ j, j < (lay e pre ++ [n]).length → nodAt g j = nodAt (lay e pre ++ [n]) j) : (∀ j, j < (lay e pre).length → nodAt g j = nodAt (lay e pre) j) ∧ nodAt g (lay e pre).length = n := by
 refine ⟨fun j hj => ?_, ?_⟩
 ·rw [hn j (by simp; omega)]
  simp only [nodAt, List.getD_eq_getElem?_getD]
  rw [List.getElem?_append_left hj]
 ·rw [hn _ (by simp), nodAt_end _ _ rfl]
set_option maxRecDepth 100000 in
theorem yield_leaf (g : List PNode) (hg : g.length ≤ 1048576) (b : Int × ByteArray) (hk : b.1 = 1 ∨ b.1 = 2) : YOk g (.leaf b) := by
 have clg : ∀ (i : Nat) (c : AV), i < g.length → c ∈ nodCells g i → Closed c := fun i c _ h => nodClosed g i c h
 intro pre hn hl ws hw
 have hn' := hn pre.length (by simp [lay])
 simp only [lay] at hn' hl
 rw [nodAt_end _ _ rfl] at hn'
 simp only [List.length_append, List.length_singleton] at hl
 have hi : (lay (.leaf b) pre).length - 1 = pre.length := by simp [lay]
 rw [hi]
 generalize hq : pre.length = q at *
 have c1 := c_l3IsOp (nodAt g q)
 have c2 := c_l3Kids b.1
 have e1 : isOpN (nodAt g q) = false := by simp [isOpN, hn']; omega
 rw [hn'] at e1
 have k0 : kidsN b.1 = 0 := by rcases hk with h | h <;> simp [kidsN, h]
 have k4 : (b.1 == 4) = false := by rcases hk with h | h <;> simp [h]
 simp only [PNode.cells, hn', sizeE, yieldW, ysRow] at c1 hw ⊢
 refine vproc_start Tryz.func47 (by kernel_rfl) rfl (by simp [Tryz.ntmps47]) ?_; simp only [Tryz.ntmps47, Tryz.results47]; simp [go_sem]
 simp [nodCells_at, hn']
 refine ⟨by omega, ?_⟩
 refine vc_drawnE (⟨[(2, .own 0), (7, .ptr 1 4 0 0), (8, .ptr 2 3 0 0)], [ysRow ws, some ⟨77, 4, 1, fun _ => [.lit (.int .i64 b.1), .lit (.string b.2), .lit (.int .i64 0), .lit (.int .i64 0)]⟩, some ⟨83, 3, 1, fun _ => [.lit (.string b.2), .lit (.bool false), .lit (.bool false)]⟩], [], 1⟩) [9] (.q 0 <| .q 1 <| .q 2 <| .q 4 <| .q 5 <| .q 6 <| .or 3 (.q 7 <| .or 8 (.or 9 (.done) (.nil)) (.nil)) (.or 8 (.or 3 (.q 7 <| .or 9 (.done) (.nil)) (.nil)) (.nil))) (by kernel_rfl) ?_ ?_
 ·simp [go_sem]
  refine ⟨vcallV_pure c1 ?_ ?_, vcallV_pure c1 ?_ ?_⟩
  ·simp [go_sem]
  ·simp [go_sem, e1, k4]
   refine ent_ks [0, 1, 2] (by simp) (by simp) (by simp) (by simp) (by simp [go_sem]) ?_ ?_
   ·simp [go_sem]
   ·simp [go_sem, ysRow]
    exact .inr sh0Y
  ·simp [go_sem]
  ·simp [go_sem, e1, k4]
   refine ent_ks [0, 1, 2] (by simp) (by simp) (by simp) (by simp) (by simp [go_sem]) ?_ ?_
   ·simp [go_sem]
   ·simp [go_sem, ysRow]
    exact .inr sh0Y
 ·simp [go_sem, ysRow]
  refine vcall_pure c2 ?_ ?_
  ·simp [go_sem]
  ·simp [go_sem, k0]
   refine ⟨by omega, by omega, ?_⟩
   refine ⟨rfl, [4], [none, ysRow (ws ++ [⟨b.2, false, false⟩])], by simp, by simp, by simp [go_sem], ?_, by simp [go_sem], ?_⟩
   ·simp [go_sem, ysRow]
    exact out1Y ⟨b.2, false, false⟩ rfl rfl rfl (by simp)
   ·simp [go_sem, ysRow]
end Go.Proofs.YtjdmmhcogmepaaaGreatDoor.V
namespace Go.Proofs.YtjdmmhcogmepaaaGreatDoor.V
open Go.RowKit
open Go.Proofs.YtjdmmhcogmepaaaGreatDoor.Ops (Tr)
set_option linter.unusedVariables false
set_option linter.unusedSimpArgs false
set_option linter.constructorNameAsVariable false
set_option maxRecDepth 100000 in
theorem yield_pre (g : List PNode) (hg : g.length ≤ 1048576) {o : POp} {e : ET} (hk : o.kind = 1) (ih : YOk g e) : YOk g (.pre o e) := by
 have clg : ∀ (i : Nat) (c : AV), i < g.length → c ∈ nodCells g i → Closed c := fun i c _ h => nodClosed g i c h
 obtain ⟨z, k, lv, sd⟩ := o
 simp only at hk
 subst hk
 intro pre hn hl ws hw
 simp only [lay] at hn hl ⊢
 obtain ⟨hsub, hn''⟩ := layPre hn
 have hle1 := lay_len e pre
 have hp := sizeE_pos e
 have hyl := yieldW_len e
 simp only [List.length_append, List.length_singleton, Nat.add_sub_cancel] at hl ⊢
 simp only [sizeE] at hw
 have ih1 := ih pre hsub (by omega) (ws ++ [⟨z, false, true⟩]) (by simp; omega)
 have hn' : nodAt g (lay e pre).length = ⟨z, 3, ((lay e pre).length : Int) - 1, 0⟩ := by rw [hn'']; rfl
 generalize hq : (lay e pre).length = q at *
 have ea : (q : Int) - 1 = ((q - 1 : Nat) : Int) := by omega
 have c1 := c_l3IsOp (nodAt g q)
 have c2 := c_l3Kids 3
 have e1 : isOpN (nodAt g q) = true := by simp [isOpN, hn']
 have kk : kidsN 3 = 1 := by simp [kidsN]
 rw [hn'] at e1
 simp only [PNode.cells, hn', yieldW, ysRow] at c1 ⊢
 refine vproc_start Tryz.func47 (by kernel_rfl) rfl (by simp [Tryz.ntmps47]) ?_; simp only [Tryz.ntmps47, Tryz.results47]; simp [go_sem]
 simp [nodCells_at, hn']
 refine ⟨by omega, ?_⟩
 refine vc_drawnE (⟨[(0, .sl 4 g.length (nodCells g)), (2, .own 0), (7, .ptr 1 4 0 0), (8, .ptr 2 3 0 0)], [ysRow ws, some ⟨77, 4, 1, fun _ => [.lit (.int .i64 3), .lit (.string z), .lit (.int .i64 ((q : Int) - 1)), .lit (.int .i64 (0))]⟩, some ⟨83, 3, 1, fun _ => [.lit (.string z), .lit (.bool true), .lit (.bool false)]⟩], [], 1⟩) [9] (.q 0 <| .q 1 <| .q 2 <| .q 4 <| .q 5 <| .q 6 <| .or 3 (.q 7 <| .or 8 (.or 9 (.done) (.nil)) (.nil)) (.or 8 (.or 3 (.q 7 <| .or 9 (.done) (.nil)) (.nil)) (.nil))) (by kernel_rfl) ?_ ?_
 ·simp [go_sem]
  refine ⟨vcallV_pure c1 ?_ ?_, vcallV_pure c1 ?_ ?_⟩
  ·simp [go_sem]
  ·simp [go_sem, e1]
   refine ent_ks [0, 1, 2] (by simp) (by simp) (by simp) (by simp) (by simp [go_sem]) ?_ ?_
   ·simp [go_sem]
    exact clg
   ·simp [go_sem, ysRow]
    exact .inr sh0Y
  ·simp [go_sem]
  ·simp [go_sem, e1]
   refine ent_ks [0, 1, 2] (by simp) (by simp) (by simp) (by simp) (by simp [go_sem]) ?_ ?_
   ·simp [go_sem]
    exact clg
   ·simp [go_sem, ysRow]
    exact .inr sh0Y
 ·simp [go_sem, ysRow]
  refine vcall_pure c2 ?_ ?_
  ·simp [go_sem]
  ·simp [go_sem, kk]
   refine vc_drawnE (⟨[(6, .own 1)], [none, ysRow (ws ++ [⟨z, false, true⟩] ++ yieldW e)], [], 1⟩) [6,7] (.q 3 <| .q 4 <| .or 0 (.or 1 (.or 2 (.or 5 (.or 6 (.or 7 (.q 8 <| .done) (.nil)) (.nil)) (.nil)) (.or 5 (.or 2 (.or 6 (.or 7 (.q 8 <| .done) (.nil)) (.nil)) (.or 6 (.q 2 <| .or 7 (.q 8 <| .done) (.nil)) (.nil))) (.nil))) (.or 5 (.or 1 (.or 2 (.or 6 (.or 7 (.q 8 <| .done) (.nil)) (.nil)) (.or 6 (.q 2 <| .or 7 (.q 8 <| .done) (.nil)) (.nil))) (.or 6 (.q 1 <| .q 2 <| .or 7 (.q 8 <| .done) (.nil)) (.nil))) (.nil))) (.or 1 (.or 0 (.or 2 (.or 5 (.or 6 (.or 7 (.q 8 <| .done) (.nil)) (.nil)) (.nil)) (.or 5 (.or 2 (.or 6 (.or 7 (.q 8 <| .done) (.nil)) (.nil)) (.or 6 (.q 2 <| .or 7 (.q 8 <| .done) (.nil)) (.nil))) (.nil))) (.or 2 (.or 0 (.or 5 (.or 6 (.or 7 (.q 8 <| .done) (.nil)) (.nil)) (.nil)) (.or 5 (.or 0 (.or 6 (.or 7 (.q 8 <| .done) (.nil)) (.nil)) (.or 6 (.q 0 <| .or 7 (.q 8 <| .done) (.nil)) (.nil))) (.nil))) (.or 5 (.or 0 (.or 2 (.or 6 (.or 7 (.q 8 <| .done) (.nil)) (.nil)) (.or 6 (.q 2 <| .or 7 (.q 8 <| .done) (.nil)) (.nil))) (.or 2 (.or 0 (.or 6 (.or 7 (.q 8 <| .done) (.nil)) (.nil)) (.or 6 (.q 0 <| .or 7 (.q 8 <| .done) (.nil)) (.nil))) (.or 6 (.q 0 <| .q 2 <| .or 7 (.q 8 <| .done) (.nil)) (.nil)))) (.nil)))) (.or 5 (.or 0 (.or 1 (.or 2 (.or 6 (.or 7 (.q 8 <| .done) (.nil)) (.nil)) (.or 6 (.q 2 <| .or 7 (.q 8 <| .done) (.nil)) (.nil))) (.or 6 (.q 1 <| .q 2 <| .or 7 (.q 8 <| .done) (.nil)) (.nil))) (.or 1 (.or 0 (.or 2 (.or 6 (.or 7 (.q 8 <| .done) (.nil)) (.nil)) (.or 6 (.q 2 <| .or 7 (.q 8 <| .done) (.nil)) (.nil))) (.or 2 (.or 0 (.or 6 (.or 7 (.q 8 <| .done) (.nil)) (.nil)) (.or 6 (.q 0 <| .or 7 (.q 8 <| .done) (.nil)) (.nil))) (.or 6 (.q 0 <| .q 2 <| .or 7 (.q 8 <| .done) (.nil)) (.nil)))) (.or 6 (.q 0 <| .q 1 <| .q 2 <| .or 7 (.q 8 <| .done) (.nil)) (.nil)))) (.nil)))) (by kernel_rfl) ?_ ?_
   ·simp [go_sem]
    repeat' apply And.intro
    all_goals first | omega | skip
    all_goals
     refine vcall_share [4] ih1 (by simp) ?_ ?_ trivial ?_
     ·simp [go_sem, ea]
      exact clg
     ·simp [go_sem, ysRow]
      exact sh1Y ⟨z, false, true⟩ (by simp) rfl rfl (by simp)
     ·rintro av mem maps ⟨rfl, rfl, rfl⟩
      simp [go_sem, ysRow]
      refine ent_ks [0, 5] (by simp) (by simp) (by simp) (by simp) (by simp [go_sem]) ?_ ?_
      ·simp [go_sem]
      ·simp [go_sem, ysRow]
       exact .inr sh0Y
   ·simp [go_sem, ysRow]
    refine ⟨rfl, [1], [none, ysRow (ws ++ opWord ⟨z, 1, lv, sd⟩ :: yieldW e)], by simp, by simp, by simp [go_sem], ?_, by simp [go_sem], ?_⟩
    ·simp [go_sem, ysRow, opWord]
     exact out0Y
    ·simp [go_sem, ysRow]
set_option maxRecDepth 100000 in
theorem yield_post (g : List PNode) (hg : g.length ≤ 1048576) {o : POp} {e : ET} (hk : o.kind = 3) (ih : YOk g e) : YOk g (.post o e) := by
 have clg : ∀ (i : Nat) (c : AV), i < g.length → c ∈ nodCells g i → Closed c := fun i c _ h => nodClosed g i c h
 obtain ⟨z, k, lv, sd⟩ := o
 simp only at hk
 subst hk
 intro pre hn hl ws hw
 simp only [lay] at hn hl ⊢
 obtain ⟨hsub, hn''⟩ := layPre hn
 have hle1 := lay_len e pre
 have hp := sizeE_pos e
 have hyl := yieldW_len e
 simp only [List.length_append, List.length_singleton, Nat.add_sub_cancel] at hl ⊢
 simp only [sizeE] at hw
 have ih1 := ih pre hsub (by omega) (ws) (by omega)
 have hn' : nodAt g (lay e pre).length = ⟨z, 5, ((lay e pre).length : Int) - 1, 0⟩ := by rw [hn'']; rfl
 generalize hq : (lay e pre).length = q at *
 have ea : (q : Int) - 1 = ((q - 1 : Nat) : Int) := by omega
 have c1 := c_l3IsOp (nodAt g q)
 have c2 := c_l3Kids 5
 have e1 : isOpN (nodAt g q) = true := by simp [isOpN, hn']
 have kk : kidsN 5 = 1 := by simp [kidsN]
 rw [hn'] at e1
 simp only [PNode.cells, hn', yieldW, ysRow] at c1 ⊢
 refine vproc_start Tryz.func47 (by kernel_rfl) rfl (by simp [Tryz.ntmps47]) ?_; simp only [Tryz.ntmps47, Tryz.results47]; simp [go_sem]
 simp [nodCells_at, hn']
 refine ⟨by omega, ?_⟩
 refine vc_drawnE (⟨[(0, .sl 4 g.length (nodCells g)), (2, .own 0), (7, .ptr 1 4 0 0), (8, .ptr 2 3 0 0)], [ysRow ws, some ⟨77, 4, 1, fun _ => [.lit (.int .i64 5), .lit (.string z), .lit (.int .i64 ((q : Int) - 1)), .lit (.int .i64 (0))]⟩, some ⟨83, 3, 1, fun _ => [.lit (.string z), .lit (.bool true), .lit (.bool false)]⟩], [], 1⟩) [9] (.q 0 <| .q 1 <| .q 2 <| .q 4 <| .q 5 <| .q 6 <| .or 3 (.q 7 <| .or 8 (.or 9 (.done) (.nil)) (.nil)) (.or 8 (.or 3 (.q 7 <| .or 9 (.done) (.nil)) (.nil)) (.nil))) (by kernel_rfl) ?_ ?_
 ·simp [go_sem]
  refine ⟨vcallV_pure c1 ?_ ?_, vcallV_pure c1 ?_ ?_⟩
  ·simp [go_sem]
  ·simp [go_sem, e1]
   refine ent_ks [0, 1, 2] (by simp) (by simp) (by simp) (by simp) (by simp [go_sem]) ?_ ?_
   ·simp [go_sem]
    exact clg
   ·simp [go_sem, ysRow]
    exact .inr sh0Y
  ·simp [go_sem]
  ·simp [go_sem, e1]
   refine ent_ks [0, 1, 2] (by simp) (by simp) (by simp) (by simp) (by simp [go_sem]) ?_ ?_
   ·simp [go_sem]
    exact clg
   ·simp [go_sem, ysRow]
    exact .inr sh0Y
 ·simp [go_sem, ysRow]
  refine vcall_pure c2 ?_ ?_
  ·simp [go_sem]
  ·simp [go_sem, kk]
   refine vc_drawnE (⟨[(0, .sl 4 g.length (nodCells g)), (2, .own 2), (7, .ptr 1 4 0 0)], [none, some ⟨77, 4, 1, fun _ => [.lit (.int .i64 5), .lit (.string z), .lit (.int .i64 ((q : Int) - 1)), .lit (.int .i64 (0))]⟩, ysRow (ws ++ yieldW e ++ [⟨z, false, true⟩])], [], 1⟩) [7,4] (.q 0 <| .q 1 <| .q 2 <| .q 3 <| .or 4 (.q 5 <| .or 6 (.or 7 (.q 8 <| .done) (.nil)) (.nil)) (.or 5 (.or 4 (.or 6 (.or 7 (.q 8 <| .done) (.nil)) (.nil)) (.or 6 (.or 4 (.or 7 (.q 8 <| .done) (.nil)) (.nil)) (.nil))) (.nil))) (by kernel_rfl) ?_ ?_
   ·simp [go_sem]
    repeat' apply And.intro
    all_goals first | omega | skip
    all_goals
     refine vcall_share [0] ih1 (by simp) ?_ ?_ trivial ?_
     ·simp [go_sem, ea]
      exact clg
     ·simp [go_sem, ysRow]
      exact sh0Y
     ·rintro av mem maps ⟨rfl, rfl, rfl⟩
      simp [go_sem, ysRow]
      refine ⟨by omega, by omega, ?_⟩
      refine ent_ks [0, 1, 5] (by simp) (by simp) (by simp) (by simp) (by simp [go_sem]) ?_ ?_
      ·simp [go_sem]
       exact clg
      ·simp [go_sem, ysRow]
       exact .inr ⟨by omega, sh1Y ⟨z, false, true⟩ (by simp) rfl (by simp) (by simp)⟩
   ·simp [go_sem, ysRow]
    refine ⟨rfl, [2], [none, ysRow (ws ++ (yieldW e ++ [opWord ⟨z, 3, lv, sd⟩]))], by simp, by simp, by simp [go_sem], ?_, by simp [go_sem], ?_⟩
    ·simp [go_sem, ysRow, opWord]
     exact out0Y
    ·simp [go_sem, ysRow]
set_option maxRecDepth 100000 in
theorem yield_inf (g : List PNode) (hg : g.length ≤ 1048576) {o : POp} {e y : ET} (hk : o.kind = 2) (ih : YOk g e) (ihy : YOk g y) : YOk g (.inf o e y) := by
 have clg : ∀ (i : Nat) (c : AV), i < g.length → c ∈ nodCells g i → Closed c := fun i c _ h => nodClosed g i c h
 obtain ⟨z, k, lv, sd⟩ := o
 simp only at hk
 subst hk
 intro pre hn hl ws hw
 simp only [lay] at hn hl ⊢
 obtain ⟨hsuby, hn''⟩ := layPre hn
 have hle := lay_len y (lay e pre)
 have hp2 := sizeE_pos y
 have hsub : ∀ j, j < (lay e pre).length → nodAt g j = nodAt (lay e pre) j := fun j hj => by rw [hsuby j (by omega), lay_pre y _ j hj]
 have hle1 := lay_len e pre
 have hp := sizeE_pos e
 have hyl := yieldW_len e
 simp only [List.length_append, List.length_singleton, Nat.add_sub_cancel] at hl ⊢
 simp only [sizeE] at hw
 have ih1 := ih pre hsub (by omega) (ws) (by omega)
 have ih2 := ihy (lay e pre) hsuby (by omega) (ws ++ yieldW e ++ [⟨z, true, true⟩]) (by simp; omega)
 have hn' : nodAt g (lay y (lay e pre)).length = ⟨z, 4, ((lay e pre).length : Int) - 1, ((lay y (lay e pre)).length : Int) - 1⟩ := by rw [hn'']; rfl
 generalize hq : (lay y (lay e pre)).length = q at *
 generalize hr : (lay e pre).length = r at *
 have ea : (r : Int) - 1 = ((r - 1 : Nat) : Int) := by omega
 have eb : (q : Int) - 1 = ((q - 1 : Nat) : Int) := by omega
 have c1 := c_l3IsOp (nodAt g q)
 have c2 := c_l3Kids 4
 have e1 : isOpN (nodAt g q) = true := by simp [isOpN, hn']
 have kk : kidsN 4 = 2 := by simp [kidsN]
 rw [hn'] at e1
 simp only [PNode.cells, hn', yieldW, ysRow] at c1 ⊢
 refine vproc_start Tryz.func47 (by kernel_rfl) rfl (by simp [Tryz.ntmps47]) ?_; simp only [Tryz.ntmps47, Tryz.results47]; simp [go_sem]
 simp [nodCells_at, hn']
 refine ⟨by omega, ?_⟩
 refine vc_drawnE (⟨[(0, .sl 4 g.length (nodCells g)), (2, .own 0), (7, .ptr 1 4 0 0), (8, .ptr 2 3 0 0)], [ysRow ws, some ⟨77, 4, 1, fun _ => [.lit (.int .i64 4), .lit (.string z), .lit (.int .i64 ((r : Int) - 1)), .lit (.int .i64 ((q : Int) - 1))]⟩, some ⟨83, 3, 1, fun _ => [.lit (.string z), .lit (.bool true), .lit (.bool true)]⟩], [], 1⟩) [9] (.q 0 <| .q 1 <| .q 2 <| .q 4 <| .q 5 <| .q 6 <| .or 3 (.q 7 <| .or 8 (.or 9 (.done) (.nil)) (.nil)) (.or 8 (.or 3 (.q 7 <| .or 9 (.done) (.nil)) (.nil)) (.nil))) (by kernel_rfl) ?_ ?_
 ·simp [go_sem]
  refine ⟨vcallV_pure c1 ?_ ?_, vcallV_pure c1 ?_ ?_⟩
  ·simp [go_sem]
  ·simp [go_sem, e1]
   refine ent_ks [0, 1, 2] (by simp) (by simp) (by simp) (by simp) (by simp [go_sem]) ?_ ?_
   ·simp [go_sem]
    exact clg
   ·simp [go_sem, ysRow]
    exact .inr sh0Y
  ·simp [go_sem]
  ·simp [go_sem, e1]
   refine ent_ks [0, 1, 2] (by simp) (by simp) (by simp) (by simp) (by simp [go_sem]) ?_ ?_
   ·simp [go_sem]
    exact clg
   ·simp [go_sem, ysRow]
    exact .inr sh0Y
 ·simp [go_sem, ysRow]
  refine vcall_pure c2 ?_ ?_
  ·simp [go_sem]
  ·simp [go_sem, kk]
   refine vc_drawnE (⟨[(0, .sl 4 g.length (nodCells g)), (2, .own 2), (7, .ptr 1 4 0 0)], [none, some ⟨77, 4, 1, fun _ => [.lit (.int .i64 4), .lit (.string z), .lit (.int .i64 ((r : Int) - 1)), .lit (.int .i64 ((q : Int) - 1))]⟩, ysRow (ws ++ yieldW e ++ [⟨z, true, true⟩])], [], 1⟩) [7,4] (.q 0 <| .q 1 <| .q 2 <| .q 3 <| .or 4 (.q 5 <| .or 6 (.or 7 (.q 8 <| .done) (.nil)) (.nil)) (.or 5 (.or 4 (.or 6 (.or 7 (.q 8 <| .done) (.nil)) (.nil)) (.or 6 (.or 4 (.or 7 (.q 8 <| .done) (.nil)) (.nil)) (.nil))) (.nil))) (by kernel_rfl) ?_ ?_
   ·simp [go_sem]
    repeat' apply And.intro
    all_goals first | omega | skip
    all_goals
     refine vcall_share [0] ih1 (by simp) ?_ ?_ trivial ?_
     ·simp [go_sem, ea]
      exact clg
     ·simp [go_sem, ysRow]
      exact sh0Y
     ·rintro av mem maps ⟨rfl, rfl, rfl⟩
      simp [go_sem, ysRow]
      refine ⟨by omega, by omega, ?_⟩
      refine ent_ks [0, 1, 5] (by simp) (by simp) (by simp) (by simp) (by simp [go_sem]) ?_ ?_
      ·simp [go_sem]
       exact clg
      ·simp [go_sem, ysRow]
       exact .inr ⟨by omega, sh1Y ⟨z, true, true⟩ (by simp) rfl (by simp) (by simp)⟩
   ·simp [go_sem, ysRow]
    refine vcall_share [2] ih2 (by simp) ?_ ?_ trivial ?_
    ·simp [go_sem, eb]
     exact clg
    ·simp [go_sem, ysRow]
     exact sh0Y
    ·rintro av mem maps ⟨rfl, rfl, rfl⟩
     simp [go_sem, ysRow]
     refine ⟨rfl, [3], [none, ysRow (ws ++ (yieldW e ++ opWord ⟨z, 2, lv, sd⟩ :: yieldW y))], by simp, by simp, by simp [go_sem], ?_, by simp [go_sem], ?_⟩
     ·simp [go_sem, ysRow, opWord]
      exact out0Y
     ·simp [go_sem, ysRow]
set_option maxRecDepth 100000 in
theorem yield_grp (g : List PNode) (hg : g.length ≤ 1048576) {e : ET} (ih : YOk g e) : YOk g (.grp e) := by
 have clg : ∀ (i : Nat) (c : AV), i < g.length → c ∈ nodCells g i → Closed c := fun i c _ h => nodClosed g i c h
 intro pre hn hl ws hw
 simp only [lay] at hn hl ⊢
 obtain ⟨hsub, hn''⟩ := layPre hn
 have hle1 := lay_len e pre
 have hp := sizeE_pos e
 have hyl := yieldW_len e
 simp only [List.length_append, List.length_singleton, Nat.add_sub_cancel] at hl ⊢
 simp only [sizeE] at hw
 have ih1 := ih pre hsub (by omega) (ws ++ [lpar]) (by simp; omega)
 have hn' : nodAt g (lay e pre).length = ⟨⟨#[]⟩, 6, ((lay e pre).length : Int) - 1, 0⟩ := by rw [hn'']
 generalize hq : (lay e pre).length = q at *
 have ea : (q : Int) - 1 = ((q - 1 : Nat) : Int) := by omega
 have c1 := c_l3IsOp (nodAt g q)
 have c2 := c_l3Kids 6
 have e1 : isOpN (nodAt g q) = false := by simp [isOpN, hn']
 have kk : kidsN 6 = 1 := by simp [kidsN]
 rw [hn'] at e1
 simp only [PNode.cells, hn', yieldW, ysRow] at c1 ⊢
 refine vproc_start Tryz.func47 (by kernel_rfl) rfl (by simp [Tryz.ntmps47]) ?_; simp only [Tryz.ntmps47, Tryz.results47]; simp [go_sem]
 simp [nodCells_at, hn']
 refine ⟨by omega, ?_⟩
 refine vc_drawnE (⟨[(0, .sl 4 g.length (nodCells g)), (2, .own 0), (7, .ptr 1 4 0 0), (8, .ptr 2 3 0 0)], [ysRow ws, some ⟨77, 4, 1, fun _ => [.lit (.int .i64 6), .lit (.string ⟨#[]⟩), .lit (.int .i64 ((q : Int) - 1)), .lit (.int .i64 (0))]⟩, some ⟨83, 3, 1, fun _ => [.lit (.string ⟨#[]⟩), .lit (.bool false), .lit (.bool false)]⟩], [], 1⟩) [9] (.q 0 <| .q 1 <| .q 2 <| .q 4 <| .q 5 <| .q 6 <| .or 3 (.q 7 <| .or 8 (.or 9 (.done) (.nil)) (.nil)) (.or 8 (.or 3 (.q 7 <| .or 9 (.done) (.nil)) (.nil)) (.nil))) (by kernel_rfl) ?_ ?_
 ·simp [go_sem]
  refine ⟨vcallV_pure c1 ?_ ?_, vcallV_pure c1 ?_ ?_⟩
  ·simp [go_sem]
  ·simp [go_sem, e1]
   refine ent_ks [0, 1, 2] (by simp) (by simp) (by simp) (by simp) (by simp [go_sem]) ?_ ?_
   ·simp [go_sem]
    exact clg
   ·simp [go_sem, ysRow]
    exact .inr sh0Y
  ·simp [go_sem]
  ·simp [go_sem, e1]
   refine ent_ks [0, 1, 2] (by simp) (by simp) (by simp) (by simp) (by simp [go_sem]) ?_ ?_
   ·simp [go_sem]
    exact clg
   ·simp [go_sem, ysRow]
    exact .inr sh0Y
 ·simp [go_sem, ysRow]
  refine vcall_pure c2 ?_ ?_
  ·simp [go_sem]
  ·simp [go_sem, kk]
   refine vc_drawnE (⟨[(2, .own 1)], [none, ysRow (ws ++ [lpar] ++ yieldW e)], [], 1⟩) [6,7] (.q 3 <| .q 4 <| .or 0 (.or 1 (.or 2 (.or 5 (.or 6 (.or 7 (.q 8 <| .done) (.nil)) (.nil)) (.nil)) (.or 5 (.or 2 (.or 6 (.or 7 (.q 8 <| .done) (.nil)) (.nil)) (.or 6 (.q 2 <| .or 7 (.q 8 <| .done) (.nil)) (.nil))) (.nil))) (.or 5 (.or 1 (.or 2 (.or 6 (.or 7 (.q 8 <| .done) (.nil)) (.nil)) (.or 6 (.q 2 <| .or 7 (.q 8 <| .done) (.nil)) (.nil))) (.or 6 (.q 1 <| .q 2 <| .or 7 (.q 8 <| .done) (.nil)) (.nil))) (.nil))) (.or 1 (.or 0 (.or 2 (.or 5 (.or 6 (.or 7 (.q 8 <| .done) (.nil)) (.nil)) (.nil)) (.or 5 (.or 2 (.or 6 (.or 7 (.q 8 <| .done) (.nil)) (.nil)) (.or 6 (.q 2 <| .or 7 (.q 8 <| .done) (.nil)) (.nil))) (.nil))) (.or 2 (.or 0 (.or 5 (.or 6 (.or 7 (.q 8 <| .done) (.nil)) (.nil)) (.nil)) (.or 5 (.or 0 (.or 6 (.or 7 (.q 8 <| .done) (.nil)) (.nil)) (.or 6 (.q 0 <| .or 7 (.q 8 <| .done) (.nil)) (.nil))) (.nil))) (.or 5 (.or 0 (.or 2 (.or 6 (.or 7 (.q 8 <| .done) (.nil)) (.nil)) (.or 6 (.q 2 <| .or 7 (.q 8 <| .done) (.nil)) (.nil))) (.or 2 (.or 0 (.or 6 (.or 7 (.q 8 <| .done) (.nil)) (.nil)) (.or 6 (.q 0 <| .or 7 (.q 8 <| .done) (.nil)) (.nil))) (.or 6 (.q 0 <| .q 2 <| .or 7 (.q 8 <| .done) (.nil)) (.nil)))) (.nil)))) (.or 5 (.or 0 (.or 1 (.or 2 (.or 6 (.or 7 (.q 8 <| .done) (.nil)) (.nil)) (.or 6 (.q 2 <| .or 7 (.q 8 <| .done) (.nil)) (.nil))) (.or 6 (.q 1 <| .q 2 <| .or 7 (.q 8 <| .done) (.nil)) (.nil))) (.or 1 (.or 0 (.or 2 (.or 6 (.or 7 (.q 8 <| .done) (.nil)) (.nil)) (.or 6 (.q 2 <| .or 7 (.q 8 <| .done) (.nil)) (.nil))) (.or 2 (.or 0 (.or 6 (.or 7 (.q 8 <| .done) (.nil)) (.nil)) (.or 6 (.q 0 <| .or 7 (.q 8 <| .done) (.nil)) (.nil))) (.or 6 (.q 0 <| .q 2 <| .or 7 (.q 8 <| .done) (.nil)) (.nil)))) (.or 6 (.q 0 <| .q 1 <| .q 2 <| .or 7 (.q 8 <| .done) (.nil)) (.nil)))) (.nil)))) (by kernel_rfl) ?_ ?_
   ·simp [go_sem]
    repeat' apply And.intro
    all_goals first | omega | skip
    all_goals
     refine vcall_share [4] ih1 (by simp) ?_ ?_ trivial ?_
     ·simp [go_sem, ea]
      exact clg
     ·simp [go_sem, ysRow]
      exact sh1Y lpar (by simp) rfl rfl (by simp)
     ·rintro av mem maps ⟨rfl, rfl, rfl⟩
      simp [go_sem, ysRow]
      refine ent_ks [0, 5] (by simp) (by simp) (by simp) (by simp) (by simp [go_sem]) ?_ ?_
      ·simp [go_sem]
      ·simp [go_sem, ysRow]
       exact .inr sh0Y
   ·simp [go_sem, ysRow]
    refine ⟨by omega, by omega, ?_⟩
    refine ⟨rfl, [3], [none, ysRow (ws ++ lpar :: (yieldW e ++ [rpar]))], by simp, by simp, by simp [go_sem], ?_, by simp [go_sem], ?_⟩
    ·simp [go_sem, ysRow]
     exact out1Y rpar (by simp) rfl (by simp) (by simp)
    ·simp [go_sem, ysRow]
end Go.Proofs.YtjdmmhcogmepaaaGreatDoor.V
namespace Go.Proofs.YtjdmmhcogmepaaaGreatDoor.V
open Go.RowKit
open Go.Proofs.YtjdmmhcogmepaaaGreatDoor.Ops (Tr)
set_option linter.unusedVariables false
set_option linter.unusedSimpArgs false
set_option linter.constructorNameAsVariable false
theorem c_l4Yield {l : List POp} (g : List PNode) (hg : g.length ≤ 1048576) : ∀ e : ET, InTab l e → YOk g e
 | .leaf b, h => yield_leaf g hg b h
 | .grp e, h => yield_grp g hg (c_l4Yield g hg e h)
 | .pre o e, ⟨h1, _, _, h4⟩ => yield_pre g hg h1 (c_l4Yield g hg e h4)
 | .post o e, ⟨h1, _, _, h4⟩ => yield_post g hg h1 (c_l4Yield g hg e h4)
 | .inf o x y, ⟨h1, _, _, h4, h5⟩ => yield_inf g hg h1 (c_l4Yield g hg x h4) (c_l4Yield g hg y h5)
def TxB (B : Nat) : ET → Prop
 | .leaf b => b.2.size ≤ B
 | .grp e => TxB B e
 | .pre o e => o.text.size ≤ B ∧ TxB B e
 | .post o e => o.text.size ≤ B ∧ TxB B e
 | .inf o x y => o.text.size ≤ B ∧ TxB B x ∧ TxB B y
theorem yieldW_tx {B : Nat} (hB : 1 ≤ B) : ∀ {e : ET}, TxB B e → ∀ w, w ∈ yieldW e → w.text.size ≤ B
 | .leaf b, h, w, hw => by simp only [yieldW, List.mem_singleton] at hw; subst hw; exact h
 | .grp e, h, w, hw => by
  simp only [yieldW, List.mem_cons, List.mem_append, List.mem_nil_iff, or_false] at hw
  rcases hw with rfl | hw | rfl
  ·exact hB
  ·exact yieldW_tx hB (e := e) h w hw
  ·exact hB
 | .pre o e, ⟨h1, h2⟩, w, hw => by
  simp only [yieldW, List.mem_cons] at hw
  rcases hw with rfl | hw
  ·exact h1
  ·exact yieldW_tx hB h2 w hw
 | .post o e, ⟨h1, h2⟩, w, hw => by
  simp only [yieldW, List.mem_append, List.mem_singleton] at hw
  rcases hw with hw | rfl
  ·exact yieldW_tx hB h2 w hw
  ·exact h1
 | .inf o x y, ⟨h1, h2, h3⟩, w, hw => by
  simp only [yieldW, List.mem_cons, List.mem_append] at hw
  rcases hw with hw | rfl | hw
  ·exact yieldW_tx hB h2 w hw
  ·exact h1
  ·exact yieldW_tx hB h3 w hw
theorem lay_mem : ∀ (e : ET) (out : List PNode) (n : PNode), n ∈ out → n ∈ lay e out
 | .leaf b, out, n, h => by simp only [lay, List.mem_append]; exact .inl h
 | .grp e, out, n, h => by simp only [lay, List.mem_append]; exact .inl (lay_mem e out n h)
 | .pre o e, out, n, h => by simp only [lay, List.mem_append]; exact .inl (lay_mem e out n h)
 | .post o e, out, n, h => by simp only [lay, List.mem_append]; exact .inl (lay_mem e out n h)
 | .inf o x y, out, n, h => by simp only [lay, List.mem_append]; exact .inl (lay_mem y _ n (lay_mem x out n h))
theorem lay_tx {B : Nat} : ∀ (e : ET) (out : List PNode), (∀ n, n ∈ lay e out → n.text.size ≤ B) → TxB B e
 | .leaf b, out, h => h ⟨b.2, b.1, 0, 0⟩ (by simp [lay])
 | .grp e, out, h => lay_tx e out fun n hn => h n (by simp only [lay, List.mem_append]; exact .inl hn)
 | .pre o e, out, h => ⟨h ⟨o.text, o.kind + 2, (lay e out).length - 1, 0⟩ (by simp [lay]), lay_tx e out fun n hn => h n (by simp only [lay, List.mem_append]; exact .inl hn)⟩
 | .post o e, out, h => ⟨h ⟨o.text, o.kind + 2, (lay e out).length - 1, 0⟩ (by simp [lay]), lay_tx e out fun n hn => h n (by simp only [lay, List.mem_append]; exact .inl hn)⟩
 | .inf o x y, out, h => ⟨h ⟨o.text, o.kind + 2, (lay x out).length - 1, (lay y (lay x out)).length - 1⟩ (by simp [lay]), lay_tx x out fun n hn => h n (by simp only [lay, List.mem_append]; exact .inl (lay_mem y _ n hn)), lay_tx y _ fun n hn => h n (by simp only [lay, List.mem_append]; exact .inl hn)⟩
theorem spc_bytes (a : ByteArray) {g : Nat → List AV} (hg : g 0 = [.lit (.int .u8 32)]) (j : Nat) (hj : j < a.size + 1) : joinF a.size (byteCells a) g j = byteCells (a ++ ⟨#[32]⟩) j := by
 rw [← join_bytes a ⟨#[32]⟩ j hj]
 unfold joinF
 by_cases h : j < a.size
 ·rw [if_pos h, if_pos h]
 ·have e : j - a.size = 0 := by omega
  rw [if_neg h, if_neg h, e, hg]
  rfl
theorem sh1B {idx : Nat → Nat} {m n k : Nat} {a b c : ByteArray} (hn : n = a.size) (e : c = a ++ b) (hk : k = c.size) : ∀ j, j < k → CellsRn idx m (joinF n (byteCells a) (byteCells b) j) (byteCells c j) := fun j hj => by
 subst hn; subst e; subst hk
 rw [join_bytes a b j (by simpa using hj)]
 exact cellsRn_lits rfl
theorem sh2B {idx : Nat → Nat} {m n n' k : Nat} {a b c : ByteArray} {g : Nat → List AV} (hn : n = a.size) (hn' : n' = a.size + 1) (hg : g 0 = [.lit (.int .u8 32)]) (e : c = (a ++ ⟨#[32]⟩) ++ b) (hk : k = c.size) : ∀ j, j < k → CellsRn idx m (joinF n' (joinF n (byteCells a) g) (byteCells b) j) (byteCells c j) := fun j hj => by
 subst hn; subst hn'; subst e; subst hk
 have hs : (a ++ ⟨#[32]⟩ : ByteArray).size = a.size + 1 := by rw [ByteArray.size_append]; rfl
 rw [← join_bytes (a ++ ⟨#[32]⟩) b j (by simpa using hj)]
 unfold joinF
 rw [hs]
 by_cases h : j < a.size + 1
 ·rw [if_pos h, if_pos h]
  rw [show (if j < a.size then byteCells a j else g (j - a.size)) = joinF a.size (byteCells a) g j from rfl, spc_bytes a hg j h]
  exact cellsRn_lits rfl
 ·rw [if_neg h, if_neg h]
  exact cellsRn_lits rfl
end Go.Proofs.YtjdmmhcogmepaaaGreatDoor.V
namespace Go.Proofs.YtjdmmhcogmepaaaGreatDoor.V
open Go.RowKit
set_option linter.unusedVariables false
set_option linter.unusedSimpArgs false
set_option linter.constructorNameAsVariable false
def spcW (W : List PWord) : Nat → ByteArray
 | 0 => ByteArray.empty
 | i + 1 => (if 0 < i then spcW W i ++ ⟨#[32]⟩ else spcW W i) ++ (wdAt W i).text
theorem spcW_size {W : List PWord} {B : Nat} (hB : ∀ i, (wdAt W i).text.size ≤ B) : ∀ i, (spcW W i).size ≤ i * (B + 1)
 | 0 => by simp [spcW]
 | i + 1 => by
  have h1 := spcW_size hB i
  have h2 := hB i
  have e : (i + 1) * (B + 1) = i * (B + 1) + (B + 1) := by rw [Nat.add_mul]; omega
  have e1 : (⟨#[32]⟩ : ByteArray).size = 1 := rfl
  simp only [spcW]
  split <;> simp only [ByteArray.size_append] <;> omega
set_option maxRecDepth 100000 in
theorem c_YieldText {l : List POp} (e : ET) (hT : InTab l e) (h1 : (lay e []).length ≤ 30000) (hz : ∀ i, (wdAt (yieldW e) i).text.size ≤ 30000) : VFun Tryz.prog 17 [.agg [.sl 4 (lay e []).length (nodCells (lay e []))]] (fun av obs => obs = [] ∧ av = .lit (.string (spcW (yieldW e) (yieldW e).length))) := by
 have hp := sizeE_pos e
 have hO := lay_len e []
 simp only [List.length_nil, Nat.zero_add] at hO
 have cy := c_l4Yield (l := l) (lay e []) (by omega) e hT [] (fun _ _ => rfl) (Nat.le_refl _) [] (by simp; omega)
 rw [hO] at cy
 rw [hO]
 have clg : ∀ (i : Nat) (c : AV), i < sizeE e → c ∈ nodCells (lay e []) i → Closed c := fun i c _ h => nodClosed _ i c h
 have ew : IntKind.i64.wrap ((sizeE e : Int) - 1) = ((sizeE e - 1 : Nat) : Int) := by rw [wrap_i64 (by omega)]; omega
 have hyl := yieldW_len e
 simp only [List.nil_append] at cy
 generalize yieldW e = W at *
 refine vfun_start Tryz.func17 (by kernel_rfl) rfl (by simp [Tryz.ntmps17]) ?_; simp only [Tryz.ntmps17, Tryz.results17]; simp [go_sem]
 simp [go_sem, ew]
 refine ⟨by omega, ?_⟩
 refine vcall_share [1] cy (by simp) ?_ ?_ trivial ?_
 ·simp [go_sem]
  exact clg
 ·simp [go_sem, ysRow]
 ·rintro av mem maps ⟨rfl, rfl, rfl⟩
  simp [go_sem, ysRow]
  have hsz := spcW_size hz
  refine vc_loopE (fun i : Nat => i ≤ W.length) (fun i => W.length - i) (fun i => .of [(3, .own 0), (4, .own 1), (5, .lit (.int .i64 i))] [ysRow W, some ⟨5, 1, (spcW W i).size, byteCells (spcW W i)⟩]) ⟨0, by omega, ?_⟩ (fun i hi => ?_)
  ·refine ent_ks [2, 3] (by simp) (by simp) (by simp) (by simp) (by simp [go_sem]) ?_ ?_
   ·simp [go_sem]
   ·simp [go_sem, ysRow, spcW]
    exact .inr sh0Y
  ·have hb2 : (spcW W i).size ≤ 41943080000 := Nat.le_trans (hsz i) (by have := Nat.mul_le_mul_right 30001 (show i ≤ 60000 by omega); omega)
   have ht1 := hz i
   have htb : ∀ j, j < (wdAt W i).text.size → (byteCells (wdAt W i).text j).all oneAV = true := fun j _ => byteOne _ j
   by_cases hlt : i < W.length
   ·by_cases hi0 : i = 0
    ·subst hi0
     have hW1 : spcW W 1 = spcW W 0 ++ (wdAt W 0).text := by simp [spcW]
     have hsz1 : (spcW W 1).size = (spcW W 0).size + (wdAt W 0).text.size := by rw [hW1, ByteArray.size_append]
     simp [go_sem, ysRow, ysCells_at, hlt, -List.all_eq_true, byteOne]
     refine ⟨by omega, by omega, by omega, by omega, 1, by omega, by omega, ?_⟩
     refine ent_ks [0, 3] (by simp) (by simp) (by simp) (by simp) (by simp [go_sem]) ?_ ?_
     ·simp [go_sem]
      rfl
     ·simp [go_sem]
      exact ⟨.inr sh0Y, .inr ⟨hsz1.symm, sh1B rfl hW1 rfl⟩⟩
    ·have hpos : 0 < i := by omega
     have hW1 : spcW W (i + 1) = (spcW W i ++ ⟨#[32]⟩) ++ (wdAt W i).text := by simp only [spcW]; rw [if_pos hpos]
     have hsz1 : (spcW W (i + 1)).size = (spcW W i).size + 1 + (wdAt W i).text.size := by rw [hW1, ByteArray.size_append, ByteArray.size_append]; rfl
     simp [go_sem, ysRow, ysCells_at, hlt, hpos, -List.all_eq_true, byteOne]
     refine ⟨by omega, by omega, by omega, by omega, by omega, by omega, i + 1, by omega, by omega, ?_⟩
     refine ent_ks [0, 5] (by simp) (by simp) (by simp) (by simp) (by simp [go_sem]) ?_ ?_
     ·simp [go_sem]
      exact wrap_succ (by omega)
     ·simp [go_sem]
      exact ⟨.inr sh0Y, .inr ⟨hsz1.symm, sh2B rfl rfl rfl hW1 rfl⟩⟩
   ·have e : i = W.length := by omega
    subst e
    simp [go_sem, ysRow, ysCells_at]
    omega
theorem c_specHeight (T : List PNode) (H : List Int) (hT : 0 < T.length ∧ T.length ≤ 3000000) (ok : HOk T H) : VFun Tryz.prog 18 [.agg [.sl 4 T.length (nodCells T)]] (fun av obs => obs = [] ∧ av = .lit (.int .i64 (intAt H (T.length - 1)))) := by
 have clt : ∀ (i : Nat) (c : AV), i < T.length → c ∈ nodCells T i → Closed c := fun i c _ h => nodClosed T i c h
 refine vfun_start Tryz.func18 (by kernel_rfl) rfl (by simp [Tryz.ntmps18]) ?_; simp only [Tryz.ntmps18, Tryz.results18]; simp [go_sem]
 refine vcall_pure (c_l3Height T H hT ok) ?_ ?_
 ·simp [go_sem]
  exact argSl_refl (by omega) clt
 ·simp [go_sem]
set_option maxRecDepth 100000 in
theorem c_lwSameTree (a b : List PNode) (ha : a.length ≤ 9223372036854775807) (hb : b.length ≤ 9223372036854775807) : VFun Tryz.prog 20 [.agg [.sl 4 a.length (nodCells a)], .agg [.sl 4 b.length (nodCells b)]] (fun av obs => obs = [] ∧ av = .lit (.bool (nodsEq a b))) := by
 have cla : ∀ (i : Nat) (c : AV), i < a.length → c ∈ nodCells a i → Closed c := fun i c _ h => nodClosed a i c h
 have clb : ∀ (i : Nat) (c : AV), i < b.length → c ∈ nodCells b i → Closed c := fun i c _ h => nodClosed b i c h
 refine vfun_start Tryz.func20 (by kernel_rfl) rfl (by simp [Tryz.ntmps20]) ?_; simp only [Tryz.ntmps20, Tryz.results20]; simp [go_sem]
 refine ⟨by omega, by omega, fun h => by simp [nodsEq]; omega, fun h => ?_⟩
 refine vc_loop (fun i : Nat => i ≤ a.length ∧ ∀ j, j < i → nodEq (nodAt a j) (nodAt b j) = true) (fun i => a.length - i) (fun i => .of [(2, .ptr 0 1 0 0), (3, .ptr 1 1 0 0), (5, .lit (.int .i64 i))] [some ⟨37, 1, 1, fun _ => [.sl 4 a.length (nodCells a)]⟩, some ⟨37, 1, 1, fun _ => [.sl 4 b.length (nodCells b)]⟩]) ⟨0, ⟨by omega, by simp⟩, ?_⟩ (fun i hi => ?_)
 ·simp [go_sem]
  exact ⟨cla, clb⟩
 ·by_cases hlt : i < a.length
  ·simp [go_sem, hlt]
   refine ⟨by omega, vc_drawn [] (.q 0 <| .q 1 <| .q 2 <| .q 3 <| .q 4 <| .q 5 <| .q 6 <| .q 7 <| .q 8 <| .q 9 <| .q 10 <| .done) (by kernel_rfl) ?_⟩
   simp [go_sem, nodCells_at, hlt]
   refine ⟨by omega, .bool (!nodEq (nodAt a i) (nodAt b i)), fun w => ?_, ?_⟩
   ·simp only [nodEq, ba_toList]
    by_cases h1 : (nodAt a i).kind = (nodAt b i).kind <;> by_cases h2 : (nodAt a i).text = (nodAt b i).text <;> by_cases h3 : (nodAt a i).a = (nodAt b i).a <;> by_cases h4 : (nodAt a i).b = (nodAt b i).b <;> simp [h1, h2, h3, h4, ba_beq]
   ·cases hq : nodEq (nodAt a i) (nodAt b i) with
    | false =>
     simp [go_sem]
     exact nodsEq_false hlt hq
    | true =>
     simp [go_sem]
     refine ⟨i + 1, ⟨by omega, fun j hj => ?_⟩, by omega, wrap_succ (by omega), cla, clb⟩
     rcases Nat.lt_succ_iff_lt_or_eq.mp hj with hj | rfl
     ·exact hi.2 j hj
     ·exact hq
  ·simp [go_sem, hlt]
   exact ⟨by omega, nodsEq_true (by omega) fun j hj => hi.2 j (by omega)⟩
end Go.Proofs.YtjdmmhcogmepaaaGreatDoor.V
namespace Go.Proofs.YtjdmmhcogmepaaaGreatDoor.V
open Go.RowKit
open Go.Proofs.YtjdmmhcogmepaaaGreatDoor.Ops (Tr Tk Lv Res Fit OF)
set_option linter.unusedVariables false
set_option linter.unusedSimpArgs false
set_option linter.constructorNameAsVariable false
def TksOk (l : List POp) : PT → Prop
 | .leaf b => TkOk l (.leaf b)
 | .grp e => TksOk l e
 | .pre o e => TkOk l (.pre o) ∧ TksOk l e
 | .post o e => TkOk l (.post o) ∧ TksOk l e
 | .inf o x y => TkOk l (.inf o) ∧ TksOk l x ∧ TksOk l y
theorem tksOk_all {l : List POp} : ∀ {e : PT}, TksOk l e → ∀ tk, tk ∈ e.yield → TkOk l tk
 | .leaf b, h, tk, hm => by simp only [Tr.yield, List.mem_singleton] at hm; subst hm; exact h
 | .grp e, h, tk, hm => by
  simp only [Tr.yield, List.mem_cons, List.mem_append, List.mem_nil_iff, or_false] at hm
  rcases hm with rfl | hm | rfl
  ·trivial
  ·exact tksOk_all (e := e) h tk hm
  ·trivial
 | .pre o e, h, tk, hm => by
  simp only [Tr.yield, List.mem_cons] at hm
  rcases hm with rfl | hm
  ·exact h.1
  ·exact tksOk_all h.2 tk hm
 | .post o e, h, tk, hm => by
  simp only [Tr.yield, List.mem_append, List.mem_singleton] at hm
  rcases hm with hm | rfl
  ·exact tksOk_all h.2 tk hm
  ·exact h.1
 | .inf o x y, h, tk, hm => by
  simp only [Tr.yield, List.mem_cons, List.mem_append] at hm
  rcases hm with hm | rfl | hm
  ·exact tksOk_all h.2.1 tk hm
  ·exact h.1
  ·exact tksOk_all h.2.2 tk hm
theorem inL_of {l : List POp} {o : POp} {k : Int} (h1 : opHas l o.text k = true) (h2 : opOf l o.text k = o) : InL l o := by
 obtain ⟨i, hi, e, _⟩ := opHas_has h1
 exact ⟨i, hi, by rw [← e, h2]⟩
theorem inTab_facts {l : List POp} : ∀ {e : PT}, InTab l e → LeavesOk e ∧ KindsOk e ∧ ((∀ j, j < l.length → opOk (opAt l j) = true) → e.All lvO (InL l))
 | .leaf b, h => ⟨h, trivial, fun _ => trivial⟩
 | .grp e, h => inTab_facts (e := e) h
 | .pre o e, h => by
  obtain ⟨g1, g2, g3⟩ := inTab_facts h.2.2.2
  exact ⟨g1, ⟨h.1, g2⟩, fun hok => ⟨inL_of h.2.1 h.2.2.1, by simp [lvO, sortN, h.1], g3 hok⟩⟩
 | .post o e, h => by
  obtain ⟨g1, g2, g3⟩ := inTab_facts h.2.2.2
  exact ⟨g1, ⟨h.1, g2⟩, fun hok => ⟨inL_of h.2.1 h.2.2.1, by simp [lvO, sortN, h.1], g3 hok⟩⟩
 | .inf o x y, h => by
  obtain ⟨g1, g2, g3⟩ := inTab_facts h.2.2.2.1
  obtain ⟨q1, q2, q3⟩ := inTab_facts h.2.2.2.2
  exact ⟨⟨g1, q1⟩, ⟨h.1, g2, q2⟩, fun hok => ⟨inL_of h.2.1 h.2.2.1, g3 hok, q3 hok⟩⟩
theorem inTab_of {l : List POp} (hu : Uniq l) : ∀ {e : PT}, LeavesOk e → KindsOk e → e.All lvO (InL l) → InTab l e
 | .leaf b, h1, _, _ => h1
 | .grp e, h1, h2, h3 => inTab_of hu (e := e) h1 h2 h3
 | .pre o e, h1, h2, h3 => by
  obtain ⟨p1, p2⟩ := op_unique hu (z := o.text) rfl h3.1
  rw [h2.1] at p1 p2
  exact ⟨h2.1, p1, p2, inTab_of hu h1 h2.2 h3.2.2⟩
 | .post o e, h1, h2, h3 => by
  obtain ⟨p1, p2⟩ := op_unique hu (z := o.text) rfl h3.1
  rw [h2.1] at p1 p2
  exact ⟨h2.1, p1, p2, inTab_of hu h1 h2.2 h3.2.2⟩
 | .inf o x y, h1, h2, h3 => by
  obtain ⟨p1, p2⟩ := op_unique hu (z := o.text) rfl h3.1
  rw [h2.1] at p1 p2
  exact ⟨h2.1, p1, p2, inTab_of hu h1.1 h2.2.1 h3.2.1, inTab_of hu h1.2 h2.2.2 h3.2.2⟩
theorem lay_inj {l : List POp} {e e' : PT} (h : InTab l e) (h' : InTab l e') (hl : lay e [] = lay e' []) : e = e' := by
 have h1 := (lay_tree (l := l) (t := lay e []) e [] h (fun _ _ => rfl)).2
 have h2 := (lay_tree (l := l) (t := lay e' []) e' [] h' (fun _ _ => rfl)).2
 rw [← hl] at h2
 rw [h1] at h2
 exact h2
theorem nodsEq_eq {a b : List PNode} (h : nodsEq a b = true) : a = b := by
 simp only [nodsEq, Bool.and_eq_true, decide_eq_true_eq, List.all_eq_true, List.mem_range] at h
 obtain ⟨h1, h2⟩ := h
 apply List.ext_getElem h1
 intro i hi hi'
 have := h2 i hi
 simp only [nodEq, Bool.and_eq_true, ba_beq, decide_eq_true_eq, beq_iff_eq] at this
 have ea : nodAt a i = a[i] := by unfold nodAt; rw [List.getD_eq_getElem?_getD, List.getElem?_eq_getElem hi]; rfl
 have eb : nodAt b i = b[i] := by unfold nodAt; rw [List.getD_eq_getElem?_getD, List.getElem?_eq_getElem hi']; rfl
 rw [ea, eb] at this
 obtain ⟨⟨⟨q1, q2⟩, q3⟩, q4⟩ := this
 cases hx : a[i]; cases hy : b[i]
 simp only [hx, hy] at q1 q2 q3 q4
 subst q1; subst q2; subst q3; subst q4; rfl
theorem tks_of {l : List POp} : ∀ (e : PT) (out : List PNode), InTab l e → (∀ n, n ∈ lay e out → txtOk n = true) → TksOk l e
 | .leaf b, out, h, ht => by
  have := ht ⟨b.2, b.1, 0, 0⟩ (by simp [lay])
  simp only [txtOk, Bool.and_eq_true] at this
  have h2 := this.2
  rcases h with h | h
  ·rw [if_pos h] at h2; exact .inl ⟨h, h2⟩
  ·rw [if_neg (by omega), if_pos h] at h2; exact .inr ⟨h, h2⟩
 | .grp e, out, h, ht => tks_of e out h fun n hn => ht n (by simp [lay, hn])
 | .pre o e, out, h, ht => ⟨⟨h.1, inL_of h.2.1 h.2.2.1⟩, tks_of e out h.2.2.2 fun n hn => ht n (by simp [lay, hn])⟩
 | .post o e, out, h, ht => ⟨⟨h.1, inL_of h.2.1 h.2.2.1⟩, tks_of e out h.2.2.2 fun n hn => ht n (by simp [lay, hn])⟩
 | .inf o x y, out, h, ht => by
  have hy : ∀ n, n ∈ lay y (lay x out) → txtOk n = true := fun n hn => ht n (by simp [lay, hn])
  exact ⟨⟨h.1, inL_of h.2.1 h.2.2.1⟩, tks_of x out h.2.2.2.1 fun n hn => hy n (lay_mem y _ n hn), tks_of y _ h.2.2.2.2 hy⟩
theorem fitsN_congr {l : List POp} {T U : List PNode} {i : Nat} (h : nodAt T i = nodAt U i) (ha : kidsN (nodAt U i).kind ≠ 0 → nodAt T (nodAt U i).a.toNat = nodAt U (nodAt U i).a.toNat) (hb : kidsN (nodAt U i).kind = 2 → nodAt T (nodAt U i).b.toNat = nodAt U (nodAt U i).b.toNat) : fitsN l T i = fitsN l U i := by
 unfold fitsN
 rw [h]
 by_cases ho : isOpN (nodAt U i) = true
 ·have ho' := ho
  simp only [isOpN, decide_eq_true_eq] at ho'
  have hk : kidsN (nodAt U i).kind ≠ 0 := by
   unfold kidsN
   split
   ·omega
   ·rw [if_pos (by omega)]; omega
  rw [ha hk]
  by_cases h2 : kidsN (nodAt U i).kind = 2
  ·rw [hb h2]
  ·have h1 : kidsN (nodAt U i).kind = 1 := by rcases kids_012 (nodAt U i).kind with e | e | e <;> omega
   simp [h1]
 ·simp [ho]
theorem fits_adm {l : List POp} (hu : Uniq l) (hok : ∀ j, j < l.length → opOk (opAt l j) = true) : ∀ (e : PT) (out T : List PNode), InTab l e → (∀ j, j < (lay e out).length → nodAt T j = nodAt (lay e out) j) → ((∀ i, out.length ≤ i → i < (lay e out).length → fitsN l T i = true) ↔ e.Adm lvO) := by
 have okL : ∀ {o}, InL l o → opOk o = true := fun ⟨j, hj, e⟩ => e ▸ hok j hj
 have drop : ∀ {A : List PNode} {n : PNode} {T : List PNode}, (∀ j, j < (A ++ [n]).length → nodAt T j = nodAt (A ++ [n]) j) → ∀ j, j < A.length → nodAt T j = nodAt A j := fun {A n T} h j hj => by
  rw [h j (by simp; omega), nodAt_old hj]
 have last : ∀ {A : List PNode} {n : PNode} {T : List PNode}, (∀ j, j < (A ++ [n]).length → nodAt T j = nodAt (A ++ [n]) j) → (kidsN n.kind ≠ 0 → 0 ≤ n.a ∧ n.a < A.length) → (kidsN n.kind = 2 → 0 ≤ n.b ∧ n.b < A.length) → fitsN l T A.length = fitsN l (A ++ [n]) A.length := fun {A n T} h ha hb => by
  have hn : nodAt (A ++ [n]) A.length = n := nodAt_new
  refine fitsN_congr (h _ (by simp)) (fun hk => ?_) (fun hk => ?_)
  ·rw [hn] at hk ⊢
   have := ha hk
   exact h _ (by simp; omega)
  ·rw [hn] at hk ⊢
   have := hb hk
   exact h _ (by simp; omega)
 have split_ : ∀ {A out : List PNode} {n : PNode} {T : List PNode}, out.length ≤ A.length → ((∀ i, out.length ≤ i → i < (A ++ [n]).length → fitsN l T i = true) ↔ (∀ i, out.length ≤ i → i < A.length → fitsN l T i = true) ∧ fitsN l T A.length = true) := fun {A out n T} ho => by
  simp only [List.length_append, List.length_singleton]
  refine ⟨fun h => ⟨fun i h1 h2 => h i h1 (by omega), h _ ho (by omega)⟩, fun h i h1 h2 => ?_⟩
  by_cases e : i < A.length
  ·exact h.1 i h1 e
  ·obtain rfl : i = A.length := by omega
   exact h.2
 intro e
 induction e with
 | leaf b =>
  intro out T h hT
  simp only [lay] at hT ⊢
  refine ⟨fun _ => trivial, fun _ i h1 h2 => ?_⟩
  simp only [List.length_append, List.length_singleton] at h2
  obtain rfl : i = out.length := by omega
  have hn := hT out.length (by simp)
  rw [nodAt_new] at hn
  have h' : b.1 = 1 ∨ b.1 = 2 := h
  simp only [fitsN, hn, isOpN]
  have : decide (3 ≤ b.1 ∧ b.1 ≤ 5) = false := by simp; omega
  simp [this]
 | grp e ih =>
  intro out T h hT
  have hg := lay_grows e out
  simp only [lay] at hT ⊢
  rw [split_ (by omega), ih out T h (drop hT)]
  have hn := hT (lay e out).length (by simp)
  rw [nodAt_new] at hn
  have : fitsN l T (lay e out).length = true := by simp [fitsN, hn, isOpN]
  simp only [this, and_true, Tr.Adm]
 | pre o e ih =>
  intro out T h hT
  have hg := lay_grows e out
  obtain ⟨f1, f2, f3⟩ := inTab_facts h.2.2.2
  have hj := inL_of h.2.1 h.2.2.1
  have hk3 : kidsN (o.kind + 2) = 1 := by rw [h.1]; rfl
  simp only [lay] at hT ⊢
  rw [split_ (by omega), ih out T h.2.2.2 (drop hT), last hT (fun _ => by simp only; omega) (fun hk => by simp only at hk; omega)]
  have := fits_pre hu hj (okL hj) h.1 e out f1 (f3 hok) f2
  rw [h.1] at *
  rw [show (1 : Int) + 2 = 3 from rfl, this, decide_eq_true_eq]
  simp only [Tr.Adm]
  exact And.comm
 | post o e ih =>
  intro out T h hT
  have hg := lay_grows e out
  obtain ⟨f1, f2, f3⟩ := inTab_facts h.2.2.2
  have hj := inL_of h.2.1 h.2.2.1
  have hk3 : kidsN (o.kind + 2) = 1 := by rw [h.1]; rfl
  simp only [lay] at hT ⊢
  rw [split_ (by omega), ih out T h.2.2.2 (drop hT), last hT (fun _ => by simp only; omega) (fun hk => by simp only at hk; omega)]
  have := fits_post hu hj (okL hj) h.1 e out f1 (f3 hok) f2
  rw [h.1] at *
  rw [show (3 : Int) + 2 = 5 from rfl, this, decide_eq_true_eq]
  simp only [Tr.Adm]
  exact And.comm
 | inf o x y ihx ihy =>
  intro out T h hT
  have hg := lay_grows x out
  have hg2 := lay_grows y (lay x out)
  obtain ⟨f1, f2, f3⟩ := inTab_facts h.2.2.2.1
  obtain ⟨q1, q2, q3⟩ := inTab_facts h.2.2.2.2
  have hj := inL_of h.2.1 h.2.2.1
  have hk3 : kidsN (o.kind + 2) = 2 := by rw [h.1]; rfl
  simp only [lay] at hT ⊢
  have hTy := drop hT
  have hTx : ∀ j, j < (lay x out).length → nodAt T j = nodAt (lay x out) j := fun j hj => by rw [hTy j (by omega), lay_old y _ j hj]
  have two : (∀ i, out.length ≤ i → i < (lay y (lay x out)).length → fitsN l T i = true) ↔ x.Adm lvO ∧ y.Adm lvO := by
   rw [← ihx out T h.2.2.2.1 hTx, ← ihy (lay x out) T h.2.2.2.2 hTy]
   refine ⟨fun h => ⟨fun i h1 h2 => h i h1 (by omega), fun i h1 h2 => h i (by omega) h2⟩, fun ⟨ha, hb⟩ i h1 h2 => ?_⟩
   by_cases e : i < (lay x out).length
   ·exact ha i h1 e
   ·exact hb i (by omega) h2
  rw [split_ (by omega), two, last hT (fun _ => by simp only; omega) (fun _ => by simp only; omega)]
  have := fits_inf hu hj (okL hj) h.1 x y out f1 (f3 hok) f2 q1 (q3 hok) q2
  rw [h.1] at *
  rw [show (2 : Int) + 2 = 4 from rfl, this, decide_eq_true_eq]
  simp only [Tr.Adm]
  exact ⟨fun h => ⟨h.2.1, h.2.2, h.1.1, h.1.2⟩, fun h => ⟨⟨h.2.2.1, h.2.2.2⟩, h.1, h.2.1⟩⟩
end Go.Proofs.YtjdmmhcogmepaaaGreatDoor.V
namespace Go.Proofs.YtjdmmhcogmepaaaGreatDoor.V
open Go.RowKit
open Go.Proofs.YtjdmmhcogmepaaaGreatDoor.Ops (Tr Tk Lv Res Fit OF)
set_option linter.unusedVariables false
set_option linter.unusedSimpArgs false
set_option linter.constructorNameAsVariable false
theorem yield_words : ∀ e : PT, (yieldW e).map (·.text) = e.yield.map tkW
 | .leaf b => rfl
 | .grp e => by simp [yieldW, Tr.yield, yield_words e, tkW, lpar, rpar]
 | .pre o e => by simp [yieldW, Tr.yield, yield_words e, tkW, opWord]
 | .post o e => by simp [yieldW, Tr.yield, yield_words e, tkW, opWord]
 | .inf o x y => by simp [yieldW, Tr.yield, yield_words x, yield_words y, tkW, opWord]
theorem yieldW_at (e : PT) {i : Nat} {tk : TkP} (h : e.yield[i]? = some tk) : (wdAt (yieldW e) i).text = tkW tk := by
 have h1 := congrArg (fun l => l[i]?) (yield_words e)
 simp only [List.getElem?_map, h, Option.map_some] at h1
 unfold wdAt
 rw [List.getD_eq_getElem?_getD]
 cases hw : (yieldW e)[i]? with
 | none => rw [hw] at h1; simp at h1
 | some w => rw [hw] at h1; simpa using h1
theorem yieldW_length (e : PT) : (yieldW e).length = e.yield.length := by
 have := congrArg List.length (yield_words e)
 simpa using this
theorem joinW_snoc : ∀ (r : List (ByteArray × ByteArray)) (x : ByteArray × ByteArray) (g : ByteArray), joinW (r ++ [x]) g = joinW r ByteArray.empty ++ x.1 ++ x.2 ++ g
 | [], x, g => by simp [joinW]
 | y :: r, x, g => by
  simp only [List.cons_append, joinW, joinW_snoc r x g, ByteArray.append_assoc]
theorem joinW_nil_snoc (r : List (ByteArray × ByteArray)) (x : ByteArray × ByteArray) : joinW (r ++ [x]) ByteArray.empty = joinW r ByteArray.empty ++ x.1 ++ x.2 := by
 rw [joinW_snoc, ByteArray.append_empty]
def gapPs (gp : Nat → ByteArray) : Nat → List TkP → List (ByteArray × TkP)
 | _, [] => []
 | i, tk :: r => (gp i, tk) :: gapPs gp (i + 1) r
theorem gapPs_snd (gp : Nat → ByteArray) : ∀ (i : Nat) (ts : List TkP), (gapPs gp i ts).map (·.2) = ts
 | _, [] => rfl
 | i, tk :: r => by simp [gapPs, gapPs_snd gp (i + 1) r]
theorem gapPs_snoc (gp : Nat → ByteArray) : ∀ (i : Nat) (ts : List TkP) (tk : TkP), gapPs gp i (ts ++ [tk]) = gapPs gp i ts ++ [(gp (i + ts.length), tk)]
 | i, [], tk => by simp [gapPs]
 | i, x :: r, tk => by
  simp only [List.cons_append, gapPs, gapPs_snoc gp (i + 1) r tk, List.length_cons]
  rw [show i + 1 + r.length = i + (r.length + 1) by omega]
def txtPs (ps : List (ByteArray × TkP)) : List (ByteArray × ByteArray) := ps.map fun x => (x.1, tkW x.2)
def MeetOk (a b : TkP) : Prop := Apart (tkW a) (byteAt (tkW b) 0)
theorem join_gaps {l : List POp} (hok : ∀ j, j < l.length → opOk (opAt l j) = true) {gp : Nat → ByteArray} (hb : ∀ i, Blanks (gp i)) {g : ByteArray} (hg : Blanks g) : ∀ (ts : List TkP) (i : Nat), (∀ tk, tk ∈ ts → TkOk l tk) → (∀ k a b, ts[k]? = some a → ts[k + 1]? = some b → 0 < (gp (i + k + 1)).size ∨ MeetOk a b) → JoinOk l (txtPs (gapPs gp i ts)) g
 | [], i, _, _ => hg
 | tk :: r, i, hk, hm => by
  have ht := (tk_is hok (hk tk (by simp)) ByteArray.empty).2
  refine ⟨hb i, ht, ?_, join_gaps hok hb hg r (i + 1) (fun t h => hk t (by simp [h])) (fun k a b h1 h2 => by
   have := hm (k + 1) a b (by simpa using h1) (by simpa using h2)
   rwa [show i + (k + 1) + 1 = i + 1 + k + 1 by omega] at this)⟩
  cases r with
  | nil => trivial
  | cons y s => exact hm 0 tk y rfl rfl
theorem blanks_of {g : ByteArray} (h : g = ⟨#[]⟩ ∨ g = ⟨#[32]⟩ ∨ g = ⟨#[10, 9]⟩ ∨ g = ⟨#[32, 32]⟩) : Blanks g := by
 intro i hi
 rcases h with rfl | rfl | rfl | rfl
 ·have : (⟨#[]⟩ : ByteArray).size = 0 := rfl
  omega
 ·obtain rfl : i = 0 := by have : (⟨#[32]⟩ : ByteArray).size = 1 := rfl; omega
  decide
 ·have : (⟨#[10, 9]⟩ : ByteArray).size = 2 := rfl
  rcases (by omega : i = 0 ∨ i = 1) with rfl | rfl <;> decide
 ·have : (⟨#[32, 32]⟩ : ByteArray).size = 2 := rfl
  rcases (by omega : i = 0 ∨ i = 1) with rfl | rfl <;> decide
def gapOne (i : Nat) : ByteArray := if i = 0 then ⟨#[]⟩ else ⟨#[32]⟩
theorem spcW_join (e : PT) : ∀ i, i ≤ e.yield.length → spcW (yieldW e) i = joinW (txtPs (gapPs gapOne 0 (e.yield.take i))) ByteArray.empty
 | 0, _ => by simp [spcW, gapPs, txtPs, joinW]
 | i + 1, h => by
  have hi : i < e.yield.length := by omega
  rw [List.take_add_one, List.getElem?_eq_getElem hi]
  simp only [Option.toList_some]
  rw [gapPs_snoc]
  simp only [txtPs, List.map_append, List.map_cons, List.map_nil]
  rw [joinW_nil_snoc, spcW, spcW_join e i (by omega), yieldW_at e (List.getElem?_eq_getElem hi)]
  simp only [List.length_take, Nat.zero_add, txtPs]
  rw [Nat.min_eq_left (by omega)]
  unfold gapOne
  by_cases h0 : i = 0
  ·rw [if_neg (by omega), if_pos h0]
   rw [show (⟨#[]⟩ : ByteArray) = ByteArray.empty from rfl, ByteArray.append_empty]
  ·rw [if_pos (by omega), if_neg h0]
structure WfTree (l : List POp) (T : List PNode) (e : PT) : Prop where
 tbl : tblOk l = 0
 lay : T = lay e []
 inT : InTab l e
 tks : TksOk l e
 len : 1 ≤ T.length ∧ T.length ≤ 20000
theorem wf_tree {l : List POp} {T : List PNode} (h : wellF l T = true) : WfTree l T (rootE l T) := by
 obtain ⟨g1, g2, g3, g4, _⟩ := bare_facts h
 refine ⟨(wellF_ord h).2, g4, g3, tks_of _ [] g3 fun n hn => ?_, g1, g2⟩
 rw [← g4] at hn
 obtain ⟨i, hi, rfl⟩ := List.getElem_of_mem hn
 have := (nodesOk_of h).txt i hi
 unfold nodAt at this
 rwa [List.getD_eq_getElem?_getD, List.getElem?_eq_getElem hi] at this
theorem WfTree.adm {l : List POp} {T : List PNode} {e : PT} (h : WfTree l T e) : ((List.range T.length).all (fun i => fitsN l T i) = true) ↔ e.Adm lvO := by
 rw [← fits_adm (uniq_of_ok h.tbl) (ok_of_ok h.tbl) e [] T h.inT (fun j _ => by rw [← h.lay]), List.all_eq_true]
 rw [← h.lay]
 simp
theorem WfTree.spaced {l : List POp} {T : List PNode} {e : PT} (h : WfTree l T e) (hz : (spcW (yieldW e) (yieldW e).length).size ≤ 20000) : Reads l e (spcW (yieldW e) (yieldW e).length) := by
 have e1 := spcW_join e e.yield.length (Nat.le_refl _)
 rw [List.take_length] at e1
 rw [yieldW_length] at hz ⊢
 rw [e1] at hz ⊢
 refine reads_join h.tbl (gapPs_snd _ _ _) (tksOk_all h.tks) ?_ hz
 refine join_gaps (ok_of_ok h.tbl) (fun i => ?_) (blanks_of (.inl rfl)) _ 0 (tksOk_all h.tks) fun k a b _ _ => .inl ?_
 ·unfold gapOne; split
  ·exact blanks_of (.inl rfl)
  ·exact blanks_of (.inr (.inl rfl))
 ·unfold gapOne; rw [if_neg (by omega)]; decide
theorem WfTree.height {l : List POp} {T : List PNode} {e : PT} (h : WfTree l T e) : HOk T (his e []) ∧ intAt (his e []) (T.length - 1) = highT e := by
 obtain ⟨f1, f2, _⟩ := inTab_facts h.inT
 have hO := hOk_lay e [] [] f1 f2 ⟨rfl, fun i hi => by simp at hi⟩
 have hl := his_last e []
 rw [hO.1, ← h.lay] at hl
 rw [← h.lay] at hO
 exact ⟨hO, hl⟩
theorem treeOk_cases (l : List POp) (T : List PNode) : treeOk l T = 1 ∨ treeOk l T = 2 ∨ (wellF l T = true ∧ ((treeOk l T = 0 ∧ (rootE l T).Adm lvO) ∨ (treeOk l T = 3 ∧ ¬ (rootE l T).Adm lvO))) := by
 by_cases h0 : tblOk l = 0
 ·cases hw : wellF l T with
  | false => exact .inr (.inl (by simp [treeOk, h0, hw]))
  | true =>
   have ha := (wf_tree hw).adm
   refine .inr (.inr ⟨rfl, ?_⟩)
   cases hf : (List.range T.length).all (fun i => fitsN l T i) with
   | true => exact .inl ⟨by unfold treeOk; rw [if_neg (by omega), if_neg (by rw [hw]; simp), if_pos hf], ha.1 hf⟩
   | false => exact .inr ⟨by unfold treeOk; rw [if_neg (by omega), if_neg (by rw [hw]; simp), if_neg (by rw [hf]; simp)], fun h => by rw [ha.2 h] at hf; cases hf⟩
 ·exact .inl (by simp [treeOk, h0])
theorem WfTree.parsed {l : List POp} {T : List PNode} {e : PT} {z : ByteArray} (h : WfTree l T e) (hr : Reads l e z) (ha : e.Adm lvO) (hh : highT e ≤ 1000) : parZ l z = (T, 0, 0) := by
 rw [hr.adm h.tbl ha hh, ← h.lay]
theorem WfTree.other {l : List POp} {T : List PNode} {e : PT} {z : ByteArray} (h : WfTree l T e) (hr : Reads l e z) (ha : ¬ e.Adm lvO) : (parZ l z).2.1 ≠ 0 ∨ nodsEq (parZ l z).1 T = false := by
 by_cases hc : (parZ l z).2.1 = 0
 ·obtain ⟨e', g1, g2, g3, g4, g5, _, g7⟩ := hr.only h.tbl hc
  refine .inr ?_
  cases hq : nodsEq (parZ l z).1 T with
  | false => rfl
  | true =>
   have := nodsEq_eq hq
   rw [g7, h.lay] at this
   have he := lay_inj h.inT (inTab_of (uniq_of_ok h.tbl) g3 g5 g4) this.symm
   exact absurd (he ▸ g1) ha
 ·exact .inl hc
end Go.Proofs.YtjdmmhcogmepaaaGreatDoor.V
namespace Go.Proofs.YtjdmmhcogmepaaaGreatDoor.V
open Go.RowKit
open Go.Proofs.YtjdmmhcogmepaaaGreatDoor.Ops (Tr Tk Lv Res Fit OF)
set_option linter.unusedVariables false
set_option linter.unusedSimpArgs false
set_option linter.constructorNameAsVariable false
def paR (l : List POp) (z : ByteArray) (av : AV) (obs : List Ob) : Prop := (av = .tup [.agg [.own 0], .lit (.int .i64 (parZ l z).2.1), .lit (.int .i64 (parZ l z).2.2)] ∧ obs = [⟨77, 4, (parZ l z).1.length, nodCells (parZ l z).1⟩]) ∨ ∃ x y : Int, parZ l z = ([], x, y) ∧ av = .tup [.agg [.lit (.slice none 0 0)], .lit (.int .i64 x), .lit (.int .i64 y)] ∧ obs = []
theorem paR_nil {l : List POp} {z : ByteArray} {x y : Int} (h : parZ l z = ([], x, y)) : paR l z (.tup [.agg [.lit (.slice none 0 0)], .lit (.int .i64 x), .lit (.int .i64 y)]) [] := .inr ⟨x, y, h, rfl, rfl⟩
theorem paR_own {l : List POp} {z : ByteArray} {av : AV} {obs : List Ob} (h : paR l z av obs) : (av = .tup [.agg [.own 0], .lit (.int .i64 (parZ l z).2.1), .lit (.int .i64 (parZ l z).2.2)] ∧ obs = [⟨77, 4, (parZ l z).1.length, nodCells (parZ l z).1⟩]) ∨ ∃ xs : List Value, av = .tup (.agg [.lit (.slice none 0 0)] :: xs.map .lit) ∧ obs = [] ∧
  (AV.tup (.agg [.own 0] :: xs.map .lit) = .tup [.agg [.own 0], .lit (.int .i64 (parZ l z).2.1), .lit (.int .i64 (parZ l z).2.2)] ∧ [(⟨77, 4, 0, nodCells []⟩ : Ob)] = [⟨77, 4, (parZ l z).1.length, nodCells (parZ l z).1⟩]) := by
 rcases h with h | ⟨x, y, h1, rfl, rfl⟩
 ·exact .inl h
 ·refine .inr ⟨[.int .i64 x, .int .i64 y], rfl, rfl, ?_⟩
  rw [h1]
  exact ⟨rfl, rfl⟩
end Go.Proofs.YtjdmmhcogmepaaaGreatDoor.V
namespace Go.Proofs.YtjdmmhcogmepaaaGreatDoor.V
open Go.RowKit
set_option linter.unusedVariables false
set_option linter.unusedSimpArgs false
section
variable {P : Program} {n : Nat} {base : Fr} {w0 w : World} {hd : Nat → Value} {s : VS} {a : Act}
theorem lk_map {ts : List Nat} {x : AV} {r : List (Nat × AV)} {u : Nat} : lk (ts.map (fun t => (t, x)) ++ r) u = if u ∈ ts then x else lk r u := by
 induction ts with
 | nil => simp
 | cons t ts ih =>
  simp only [List.map_cons, List.cons_append, lk]
  by_cases e : t = u
  ·subst e; simp
  ·rw [if_neg e, ih]
   have e' : ¬ u = t := fun h => e h.symm
   simp [e']
theorem RelH.rowSl (h : RelH n base w0 hd s a w) {k : Nat} {ob : Ob} (hk : s.mem[k]? = some (some ob)) (hc : ∀ i, i < ob.n → ∀ c, c ∈ ob.f i → Closed c) : Rep w (okOf (s.mem.set k none) hd) hd (s.mem.set k none).length (.sl ob.sz ob.n ob.f) (hd k) := by
 obtain ⟨hs, vals, ho, hr⟩ := h.me.obs k ob hk
 have hok : ∀ ad u, okOf s.mem hd ad.block → w.cell? ad = some u → w.cell? ad = some u ∧ okOf (s.mem.set k none) hd ad.block := fun ad u ho hcell => ⟨hcell, free_ok _ _ _ _ ho⟩
 rcases ho.2 with ⟨e, h0⟩ | ⟨g, cap, cur, e, h3, h1, h2, h4⟩
 ·rw [e, show Value.slice none 0 0 = Value.slice none ob.n 0 by rw [h0]]
  exact .sl _ _ _ none 0 (fun _ _ => undef) (by omega) (by omega) hs (fun i hi => (hr i hi).1) (fun hp => by omega) (fun i j av hi => by omega)
 ·have hcells := fun i hi => h.cells_ hk e (i := i) hi
  have hown : (hd k).ownBlock = some g := by rw [e]; rfl
  rw [e]
  refine .sl _ _ _ _ _ (fun i j => (w.cell? ((⟨g, i * ob.sz, none⟩ : Addr).add j)).getD undef) (by omega) (by simp only [maxLen] at h2; omega) hs (fun i hi => (hr i hi).1) (fun hp => ⟨_, rfl, ⟨fun q ob' hq e' => ?_, h.ownTail (h.me.alw k ob hk g hown)⟩, fun i j hi hj => ?_⟩) fun i j av hi hj => ?_
  ·obtain ⟨hq1, hq2⟩ := free_get hq
   rcases h.me.apart q k ob' ob hq1 hk hq2 with e2 | e2
   ·rw [e'] at e2; cases e2
   ·exact e2 (by rw [e', hown])
  ·obtain ⟨u, h1, _⟩ := hcells i hi j _ (List.getElem?_eq_getElem (by rw [(hr i hi).1]; exact hj))
   have e3 : ((⟨g, 0, none⟩ : Addr).add (i * ob.sz + j)) = (⟨g, i * ob.sz, none⟩ : Addr).add j := by
    by_cases hj0 : j = 0
    ·subst hj0
     by_cases hi0 : i * ob.sz = 0
     ·simp [Addr.add, hi0]
     ·simp only [Addr.add, Nat.add_zero]; rw [if_neg hi0]; simp
    ·have hne : ¬ (i * ob.sz + j = 0) := by omega
     simp only [Addr.add]; rw [if_neg hne, if_neg hj0]; simp
   rw [e3, h1]; rfl
  ·obtain ⟨u, h1, h2⟩ := hcells i hi j av hj
   simp only [h1]
   exact Rep.closed (hc i hi av (List.mem_of_getElem? hj)) (fun ad u' g1 g2 => ⟨g2, free_ok _ _ _ _ g1⟩) h2
end
theorem Ent.give {s : VS} (ts : List Nat) (k : Nat) {ob : Ob} (hk : s.mem[k]? = some (some ob)) (hc : ∀ i, i < ob.n → ∀ c, c ∈ ob.f i → Closed c) (ht : ∀ t, t ∈ ts → lk s.tmps t = .own k) :
  Ent s { s with tmps := ts.map (fun t => (t, .sl ob.sz ob.n ob.f)) ++ s.tmps, mem := s.mem.set k none } := by
 intro n base w0 hd a w h
 have hf := h.free k
 have hr := h.rowSl hk hc
 refine ⟨hd, hf.defers, hf.size, hf.below, hf.le, hf.fixl, hf.fix, hf.mp, fun u => ?_, hf.me⟩
 simp only [lk_map]
 split
 ·rename_i hu
  have := h.tm u
  rw [ht u hu] at this
  generalize a.tmps.getD u undef = v at this
  cases this
  exact hr
 ·exact hf.tm u
end Go.Proofs.YtjdmmhcogmepaaaGreatDoor.V
namespace Go.Proofs.YtjdmmhcogmepaaaGreatDoor.V
open Go.RowKit
open Go.Maps (Keyed)
open Go.Proofs.YtjdmmhcogmepaaaGreatDoor.Ops (Tr Tk Lv Res Fit)
set_option linter.unusedVariables false
set_option linter.unusedSimpArgs false
set_option linter.constructorNameAsVariable false
theorem zeroNud : zeroIs Tryz.prog 165 .nilFunc := fun w => Tryz.zeroValue165 w
theorem toks_at {E : PEnv} {i : Nat} {tk : TkP} {r : List TkP} (h : ToksAre E.l E.t i (tk :: r)) : i < E.t.length ∧ E.at_ r = i + 1 ∧ E.at_ (tk :: r) = i := by
 have := toksAre_len h
 simp only [List.length_cons] at this
 unfold PEnv.at_
 simp only [List.length_cons]
 omega
theorem fi_leaf (E : PEnv) (i : Nat) (hi : i < E.t.length) (rest : List TkP) (hr : E.at_ rest = i + 1) (hk : (tokAt E.t i).kind = 1 ∨ (tokAt E.t i).kind = 2) : E.Ans 125 [.ptr 0 6 0 0] i (some (.leaf ((tokAt E.t i).kind, (tokAt E.t i).text), rest)) := by
 refine .mk ?_
 have cn := c_pnext E.b1 E.b2 E.b3 E.b4 E.t E.len i hi
 rw [hr]
 simp only [PEnv.ob, pOb, PEnv.mps, mapsP, PTok.cells] at cn ⊢
 refine vprocG_start Tryz.func125 (by kernel_rfl) rfl (by simp [Tryz.ntmps125]) ?_; simp only [Tryz.ntmps125, Tryz.results125]; simp [go_sem]
 refine vcall_share [0] cn (by simp) ?_ ?_ ?_ ?_
 ·simp [go_sem]
 ·simp [go_sem]
  exact fun i c _ h => tokClosed E.t i c h
 ·simp [go_sem]
 ·rintro av mem maps ⟨rfl, rfl, rfl⟩
  simp only [pOb]
  simp [go_sem]
  rcases hk with hk | hk
  ·simp [hk, go_sem]
   exact E.fin_ [] (by simp only [partP, hk]) rfl
  ·simp [hk, go_sem]
   exact E.fin_ [] (by simp only [partP, hk]) rfl
theorem fi_open (E : PEnv) (i : Nat) (hi : i < E.t.length) (j : Nat) (hj : j < E.t.length) (e : PT) (r0 rest : List TkP) (h0 : E.at_ r0 = j) (hr : E.at_ rest = j + 1) (hk : (tokAt E.t i).kind = 4) (hk2 : (tokAt E.t j).kind = 5) (hl : highT e < 2 ^ 62) (ho : E.Ans 95 [.ptr 0 6 0 0, .lit (.int .i64 0)] (i + 1) (some (e, r0))) : E.Ans 125 [.ptr 0 6 0 0] i (some (.grp e, rest)) := by
 refine .mk ?_
 obtain ⟨T, u, hT, _, fh, hh, ch⟩ := partIs e
 have ew : IntKind.i64.wrap (1 + highT e) = 1 + highT e := wrap_i64 (by have := highT_pos e; omega)
 have cn := c_pnext E.b1 E.b2 E.b3 E.b4 E.t E.len i hi
 have cn2 := c_pnext E.b1 E.b2 E.b3 E.b4 E.t E.len j hj
 rw [hr]
 simp only [PEnv.ob, pOb, PEnv.mps, mapsP, PTok.cells] at cn cn2 ⊢
 refine vprocG_start Tryz.func125 (by kernel_rfl) rfl (by simp [Tryz.ntmps125]) ?_; simp only [Tryz.ntmps125, Tryz.results125]; simp [go_sem]
 refine vcall_share [0] cn (by simp) ?_ ?_ ?_ ?_
 ·simp [go_sem]
 ·simp [go_sem]
  exact fun i c _ h => tokClosed E.t i c h
 ·simp [go_sem]
 ·rintro av mem maps ⟨rfl, rfl, rfl⟩
  simp only [pOb]
  simp [hk, go_sem]
  refine vcall_tell [0] 48 ho (by simp) rfl (fun i _ => rnP E.lo i) ?_ ?_ ?_ ?_
  ·simp [go_sem]
  ·simp [go_sem, PEnv.ob, pOb]
   exact fun i c _ h => tokClosed E.t i c h
  ·exact E.mpsLe []
  ·rintro av mem maps ⟨⟨rfl, rfl⟩, rfl⟩
   rw [h0]
   simp only [PEnv.ob, pOb, PEnv.mps, mapsP]
   simp [go_sem]
   refine vcall_share [0] cn2 (by simp) ?_ ?_ ?_ ?_
   ·simp [go_sem]
   ·simp [go_sem]
    exact fun i c _ h => tokClosed E.t i c h
   ·simp [go_sem]
   ·rintro av mem maps ⟨rfl, rfl, rfl⟩
    simp only [pOb]
    simp [hk2, go_sem]
    rw [hT]
    simp [go_sem, hh]
    refine vcall_pure ch ?_ ?_
    ·simp [go_sem]
    ·simp [go_sem, ew]
     exact E.fin_ E.mps (by simp only [partP, hT]) rfl
theorem fi_open_dies (E : PEnv) (i : Nat) (hi : i < E.t.length) (hk : (tokAt E.t i).kind = 4) (ho : E.Ans 95 [.ptr 0 6 0 0, .lit (.int .i64 0)] (i + 1) none) : E.Ans 125 [.ptr 0 6 0 0] i none := by
 have cn := c_pnext E.b1 E.b2 E.b3 E.b4 E.t E.len i hi
 simp only [PEnv.Ans, PEnv.ob, pOb, PEnv.mps, mapsP, PTok.cells] at cn ho ⊢
 refine vdies_start Tryz.func125 (by kernel_rfl) rfl (by simp [Tryz.ntmps125]) ?_; simp only [Tryz.ntmps125, startG, startP, List.length_cons, List.length_nil, List.length_singleton]
 refine vd_snd ?_
 simp [go_sem]
 refine vd_snd ?_
 simp [go_sem]
 refine vcall_share [0] cn (by simp) ?_ ?_ ?_ ?_
 ·simp [go_sem]
 ·simp [go_sem]
  exact fun i c _ h => tokClosed E.t i c h
 ·simp [go_sem]
 ·rintro av mem maps ⟨rfl, rfl, rfl⟩
  simp only [pOb]
  simp [hk, go_sem]
  refine vd_fst ?_
  refine vd_snd ?_
  simp [hk, go_sem]
  refine vd_snd ?_
  simp [hk, go_sem]
  refine vd_snd ?_
  simp [hk, go_sem]
  refine vd_snd ?_
  simp [hk, go_sem]
  refine vd_fst ?_
  refine vd_at 1 ?_
  simp [go_sem]
  refine vdcall_tell [0] 48 ho (by simp) rfl (fun i _ => rnP E.lo i) ?_ ?_ (E.mpsLe []) (E.mpsLe [])
  ·simp [go_sem]
  ·simp [go_sem, PEnv.ob, pOb]
   exact fun i c _ h => tokClosed E.t i c h
theorem fi_open_end (E : PEnv) (i : Nat) (hi : i < E.t.length) (j : Nat) (hj : j < E.t.length) (e : PT) (r0 : List TkP) (h0 : E.at_ r0 = j) (hk : (tokAt E.t i).kind = 4) (hk2 : (tokAt E.t j).kind ≠ 5) (ho : E.Ans 95 [.ptr 0 6 0 0, .lit (.int .i64 0)] (i + 1) (some (e, r0))) : E.Ans 125 [.ptr 0 6 0 0] i none := by
 have cn := c_pnext E.b1 E.b2 E.b3 E.b4 E.t E.len i hi
 have cn2 := c_pnext E.b1 E.b2 E.b3 E.b4 E.t E.len j hj
 simp only [PEnv.Ans, PEnv.ob, pOb, PEnv.mps, mapsP, PTok.cells] at cn cn2 ⊢
 refine vdies_start Tryz.func125 (by kernel_rfl) rfl (by simp [Tryz.ntmps125]) ?_; simp only [Tryz.ntmps125, startG, startP, List.length_cons, List.length_nil, List.length_singleton]
 refine vd_snd ?_
 simp [go_sem]
 refine vd_snd ?_
 simp [go_sem]
 refine vcall_share [0] cn (by simp) ?_ ?_ ?_ ?_
 ·simp [go_sem]
 ·simp [go_sem]
  exact fun i c _ h => tokClosed E.t i c h
 ·simp [go_sem]
 ·rintro av mem maps ⟨rfl, rfl, rfl⟩
  simp only [pOb]
  simp [hk, go_sem]
  refine vd_fst ?_
  refine vd_snd ?_
  simp [hk, go_sem]
  refine vd_snd ?_
  simp [hk, go_sem]
  refine vd_snd ?_
  simp [hk, go_sem]
  refine vd_snd ?_
  simp [hk, go_sem]
  refine vd_snd ?_
  simp [hk, go_sem]
  refine vcall_tell [0] 48 ho (by simp) rfl (fun i _ => rnP E.lo i) ?_ ?_ ?_ ?_
  ·simp [go_sem]
  ·simp [go_sem, PEnv.ob, pOb]
   exact fun i c _ h => tokClosed E.t i c h
  ·exact E.mpsLe []
  ·rintro av mem maps ⟨⟨rfl, rfl⟩, rfl⟩
   rw [h0]
   simp only [PEnv.ob, pOb, PEnv.mps, mapsP]
   simp [go_sem]
   refine vd_fst ?_
   refine vd_snd ?_
   simp [go_sem]
   refine vcall_share [0] cn2 (by simp) ?_ ?_ ?_ ?_
   ·simp [go_sem]
   ·simp [go_sem]
    exact fun i c _ h => tokClosed E.t i c h
   ·simp [go_sem]
   ·rintro av mem maps ⟨rfl, rfl, rfl⟩
    simp only [pOb]
    simp [hk2, go_sem]
    refine vd_at 2 ?_
    simp [go_sem, noTreeV, E.n13, E.n14, E.n34]
theorem fi_pre (E : PEnv) (i : Nat) (hi : i < E.t.length) (q : Nat) (hk : (tokAt E.t i).kind = 3) (hz : (tokAt E.t i).text.size ≤ maxLen) (hm : mget E.esN (.string (tokAt E.t i).text) = some (.func (.func 94) #[] #[vsP E.bp E.bo 0, vsP E.bp E.bo (q + 1)])) (e : PT) (rest : List TkP)
  (ho : E.Ans 94 [.agg (tokAt E.t i).cells, .lit (vsP E.bp E.bo 0), .lit (vsP E.bp E.bo (q + 1))] (i + 1) (some (e, rest))) : E.Ans 125 [.ptr 0 6 0 0] i (some (e, rest)) := by
 refine .mk ?_
 have cn := c_pnext E.b1 E.b2 E.b3 E.b4 E.t E.len i hi
 have h13 := E.n13
 have h14 := E.n14
 have h34 := E.n34
 simp only [PEnv.ob, pOb, PEnv.mps, mapsP, PTok.cells, vsP] at cn ho hm ⊢
 refine vprocG_start Tryz.func125 (by kernel_rfl) rfl (by simp [Tryz.ntmps125]) ?_; simp only [Tryz.ntmps125, Tryz.results125]; simp [go_sem]
 refine vcall_share [0] cn (by simp) ?_ ?_ ?_ ?_
 ·simp [go_sem]
 ·simp [go_sem]
  exact fun i c _ h => tokClosed E.t i c h
 ·simp [go_sem]
 ·rintro av mem maps ⟨rfl, rfl, rfl⟩
  simp only [pOb]
  simp [hk, go_sem]
  refine vc_drawn [8] (.q 0 <| .q 1 <| .q 2 <| .q 3 <| .q 4 <| .q 5 <| .q 6 <| .q 7 <| .or 8 (.q 9 <| .done) (.nil)) (by kernel_rfl) ?_
  simp [hk, go_sem, h13, h14, h34]
  refine vlookK_use keyedString (keyString hz) _ zeroNud ?_
  rw [hm]
  simp [go_sem]
  refine vcall_tell [0] 48 ho (by simp) rfl (fun i _ => rnP E.lo i) ?_ ?_ ?_ ?_
  ·simp [go_sem, hk]
  ·simp [go_sem, PEnv.ob, pOb]
   exact fun i c _ h => tokClosed E.t i c h
  ·exact E.mpsLe []
  ·rintro av mem maps ⟨⟨rfl, rfl⟩, rfl⟩
   simp only [PEnv.ob, pOb, PEnv.mps, mapsP]
   simp [go_sem]
   exact E.fin_ E.mps rfl rfl
theorem fi_pre_dies (E : PEnv) (i : Nat) (hi : i < E.t.length) (q : Nat) (hk : (tokAt E.t i).kind = 3) (hz : (tokAt E.t i).text.size ≤ maxLen) (hm : mget E.esN (.string (tokAt E.t i).text) = some (.func (.func 94) #[] #[vsP E.bp E.bo 0, vsP E.bp E.bo (q + 1)]))
  (ho : E.Ans 94 [.agg (tokAt E.t i).cells, .lit (vsP E.bp E.bo 0), .lit (vsP E.bp E.bo (q + 1))] (i + 1) none) : E.Ans 125 [.ptr 0 6 0 0] i none := by
 have cn := c_pnext E.b1 E.b2 E.b3 E.b4 E.t E.len i hi
 have h13 := E.n13
 have h14 := E.n14
 have h34 := E.n34
 simp only [PEnv.Ans, PEnv.ob, pOb, PEnv.mps, mapsP, PTok.cells, vsP] at cn ho hm ⊢
 refine vdies_start Tryz.func125 (by kernel_rfl) rfl (by simp [Tryz.ntmps125]) ?_; simp only [Tryz.ntmps125, startG, startP, List.length_cons, List.length_nil, List.length_singleton]
 refine vd_snd ?_
 simp [go_sem]
 refine vd_snd ?_
 simp [go_sem]
 refine vcall_share [0] cn (by simp) ?_ ?_ ?_ ?_
 ·simp [go_sem]
 ·simp [go_sem]
  exact fun i c _ h => tokClosed E.t i c h
 ·simp [go_sem]
 ·rintro av mem maps ⟨rfl, rfl, rfl⟩
  simp only [pOb]
  simp [hk, go_sem]
  refine vd_snd ?_
  simp [hk, go_sem]
  refine vd_fst (vd_drawn [8] (.q 0 <| .q 1 <| .q 2 <| .q 3 <| .q 4 <| .q 5 <| .q 6 <| .q 7 <| .or 8 (.q 9 <| .done) (.nil)) (by kernel_rfl) ?_)
  simp [hk, go_sem, h13, h14, h34]
  refine vlookK_use keyedString (keyString hz) _ zeroNud ?_
  rw [hm]
  simp [go_sem]
  refine vdcall_tell [0] 48 ho (by simp) rfl (fun i _ => rnP E.lo i) ?_ ?_ (E.mpsLe []) (E.mpsLe [])
  ·simp [go_sem, hk]
  ·simp [go_sem, PEnv.ob, pOb]
   exact fun i c _ h => tokClosed E.t i c h
theorem tok_kind {l : List POp} {k : PTok} {tk : TkP} (h : TokIs l k tk) : k.kind = 5 → tk = .cls := by
 cases tk <;> simp only [TokIs] at h <;> intro h5 <;> first | rfl | (exfalso; omega) | skip
theorem c_first (E : PEnv) (n : Nat) (hO : ∀ i m d ts res, ToksAre E.l E.t i ts → Fit true d ts → Ops.operand lvO n m ts = some res → E.Ans 95 [.ptr 0 6 0 0, .lit (.int .i64 m)] i res)
  (i d : Nat) (ts : List TkP) (res : Option (PT × List TkP)) (ht : ToksAre E.l E.t i ts) (hf : Fit true d ts) (h : Ops.firstF lvO (Ops.operand lvO n) ts = some res) : E.Ans 125 [.ptr 0 6 0 0] i res := by
 cases ts with
 | nil => exact absurd hf (by simp [Fit])
 | cons tk r =>
  obtain ⟨hi, h1, _⟩ := toks_at ht
  obtain ⟨ht1, ht2⟩ := ht
  have big : ∀ {m : Int} {u : List TkP} {e : PT} {rest : List TkP}, u.length ≤ E.t.length → Ops.operand lvO n m u = some (some (e, rest)) → highT e ≤ 1048576 := @fun _ _ e _ hu hq => by
   have := ((Ops.sound_all lvO n).1 _ _ _ _ hq).1
   have h2 := highT_yield e
   have h3 := congrArg List.length this
   rw [List.length_append] at h3
   have := E.len
   omega
  have hlen := toksAre_len ht2
  cases tk with
  | leaf b =>
   simp only [Ops.firstF, Option.some.injEq] at h
   subst h
   simp only [TokIs] at ht1
   have := fi_leaf E i hi r h1 ht1.1
   rw [ht1.2]; exact this
  | opn =>
   simp only [TokIs] at ht1
   simp only [Fit] at hf
   cases hq : Ops.operand lvO n 0 r with
   | none => simp [Ops.firstF, hq] at h
   | some x =>
    have ho := hO (i + 1) 0 (d + 1) r x ht2 hf hq
    cases x with
    | none =>
     simp [Ops.firstF, hq] at h
     subst h
     exact fi_open_dies E i hi ht1 ho
    | some y =>
     obtain ⟨e, r0⟩ := y
     have hs := ((Ops.sound_all lvO n).1 _ _ _ _ hq).1
     have ht3 := ht2
     rw [hs] at ht3
     have ht4 := toksAre_rest ht3
     have hj : E.t.length - 1 - r0.length < E.t.length := by omega
     have hb := big (by omega) hq
     simp only [Ops.firstF, hq] at h
     cases r0 with
     | nil =>
      simp at h; subst h
      exact fi_open_end E i hi (E.at_ []) hj e [] rfl ht1 (by
       have := ht4.2
       show (tokAt E.t (E.t.length - 1 - 0)).kind ≠ 5
       simp only [List.length_nil] at this
       omega) ho
     | cons tk2 r1 =>
      obtain ⟨_, h6, h7⟩ := toks_at ht4
      by_cases hc : tk2 = .cls
      ·subst hc
       simp at h; subst h
       have hk5 := ht4.1
       simp only [TokIs] at hk5
       exact fi_open E i hi (E.at_ (.cls :: r1)) hj e _ r1 rfl h6 ht1 hk5 (by omega) ho
      ·have hn : res = none := by cases tk2 <;> first | exact absurd rfl hc | (simp at h; exact h.symm)
       subst hn
       exact fi_open_end E i hi (E.at_ (tk2 :: r1)) hj e _ rfl ht1 (fun h5 => hc (tok_kind ht4.1 h5)) ho
  | pre o =>
   simp only [TokIs] at ht1
   simp only [Fit] at hf
   obtain ⟨k1, k2, k3, j, hj, rfl⟩ := ht1
   obtain ⟨q, hq0, hq1, hq2⟩ := E.maps.nud j hj k3
   have hok := E.maps.ok j hj
   have hh : hole (opAt E.lo q) false = (lvO (opAt E.l j)).h2 := by rw [hq1]; exact hole_h2p hok k3
   have hw : (opAt E.lo q).wf := by rw [hq1]; exact E.maps.wf j hj
   rw [k2] at hq2
   cases hq : Ops.operand lvO n (lvO (opAt E.l j)).h2 r with
   | none => simp [Ops.firstF, hq] at h
   | some x =>
    have ho := hO (i + 1) _ d r x ht2 hf hq
    rw [← hh] at ho
    simp only [Ops.firstF, hq] at h
    cases x with
    | none =>
     simp at h; subst h
     exact fi_pre_dies E i hi q k1 (E.txt i hi) hq2 (an_pre_dies E _ q hq0 hw _ ho)
    | some y =>
     obtain ⟨e, r0⟩ := y
     simp at h; subst h
     have hb := big (by omega) hq
     have := fi_pre E i hi q k1 (E.txt i hi) hq2 _ _ (an_pre E (tokAt E.t i) q hq0 hw _ e r0 (by omega) ho)
     rw [hq1] at this; exact this
  | cls => exact absurd hf (by simp [Fit])
  | inf o => exact absurd hf (by simp [Fit])
  | post o => exact absurd hf (by simp [Fit])
end Go.Proofs.YtjdmmhcogmepaaaGreatDoor.V
namespace Go.Proofs.YtjdmmhcogmepaaaGreatDoor.V
open Go.RowKit
open Go.Maps (Keyed)
open Go.Proofs.YtjdmmhcogmepaaaGreatDoor.Ops (Tr Tk Lv Res Fit)
set_option linter.unusedVariables false
set_option linter.unusedSimpArgs false
set_option linter.constructorNameAsVariable false
theorem PEnv.mpsLe1 (E : PEnv) (M : List (Nat × Mp)) : MapsLe ((E.b1, ⟨151, E.esA⟩) :: (E.mps ++ M)) E.mps := by
 have h1 := E.n13
 have h2 := E.n14
 have h3 := E.n34
 simp [PEnv.mps, mapsP, MapsLe, lkm, h1, h2, h3, Ne.symm h1, Ne.symm h2, Ne.symm h3]
theorem PEnv.fin2 (E : PEnv) {u v : Value} {i j : Nat} {M : List (Nat × Mp)} (hM : MapsLe M E.mps) {r : List (Option Ob)} {tm : List (Nat × AV)} (hv : v = u) (hij : i = j) : vendP E.mps (E.Rt u j) ⟨tm, E.ob i :: r, M, 1⟩ (.lit v) := by
 subst hv; subst hij
 refine ⟨rfl, [], [E.ob i], by simp, by simp, by simp [go_sem], ?_, fun b hb => ?_, ⟨⟨rfl, rfl⟩, hM⟩⟩
 ·simp only [PEnv.ob, pOb]
  simp [go_sem]
  exact pOut
 ·cases hq : lkm E.mps b with
  | none => rw [hq] at hb; simp at hb
  | some mp => rw [mapsLe_get hM (b, mp) (lkm_mem hq)]; rfl
theorem zeroLed : zeroIs Tryz.prog 166 .nilFunc := fun w => Tryz.zeroValue166 w
structure AtLoop (E : PEnv) (n : Nat) (m : Int) (res : Option (PT × List TkP)) (x : PT × List TkP) : Prop where
 run : ∃ k, k ≤ n ∧ Ops.loop lvO k m x.1 x.2 = some res
 toks : ToksAre E.l E.t (E.at_ x.2) x.2
 fit : ∃ d, Fit false d x.2
 len : x.1.yield.length + x.2.length + 1 ≤ E.t.length
def atLoopS (E : PEnv) (m : Int) (x : PT × List TkP) : VS := ⟨[(62, .fam (E.lo.length + 1) (vsP E.bp E.bo) (asP E.lo)), (0, .ptr 0 6 0 0), (1, .lit (.int .i64 m)), (4, .lit .nilIface), (5, .lit (partP x.1))], [E.ob (E.at_ x.2)], E.mps, 1⟩
theorem op_some (E : PEnv) (n : Nat) (hO : ∀ i m d ts res, ToksAre E.l E.t i ts → Fit true d ts → Ops.operand lvO n m ts = some res → E.Ans 95 [.ptr 0 6 0 0, .lit (.int .i64 m)] i res)
  (i : Nat) (m : Int) (e : PT) (ts : List TkP) (er : PT) (rest : List TkP) (hf : E.Ans 125 [.ptr 0 6 0 0] i (some (e, ts))) (hm : m ≤ e.level lvO) (hl : AtLoop E n m (some (er, rest)) (e, ts)) : E.Ans 95 [.ptr 0 6 0 0, .lit (.int .i64 m)] i (some (er, rest)) := by
 refine .mk ?_
 obtain ⟨T, u, hT, ⟨fl, hfl, cl⟩, _⟩ := partIs e
 have h13 := E.n13
 have h14 := E.n14
 have h34 := E.n34
 simp only [PEnv.ob, pOb, PEnv.mps, mapsP]
 refine vprocG_start Tryz.func95 (by kernel_rfl) rfl (by simp [Tryz.ntmps95]) ?_; simp only [Tryz.ntmps95, Tryz.results95]; simp [go_sem]
 refine vcall_tell [0] 62 hf (by simp) rfl (fun i _ => rnP E.lo i) ?_ ?_ ?_ ?_
 ·simp [go_sem]
 ·simp [go_sem, PEnv.ob, pOb]
  exact fun i c _ h => tokClosed E.t i c h
 ·exact E.mpsLe []
 ·rintro av mem maps ⟨⟨rfl, rfl⟩, rfl⟩
  simp only [PEnv.ob, pOb, PEnv.mps, mapsP]
  simp [go_sem]
  rw [hT]
  simp [go_sem, hfl]
  refine vcall_pure cl ?_ ?_
  ·simp [go_sem]
  ·rw [← lvlP_eq] at hm
   simp [go_sem, show ¬ lvlP e < m by omega]
   refine vc_loopE (AtLoop E n m (some (er, rest))) (fun x => x.2.length) (atLoopS E m) ⟨(e, ts), hl, ?_⟩ (fun x hx => ?_)
   ·refine ent_ks [0] (by simp) (by simp) (by simp) (by simp) (E.mpsLe _) ?_ ?_
    ·simp [go_sem]
     exact ⟨.fam _ _ _ _ fun i _ => rnP E.lo i, hT.symm⟩
    ·simp [go_sem, PEnv.ob, pOb]
     exact fun i c _ h => tokClosed E.t i c h
   ·obtain ⟨e, ts⟩ := x
    obtain ⟨⟨k, hk, hrun⟩, htk, ⟨d, hfit⟩, hlen⟩ := hx
    have hlt : E.at_ ts < E.t.length := by unfold PEnv.at_; omega
    simp only [atLoopS, PEnv.ob, pOb, PEnv.mps, mapsP]
    simp [go_sem]
    refine vc_drawn [11] (.q 0 <| .q 1 <| .q 2 <| .q 3 <| .q 4 <| .q 5 <| .q 6 <| .q 7 <| .q 8 <| .q 9 <| .or 10 (.or 11 (.done) (.nil)) (.nil)) (by kernel_rfl) ?_
    simp [go_sem, tokCells_at, hlt, PTok.cells]
    cases ts with
    | nil =>
     have hk7 := htk.2
     simp [go_sem, hk7]
     cases k with
     | zero => simp [Ops.loop] at hrun
     | succ k =>
      simp [Ops.loop, Ops.loopF] at hrun
      obtain ⟨rfl, rfl⟩ := hrun
      exact E.fin_ [] rfl rfl
    | cons tk r =>
     obtain ⟨hi, hi1, hi2⟩ := toks_at htk
     obtain ⟨ht1, ht2⟩ := htk
     have hi2' : E.at_ (tk :: r) < E.t.length := hlt
     by_cases hc : tk = .cls
     ·subst hc
      simp only [TokIs] at ht1
      simp [go_sem, ht1]
      cases k with
      | zero => simp [Ops.loop] at hrun
      | succ k =>
       simp [Ops.loop, Ops.loopF] at hrun
       obtain ⟨rfl, rfl⟩ := hrun
       exact E.fin_ [] rfl rfl
     ·obtain ⟨o, hk3, htx, hko, ⟨j, hj, hjo⟩, htk⟩ : ∃ o, (tokAt E.t (E.at_ (tk :: r))).kind = 3 ∧ o.text = (tokAt E.t (E.at_ (tk :: r))).text ∧ o.kind ≠ 1 ∧ (∃ j, j < E.l.length ∧ opAt E.l j = o) ∧ ((tk = .inf o ∧ o.kind = 2) ∨ (tk = .post o ∧ o.kind = 3)) := by
       cases tk with
       | cls => exact absurd rfl hc
       | inf o => exact ⟨o, ht1.1, ht1.2.1, by have := ht1.2.2.1; omega, ht1.2.2.2, .inl ⟨rfl, ht1.2.2.1⟩⟩
       | post o => exact ⟨o, ht1.1, ht1.2.1, by have := ht1.2.2.1; omega, ht1.2.2.2, .inr ⟨rfl, ht1.2.2.1⟩⟩
       | leaf b => exact absurd hfit (by simp [Fit])
       | opn => exact absurd hfit (by simp [Fit])
       | pre o => exact absurd hfit (by simp [Fit])
      have hw : o.wf := by rw [← hjo]; exact E.maps.wf j hj
      have hok : opOk o = true := by rw [← hjo]; exact E.maps.ok j hj
      have hh1 := hole_h1 hok hko
      have cH := c_Hole o hw false
      rw [hh1] at cH
      have cb := c_behind E.l E.b1 E.b2 E.b3 E.b4 E.t (E.at_ (tk :: r)) E.maps.uniq E.esA E.maps.at_ j hj (by rw [hjo]; exact hko) (by rw [hjo]; exact hw)
      rw [hjo, htx] at cb
      simp only [POp.cells, pOb] at cb cH
      simp [go_sem, hk3]
      refine vcall_share [0] cb (by simp) ?_ ?_ ?_ ?_
      ·simp [go_sem]
      ·simp [go_sem]
       exact fun i c _ h => tokClosed E.t i c h
      ·simp [go_sem]
      ·rintro av mem maps ⟨rfl, rfl, rfl⟩
       simp only [pOb]
       simp [go_sem]
       have hrun' : ∃ k', k = k' + 1 ∧ ((o.level < m ∨ e.level lvO < (lvO o).h1) → er = e ∧ rest = tk :: r) := by
        cases k with
        | zero => simp [Ops.loop] at hrun
        | succ k =>
         refine ⟨k, rfl, fun hor => ?_⟩
         rw [Ops.loop] at hrun
         rcases htk with ⟨rfl, _⟩ | ⟨rfl, _⟩ <;>
         ·simp only [Ops.loopF] at hrun
          have hl : (lvO o).lev = o.level := rfl
          rw [hl] at hrun
          by_cases hlm : o.level < m
          ·rw [if_pos hlm] at hrun; simp at hrun; exact ⟨hrun.1.symm, hrun.2.symm⟩
          ·rcases hor with hor | hor
           ·exact absurd hor hlm
           ·rw [if_neg hlm, if_pos hor] at hrun; simp at hrun; exact ⟨hrun.1.symm, hrun.2.symm⟩
       obtain ⟨k, rfl, hstop⟩ := hrun'
       refine ⟨fun hlm => ?_, fun hlm => ?_⟩
       ·obtain ⟨rfl, rfl⟩ := hstop (.inl hlm)
        exact E.fin2 (E.mpsLe1 []) rfl rfl
       ·refine vc_drawn [] (.q 0 <| .q 2 <| .or 1 (.or 3 (.q 4 <| .done) (.nil)) (.nil)) (by kernel_rfl) ?_
        simp [go_sem]
        obtain ⟨T, u, hT, ⟨fl, hfl, cl⟩, _⟩ := partIs e
        rw [hT]
        simp [go_sem, hfl]
        refine vcallV_pure cl ?_ ?_
        ·simp [go_sem]
        ·simp [go_sem]
         refine vcallV_pure cH ?_ ?_
         ·simp [go_sem]
         ·simp [go_sem]
          rw [← hT]
          rw [lvlP_eq]
          refine ⟨fun hlh => ?_, fun hlh => ?_⟩
          ·obtain ⟨rfl, rfl⟩ := hstop (.inr hlh)
           exact E.fin2 (E.mpsLe1 []) rfl rfl
          ·have ew : IntKind.i64.wrap ((E.at_ (tk :: r) : Int) + 1) = ((E.at_ r : Nat) : Int) := by rw [hi1, hi2]; exact wrap_succ (by have := E.len; omega)
           simp [go_sem, ew]
           refine vc_drawn [9] (.q 0 <| .q 1 <| .q 2 <| .q 3 <| .q 4 <| .q 5 <| .q 6 <| .q 7 <| .q 8 <| .or 9 (.q 10 <| .done) (.nil)) (by kernel_rfl) ?_
           simp [go_sem, h13, h14, h34, Ne.symm h13, Ne.symm h14, Ne.symm h34]
           refine vlookK_use keyedString (keyString (E.txt _ hi2')) _ zeroLed ?_
           have hye := highT_yield e
           have hEl := E.len
           simp only [List.length_cons] at hlen
           rcases htk with ⟨rfl, ho2⟩ | ⟨rfl, ho3⟩
           ·have hm2 := E.maps.led2 j hj (by rw [hjo]; exact ho2)
            rw [hjo, htx] at hm2
            rw [hm2]
            simp [go_sem]
            simp only [Fit] at hfit
            have hh2 := hole_h2i hok ho2
            rw [Ops.loop, Ops.loopF, if_neg (show ¬ (lvO o).lev < m by show ¬ o.level < m; omega), if_neg (show ¬ e.level lvO < (lvO o).h1 by omega)] at hrun
            cases hq : Ops.operand lvO k (lvO o).h2 r with
            | none => rw [hq] at hrun; simp at hrun
            | some y =>
             rw [hq] at hrun
             cases y with
             | none => simp at hrun
             | some y =>
              obtain ⟨e2, r2⟩ := y
              simp only at hrun
              have hq' := Ops.operand_le lvO (show k ≤ n by omega) hq
              have hs := ((Ops.sound_all lvO n).1 _ _ _ _ hq').1
              have ht2' : ToksAre E.l E.t (E.at_ r) r := by rw [hi1, ← hi2]; exact ht2
              have ho := hO (E.at_ r) _ d r _ ht2' hfit hq'
              rw [← hh2] at ho
              have hy2 := highT_yield e2
              have hl2 := congrArg List.length hs
              rw [List.length_append] at hl2
              have ha := an_inf E o hw (E.at_ r) e e2 r2 (by omega) (by omega) ho
              refine vcall_tell [0] 62 ha (by simp) rfl (fun i _ => rnP E.lo i) ?_ ?_ ?_ ?_
              ·simp [go_sem, POp.cells, vsP]
              ·simp [go_sem, PEnv.ob, pOb]
               exact fun i c _ h => tokClosed E.t i c h
              ·exact E.mpsLe1 []
              ·rintro av mem maps ⟨⟨rfl, rfl⟩, rfl⟩
               simp only [PEnv.ob, pOb]
               simp [go_sem]
               refine ⟨.inf o e e2, r2, ⟨⟨k, by omega, hrun⟩, ?_, ⟨d, ?_⟩, ?_⟩, ?_, ?_⟩
               ·rw [hs] at ht2'; exact toksAre_rest ht2'
               ·rw [hs] at hfit; exact fit_yield _ _ _ hfit
               ·simp [Tr.yield]; omega
               ·try simp only [List.length_cons]
                omega
               ·refine ent_ks [0] (by simp) (by simp) (by simp) (by simp) (E.mpsLe _) ?_ ?_
                ·simp [go_sem]
                 exact .fam _ _ _ _ fun i _ => rnP E.lo i
                ·simp [go_sem, PEnv.ob, pOb]
                 exact fun i c _ h => tokClosed E.t i c h
           ·have hm3 := E.maps.led3 j hj (by rw [hjo]; exact ho3)
            rw [hjo, htx] at hm3
            rw [hm3]
            simp [go_sem]
            simp only [Fit] at hfit
            rw [Ops.loop, Ops.loopF, if_neg (show ¬ (lvO o).lev < m by show ¬ o.level < m; omega), if_neg (show ¬ e.level lvO < (lvO o).h1 by omega)] at hrun
            have ha := an_post E e o r (by omega)
            have ht2' : ToksAre E.l E.t (E.at_ r) r := by rw [hi1, ← hi2]; exact ht2
            refine vcall_tell [0] 62 ha (by simp) rfl (fun i _ => rnP E.lo i) ?_ ?_ ?_ ?_
            ·simp [go_sem, POp.cells, vsP]
            ·simp [go_sem, PEnv.ob, pOb]
             exact fun i c _ h => tokClosed E.t i c h
            ·exact E.mpsLe1 []
            ·rintro av mem maps ⟨⟨rfl, rfl⟩, rfl⟩
             simp only [PEnv.ob, pOb]
             simp [go_sem]
             refine ⟨.post o e, r, ⟨⟨k, by omega, hrun⟩, ht2', ⟨d, hfit⟩, ?_⟩, ?_, ?_⟩
             ·simp [Tr.yield]; omega
             ·try simp only [List.length_cons]
              omega
             ·refine ent_ks [0] (by simp) (by simp) (by simp) (by simp) (E.mpsLe _) ?_ ?_
              ·simp [go_sem]
               exact .fam _ _ _ _ fun i _ => rnP E.lo i
              ·simp [go_sem, PEnv.ob, pOb]
               exact fun i c _ h => tokClosed E.t i c h
theorem op_none1 (E : PEnv) (i : Nat) (m : Int) (hf : E.Ans 125 [.ptr 0 6 0 0] i none) : E.Ans 95 [.ptr 0 6 0 0, .lit (.int .i64 m)] i none := by
 simp only [PEnv.Ans, PEnv.ob, pOb, PEnv.mps, mapsP] at hf ⊢
 refine vdies_start Tryz.func95 (by kernel_rfl) rfl (by simp [Tryz.ntmps95]) ?_; simp only [Tryz.ntmps95, startG, startP, List.length_cons, List.length_nil, List.length_singleton]
 refine vd_snd ?_
 simp [go_sem]
 refine vd_fst ?_
 refine vd_at 1 ?_
 simp [go_sem]
 refine vdcall_tell [0] 62 hf (by simp) rfl (fun i _ => rnP E.lo i) ?_ ?_ (E.mpsLe []) (E.mpsLe [])
 ·simp [go_sem]
 ·simp [go_sem, PEnv.ob, pOb]
  exact fun i c _ h => tokClosed E.t i c h
theorem op_none2 (E : PEnv) (i : Nat) (m : Int) (e : PT) (ts : List TkP) (hf : E.Ans 125 [.ptr 0 6 0 0] i (some (e, ts))) (hm : e.level lvO < m) : E.Ans 95 [.ptr 0 6 0 0, .lit (.int .i64 m)] i none := by
 obtain ⟨T, u, hT, ⟨fl, hfl, cl⟩, _⟩ := partIs e
 simp only [PEnv.Ans, PEnv.ob, pOb, PEnv.mps, mapsP]
 refine vdies_start Tryz.func95 (by kernel_rfl) rfl (by simp [Tryz.ntmps95]) ?_; simp only [Tryz.ntmps95, startG, startP, List.length_cons, List.length_nil, List.length_singleton]
 refine vd_snd ?_
 simp [go_sem]
 refine vd_snd ?_
 simp [go_sem]
 refine vcall_tell [0] 62 hf (by simp) rfl (fun i _ => rnP E.lo i) ?_ ?_ ?_ ?_
 ·simp [go_sem]
 ·simp [go_sem, PEnv.ob, pOb]
  exact fun i c _ h => tokClosed E.t i c h
 ·exact E.mpsLe []
 ·rintro av mem maps ⟨⟨rfl, rfl⟩, rfl⟩
  simp only [PEnv.ob, pOb, PEnv.mps, mapsP]
  simp [go_sem]
  rw [hT]
  refine vd_fst ?_
  refine vd_snd ?_
  simp [go_sem, hfl]
  refine vcall_pure cl ?_ ?_
  ·simp [go_sem]
  ·rw [← lvlP_eq] at hm
   simp [go_sem, hm]
   refine vd_at 2 ?_
   simp [go_sem, noTreeV, E.n13, E.n14, E.n34]
theorem op_none3 (E : PEnv) (n : Nat) (hO : ∀ i m d ts res, ToksAre E.l E.t i ts → Fit true d ts → Ops.operand lvO n m ts = some res → E.Ans 95 [.ptr 0 6 0 0, .lit (.int .i64 m)] i res)
  (i : Nat) (m : Int) (e : PT) (ts : List TkP) (hf : E.Ans 125 [.ptr 0 6 0 0] i (some (e, ts))) (hm : m ≤ e.level lvO) (hl : AtLoop E n m none (e, ts)) : E.Ans 95 [.ptr 0 6 0 0, .lit (.int .i64 m)] i none := by
 obtain ⟨T, u, hT, ⟨fl, hfl, cl⟩, _⟩ := partIs e
 have h13 := E.n13
 have h14 := E.n14
 have h34 := E.n34
 simp only [PEnv.Ans, PEnv.ob, pOb, PEnv.mps, mapsP]
 refine vdies_start Tryz.func95 (by kernel_rfl) rfl (by simp [Tryz.ntmps95]) ?_; simp only [Tryz.ntmps95, startG, startP, List.length_cons, List.length_nil, List.length_singleton]
 refine vd_snd ?_
 simp [go_sem]
 refine vd_snd ?_
 simp [go_sem]
 refine vcall_tell [0] 62 hf (by simp) rfl (fun i _ => rnP E.lo i) ?_ ?_ ?_ ?_
 ·simp [go_sem]
 ·simp [go_sem, PEnv.ob, pOb]
  exact fun i c _ h => tokClosed E.t i c h
 ·exact E.mpsLe []
 ·rintro av mem maps ⟨⟨rfl, rfl⟩, rfl⟩
  simp only [PEnv.ob, pOb, PEnv.mps, mapsP]
  simp [go_sem]
  rw [hT]
  refine vd_snd ?_
  simp [go_sem, hfl]
  refine vcall_pure cl ?_ ?_
  ·simp [go_sem]
  ·rw [← lvlP_eq] at hm
   simp [go_sem, show ¬ lvlP e < m by omega]
   refine vd_loopE (AtLoop E n m none) (fun x => x.2.length) (atLoopS E m) ⟨(e, ts), hl, ?_⟩ (fun x hx => ?_)
   ·refine ent_ks [0] (by simp) (by simp) (by simp) (by simp) (E.mpsLe _) ?_ ?_
    ·simp [go_sem]
     exact ⟨.fam _ _ _ _ fun i _ => rnP E.lo i, hT.symm⟩
    ·simp [go_sem, PEnv.ob, pOb]
     exact fun i c _ h => tokClosed E.t i c h
   ·obtain ⟨e, ts⟩ := x
    obtain ⟨⟨k, hk, hrun⟩, htk, ⟨d, hfit⟩, hlen⟩ := hx
    have hlt : E.at_ ts < E.t.length := by unfold PEnv.at_; omega
    cases k with
    | zero => simp [Ops.loop] at hrun
    | succ k =>
     rw [Ops.loop] at hrun
     cases ts with
     | nil => simp [Ops.loopF] at hrun
     | cons tk r =>
      obtain ⟨hi, hi1, hi2⟩ := toks_at htk
      obtain ⟨ht1, ht2⟩ := htk
      have hi2' : E.at_ (tk :: r) < E.t.length := hlt
      obtain ⟨o, hk3, htx, hko, ⟨j, hj, hjo⟩, htk⟩ : ∃ o, (tokAt E.t (E.at_ (tk :: r))).kind = 3 ∧ o.text = (tokAt E.t (E.at_ (tk :: r))).text ∧ o.kind ≠ 1 ∧ (∃ j, j < E.l.length ∧ opAt E.l j = o) ∧ ((tk = .inf o ∧ o.kind = 2) ∨ (tk = .post o ∧ o.kind = 3)) := by
       cases tk with
       | cls => simp [Ops.loopF] at hrun
       | inf o => exact ⟨o, ht1.1, ht1.2.1, by have := ht1.2.2.1; omega, ht1.2.2.2, .inl ⟨rfl, ht1.2.2.1⟩⟩
       | post o => exact ⟨o, ht1.1, ht1.2.1, by have := ht1.2.2.1; omega, ht1.2.2.2, .inr ⟨rfl, ht1.2.2.1⟩⟩
       | leaf b => exact absurd hfit (by simp [Fit])
       | opn => exact absurd hfit (by simp [Fit])
       | pre o => exact absurd hfit (by simp [Fit])
      have hlm : ¬ o.level < m := fun hlm => by
       rcases htk with ⟨rfl, _⟩ | ⟨rfl, _⟩ <;>
       ·simp only [Ops.loopF] at hrun
        rw [if_pos (show (lvO o).lev < m from hlm)] at hrun
        simp at hrun
      have hlh : ¬ e.level lvO < (lvO o).h1 := fun hlh => by
       rcases htk with ⟨rfl, _⟩ | ⟨rfl, _⟩ <;>
       ·simp only [Ops.loopF] at hrun
        rw [if_neg (show ¬ (lvO o).lev < m from hlm), if_pos hlh] at hrun
        simp at hrun
      have hw : o.wf := by rw [← hjo]; exact E.maps.wf j hj
      have hok : opOk o = true := by rw [← hjo]; exact E.maps.ok j hj
      have hh1 := hole_h1 hok hko
      have cH := c_Hole o hw false
      rw [hh1] at cH
      have cb := c_behind E.l E.b1 E.b2 E.b3 E.b4 E.t (E.at_ (tk :: r)) E.maps.uniq E.esA E.maps.at_ j hj (by rw [hjo]; exact hko) (by rw [hjo]; exact hw)
      rw [hjo, htx] at cb
      have ew : IntKind.i64.wrap ((E.at_ (tk :: r) : Int) + 1) = ((E.at_ r : Nat) : Int) := by rw [hi1, hi2]; exact wrap_succ (by have := E.len; omega)
      obtain ⟨T, u, hT, ⟨fl, hfl, cl⟩, _⟩ := partIs e
      have hye := highT_yield e
      have hEl := E.len
      simp only [List.length_cons] at hlen
      have ht2' : ToksAre E.l E.t (E.at_ r) r := by rw [hi1, ← hi2]; exact ht2
      simp only [POp.cells, pOb] at cb cH
      -- the walk to the call of the closure, throwing or not
      by_cases hdie : tk = .inf o ∧ Ops.operand lvO k (lvO o).h2 r = some none
      ·refine .inl ?_
       obtain ⟨rfl, hdq⟩ := hdie
       have ho2 : o.kind = 2 := by
        rcases htk with ⟨_, h⟩ | ⟨h, _⟩
        ·exact h
        ·simp at h
       simp only [Fit] at hfit
       have hh2 := hole_h2i hok ho2
       have ho := hO (E.at_ r) _ d r _ ht2' hfit (Ops.operand_le lvO (show k ≤ n by omega) hdq)
       rw [← hh2] at ho
       have ha := an_inf_dies E o hw (E.at_ r) e ho
       have hm2 := E.maps.led2 j hj (by rw [hjo]; exact ho2)
       rw [hjo, htx] at hm2
       simp only [atLoopS, PEnv.ob, pOb, PEnv.mps, mapsP]
       simp [go_sem]
       refine vd_snd ?_
       refine vc_drawn [11] (.q 0 <| .q 1 <| .q 2 <| .q 3 <| .q 4 <| .q 5 <| .q 6 <| .q 7 <| .q 8 <| .q 9 <| .or 10 (.or 11 (.done) (.nil)) (.nil)) (by kernel_rfl) ?_
       simp [go_sem, tokCells_at, hlt, PTok.cells]
       refine vd_snd ?_
       simp [go_sem, hk3]
       refine vd_snd ?_
       simp [go_sem]
       refine vcall_share [0] cb (by simp) ?_ ?_ ?_ ?_
       ·simp [go_sem]
       ·simp [go_sem]
        exact fun i c _ h => tokClosed E.t i c h
       ·simp [go_sem]
       ·rintro av mem maps ⟨rfl, rfl, rfl⟩
        simp only [pOb]
        simp [go_sem]
        refine vd_snd ?_
        simp [go_sem, hlm]
        refine vd_snd ?_
        simp [go_sem]
        refine vc_drawn [] (.q 0 <| .q 2 <| .or 1 (.or 3 (.q 4 <| .done) (.nil)) (.nil)) (by kernel_rfl) ?_
        simp [go_sem]
        rw [hT]
        simp [go_sem, hfl]
        refine vcallV_pure cl ?_ ?_
        ·simp [go_sem]
        ·simp [go_sem]
         refine vcallV_pure cH ?_ ?_
         ·simp [go_sem]
         ·rw [← hT, lvlP_eq]
          simp [go_sem, hlh]
          refine vd_snd ?_
          simp [go_sem, ew]
          refine vd_drawn [9] (.q 0 <| .q 1 <| .q 2 <| .q 3 <| .q 4 <| .q 5 <| .q 6 <| .q 7 <| .q 8 <| .or 9 (.q 10 <| .done) (.nil)) (by kernel_rfl) ?_
          simp [go_sem, h13, h14, h34, Ne.symm h13, Ne.symm h14, Ne.symm h34]
          refine vlookK_use keyedString (keyString (E.txt _ hi2')) _ zeroLed ?_
          rw [hm2]
          simp [go_sem]
          refine vdcall_tell [0] 62 ha (by simp) rfl (fun i _ => rnP E.lo i) ?_ ?_ (E.mpsLe1 []) (E.mpsLe [])
          ·simp [go_sem, POp.cells, vsP]
          ·simp [go_sem, PEnv.ob, pOb]
           exact fun i c _ h => tokClosed E.t i c h
      ·refine .inr ?_
       simp only [atLoopS, PEnv.ob, pOb, PEnv.mps, mapsP]
       simp [go_sem]
       refine vc_drawn [11] (.q 0 <| .q 1 <| .q 2 <| .q 3 <| .q 4 <| .q 5 <| .q 6 <| .q 7 <| .q 8 <| .q 9 <| .or 10 (.or 11 (.done) (.nil)) (.nil)) (by kernel_rfl) ?_
       simp [go_sem, tokCells_at, hlt, PTok.cells]
       simp [go_sem, hk3]
       refine vcall_share [0] cb (by simp) ?_ ?_ ?_ ?_
       ·simp [go_sem]
       ·simp [go_sem]
        exact fun i c _ h => tokClosed E.t i c h
       ·simp [go_sem]
       ·rintro av mem maps ⟨rfl, rfl, rfl⟩
        simp only [pOb]
        simp [go_sem, hlm]
        refine vc_drawn [] (.q 0 <| .q 2 <| .or 1 (.or 3 (.q 4 <| .done) (.nil)) (.nil)) (by kernel_rfl) ?_
        simp [go_sem]
        rw [hT]
        simp [go_sem, hfl]
        refine vcallV_pure cl ?_ ?_
        ·simp [go_sem]
        ·simp [go_sem]
         refine vcallV_pure cH ?_ ?_
         ·simp [go_sem]
         ·rw [← hT, lvlP_eq]
          simp [go_sem, hlh]
          simp [go_sem, ew]
          refine vc_drawn [9] (.q 0 <| .q 1 <| .q 2 <| .q 3 <| .q 4 <| .q 5 <| .q 6 <| .q 7 <| .q 8 <| .or 9 (.q 10 <| .done) (.nil)) (by kernel_rfl) ?_
          simp [go_sem, h13, h14, h34, Ne.symm h13, Ne.symm h14, Ne.symm h34]
          refine vlookK_use keyedString (keyString (E.txt _ hi2')) _ zeroLed ?_
          rcases htk with ⟨rfl, ho2⟩ | ⟨rfl, ho3⟩
          ·have hm2 := E.maps.led2 j hj (by rw [hjo]; exact ho2)
           rw [hjo, htx] at hm2
           rw [hm2]
           simp [go_sem]
           simp only [Fit] at hfit
           have hh2 := hole_h2i hok ho2
           rw [Ops.loopF, if_neg (show ¬ (lvO o).lev < m by show ¬ o.level < m; omega), if_neg (show ¬ e.level lvO < (lvO o).h1 by omega)] at hrun
           cases hq : Ops.operand lvO k (lvO o).h2 r with
           | none => rw [hq] at hrun; simp at hrun
           | some y =>
            rw [hq] at hrun
            cases y with
            | none => exact absurd ⟨rfl, hq⟩ hdie
            | some y =>
             obtain ⟨e2, r2⟩ := y
             simp only at hrun
             have hq' := Ops.operand_le lvO (show k ≤ n by omega) hq
             have hs := ((Ops.sound_all lvO n).1 _ _ _ _ hq').1
             have ht2' : ToksAre E.l E.t (E.at_ r) r := by rw [hi1, ← hi2]; exact ht2
             have ho := hO (E.at_ r) _ d r _ ht2' hfit hq'
             rw [← hh2] at ho
             have hy2 := highT_yield e2
             have hl2 := congrArg List.length hs
             rw [List.length_append] at hl2
             have ha := an_inf E o hw (E.at_ r) e e2 r2 (by omega) (by omega) ho
             refine vcall_tell [0] 62 ha (by simp) rfl (fun i _ => rnP E.lo i) ?_ ?_ ?_ ?_
             ·simp [go_sem, POp.cells, vsP]
             ·simp [go_sem, PEnv.ob, pOb]
              exact fun i c _ h => tokClosed E.t i c h
             ·exact E.mpsLe1 []
             ·rintro av mem maps ⟨⟨rfl, rfl⟩, rfl⟩
              simp only [PEnv.ob, pOb]
              simp [go_sem]
              refine ⟨.inf o e e2, r2, ⟨⟨k, by omega, hrun⟩, ?_, ⟨d, ?_⟩, ?_⟩, ?_, ?_⟩
              ·rw [hs] at ht2'; exact toksAre_rest ht2'
              ·rw [hs] at hfit; exact fit_yield _ _ _ hfit
              ·simp [Tr.yield]; omega
              ·try simp only [List.length_cons]
               omega
              ·refine ent_ks [0] (by simp) (by simp) (by simp) (by simp) (E.mpsLe _) ?_ ?_
               ·simp [go_sem]
                exact .fam _ _ _ _ fun i _ => rnP E.lo i
               ·simp [go_sem, PEnv.ob, pOb]
                exact fun i c _ h => tokClosed E.t i c h
          ·have hm3 := E.maps.led3 j hj (by rw [hjo]; exact ho3)
           rw [hjo, htx] at hm3
           rw [hm3]
           simp [go_sem]
           simp only [Fit] at hfit
           rw [Ops.loopF, if_neg (show ¬ (lvO o).lev < m by show ¬ o.level < m; omega), if_neg (show ¬ e.level lvO < (lvO o).h1 by omega)] at hrun
           have ha := an_post E e o r (by omega)
           have ht2' : ToksAre E.l E.t (E.at_ r) r := by rw [hi1, ← hi2]; exact ht2
           refine vcall_tell [0] 62 ha (by simp) rfl (fun i _ => rnP E.lo i) ?_ ?_ ?_ ?_
           ·simp [go_sem, POp.cells, vsP]
           ·simp [go_sem, PEnv.ob, pOb]
            exact fun i c _ h => tokClosed E.t i c h
           ·exact E.mpsLe1 []
           ·rintro av mem maps ⟨⟨rfl, rfl⟩, rfl⟩
            simp only [PEnv.ob, pOb]
            simp [go_sem]
            refine ⟨.post o e, r, ⟨⟨k, by omega, hrun⟩, ht2', ⟨d, hfit⟩, ?_⟩, ?_, ?_⟩
            ·simp [Tr.yield]; omega
            ·try simp only [List.length_cons]
             omega
            ·refine ent_ks [0] (by simp) (by simp) (by simp) (by simp) (E.mpsLe _) ?_ ?_
             ·simp [go_sem]
              exact .fam _ _ _ _ fun i _ => rnP E.lo i
             ·simp [go_sem, PEnv.ob, pOb]
              exact fun i c _ h => tokClosed E.t i c h
theorem c_operand (E : PEnv) : ∀ (n i : Nat) (m : Int) (d : Nat) (ts : List TkP) (res : Option (PT × List TkP)), ToksAre E.l E.t i ts → Fit true d ts → Ops.operand lvO n m ts = some res → E.Ans 95 [.ptr 0 6 0 0, .lit (.int .i64 m)] i res := by
 intro n
 induction n with
 | zero => intro i m d ts res _ _ h; simp [Ops.operand] at h
 | succ n ih =>
  intro i m d ts res ht hf h
  rw [Ops.operand] at h
  cases hx : Ops.first lvO n ts with
  | none => rw [hx] at h; simp at h
  | some x =>
   rw [hx] at h
   have h1 := Ops.first_le lvO (Nat.le_succ n) hx
   rw [Ops.first] at h1
   have ha := c_first E n ih i d ts x ht hf h1
   cases x with
   | none =>
    simp at h; subst h
    exact op_none1 E i m ha
   | some y =>
    obtain ⟨e, rest⟩ := y
    simp only at h
    by_cases hlm : e.level lvO < m
    ·rw [if_pos hlm] at h
     simp at h; subst h
     exact op_none2 E i m e rest ha hlm
    ·rw [if_neg hlm] at h
     have hs := ((Ops.sound_all lvO n).2.1 _ _ _ hx).1
     have hl : AtLoop E n m res (e, rest) := by
      have hlen := toksAre_len ht
      rw [hs] at ht hf
      rw [hs, List.length_append] at hlen
      exact ⟨⟨n, Nat.le_refl _, h⟩, toksAre_rest ht, ⟨d, fit_yield _ _ _ hf⟩, by simp only; omega⟩
     cases res with
     | none => exact op_none3 E n ih i m e rest ha (by omega) hl
     | some z => exact op_some E n ih i m e rest z.1 z.2 ha (by omega) hl
end Go.Proofs.YtjdmmhcogmepaaaGreatDoor.V
namespace Go.Proofs.YtjdmmhcogmepaaaGreatDoor.V
open Go.RowKit
set_option linter.unusedVariables false
set_option linter.unusedSimpArgs false
theorem catch_idle (p q : Addr) (w : World) : CallsD Tryz.prog 98 #[.pointer (some p), .pointer (some q)] .returning w fun e u' w' => e = .returned (.tuple #[]) ∧ u' = .returning ∧ w' = w := by
 refine callsD_of_wpS Tryz.func98 rfl fun c₀ cs hu => ?_
 apply wpS_seq
 apply wpS_region
 simp [wpOpsS, go_sem, recoverD, hu, Tryz.ntmps98, Exit.thenS]
 apply wpS_seq
 apply wpS_region
 simp [wpOpsS, go_sem, recoverD, hu, Exit.thenS]
 refine wpS_cond (t := false) (by simp [Act.eval, Array.replicate]) ?_
 simp only [Bool.false_eq_true, if_false]
 refine wpS_of_wp (wp_skip ?_)
 cases c₀
 simp_all [bodyPostS, results, Tryz.results98]
theorem assert_noTree (w : World) : (Instr.typeAssert (.iface 168 (.agg #[])) 20 168 true).run Tryz.prog w = .ok (.tuple #[.agg #[], .bool true]) w := by
 obtain ⟨d, h4, h5⟩ := ifaceT_run (P := Tryz.prog) (T := 168) (by kernel_rfl)
 unfold Instr.typeAssert
 simp only [Sem.run_bind, und_run h4, Result.andThen_ok]
 cases d <;> first | exact absurd rfl (h5 _) | simp [Sem.run_pure]
theorem catch_dead (p q : Addr) (x y : Value) (u : TypeId) (older : List PanicEntry) (w : World) (hc : w.cell? p = some x) (hz : w.frozen? p = false) (hc2 : w.cell? q = some y) (hz2 : w.frozen? q = false) (hpq : p.block ≠ q.block) :
  CallsD Tryz.prog 98 #[.pointer (some p), .pointer (some q)] (.panicking ({ v := .iface 168 (.agg #[]), recovered := false } :: older)) w fun e u' w' => e = .returned (.tuple #[]) ∧ u' = .panicking ({ v := .iface 168 (.agg #[]), recovered := true } :: older) ∧ w' = ((w.alloc (.cells #[] 168)).setCell p .nilIface).setCell q (.bool false) := by
 refine callsD_of_wpS Tryz.func98 rfl fun c₀ cs hu => ?_
 apply wpS_seq
 apply wpS_region
 simp [wpOpsS, go_sem, recoverD, hu, Tryz.ntmps98, Exit.thenS]
 apply wpS_seq
 apply wpS_region
 simp [wpOpsS, go_sem, recoverD, hu, Exit.thenS]
 refine wpS_cond (t := true) (by simp [Act.eval, Array.replicate]) ?_
 simp only [if_true]
 apply wpS_seq
 apply wpS_seq
 apply wpS_region
 simp [wpOpsS, go_sem, recoverD, hu, Exit.thenS, assert_noTree]
 apply wpS_seq
 apply wpS_region
 simp [wpOpsS, go_sem, recoverD, hu, Exit.thenS]
 refine wpS_cond (t := false) (by simp [Act.eval, Array.replicate]) ?_
 simp only [Bool.false_eq_true, if_false]
 refine wpS_of_wp (wp_skip ?_)
 simp only [Exit.thenS]
 apply wpS_region
 have h1 : (w.alloc (.cells #[] 168)).cell? p = some x := (World.cell?_alloc_lt _ _ _ (World.block_lt_of_cell? w _ hc)).trans hc
 have h2 : (w.alloc (.cells #[] 168)).frozen? p = false := (World.frozen?_alloc_old _ _ _ (by have := World.block_lt_of_cell? w _ hc; omega)).trans hz
 have h3 : ((w.alloc (.cells #[] 168)).setCell p .nilIface).cell? q = some y := by
  rw [World.cell?_setCell_other _ _ _ _ (fun e => hpq (by rw [e]))]
  exact (World.cell?_alloc_lt _ _ _ (World.block_lt_of_cell? w _ hc2)).trans hc2
 have h4 : ((w.alloc (.cells #[] 168)).setCell p .nilIface).frozen? q = false := by
  rw [World.frozen?_setCell]
  exact (World.frozen?_alloc_old _ _ _ (by have := World.block_lt_of_cell? w _ hc2; omega)).trans hz2
 simp [wpOpsS, go_sem, h1, h2, h3, h4, bodyPostS, results, Tryz.results98]
end Go.Proofs.YtjdmmhcogmepaaaGreatDoor.V
namespace Go.Proofs.YtjdmmhcogmepaaaGreatDoor.V
open Go.RowKit
open Go.Maps (Keyed)
open Go.Proofs.YtjdmmhcogmepaaaGreatDoor.Ops (Tr Tk Lv Res Fit)
set_option linter.unusedVariables false
set_option linter.unusedSimpArgs false
set_option linter.constructorNameAsVariable false
def wholeS (E : PEnv) (i : Nat) : VS := ⟨[(3, .ptr 2 1 0 0), (2, .ptr 1 1 0 0), (20, .fam (E.lo.length + 1) (vsP E.bp E.bo) (asP E.lo)), (0, .ptr 0 6 0 0)], [E.ob i, some ⟨92, 1, 1, fun _ => [.lit .nilIface]⟩, some ⟨4, 1, 1, fun _ => [.lit (.bool false)]⟩], E.mps, 1⟩
def PEnv.Rw (E : PEnv) (u : Value) (b : Bool) (j : Nat) (av : AV) (mem : List (Option Ob)) (maps : List (Nat × Mp)) : Prop := (av = .tup [.lit u, .lit (.bool b)] ∧ mem = [E.ob j]) ∧ MapsLe maps E.mps
theorem PEnv.finw (E : PEnv) {u v : Value} {b c : Bool} {i j : Nat} {M : List (Nat × Mp)} (hM : MapsLe M E.mps) {r : List (Option Ob)} {tm : List (Nat × AV)} (hv : v = u) (hb : c = b) (hij : i = j) : vendP E.mps (E.Rw u b j) ⟨tm, E.ob i :: r, M, 1⟩ (.tup [.lit v, .lit (.bool c)]) := by
 subst hv; subst hij; subst hb
 refine ⟨rfl, [], [E.ob i], by simp, by simp, by simp [go_sem], ?_, fun b hb => ?_, ⟨⟨rfl, rfl⟩, hM⟩⟩
 ·simp only [PEnv.ob, pOb]
  simp [go_sem]
  exact pOut
 ·cases hq : lkm E.mps b with
  | none => rw [hq] at hb; simp at hb
  | some mp => rw [mapsLe_get hM (b, mp) (lkm_mem hq)]; rfl
theorem c_whole_some (E : PEnv) (i : Nat) (e : PT) (rest : List TkP) (hi : E.at_ rest < E.t.length) (ho : E.Ans 95 [.ptr 0 6 0 0, .lit (.int .i64 0)] i (some (e, rest))) :
  VProcG Tryz.prog 52 [.ptr 0 6 0 0] (E.lo.length + 1) (vsP E.bp E.bo) (asP E.lo) [E.ob i] E.mps (E.Rw (partP e) (decide ((tokAt E.t (E.at_ rest)).kind = 7)) (E.at_ rest)) := by
 refine ⟨⟨_, Tryz.func52, by kernel_rfl, rfl⟩, fun w vs hd0 hlen hrep hfam hm hmp htl => ?_⟩
 have hrel := (startP_rel (P := Tryz.prog) (fn := Tryz.f52) (by simp [Tryz.ntmps52]) hlen hrep hm hmp htl).tell 20 hfam
 suffices hX : ∀ (X : Value → World → Prop), (∀ v w', (Bel (Sh w hd0 [E.ob i] E.mps) w w' ∧ ∃ hd av mem maps, E.Rw (partP e) (decide ((tokAt E.t (E.at_ rest)).kind = 7)) (E.at_ rest) av mem maps ∧ PostOk [E.ob i] E.mps av mem maps ∧ ((∀ k, k < [E.ob i].length → hd k = hd0 k) ∧ TailEq hd0 hd) ∧ MemRel (Sh w hd0 [E.ob i] E.mps) w' hd mem ∧ MapRel Tryz.prog (Sh w hd0 [E.ob i] E.mps) w' maps ∧ Rep w' (okOf mem hd) hd mem.length av v) → X v w') → Calls Tryz.prog 52 vs.toArray w (fun e w' => ∃ v, e = .returned v ∧ X v w') from hX _ fun v w' h => h
 intro X hX
 refine calls_of_wp_defers Tryz.func52 rfl ?_
 refine wp_seq (vc_sound rfl _ hrel (K := fun e s => e = .normal ∧ s = wholeS E i) ?_ fun x hd' s' a' w' h' hk => ?_)
 ·simp only [Tryz.ntmps52, PEnv.ob, pOb, PEnv.mps, mapsP, startP]
  simp [go_sem]
  rfl
 ·obtain ⟨rfl, rfl⟩ := hk
  simp only [VX.out, Exit.then]
  refine wp_seq (wp_region_list ?_)
  have hmf : ∀ (fn : Fn) (first cap : Array Value) (w : World), (Instr.makeFunc fn first cap).run Tryz.prog w = .ok (.func fn first cap) w := fun _ _ _ _ => rfl
  have hsz : a'.tmps.size = 20 := h'.size
  have hds : a'.defers = [] := h'.defers
  obtain ⟨b2, n2, c2, hb2, hp2⟩ := rep_ptr (h'.tm 2)
  obtain ⟨b3, n3, c3, hb3, hp3⟩ := rep_ptr (h'.tm 3)
  simp [hsz] at hp2 hp3
  simp [wpList, Region.wanted, Oper.wp, Oper.upon, go_sem, hmf, hsz, hds, hp2, hp3, Exit.then]
  refine .inl (.inl ?_)
  have h2 : RelH 20 ⟨Tryz.prog, Sh w hd0 [E.ob i] E.mps, hd0, [⟨.fn (.func 98) #[.pointer (some ⟨b2, 0, none⟩), .pointer (some ⟨b3, 0, none⟩)], #[]⟩]⟩ w hd' (wholeS E i) ⟨a'.tmps.setIfInBounds 4 (.func (.func 98) #[] #[.pointer (some ⟨b2, 0, none⟩), .pointer (some ⟨b3, 0, none⟩)]), [⟨.fn (.func 98) #[.pointer (some ⟨b2, 0, none⟩), .pointer (some ⟨b3, 0, none⟩)], #[]⟩]⟩ w' := by
   refine ⟨rfl, by simp [hsz], h'.below, h'.le, h'.fixl, h'.fix, h'.mp, fun t => ?_, h'.me⟩
   by_cases ht : t = 4
   ·subst ht
    exact .undef _
   ·have := h'.tm t
    rwa [show (a'.tmps.setIfInBounds 4 (.func (.func 98) #[] #[.pointer (some ⟨b2, 0, none⟩), .pointer (some ⟨b3, 0, none⟩)])).getD t undef = a'.tmps.getD t undef by
     simp only [Array.getD_eq_getD_getElem?]; rw [Array.getElem?_setIfInBounds_ne (by omega)]]
  refine vc_sound rfl _ h2 (K := KfinP Tryz.prog 1 E.mps Tryz.f52.results.toList (E.Rw (partP e) (decide ((tokAt E.t (E.at_ rest)).kind = 7)) (E.at_ rest))) ?_ fun x hd3 s3 a3 w3 h3 hk => ?_
  ·simp only [wholeS, PEnv.ob, pOb, PEnv.mps, mapsP]
   simp [go_sem]
   refine vcall_tell [0] 20 ho (by simp) rfl (fun i _ => rnP E.lo i) ?_ ?_ ?_ ?_
   ·simp [go_sem]
   ·simp [go_sem, PEnv.ob, pOb]
    exact fun i c _ h => tokClosed E.t i c h
   ·exact E.mpsLe []
   ·rintro av mem maps ⟨⟨rfl, rfl⟩, rfl⟩
    simp only [PEnv.ob, pOb, PEnv.mps, mapsP]
    obtain ⟨T, u, hT⟩ := partP_iface e
    rw [hT]
    simp [go_sem]
    refine vc_drawn [13,14] (.q 0 <| .q 1 <| .q 2 <| .q 3 <| .q 5 <| .q 6 <| .q 7 <| .or 4 (.or 8 (.or 9 (.q 10 <| .or 11 (.or 12 (.or 13 (.or 14 (.done) (.nil)) (.nil)) (.or 13 (.q 12 <| .or 14 (.done) (.nil)) (.nil))) (.or 13 (.q 11 <| .q 12 <| .or 14 (.done) (.nil)) (.nil))) (.or 13 (.q 9 <| .q 10 <| .q 11 <| .q 12 <| .or 14 (.done) (.nil)) (.nil))) (.or 13 (.q 8 <| .q 9 <| .q 10 <| .q 11 <| .q 12 <| .or 14 (.done) (.nil)) (.nil))) (.or 8 (.or 4 (.or 9 (.q 10 <| .or 11 (.or 12 (.or 13 (.or 14 (.done) (.nil)) (.nil)) (.or 13 (.q 12 <| .or 14 (.done) (.nil)) (.nil))) (.or 13 (.q 11 <| .q 12 <| .or 14 (.done) (.nil)) (.nil))) (.or 13 (.q 9 <| .q 10 <| .q 11 <| .q 12 <| .or 14 (.done) (.nil)) (.nil))) (.or 13 (.q 4 <| .q 9 <| .q 10 <| .q 11 <| .q 12 <| .or 14 (.done) (.nil)) (.nil))) (.or 13 (.q 4 <| .q 8 <| .q 9 <| .q 10 <| .q 11 <| .q 12 <| .or 14 (.done) (.nil)) (.nil)))) (by kernel_rfl) ?_
    simp [go_sem, tokCells_at, hi, PTok.cells]
    repeat' first
    | exact E.finw (E.mpsLe _) rfl (int_beq _ _) rfl
    | refine And.intro (E.finw (E.mpsLe _) rfl (int_beq _ _) rfl) ?_
  ·have fin : ∀ (R' : Ending → World → Prop) v, (results Tryz.f52 a3.tmps).run Tryz.prog w3 = .ok v w3 → R' (.returned v) w3 → Leaves Tryz.prog Tryz.f52 a3.tmps R' a3.defers .returning w3 := fun R' v h1 h4 => by
    rw [show a3.defers = _ from h3.defers]
    refine leaves_cons (f := 98) (args := #[.pointer (some ⟨b2, 0, none⟩), .pointer (some ⟨b3, 0, none⟩)]) (by simp) (by simp [go_sem]) ?_
    refine (catch_idle _ _ _).mono ?_
    rintro e u' w'' ⟨rfl, rfl, rfl⟩
    exact ⟨v, h1, h4⟩
   cases x with
   | exit id => exact hk.elim
   | normal =>
    obtain ⟨v, h1, h4⟩ := vretP_sound h3 hk.1 hk.2
    exact fin _ v h1 ⟨v, rfl, hX _ _ h4⟩
   | ret =>
    obtain ⟨v, h1, h4⟩ := vretP_sound h3 hk.1 hk.2
    exact fin _ v h1 ⟨v, rfl, hX _ _ h4⟩
end Go.Proofs.YtjdmmhcogmepaaaGreatDoor.V
namespace Go.Proofs.YtjdmmhcogmepaaaGreatDoor.V
open Go.RowKit
open Go.Maps (Keyed)
open Go.Proofs.YtjdmmhcogmepaaaGreatDoor.Ops (Tr Tk Lv Res Fit)
set_option linter.unusedVariables false
set_option linter.unusedSimpArgs false
set_option linter.constructorNameAsVariable false
section
variable {P : Program} {n : Nat} {base : Fr} {w0 w : World} {hd : Nat → Value} {s : VS} {a : Act}
theorem own_one (h : RelH n base w0 hd s a w) {k ty : Nat} {f : Nat → List AV} (hk : s.mem[k]? = some (some ⟨ty, 1, 1, f⟩)) (ht : ty < tagged) : ∃ g cap cur, hd k = .slice (some ⟨g, 0, none⟩) 1 cap ∧ w.heap[g]? = some (.cells cur ty (0, 0)) ∧ 0 < cur.size := by
 obtain ⟨_, vals, ho, hr⟩ := h.me.obs k _ hk
 rcases (ho.row ht).2 with ⟨_, h0⟩ | ⟨g, cap, cur, e, _, hg, h1, _, h2, _⟩
 ·simp at h0
 ·exact ⟨g, cap, cur, e, hg, by have h1' : 1 ≤ cap := h1; have h2' : cur.size = cap * 1 := h2; omega⟩
theorem cells_cell {g : Nat} {cur : Array Value} {t : TypeId} (hg : w.heap[g]? = some (.cells cur t (0, 0))) (hp : 0 < cur.size) : ∃ x, w.cell? ⟨g, 0, none⟩ = some x ∧ w.frozen? ⟨g, 0, none⟩ = false := by
 refine ⟨cur[0], ?_, ?_⟩
 ·simp [World.cell?, hg, hp]
 ·simp [World.frozen?, hg]
theorem dcall_sound (h : RelH n base w0 hd s a w) (hP : base.P = P) {o : Oper} {f : FuncId} {xs : List Operand} (hcall : callD P s o.op = some (f, xs)) {pv : Value} {ks : List Nat} {args' : List AV} {mem0 : List (Option Ob)} {maps0 : List (Nat × Mp)} {t N : Nat} {vs0 : Nat → Value} {as0 as1 : Nat → AV}
  (hnd : ks.Nodup) (hargs : CellsRn (fun j => ks.getD j 0) ks.length (xs.map (ev s)) args') (hgt : lk s.tmps t = .fam N vs0 as0) (hg : ∀ i, i < N → Rn (fun j => ks.getD j 0) ks.length (as0 i) (as1 i)) (hsh : ShMem (fun j => ks.getD j 0) ks.length s.mem ks mem0) (hmaps : MapsLe s.maps maps0) (hd1 : VDies P f pv args' N vs0 as1 mem0 maps0)
  {K : Act → World → Prop} {Q : Exit → Act → World → Prop} (hQ : ∀ w', Bel (Sh w (hdF hd ks s.mem false) mem0 maps0) w w' → MapRel P (Sh w (hdF hd ks s.mem false) mem0 maps0) w' maps0 → Q (.panic [{ v := pv, recovered := false }]) a w') : o.wp P a w K Q := by
 have hrun : (execOp a.eval o).run P w = .ok (.enter f (xs.map a.eval).toArray) w := (call_run h hcall).trans (run_call_of hd1.1 _ w)
 obtain ⟨hlen, _, hrep, hfam, hm0, hmp0, htl0⟩ := callG_pre h hP hnd hargs hgt hg hsh (mapsLe_get hmaps)
 have hcalls := hd1.2 w (xs.map a.eval) (hdF hd ks s.mem false) hlen hrep hfam hm0 hmp0 htl0
 unfold Oper.wp
 rw [hrun]
 simp only [Oper.upon]
 refine hcalls.mono ?_
 rintro e w' ⟨rfl, hb, hm⟩
 exact hQ w' hb hm
end
theorem setCell_bel {may : Nat → Prop} {w w' : World} (h : Bel may w w') {a : Addr} (ha : may a.block) (v : Value) : Bel may w (w'.setCell a v) := by
 refine ⟨h.os, h.tape, h.output, by simpa [World.setCell] using h.size, fun k hk hk2 => ?_⟩
 rw [Below.heap_setCell _ _ _ k (fun e => hk2 (by rw [e]; exact ha))]
 exact h.block k hk hk2
theorem alloc_bel {may : Nat → Prop} {w w' : World} (h : Bel may w w') (o : Obj) : Bel may w (w'.alloc o) := by
 refine ⟨h.os, h.tape, h.output, by rw [World.size_alloc]; have := h.size; omega, fun k hk hk2 => ?_⟩
 have hlt : k < w'.heap.size := Nat.lt_of_lt_of_le hk h.size
 rw [Below.heap_alloc _ _ _ hlt]
 exact h.block k hk hk2
set_option maxRecDepth 20000 in
theorem c_whole_none (E : PEnv) (i : Nat) (ho : E.Ans 95 [.ptr 0 6 0 0, .lit (.int .i64 0)] i none) :
  VProcG Tryz.prog 52 [.ptr 0 6 0 0] (E.lo.length + 1) (vsP E.bp E.bo) (asP E.lo) [E.ob i] E.mps (fun av mem maps => (av = .tup [.lit .nilIface, .lit (.bool false)] ∧ mem = [none]) ∧ maps = E.mps) := by
 refine ⟨⟨_, Tryz.func52, by kernel_rfl, rfl⟩, fun w vs hd0 hlen hrep hfam hm hmp htl => ?_⟩
 have hrel := (startP_rel (P := Tryz.prog) (fn := Tryz.f52) (by simp [Tryz.ntmps52]) hlen hrep hm hmp htl).tell 20 hfam
 suffices hX : ∀ (X : Value → World → Prop), (∀ v w', (Bel (Sh w hd0 [E.ob i] E.mps) w w' ∧ MapRel Tryz.prog (Sh w hd0 [E.ob i] E.mps) w' E.mps ∧ v = .tuple #[.nilIface, .bool false]) → X v w') → Calls Tryz.prog 52 vs.toArray w (fun e w' => ∃ v, e = .returned v ∧ X v w') from hX _ fun v w' ⟨h1, h2, h3⟩ => by
  subst h3
  refine ⟨h1, hd0, _, [none], E.mps, ⟨⟨rfl, rfl⟩, rfl⟩, ⟨Nat.le_refl _, rfl, fun k ob hk => ?_, fun b hb => hb⟩, ⟨fun _ _ => rfl, TailEq.refl _⟩, ⟨fun k ob hk => ?_, fun k ob hk => ?_, fun k hk => hm.hds k hk, fun k k' ob ob' hk => ?_⟩, h2, .tup _ [.nilIface, .bool false] rfl fun j a q g1 g2 => ?_⟩
  ·cases k <;> simp at hk
  ·cases k <;> simp at hk
  ·cases k <;> simp at hk
  ·cases k <;> simp at hk
  ·rcases j with _ | _ | j
   ·simp at g1 g2; subst g1; subst g2; exact .lit _
   ·simp at g1 g2; subst g1; subst g2; exact .lit _
   ·simp at g1
 intro X hX
 refine calls_of_wp_defers Tryz.func52 rfl ?_
 refine wp_seq (vc_sound rfl _ hrel (K := fun e s => e = .normal ∧ s = wholeS E i) ?_ fun x hd' s' a' w' h' hk => ?_)
 ·simp only [Tryz.ntmps52, PEnv.ob, pOb, PEnv.mps, mapsP, startP]
  simp [go_sem]
  rfl
 ·obtain ⟨rfl, rfl⟩ := hk
  simp only [VX.out, Exit.then]
  refine wp_seq (wp_region_list ?_)
  have hmf : ∀ (fn : Fn) (first cap : Array Value) (w : World), (Instr.makeFunc fn first cap).run Tryz.prog w = .ok (.func fn first cap) w := fun _ _ _ _ => rfl
  have hsz : a'.tmps.size = 20 := h'.size
  have hds : a'.defers = [] := h'.defers
  obtain ⟨b2, n2, c2, hb2, hp2⟩ := rep_ptr (h'.tm 2)
  obtain ⟨b3, n3, c3, hb3, hp3⟩ := rep_ptr (h'.tm 3)
  simp [hsz] at hp2 hp3
  simp [wpList, Region.wanted, Oper.wp, Oper.upon, go_sem, hmf, hsz, hds, hp2, hp3, Exit.then]
  refine .inl (.inl ?_)
  have h2 : RelH 20 ⟨Tryz.prog, Sh w hd0 [E.ob i] E.mps, hd0, [⟨.fn (.func 98) #[.pointer (some ⟨b2, 0, none⟩), .pointer (some ⟨b3, 0, none⟩)], #[]⟩]⟩ w hd' (wholeS E i) ⟨a'.tmps.setIfInBounds 4 (.func (.func 98) #[] #[.pointer (some ⟨b2, 0, none⟩), .pointer (some ⟨b3, 0, none⟩)]), [⟨.fn (.func 98) #[.pointer (some ⟨b2, 0, none⟩), .pointer (some ⟨b3, 0, none⟩)], #[]⟩]⟩ w' := by
   refine ⟨rfl, by simp [hsz], h'.below, h'.le, h'.fixl, h'.fix, h'.mp, fun t => ?_, h'.me⟩
   by_cases ht : t = 4
   ·subst ht
    exact .undef _
   ·have := h'.tm t
    rwa [show (a'.tmps.setIfInBounds 4 (.func (.func 98) #[] #[.pointer (some ⟨b2, 0, none⟩), .pointer (some ⟨b3, 0, none⟩)])).getD t undef = a'.tmps.getD t undef by
     simp only [Array.getD_eq_getD_getElem?]; rw [Array.getElem?_setIfInBounds_ne (by omega)]]
  refine wp_seq (wp_region_list ?_)
  unfold wpList
  rw [if_pos (by simp [Region.wanted])]
  refine .inl ?_
  have hmove : ∀ (o : Oper) (a : Act) (w : World) {K : Act → World → Prop} {Q : Exit → Act → World → Prop}, o.op = .move (.tmp 0) → K (a.put o.dst (a.eval (.tmp 0))) w → o.wp Tryz.prog a w K Q := fun o a w K Q ho hK => by
   unfold Oper.wp
   rw [show (execOp a.eval o).run Tryz.prog w = .ok (.value (a.eval (.tmp 0))) w by unfold execOp; simp only [ho]; rfl]
   exact hK
  refine hmove _ _ _ rfl ?_
  have h3 := h2.put (t := 5) (by omega) (h2.ev_ (.tmp 0))
  generalize hw3 : w' = w3 at h3 ⊢
  generalize ha3 : Act.put _ (some 5) _ = a3 at h3 ⊢
  unfold wpList
  rw [if_pos (by simp [Region.wanted])]
  refine .inl ?_
  have ho' : VDies Tryz.prog 95 noTreeV [.ptr 0 6 0 0, .lit (.int .i64 0)] (E.lo.length + 1) (vsP E.bp E.bo) (asP E.lo) [E.ob i] E.mps := ho
  refine dcall_sound (s := { wholeS E i with tmps := (5, .ptr 0 6 0 0) :: (wholeS E i).tmps }) (f := 95) (xs := [.tmp 5, .const (.int .i64 0)]) (ks := [0]) (t := 20) h3 rfl ?_ (by simp) ?_ (N := E.lo.length + 1) (vs0 := vsP E.bp E.bo) (as0 := asP E.lo) (as1 := asP E.lo) ?_ (fun i _ => rnP E.lo i) ?_ ?_ ho' fun w4 hb4 hm4 => ?_
  ·simp [callD, callOf]
  ·simp [go_sem]
  ·rfl
  ·simp [go_sem, wholeS, PEnv.ob, pOb]
   exact fun i c _ h => tokClosed E.t i c h
  ·exact E.mpsLe []
  ·simp only [Exit.then, bodyPostD]
   have hmay : ∀ b, Sh w3 (hdF hd' [0] (wholeS E i).mem false) [E.ob i] E.mps b → Sh w hd0 [E.ob i] E.mps b := by
    rintro b (h1 | ⟨j, ob', h1, h2⟩ | h1)
    ·exact h3.le _ (Nat.le_trans h3.below.size h1)
    ·cases j with
     | zero =>
      rw [hdF_lt (by simp)] at h2
      exact h3.me.alw 0 _ rfl b h2
     | succ j => simp at h1
    ·exact .inr (.inr h1)
   obtain ⟨g2, cap2, cur2, e2, hg2, hq2⟩ := own_one h3 (k := 1) rfl (by decide)
   obtain ⟨g3, cap3, cur3, e3, hg3, hq3⟩ := own_one h3 (k := 2) rfl (by decide)
   have ev2 : g2 = b2 := by rw [hb2] at e2; simp at e2; exact e2.1.symm
   have ev3 : g3 = b3 := by rw [hb3] at e3; simp at e3; exact e3.1.symm
   subst ev2; subst ev3
   have o2 : (hd' 1).ownBlock = some g2 := by rw [e2]; rfl
   have o3 : (hd' 2).ownBlock = some g3 := by rw [e3]; rfl
   have m2 := h3.me.alw 1 _ rfl g2 o2
   have m3 := h3.me.alw 2 _ rfl g3 o3
   have h23 : g2 ≠ g3 := fun e => by
    rcases h3.me.apart 1 2 _ _ rfl rfl (by omega) with h | h
    ·rw [o2] at h; simp at h
    ·exact h (by rw [o2, o3, e])
   have notSh : ∀ (k : Nat) (ob : Ob) (g : Nat), k ≠ 0 → (wholeS E i).mem[k]? = some (some ob) → (hd' k).ownBlock = some g → g < w3.heap.size → ¬ Sh w3 (hdF hd' [0] (wholeS E i).mem false) [E.ob i] E.mps g := by
    intro k ob g hk hm hg hlt
    rintro (h1 | ⟨j, ob', h1, h2⟩ | h1)
    ·omega
    ·cases j with
     | zero =>
      rw [hdF_lt (by simp)] at h2
      rcases h3.me.apart k 0 ob _ hm rfl hk with h | h
      ·rw [hg] at h; simp at h
      ·exact h (by rw [hg]; exact h2.symm)
     | succ j => simp at h1
    ·cases hq : lkm E.mps g with
     | none => rw [hq] at h1; simp at h1
     | some mp => exact (cells_not_map h3 (b := g) (mp := mp) hq).2 k ob hm hg
   have l2 : g2 < w3.heap.size := (Array.getElem?_eq_some_iff.1 hg2).1
   have l3 : g3 < w3.heap.size := (Array.getElem?_eq_some_iff.1 hg3).1
   have k2 : w4.heap[g2]? = some (.cells cur2 92 (0, 0)) := (hb4.block g2 l2 (notSh 1 _ g2 (by omega) rfl o2 l2)).trans hg2
   have k3 : w4.heap[g3]? = some (.cells cur3 4 (0, 0)) := (hb4.block g3 l3 (notSh 2 _ g3 (by omega) rfl o3 l3)).trans hg3
   obtain ⟨x, hx, hfx⟩ := cells_cell k2 hq2
   obtain ⟨y, hy, hfy⟩ := cells_cell k3 hq3
   have hbel : Bel (Sh w hd0 [E.ob i] E.mps) w w4 := ⟨hb4.os.trans h3.below.os, hb4.tape.trans h3.below.tape, hb4.output.trans h3.below.output, Nat.le_trans h3.below.size hb4.size, fun k hk hk2 => (hb4.block k (Nat.lt_of_lt_of_le hk h3.below.size) (fun e => hk2 (hmay k e))).trans (h3.below.block k hk hk2)⟩
   obtain ⟨b2', _, _, hb2', ht2⟩ := rep_ptr (h3.tm 2)
   obtain ⟨b3', _, _, hb3', ht3⟩ := rep_ptr (h3.tm 3)
   have ev2 : b2' = g2 := by rw [hb2'] at e2; simp at e2; exact e2.1
   have ev3 : b3' = g3 := by rw [hb3'] at e3; simp at e3; exact e3.1
   subst ev2; subst ev3
   have hs3 : a3.tmps.size = 20 := h3.size
   rw [show a3.defers = _ from h3.defers]
   refine leaves_cons (f := 98) (args := #[.pointer (some ⟨b2', 0, none⟩), .pointer (some ⟨b3', 0, none⟩)]) (by simp) (by simp [go_sem]) ?_
   refine (catch_dead ⟨b2', 0, none⟩ ⟨b3', 0, none⟩ x y 0 [] w4 hx hfx hy hfy h23).mono ?_
   rintro e u' w'' ⟨rfl, rfl, rfl⟩
   have c2 : (((w4.alloc (.cells #[] 168)).setCell ⟨b2', 0, none⟩ .nilIface).setCell ⟨b3', 0, none⟩ (.bool false)).cell? ⟨b2', 0, none⟩ = some .nilIface := by
    rw [World.cell?_setCell_other _ _ _ _ (fun e => h23 (by simpa using e.symm))]
    exact World.cell?_setCell_same _ _ _ ((World.cell?_alloc_lt _ _ _ (World.block_lt_of_cell? w4 _ hx)).trans hx)
   have c3 : (((w4.alloc (.cells #[] 168)).setCell ⟨b2', 0, none⟩ .nilIface).setCell ⟨b3', 0, none⟩ (.bool false)).cell? ⟨b3', 0, none⟩ = some (.bool false) := by
    refine World.cell?_setCell_same (u := y) _ _ _ ?_
    rw [World.cell?_setCell_other _ _ _ _ (fun e => h23 (by simp at e))]
    exact (World.cell?_alloc_lt _ _ _ (World.block_lt_of_cell? w4 _ hy)).trans hy
   refine ⟨.tuple #[.nilIface, .bool false], ?_, _, rfl, hX _ _ ⟨setCell_bel (setCell_bel (alloc_bel hbel _) m2 _) m3 _, fun b mp hb => ?_, rfl⟩⟩
   ·generalize ((w4.alloc (.cells #[] 168)).setCell ⟨b2', 0, none⟩ .nilIface).setCell ⟨b3', 0, none⟩ (.bool false) = W at c2 c3
    simp [hs3] at ht2 ht3
    simp [results, Tryz.results52, go_sem, hs3, ht2, ht3, c2, c3]
   ·obtain ⟨hb1, es, clock, hh, hmi⟩ := hm4 b mp hb
    refine ⟨hmay b hb1, es, clock, ?_, hmi⟩
    have hlt : b < w4.heap.size := (Array.getElem?_eq_some_iff.1 hh).1
    rw [Below.heap_setCell _ _ _ _ (fun e => by rw [e, k3] at hh; simp at hh), Below.heap_setCell _ _ _ _ (fun e => by rw [e, k2] at hh; simp at hh), Below.heap_alloc _ _ _ hlt]
    exact hh
end Go.Proofs.YtjdmmhcogmepaaaGreatDoor.V
namespace Go.Proofs.YtjdmmhcogmepaaaGreatDoor.V
open Go.RowKit
open Go.Proofs.YtjdmmhcogmepaaaGreatDoor.Ops (Tr Tk Lv Res Fit OF)
set_option linter.unusedVariables false
set_option linter.unusedSimpArgs false
set_option linter.constructorNameAsVariable false
def offFill (t : List PTok) (i j : Nat) : List AV := [.lit (.int .i64 (if j < i then offZ t j else 0))]
theorem offFill_at (t : List PTok) (i j : Nat) : offFill t i j = [.lit (.int .i64 (if j < i then offZ t j else 0))] := rfl
theorem offClosed (t : List PTok) (i j : Nat) (c : AV) (h : c ∈ offFill t i j) : Closed c := by
 simp only [offFill, List.mem_singleton] at h
 subst h; exact .lit _
set_option maxRecDepth 100000 in
theorem c_Parse1 (l : List POp) (hl : l.length ≤ 9223372036854775807) (hw : opsWf l) (z : ByteArray) (hz : z.size ≤ 1048576) : VFun Tryz.prog 19 [.agg [.sl 4 l.length (opCells l)], .lit (.string z)] (paR l z) := by
 have cl : ∀ (i : Nat) (c : AV), i < l.length → c ∈ opCells l i → Closed c := fun i c _ h => opClosed l i c h
 refine vfun_start Tryz.func19 (by kernel_rfl) rfl (by simp [Tryz.ntmps19]) ?_; simp only [Tryz.ntmps19, Tryz.results19]; simp [go_sem]
 refine vcall_pure (c_TableOk l hl hw) ?_ ?_
 ·simp [go_sem]
  exact argSl_refl (by omega) cl
 ·simp [go_sem]
  refine ⟨fun h0 => paR_nil (by simp [parZ, h0]), fun h0 => ?_⟩
  have hu := uniq_of_ok h0
  refine ⟨fun h1 => paR_nil ?_, fun h1 => ?_⟩
  ·have : ¬ z.size ≤ 20000 := by omega
   simp [parZ, h0, this]
  have hz2 : z.size ≤ 20000 := by omega
  have h1 : lexOk l z = true := by simp [lexOk, h0, hz2]
  refine vcall_use (c_Lex l hl hw z hz) ?_ ?_
  ·simp [go_sem]
   exact argSl_refl (by omega) cl
  ·rintro av obs (⟨h2, _⟩ | ⟨_, rfl, rfl⟩)
   ·rw [h1] at h2; cases h2
   simp [go_sem]
   have hends := lexZ_ends h1
   obtain ⟨hq1, hq2⟩ := lexZ_texts (l := l) (z := z) (by omega)
   obtain ⟨t, ht⟩ : ∃ t, t = lexZ l z := ⟨_, rfl⟩
   have hpar : parZ l z = parK l t := by rw [parZ, if_neg (by omega), if_neg (by omega), ← ht]
   rw [← ht] at hends hq1 hq2 ⊢
   have clt : ∀ (i : Nat) (c : AV), i < t.length → c ∈ tokCells t i → Closed c := fun i c _ h => tokClosed t i c h
   have hto : t.length + tokSum t ≤ 1048576 := by omega
   refine ⟨by omega, by omega, by omega, by omega, ?_⟩
   refine vc_loop (fun i : Nat => i ≤ t.length) (fun i => t.length - i) (fun i => .of [(2, .ptr 0 1 0 0), (4, .ptr 1 1 0 0), (5, .lit (.int .i64 0)), (6, .lit (.int .i64 0)), (7, .own 2), (9, .own 3), (10, .lit (.int .i64 (tokSum (t.take i)))), (36, .own 2), (37, .lit (.int .i64 t.length)), (38, .lit (.int .i64 i))] [some ⟨30, 1, 1, fun _ => [.sl 4 l.length (opCells l)]⟩, some ⟨37, 1, 1, fun _ => [.lit (.slice none 0 0)]⟩, some ⟨88, 3, t.length, tokCells t⟩, some ⟨3, 1, t.length, offFill t i⟩]) ⟨0, by omega, ?_⟩ (fun i hi => ?_)
   ·simp [go_sem, offFill, tokSum]
    exact ⟨cl, fun i hi c hc => .closed _ (clt i c hi hc)⟩
   ·by_cases h : i < t.length
    ·have hup : ∀ x : AV, updF t.length (offFill t i) i 0 [x] i = [x] := fun x => by
      rw [updF_at h h, if_pos rfl]; rfl
     have htk := tokSum_take t i h
     have htl := tokSum_take_le t (i + 1)
     have hsz : tokSize (t.getD i default) = (tokAt t i).gap.size + (tokAt t i).text.size := rfl
     have ew : IntKind.i64.wrap (((tokSum (t.take i) : Nat) : Int) + (tokAt t i).gap.size) = offZ t i := by rw [wrap_i64 (by omega)]; simp [offZ]
     have ew2 : IntKind.i64.wrap (offZ t i + (tokAt t i).text.size) = ((tokSum (t.take (i + 1)) : Nat) : Int) := by unfold offZ; rw [wrap_i64 (by omega), htk, hsz]; omega
     simp [go_sem, tokCells_at, h, ew]
     refine vc_drawn [] (.q 0 <| .q 1 <| .q 2 <| .q 3 <| .q 4 <| .q 5 <| .q 6 <| .q 7 <| .q 8 <| .done) (by kernel_rfl) ?_
     simp [go_sem, tokCells_at, h, hup, ew2]
     refine ⟨i + 1, by omega, by omega, ⟨rfl, wrap_succ (by omega)⟩, cl, fun j hj => ⟨?_, fun c hc => .closed _ (offClosed _ _ _ c hc)⟩⟩
     rw [updF_at h hj]
     by_cases hji : j = i
     ·subst hji
      simp [offFill, splice]
     ·rw [if_neg hji]
      simp only [offFill]
      by_cases h2 : j < i
      ·rw [if_pos h2, if_pos (by omega)]
      ·rw [if_neg h2, if_neg (by omega)]
    ·obtain rfl : i = t.length := by omega
     simp [go_sem]
     refine ⟨by omega, ?_⟩
     refine vc_loopE (fun i : Nat => i ≤ t.length ∧ ∀ j, j < i → (tokAt t j).kind ≠ 6) (fun i => t.length - i) (fun i => .of [(2, .ptr 0 1 0 0), (4, .ptr 1 1 0 0), (5, .lit (.int .i64 0)), (6, .lit (.int .i64 0)), (7, .sl 3 t.length (tokCells t)), (9, .own 3), (60, .sl 3 t.length (tokCells t)), (61, .lit (.int .i64 t.length)), (62, .lit (.int .i64 i))] [some ⟨30, 1, 1, fun _ => [.sl 4 l.length (opCells l)]⟩, some ⟨37, 1, 1, fun _ => [.lit (.slice none 0 0)]⟩, none, some ⟨3, 1, t.length, offFill t t.length⟩]) ⟨0, ⟨by omega, by simp⟩, ?_⟩ (fun i hi => ?_)
     ·refine (Ent.give [7, 60] 2 rfl (fun i hi c hc => clt i c hi hc) (by simp [lk])).trans (Ent.of_le ?_)
      simp [go_sem]
      exact ⟨clt, cl, fun i hi c hc => .closed _ (offClosed _ _ _ c hc)⟩
     ·by_cases h : i < t.length
      ·by_cases hk : (tokAt t i).kind = 6
       ·simp [go_sem, tokCells_at, h, hk]
        refine vc_drawn [5] (.q 0 <| .or 1 (.or 2 (.or 3 (.or 4 (.or 5 (.q 6 <| .q 7 <| .done) (.nil)) (.or 5 (.q 4 <| .q 6 <| .q 7 <| .done) (.nil))) (.or 5 (.q 3 <| .q 4 <| .q 6 <| .q 7 <| .done) (.nil))) (.or 5 (.q 2 <| .q 3 <| .q 4 <| .q 6 <| .q 7 <| .done) (.nil))) (.or 2 (.or 1 (.or 3 (.or 4 (.or 5 (.q 6 <| .q 7 <| .done) (.nil)) (.or 5 (.q 4 <| .q 6 <| .q 7 <| .done) (.nil))) (.or 5 (.q 3 <| .q 4 <| .q 6 <| .q 7 <| .done) (.nil))) (.or 5 (.q 1 <| .q 3 <| .q 4 <| .q 6 <| .q 7 <| .done) (.nil))) (.or 5 (.q 1 <| .q 2 <| .q 3 <| .q 4 <| .q 6 <| .q 7 <| .done) (.nil)))) (by kernel_rfl) ?_
        simp [go_sem, offFill_at, h]
        exact paR_nil (by rw [hpar, parK_bad (badAt_some h hi.2 hk)])
       ·simp [go_sem, tokCells_at, h, hk]
        refine ⟨i + 1, ⟨by omega, fun j hj => ?_⟩, by omega, Ent.of_le ?_⟩
        ·rcases Nat.lt_succ_iff_lt_or_eq.mp hj with hj | rfl
         ·exact hi.2 j hj
         ·exact hk
        ·simp [go_sem]
         exact ⟨⟨clt, wrap_succ (by omega)⟩, cl, fun i hi c hc => .closed _ (offClosed _ _ _ c hc)⟩
      ·obtain rfl : i = t.length := by omega
       have hnb := badAt_none hi.2
       simp [go_sem]
       refine vcall_use (c_RolesO l hl hw t (by omega) (fun i hi => by have := tok_le hi; unfold tokSize at this; simp only [maxLen]; omega)) ?_ ?_
       ·simp [go_sem]
        exact ⟨argSl_refl (by omega) cl, argSl_refl (by omega) clt⟩
       ·rintro av obs ⟨rfl, rfl⟩
        simp [go_sem]
        rcases roles_two h0 hends with ⟨hr, hR⟩ | ⟨hr, hlt⟩
        ·rw [hr, hR]
         simp [go_sem]
         have F := fits_of h0 hr
         refine vcall_share [] (c_indexOf l hl hw) (by simp) ?_ ?_ trivial ?_
         ·simp [go_sem]
          exact cl
         ·simp [go_sem]
         ·rintro av mem maps ⟨b1, b2, esA, esT, rfl, rfl, rfl, hb, hat, _⟩
          simp [go_sem]
          refine vcall_told [] 109 (c_newParser l t b1 b2 esA hu (ok_of_ok h0) hw hat) (by simp) ?_ ?_ ?_ ?_
          ·simp [go_sem]
           exact clt
          ·simp [go_sem]
          ·simp [go_sem]
           exact fun e => hb e.symm
          ·rintro av mem' maps' N vs as1 ⟨lo, bp, bo, b3, b4, esN, esL, ⟨n13, n14, n34⟩, rfl, rfl, rfl, rfl, rfl, rfl, hP⟩
           simp [go_sem]
           obtain ⟨E, hE⟩ : ∃ E : PEnv, E = ⟨l, lo, t, bp, bo, b1, b2, b3, b4, esA, esN, esL, hP, by omega, fun i hi => by have := tok_le hi; unfold tokSize at this; simp only [maxLen]; omega, n13, n14, n34⟩ := ⟨_, rfl⟩
           obtain ⟨r, hrun, hcase⟩ := run_of h0 F
           have ho := c_operand E _ 0 0 0 (toksZ l t) r (by rw [hE]; exact F.toks) F.fit hrun
           have hfam : ∀ i, i < lo.length + 1 → Rn (fun j => [5].getD j 0) 1 (renB (backN [] 5) (asP lo i)) (asP lo i) := fun i _ => by
            cases i with
            | zero =>
             refine .bptr _ _ (by simp) fun j a b h1 h2 => ?_
             match j with
             | 0 =>
              simp [backN, ren1] at h1 h2
              subst h1; subst h2
              exact .ptr (f := fun j => [5].getD j 0) 0 6 0 0 (by omega)
             | j + 1 => simp at h1
            | succ j => 
             have e : renB (backN [] 5) (asP lo (j + 1)) = asP lo (j + 1) := by simp [asP, renB, POp.cells, ren1]
             rw [e]
             exact .closed _ (.bptr _ fun c hc => by
              simp [POp.cells] at hc
              rcases hc with rfl | rfl | rfl | rfl <;> exact .lit _)
           have hob : Option.map (renOb (backN [] 5)) (pOb b1 b2 b3 b4 t 0) = pOb b1 b2 b3 b4 t 0 := by simp [pOb, renOb, ren1]
           rw [hob]
           have hml := E.mpsLe [(b2, ⟨9, esT⟩), (b1, ⟨151, esA⟩)]
           rw [hE] at hml
           cases r with
           | none =>
            simp only at hcase
            have cw := c_whole_none E 0 ho
            rw [hE] at cw
            refine vcall_tell [5] 109 cw (by simp) rfl hfam ?_ ?_ ?_ ?_
            ·simp [go_sem]
            ·simp [go_sem, PEnv.ob, pOb]
             exact clt
            ·exact hml
            ·rintro av mem maps ⟨⟨rfl, rfl⟩, rfl⟩
             simp [go_sem]
             exact paR_nil (by rw [hpar, parK_none hnb hr hcase])
           | some x =>
            obtain ⟨e, rest⟩ := x
            simp only at hcase
            obtain ⟨hat7, hcase⟩ := hcase
            have ea : E.at_ rest = t.length - 1 - rest.length := by rw [hE]; rfl
            have eT : E.t = t := by rw [hE]
            have cw := c_whole_some E 0 e rest (by rw [ea, eT]; exact hat7) ho
            rw [ea, eT] at cw
            rcases hcase with ⟨hp, hk7⟩ | ⟨hp, hk7⟩
            ·rw [hk7, hE] at cw
             obtain ⟨e1, e2, e3, e4, e5⟩ := partT_ok F hp
             obtain ⟨T, u, hT, _, fh, hmh, ch⟩ := partIs e
             obtain ⟨T', u', hT', fn, hmn, cn⟩ := nodesAre e [] e5 (by have := lay_yield e []; have := F.len; rw [e2] at *; simp only [List.length_nil] at *; omega)
             rw [hT] at cw hT'
             simp only [Value.iface.injEq] at hT'
             obtain ⟨rfl, rfl⟩ := hT'
             refine vcall_tell [5] 109 cw (by simp) rfl hfam ?_ ?_ ?_ ?_
             ·simp [go_sem]
             ·simp [go_sem, PEnv.ob, pOb]
              exact clt
             ·exact hml
             ·rintro av mem maps ⟨⟨rfl, rfl⟩, hM⟩
              simp [go_sem, hmh]
              refine vcall_pure ch ?_ ?_
              ·simp [go_sem]
              ·simp [go_sem, hmn]
               refine ⟨fun h6 => paR_nil (by rw [hpar, parK_high hnb hr hp (by omega)]), fun h6 => ?_⟩
               refine vcall_share [] (VProc.adoptNil (by omega) cn) (by simp) ?_ ?_ trivial ?_
               ·simp [go_sem]
               ·simp [go_sem]
               ·rintro av mem maps ⟨rfl, rfl, rfl⟩
                simp [go_sem, nodRow]
                refine ⟨_, obsSame_one.mpr ⟨⟨77, 4, (lay e []).length, nodCells (lay e [])⟩, ⟨rfl, rfl, rfl, fun j hj => ⟨rfl, nodLit _ j⟩⟩, rfl⟩, .inl ?_⟩
                rw [hpar, parK_ok hnb hr hp h6]
                exact ⟨rfl, rfl⟩
            ·have hk7' : decide ((tokAt t (t.length - 1 - rest.length)).kind = 7) = false := decide_eq_false hk7
             rw [hk7', hE] at cw
             refine vcall_tell [5] 109 cw (by simp) rfl hfam ?_ ?_ ?_ ?_
             ·simp [go_sem]
             ·simp [go_sem, PEnv.ob, pOb]
              exact clt
             ·exact hml
             ·rintro av mem maps ⟨⟨rfl, rfl⟩, hM⟩
              simp [go_sem]
              exact paR_nil (by rw [hpar, parK_none hnb hr hp])
        ·obtain ⟨q, hq⟩ : ∃ q : Nat, (rolesZ l t).2 = q := ⟨(rolesZ l t).2.toNat, by omega⟩
         have hk := parK_roles hnb hr
         rw [hq] at hr hlt hk ⊢
         simp only [Int.toNat_natCast] at hk
         have hq' : q < t.length := by omega
         refine ⟨fun _ => vc_drawn [5] (.q 0 <| .or 1 (.or 2 (.or 3 (.or 4 (.or 5 (.q 6 <| .q 7 <| .done) (.nil)) (.or 5 (.q 4 <| .q 6 <| .q 7 <| .done) (.nil))) (.or 5 (.q 3 <| .q 4 <| .q 6 <| .q 7 <| .done) (.nil))) (.or 5 (.q 2 <| .q 3 <| .q 4 <| .q 6 <| .q 7 <| .done) (.nil))) (.or 2 (.or 1 (.or 3 (.or 4 (.or 5 (.q 6 <| .q 7 <| .done) (.nil)) (.or 5 (.q 4 <| .q 6 <| .q 7 <| .done) (.nil))) (.or 5 (.q 3 <| .q 4 <| .q 6 <| .q 7 <| .done) (.nil))) (.or 5 (.q 1 <| .q 3 <| .q 4 <| .q 6 <| .q 7 <| .done) (.nil))) (.or 5 (.q 1 <| .q 2 <| .q 3 <| .q 4 <| .q 6 <| .q 7 <| .done) (.nil)))) (by kernel_rfl) ?_, fun h => by omega⟩
         simp [go_sem, offFill_at, hq']
         exact paR_nil (by rw [hpar, hk])
theorem c_Parse (l : List POp) (hl : l.length ≤ 9223372036854775807) (hw : opsWf l) (z : ByteArray) (hz : z.size ≤ 1048576) : VFun Tryz.prog 19 [.agg [.sl 4 l.length (opCells l)], .lit (.string z)] (fun av obs => av = .tup [.agg [.own 0], .lit (.int .i64 (parZ l z).2.1), .lit (.int .i64 (parZ l z).2.2)] ∧ obs = [⟨77, 4, (parZ l z).1.length, nodCells (parZ l z).1⟩]) :=
 (c_Parse1 l hl hw z hz).adoptA 77 4 (by omega) (nodCells []) fun av obs h => paR_own h
end Go.Proofs.YtjdmmhcogmepaaaGreatDoor.V
namespace Go.Proofs.YtjdmmhcogmepaaaGreatDoor.V
open Go.RowKit
set_option linter.unusedVariables false
set_option linter.unusedSimpArgs false
set_option linter.constructorNameAsVariable false
theorem yieldW_sz {B : Nat} (hB : 1 ≤ B) {l : List POp} {T : List PNode} {e : ET} (h : WfTree l T e) (hT : NodTx B T) (i : Nat) : (wdAt (yieldW e) i).text.size ≤ B := by
 have hx : TxB B e := lay_tx e [] fun n hn => nodTx_mem.1 hT n (by rw [h.lay]; exact hn)
 unfold wdAt
 rw [List.getD_eq_getElem?_getD]
 cases hw : (yieldW e)[i]? with
 | none => exact Nat.zero_le _
 | some w => exact yieldW_tx hB hx w (List.mem_of_getElem? hw)
set_option maxHeartbeats 4000000 in
set_option maxRecDepth 100000 in
theorem c_FnUnique (N : Nat) (f : Nat → Nat) (hN : N ≤ maxLen) (hf : ∀ i, f i < 256) : VFun Tryz.prog 4 [.sl 1 N (rdCells f)] (fun av _ => av = .lit (.bool true)) := by
 have clf : ∀ (i : Nat) (c : AV), i < N → c ∈ rdCells f i → Closed c := fun i c _ h => rdClosed f i c h
 have hN' : N ≤ 9223372036854775807 := by simpa [maxLen] using hN
 have hO := drTO_ok (N := N) hf
 have cd := c_DrawTreeOk N f hN' hf
 generalize drTO N f = o at *
 have htx := hO.treeTx
 have hrow := hO.row
 have htab := hO.tab
 have htxt := hO.txt
 have hcut := hO.cut
 obtain ⟨L, R, cut, rd⟩ := o
 simp only [Over.tree] at htx hrow htab htxt hcut
 have clL : ∀ (i : Nat) (c : AV), i < L.length → c ∈ opCells L i → Closed c := fun i c _ h => opClosed L i c h
 have hwf : opsWf L := fun i hi => by show (opAt L i).wf; have := htxt _ (opAt_mem hi); simp only [POp.wf, maxLen]; omega
 cases cut with
 | none =>
  have hTL : R.length = R.length := rfl
  have hwn : nodsWf R := fun i hi => Nat.le_trans (htx i hi) (by simp [maxLen])
  have c1 := c_specTreeOk L (by omega) hwf R (by omega) hwn
  have c2 := c_TreeOk L (by omega) hwf R (by omega) hwn
  have hcs := treeOk_cases L R
  generalize hTO : treeOk L R = v at *
  refine vfun_start Tryz.func4 (by kernel_rfl) rfl (by simp [Tryz.ntmps4]) ?_; simp only [Tryz.ntmps4, Tryz.results4]; simp [go_sem]
  refine ⟨by omega, fun hbig => ?_⟩
  refine vcall_use cd ?_ ?_
  ·simp [go_sem]
   exact argSl_refl (by omega) clf
  rintro av obs ⟨rfl, rfl⟩
  simp [go_sem, Over.treeA]
  refine vcall_pure c1 ?_ ?_
  ·simp [go_sem]
   exact ⟨argSl_own rfl (by omega) clL, argSl_own rfl (by omega) (fun i c _ hc => nodClosed _ i c hc)⟩
  simp [go_sem]
  refine vcall_use cd ?_ ?_
  ·simp [go_sem]
   exact argSl_refl (by omega) clf
  rintro av obs ⟨rfl, rfl⟩
  simp [go_sem, Over.treeA]
  refine vcall_pure c2 ?_ ?_
  ·simp [go_sem]
   exact ⟨argSl_own rfl (by omega) clL, argSl_own rfl (by omega) (fun i c _ hc => nodClosed _ i c hc)⟩
  rcases hcs with rfl | rfl | ⟨hw, hcs⟩
  ·simp [go_sem]
  ·simp [go_sem]
  have hW := wf_tree hw
  generalize hE : rootE L R = e at *
  have hyz := yieldW_sz (B := 7) (by omega) hW htx
  obtain ⟨hHO, hHe⟩ := hW.height
  have hle := hW.len
  have cy := c_YieldText (l := L) e hW.inT (by rw [← hW.lay]; omega) (fun i => by have := hyz i; omega)
  rw [← hW.lay] at cy
  have ch := c_specHeight R (his e []) (by omega) hHO
  rw [hHe] at ch
  have hsp := hW.spaced
  have hzl : (spcW (yieldW e) (yieldW e).length).size ≤ 9223372036854775807 := by
   have h1 := spcW_size hyz (yieldW e).length
   have h2 := yieldW_len e
   have h3 := lay_len e []
   rw [← hW.lay] at h3
   simp only [List.length_nil] at h3
   have h4 : (yieldW e).length * (7 + 1) ≤ 100000 * 8 := Nat.mul_le_mul (by omega) (by omega)
   omega
  generalize spcW (yieldW e) (yieldW e).length = z at *
  have clq : ∀ (i : Nat) (c : AV), i < R.length → c ∈ nodCells R i → Closed c := fun i c _ h => nodClosed _ i c h
  rcases hcs with ⟨rfl, ha⟩ | ⟨rfl, ha⟩
  ·simp [go_sem]
   refine vcall_pure cy ?_ ?_
   ·simp [go_sem]
    exact argSl_own rfl (by omega) (fun i c _ hc => nodClosed _ i c hc)
   simp [go_sem]
   intro hz2
   refine vcall_pure ch ?_ ?_
   ·simp [go_sem]
    exact argSl_own rfl (by omega) (fun i c _ hc => nodClosed _ i c hc)
   simp [go_sem]
   intro hh
   have hp := hW.parsed (hsp (by omega)) ha hh
   have cp := c_Parse L (by omega) hwf z (by omega)
   rw [hp] at cp
   simp only at cp
   have cq := c_lwSameTree R R (by omega) (by omega)
   rw [nodsEq_refl] at cq
   refine vcall_use cp ?_ ?_
   ·simp [go_sem]
    exact argSl_own rfl (by omega) clL
   rintro av obs ⟨rfl, rfl⟩
   simp [go_sem]
   refine vcall_pure cq ?_ ?_
   ·simp [go_sem]
    exact ⟨argSl_own rfl (by omega) clq, argSl_own rfl (by omega) (fun i c _ hc => nodClosed _ i c hc)⟩
   simp [go_sem]
  ·simp [go_sem]
   refine vcall_pure cy ?_ ?_
   ·simp [go_sem]
    exact argSl_own rfl (by omega) (fun i c _ hc => nodClosed _ i c hc)
   simp [go_sem]
   intro hz2
   refine vcall_pure ch ?_ ?_
   ·simp [go_sem]
    exact argSl_own rfl (by omega) (fun i c _ hc => nodClosed _ i c hc)
   simp [go_sem]
   intro hh
   have hp := hW.other (hsp (by omega)) ha
   have hpl := parZ_len L z
   have cp := c_Parse L (by omega) hwf z (by omega)
   generalize parZ L z = p at *
   have clp : ∀ (i : Nat) (c : AV), i < p.1.length → c ∈ nodCells p.1 i → Closed c := fun i c _ h => nodClosed _ i c h
   have cq := c_lwSameTree p.1 R (by omega) (by omega)
   refine vcall_use cp ?_ ?_
   ·simp [go_sem]
    exact argSl_own rfl (by omega) clL
   rintro av obs ⟨rfl, rfl⟩
   simp [go_sem]
   intro hq
   have hq2 : nodsEq p.1 R = false := by
    rcases hp with h1 | h1
    ·exact absurd hq (by simp [h1])
    ·exact h1
   rw [hq2] at cq
   refine vcall_pure cq ?_ ?_
   ·simp [go_sem]
    exact ⟨argSl_own rfl (by omega) clp, argSl_own rfl (by omega) (fun i c _ hc => nodClosed _ i c hc)⟩
   simp [go_sem]
 | some n =>
  have hn := hcut n rfl
  have hTL : (R.take n).length = n := by simp; omega
  have hwn : nodsWf (R.take n) := fun i hi => Nat.le_trans (htx i hi) (by simp [maxLen])
  have c1 := c_specTreeOk L (by omega) hwf (R.take n) (by omega) hwn
  have c2 := c_TreeOk L (by omega) hwf (R.take n) (by omega) hwn
  rw [hTL] at c1 c2
  have hcs := treeOk_cases L (R.take n)
  generalize hTO : treeOk L (R.take n) = v at *
  refine vfun_start Tryz.func4 (by kernel_rfl) rfl (by simp [Tryz.ntmps4]) ?_; simp only [Tryz.ntmps4, Tryz.results4]; simp [go_sem]
  refine ⟨by omega, fun hbig => ?_⟩
  refine vcall_use cd ?_ ?_
  ·simp [go_sem]
   exact argSl_refl (by omega) clf
  rintro av obs ⟨rfl, rfl⟩
  simp [go_sem, Over.treeA]
  refine vcall_pure c1 ?_ ?_
  ·simp [go_sem]
   exact ⟨argSl_own rfl (by omega) clL, argSl_sub rfl (by omega) (by omega) fun i hi => ⟨by rw [Nat.zero_add, nodCells_take hi], fun c hc => nodClosed _ i c hc⟩⟩
  simp [go_sem]
  refine vcall_use cd ?_ ?_
  ·simp [go_sem]
   exact argSl_refl (by omega) clf
  rintro av obs ⟨rfl, rfl⟩
  simp [go_sem, Over.treeA]
  refine vcall_pure c2 ?_ ?_
  ·simp [go_sem]
   exact ⟨argSl_own rfl (by omega) clL, argSl_sub rfl (by omega) (by omega) fun i hi => ⟨by rw [Nat.zero_add, nodCells_take hi], fun c hc => nodClosed _ i c hc⟩⟩
  rcases hcs with rfl | rfl | ⟨hw, hcs⟩
  ·simp [go_sem]
  ·simp [go_sem]
  have hW := wf_tree hw
  generalize hE : rootE L (R.take n) = e at *
  have hyz := yieldW_sz (B := 7) (by omega) hW htx
  obtain ⟨hHO, hHe⟩ := hW.height
  have hle := hW.len
  have cy := c_YieldText (l := L) e hW.inT (by rw [← hW.lay]; omega) (fun i => by have := hyz i; omega)
  rw [← hW.lay] at cy
  have ch := c_specHeight (R.take n) (his e []) (by omega) hHO
  rw [hHe] at ch
  rw [hTL] at cy ch
  have hsp := hW.spaced
  have hzl : (spcW (yieldW e) (yieldW e).length).size ≤ 9223372036854775807 := by
   have h1 := spcW_size hyz (yieldW e).length
   have h2 := yieldW_len e
   have h3 := lay_len e []
   rw [← hW.lay] at h3
   simp only [List.length_nil] at h3
   have h4 : (yieldW e).length * (7 + 1) ≤ 100000 * 8 := Nat.mul_le_mul (by omega) (by omega)
   omega
  generalize spcW (yieldW e) (yieldW e).length = z at *
  have clq : ∀ (i : Nat) (c : AV), i < n → c ∈ nodCells (R.take n) i → Closed c := fun i c _ h => nodClosed _ i c h
  rcases hcs with ⟨rfl, ha⟩ | ⟨rfl, ha⟩
  ·simp [go_sem]
   refine vcall_pure cy ?_ ?_
   ·simp [go_sem]
    exact argSl_sub rfl (by omega) (by omega) fun i hi => ⟨by rw [Nat.zero_add, nodCells_take hi], fun c hc => nodClosed _ i c hc⟩
   simp [go_sem]
   intro hz2
   refine vcall_pure ch ?_ ?_
   ·simp [go_sem]
    exact argSl_sub rfl (by omega) (by omega) fun i hi => ⟨by rw [Nat.zero_add, nodCells_take hi], fun c hc => nodClosed _ i c hc⟩
   simp [go_sem]
   intro hh
   have hp := hW.parsed (hsp (by omega)) ha hh
   have cp := c_Parse L (by omega) hwf z (by omega)
   rw [hp] at cp
   simp only at cp
   have cq := c_lwSameTree (R.take n) (R.take n) (by omega) (by omega)
   rw [nodsEq_refl] at cq
   try rw [hTL] at cq
   try rw [hTL] at cp
   refine vcall_use cp ?_ ?_
   ·simp [go_sem]
    exact argSl_own rfl (by omega) clL
   rintro av obs ⟨rfl, rfl⟩
   simp [go_sem]
   refine vcall_pure cq ?_ ?_
   ·simp [go_sem]
    exact ⟨argSl_own rfl (by omega) clq, argSl_sub rfl (by omega) (by omega) fun i hi => ⟨by rw [Nat.zero_add, nodCells_take hi], fun c hc => nodClosed _ i c hc⟩⟩
   simp [go_sem]
  ·simp [go_sem]
   refine vcall_pure cy ?_ ?_
   ·simp [go_sem]
    exact argSl_sub rfl (by omega) (by omega) fun i hi => ⟨by rw [Nat.zero_add, nodCells_take hi], fun c hc => nodClosed _ i c hc⟩
   simp [go_sem]
   intro hz2
   refine vcall_pure ch ?_ ?_
   ·simp [go_sem]
    exact argSl_sub rfl (by omega) (by omega) fun i hi => ⟨by rw [Nat.zero_add, nodCells_take hi], fun c hc => nodClosed _ i c hc⟩
   simp [go_sem]
   intro hh
   have hp := hW.other (hsp (by omega)) ha
   have hpl := parZ_len L z
   have cp := c_Parse L (by omega) hwf z (by omega)
   generalize parZ L z = p at *
   have clp : ∀ (i : Nat) (c : AV), i < p.1.length → c ∈ nodCells p.1 i → Closed c := fun i c _ h => nodClosed _ i c h
   have cq := c_lwSameTree p.1 (R.take n) (by omega) (by omega)
   try rw [hTL] at cq
   try rw [hTL] at cp
   refine vcall_use cp ?_ ?_
   ·simp [go_sem]
    exact argSl_own rfl (by omega) clL
   rintro av obs ⟨rfl, rfl⟩
   simp [go_sem]
   intro hq
   have hq2 : nodsEq p.1 (R.take n) = false := by
    rcases hp with h1 | h1
    ·exact absurd hq (by simp [h1])
    ·exact h1
   rw [hq2] at cq
   refine vcall_pure cq ?_ ?_
   ·simp [go_sem]
    exact ⟨argSl_own rfl (by omega) clp, argSl_sub rfl (by omega) (by omega) fun i hi => ⟨by rw [Nat.zero_add, nodCells_take hi], fun c hc => nodClosed _ i c hc⟩⟩
   simp [go_sem]
end Go.Proofs.YtjdmmhcogmepaaaGreatDoor.V
namespace Go.Proofs.YtjdmmhcogmepaaaGreatDoor.V
open Go.RowKit
set_option linter.unusedVariables false
set_option linter.unusedSimpArgs false
set_option linter.constructorNameAsVariable false
set_option maxRecDepth 100000 in
theorem shape_bytes (n : Nat) (xs : List AV) (h : Shape Tryz.prog (n + 2) 34 xs) : ∃ (m : Nat) (g : Nat → Nat), m ≤ maxLen ∧ (∀ i, g i < 256) ∧ ∃ f, xs = [.sl 1 m f] ∧ ∀ i, i < m → f i = rdCells g i := by
 obtain ⟨m, f, rfl, hm, hf⟩ := shape_slice Tryz.underlying34 h
 have each : ∀ i, i < m → ∃ b : Nat, b < 256 ∧ f i = [.lit (.int .u8 b)] := by
  intro i hi
  obtain ⟨b, e, hb⟩ := shape_int Tryz.underlying5 (hf i hi).2
  have h8 : IntKind.u8.bits = 8 := rfl
  simp [Lit.wf, IntKind.min, IntKind.max, IntKind.signed, h8] at hb
  refine ⟨b.toNat, by omega, ?_⟩
  rw [e, Int.toNat_of_nonneg (by omega)]
 refine ⟨m, fun i => if h : i < m then (each i h).choose else 0, hm, fun i => ?_, f, rfl, fun i hi => ?_⟩
 ·by_cases h : i < m
  ·simp only [dif_pos h]; exact (each i h).choose_spec.1
  ·simp only [dif_neg h]; omega
 ·simp only [rdCells, dif_pos hi]
  exact (each i hi).choose_spec.2
end Go.Proofs.YtjdmmhcogmepaaaGreatDoor.V
