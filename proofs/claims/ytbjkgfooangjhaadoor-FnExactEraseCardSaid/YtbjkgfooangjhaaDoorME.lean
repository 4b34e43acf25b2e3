import Derived.Test.YtbjkgfooangjhaaDoorMD
import Derived.Shelf.Strings.Builder1
/- Contracts: trees without their groups. -/
namespace Go.Proofs.YtbjkgfooangjhaaDoor.V
open Go.RowKit
set_option linter.unusedVariables false
set_option linter.unusedSimpArgs false
set_option linter.constructorNameAsVariable false
/-- the nodes of the first i ones without the groups, and where each went -/
def erT (t : List PNode) : Nat → List PNode × List Int
  | 0 => ([], [])
  | i + 1 => if (nodAt t i).kind = 6 then ((erT t i).1, (erT t i).2 ++ [(erT t i).2.getD (nodAt t i).a.toNat 0])
      else ((erT t i).1 ++ [⟨(nodAt t i).text, (nodAt t i).kind, if kidsN (nodAt t i).kind = 0 then 0 else (erT t i).2.getD (nodAt t i).a.toNat 0, if kidsN (nodAt t i).kind = 2 then (erT t i).2.getD (nodAt t i).b.toNat 0 else 0⟩], (erT t i).2 ++ [((erT t i).1.length : Int)])
def toN (t : List PNode) (j : Nat) : Int := (erT t (j + 1)).2.getD j 0
theorem erT_to_len (t : List PNode) : ∀ i, (erT t i).2.length = i
  | 0 => rfl
  | i + 1 => by simp only [erT]; split <;> simp [erT_to_len t i]
theorem erT_len (t : List PNode) : ∀ i, (erT t i).1.length ≤ i
  | 0 => by simp [erT]
  | i + 1 => by
    have := erT_len t i
    simp only [erT]
    split
    · simp only; omega
    · simp; omega
theorem erT_to (t : List PNode) (j : Nat) : ∀ i, j < i → (erT t i).2.getD j 0 = toN t j
  | 0, h => by omega
  | i + 1, h => by
    by_cases e : j = i
    · subst e; rfl
    · have := erT_to t j i (by omega)
      rw [← this]
      have hl := erT_to_len t i
      simp only [erT]
      split <;> (simp only [List.getD_eq_getElem?_getD]; rw [List.getElem?_append_left (by omega)])
theorem getD_last {l : List Int} {x : Int} {i : Nat} (h : l.length = i) : (l ++ [x]).getD i 0 = x := by
  subst h
  rw [List.getD_eq_getElem?_getD, List.getElem?_append_right (by omega)]
  simp
/-- in a tree in order a node goes to the end of what its stretch leaves -/
theorem toN_end {t : List PNode} : ∀ (i : Nat), i < t.length → 0 ≤ fromZ t i → 1 ≤ (erT t (i + 1)).1.length ∧ toN t i = (erT t (i + 1)).1.length - 1 := by
  intro i
  induction i using Nat.strongRecOn with
  | ind i ih =>
    intro hi h0
    have hl := erT_to_len t i
    by_cases h6 : (nodAt t i).kind = 6
    · have k1 : kidsN (nodAt t i).kind = 1 := by simp [kidsN, h6]
      rw [fromZ_eq, if_neg (by omega), if_pos k1] at h0
      split at h0
      · omega
      · rename_i hn
        have hi1 : 1 ≤ i := by
          by_cases hz : i = 0
          · subst hz; rw [fromZ_neg t (by omega)] at h0; omega
          · omega
        have e1 : (i : Int) - 1 = ((i - 1 : Nat) : Int) := by omega
        rw [e1] at h0
        have := ih (i - 1) (by omega) (by omega) h0
        rw [show i - 1 + 1 = i by omega] at this
        have ea : (nodAt t i).a.toNat = i - 1 := by omega
        unfold toN
        simp only [erT, h6, if_true]
        rw [getD_last hl, ea]
        rw [erT_to t (i - 1) i (by omega)]
        exact this
    · unfold toN
      simp only [erT, if_neg h6]
      rw [getD_last hl]
      simp
def nodRow (t : List PNode) : Option Ob := some ⟨56, 4, t.length, nodCells t⟩
theorem nod_app (t : List PNode) (o : PNode) (j : Nat) (h : j < t.length + 1) : joinF t.length (nodCells t) (fun i => [o.cells][i]?.getD []) j = nodCells (t ++ [o]) j := by
  unfold joinF nodCells
  by_cases hj : j < t.length
  · rw [if_pos hj, List.getD_eq_getElem?_getD, List.getD_eq_getElem?_getD, List.getElem?_append_left hj]
  · have : j = t.length := by omega
    subst this
    rw [if_neg (by omega), List.getD_eq_getElem?_getD, List.getElem?_append_right (by omega)]
    simp
theorem outAt_app {idx : Nat → Nat} {ks : List Nat} {ty : Nat} {l T : List PNode} {o : PNode} {f : Nat → List AV} (h : T = l ++ [o]) (hf : ∀ j, j < l.length + 1 → f j = nodCells (l ++ [o]) j) : OutAt idx ks ⟨ty, 4, T.length, nodCells T⟩ (some (some ⟨ty, 4, l.length + 1, f⟩)) := by
  subst h
  rw [show (l ++ [o]).length = l.length + 1 by simp]
  exact outAt_lits hf (fun j _ => nodLit _ j)
theorem outAt_same {idx : Nat → Nat} {ks : List Nat} {ty : Nat} {l T : List PNode} {f : Nat → List AV} (h : T = l) (hf : ∀ j, j < l.length → f j = nodCells l j) : OutAt idx ks ⟨ty, 4, T.length, nodCells T⟩ (some (some ⟨ty, 4, l.length, f⟩)) := by
  subst h
  exact outAt_lits hf (fun j _ => nodLit _ j)
set_option maxRecDepth 100000 in
theorem c_l3Erased_step (t : List PNode) (ht : t.length ≤ 1048576) (hin : ∀ i, i < t.length → 0 ≤ fromZ t i) (i : Nat) (hi : i < t.length)
    (ih : ∀ j, j < i → VProc Tryd.prog 26 [.sl 4 t.length (nodCells t), .lit (.int .i64 j), .own 0] [nodRow (erT t (fromZ t j).toNat).1] [] (fun av mem maps => av = .own 1 ∧ mem = [none, nodRow (erT t (j + 1)).1] ∧ maps = [])) :
    VProc Tryd.prog 26 [.sl 4 t.length (nodCells t), .lit (.int .i64 i), .own 0] [nodRow (erT t (fromZ t i).toNat).1] [] (fun av mem maps => av = .own 1 ∧ mem = [none, nodRow (erT t (i + 1)).1] ∧ maps = []) := by
  have clt : ∀ (i : Nat) (c : AV), i < t.length → c ∈ nodCells t i → Closed c := fun i c _ h => nodClosed t i c h
  refine vproc_start Tryd.func26 (by kernel_rfl) rfl (by simp [Tryd.ntmps26]) ?_
  simp only [Tryd.ntmps26, Tryd.results26]
  simp [go_sem]
  have h0 := hin i hi
  have hlen := erT_len t
  have hk := fromZ_eq t i
  by_cases h6 : (nodAt t i).kind = 6
  · have k1 : kidsN (nodAt t i).kind = 1 := by simp [kidsN, h6]
    rw [if_neg (by omega), if_pos k1] at hk
    split at hk
    · omega
    · rename_i hn
      have hi1 : 1 ≤ i := by
        by_cases hz : i = 0
        · subst hz; rw [fromZ_neg t (i := ((0 : Nat) : Int) - 1) (by omega)] at hk; omega
        · omega
      have ea : (nodAt t i).a = ((i - 1 : Nat) : Int) := by omega
      have ef : fromZ t i = fromZ t ((i - 1 : Nat) : Int) := by rw [hk]; congr 1; omega
      have e1 := ih (i - 1) (by omega)
      rw [← ef, show i - 1 + 1 = i by omega] at e1
      simp [go_sem, nodCells_at, nodRow, h6]
      refine ⟨hi, ?_⟩
      refine vcall_share [0] e1 (by simp) ?_ ?_ trivial ?_
      · simp [go_sem, ea]
        exact clt
      · simp [go_sem, nodRow]
        exact fun i _ => cellsRn_lits rfl
      · rintro av mem maps ⟨rfl, rfl, rfl⟩
        simp [go_sem, nodRow]
        refine ⟨rfl, [2], [none, nodRow (erT t (i + 1)).1], by simp, by simp [go_sem], by simp [go_sem], ?_, by simp [go_sem], ?_⟩
        · simp [go_sem, nodRow]
          exact outAt_same (by simp [erT, h6]) (fun j _ => rfl)
        · simp [go_sem]
          rfl
  · have eT : (erT t (i + 1)).1 = (erT t i).1 ++ [⟨(nodAt t i).text, (nodAt t i).kind, if kidsN (nodAt t i).kind = 0 then 0 else (erT t i).2.getD (nodAt t i).a.toNat 0, if kidsN (nodAt t i).kind = 2 then (erT t i).2.getD (nodAt t i).b.toNat 0 else 0⟩] := by
      simp only [erT, if_neg h6]
    have hli := hlen i
    by_cases k0 : kidsN (nodAt t i).kind = 0
    · rw [if_pos k0] at hk
      split at hk
      · omega
      · rename_i hn
        rw [show (fromZ t i).toNat = i by omega]
        simp [k0] at eT
        simp [go_sem, nodCells_at, nodRow, h6]
        refine ⟨hi, vcall_pure (c_l3Kids (nodAt t i).kind) ?_ ?_⟩
        · simp [go_sem]
        · simp [go_sem, k0]
          refine vcall_pure (c_l3Kids (nodAt t i).kind) ?_ ?_
          · simp [go_sem]
          · simp [go_sem, k0]
            refine ⟨by omega, by omega, ?_⟩
            refine ⟨rfl, [4], [none, nodRow (erT t (i + 1)).1], by simp, by simp [go_sem], by simp [go_sem], ?_, by simp [go_sem], ?_⟩
            · simp [go_sem, nodRow]
              exact outAt_app eT (fun j hj => nod_app (erT t i).1 ⟨(nodAt t i).text, (nodAt t i).kind, 0, 0⟩ j hj)
            · simp [go_sem]
              rfl
    · have k0' := k0
      rw [if_neg k0] at hk
      by_cases k1 : kidsN (nodAt t i).kind = 1
      · rw [if_pos k1] at hk
        split at hk
        · omega
        · rename_i hn
          have hi1 : 1 ≤ i := by
            by_cases hz : i = 0
            · subst hz; rw [fromZ_neg t (i := ((0 : Nat) : Int) - 1) (by omega)] at hk; omega
            · omega
          have ea : (nodAt t i).a = ((i - 1 : Nat) : Int) := by omega
          have ef : fromZ t i = fromZ t ((i - 1 : Nat) : Int) := by rw [hk]; congr 1; omega
          have e1 := ih (i - 1) (by omega)
          rw [← ef, show i - 1 + 1 = i by omega] at e1
          have et := toN_end (i - 1) (by omega) (hin (i - 1) (by omega))
          rw [show i - 1 + 1 = i by omega] at et
          have e2 : (erT t i).2.getD (nodAt t i).a.toNat 0 = (erT t i).1.length - 1 := by
            rw [ea, Int.toNat_natCast, erT_to t (i - 1) i (by omega)]; exact et.2
          rw [e2] at eT
          have ew : IntKind.i64.wrap (((erT t i).1.length : Int) - 1) = ((erT t i).1.length : Int) - 1 := wrap_i64 (by omega)
          simp [k0, k1] at eT
          simp [go_sem, nodCells_at, nodRow, h6]
          refine ⟨hi, vcall_pure (c_l3Kids (nodAt t i).kind) ?_ ?_⟩
          · simp [go_sem]
          · simp [go_sem, k1]
            refine vcall_share [0] e1 (by simp) ?_ ?_ trivial ?_
            · simp [go_sem, ea]
              exact clt
            · simp [go_sem, nodRow]
              exact fun i _ => cellsRn_lits (nodLit _ i)
            · rintro av mem maps ⟨rfl, rfl, rfl⟩
              simp [go_sem, nodRow, ew]
              refine ⟨by omega, vcall_pure (c_l3Kids (nodAt t i).kind) ?_ ?_⟩
              · simp [go_sem]
              · simp [go_sem, k1]
                refine ⟨by omega, by omega, ?_⟩
                refine ⟨rfl, [5], [none, nodRow (erT t (i + 1)).1], by simp, by simp [go_sem], by simp [go_sem], ?_, by simp [go_sem], ?_⟩
                · simp [go_sem, nodRow]
                  exact outAt_app eT (fun j hj => nod_app (erT t i).1 ⟨(nodAt t i).text, (nodAt t i).kind, ((erT t i).1.length : Int) - 1, 0⟩ j hj)
                · simp [go_sem]
                  rfl
      · have k2 : kidsN (nodAt t i).kind = 2 := by rcases kidsN_cases (nodAt t i).kind with e | e | e <;> omega
        rw [if_neg k1] at hk
        split at hk
        · omega
        · rename_i hb
          split at hk
          · omega
          · rename_i hn
            have hi1 : 1 ≤ i := by
              by_cases hz : i = 0
              · subst hz; rw [fromZ_neg t (i := ((0 : Nat) : Int) - 1) (by omega)] at hn; omega
              · omega
            have eb : (nodAt t i).b = ((i - 1 : Nat) : Int) := by omega
            have ei : (i : Int) - 1 = ((i - 1 : Nat) : Int) := by omega
            rw [ei] at hk hn
            have hle := fromZ_le t (i := ((i - 1 : Nat) : Int)) (by omega)
            generalize hq : (nodAt t i).a.toNat = q at *
            have ea : (nodAt t i).a = (q : Int) := by omega
            have eq1 : (fromZ t ((i - 1 : Nat) : Int)).toNat = q + 1 := by omega
            have ef : fromZ t i = fromZ t (q : Int) := by rw [hk]; congr 1; omega
            have e1 := ih q (by omega)
            rw [← ef] at e1
            have e2 := ih (i - 1) (by omega)
            rw [show i - 1 + 1 = i by omega, eq1] at e2
            have et1 := toN_end q (by omega) (hin q (by omega))
            have et2 := toN_end (i - 1) (by omega) (hin (i - 1) (by omega))
            rw [show i - 1 + 1 = i by omega] at et2
            have g1 : (erT t i).2.getD q 0 = (erT t (q + 1)).1.length - 1 := by
              rw [erT_to t q i (by omega)]; exact et1.2
            have g2 : (erT t i).2.getD (nodAt t i).b.toNat 0 = (erT t i).1.length - 1 := by
              rw [eb, Int.toNat_natCast, erT_to t (i - 1) i (by omega)]; exact et2.2
            rw [g1, g2] at eT
            have hlq := hlen (q + 1)
            have ew1 : IntKind.i64.wrap (((erT t (q + 1)).1.length : Int) - 1) = ((erT t (q + 1)).1.length : Int) - 1 := wrap_i64 (by omega)
            have ew2 : IntKind.i64.wrap (((erT t i).1.length : Int) - 1) = ((erT t i).1.length : Int) - 1 := wrap_i64 (by omega)
            simp [k0, k2] at eT
            simp [go_sem, nodCells_at, nodRow, h6]
            refine ⟨hi, vcall_pure (c_l3Kids (nodAt t i).kind) ?_ ?_⟩
            · simp [go_sem]
            · simp [go_sem, k2]
              refine vcall_share [0] e1 (by simp) ?_ ?_ trivial ?_
              · simp [go_sem, ea]
                exact clt
              · simp [go_sem, nodRow]
                exact fun i _ => cellsRn_lits (nodLit _ i)
              · rintro av mem maps ⟨rfl, rfl, rfl⟩
                simp [go_sem, nodRow, ew1]
                refine ⟨by omega, vcall_pure (c_l3Kids (nodAt t i).kind) ?_ ?_⟩
                · simp [go_sem]
                · simp [go_sem, k2]
                  refine vcall_share [3] e2 (by simp) ?_ ?_ trivial ?_
                  · simp [go_sem, eb]
                    exact clt
                  · simp [go_sem, nodRow]
                    exact fun i _ => cellsRn_lits (nodLit _ i)
                  · rintro av mem maps ⟨rfl, rfl, rfl⟩
                    simp [go_sem, nodRow, ew2]
                    refine ⟨by omega, by omega, by omega, ?_⟩
                    refine ⟨rfl, [6], [none, nodRow (erT t (i + 1)).1], by simp, by simp [go_sem], by simp [go_sem], ?_, by simp [go_sem], ?_⟩
                    · simp [go_sem, nodRow]
                      exact outAt_app eT (fun j hj => nod_app (erT t i).1 ⟨(nodAt t i).text, (nodAt t i).kind, ((erT t (q + 1)).1.length : Int) - 1, ((erT t i).1.length : Int) - 1⟩ j hj)
                    · simp [go_sem]
                      rfl
theorem c_l3Erased (t : List PNode) (ht : t.length ≤ 1048576) (hin : ∀ i, i < t.length → 0 ≤ fromZ t i) : ∀ (i : Nat), i < t.length → VProc Tryd.prog 26 [.sl 4 t.length (nodCells t), .lit (.int .i64 i), .own 0] [nodRow (erT t (fromZ t i).toNat).1] [] (fun av mem maps => av = .own 1 ∧ mem = [none, nodRow (erT t (i + 1)).1] ∧ maps = []) := by
  intro i
  induction i using Nat.strongRecOn with
  | ind i ih => exact fun hi => c_l3Erased_step t ht hin i hi fun j hj => ih j hj (by omega)
end Go.Proofs.YtbjkgfooangjhaaDoor.V
/- Contracts: Erase, by the reference and by the program. -/
namespace Go.Proofs.YtbjkgfooangjhaaDoor.V
open Go.RowKit
set_option linter.unusedVariables false
set_option linter.unusedSimpArgs false
set_option linter.constructorNameAsVariable false
/-- a nil slice in the first of several results, a struct of it alone: an own row of none -/
theorem VFun.adoptA {P : Program} {f : FuncId} {args : List AV} {R R' : AV → List Ob → Prop} (h : VFun P f args R) (ty sz : Nat) (hsz : 0 < sz) (g : Nat → List AV)
    (hr : ∀ av obs, R av obs → R' av obs ∨ ∃ xs : List Value, av = .tup (.agg [.lit (.slice none 0 0)] :: xs.map .lit) ∧ obs = [] ∧ R' (.tup (.agg [.own 0] :: xs.map .lit)) [⟨ty, sz, 0, g⟩]) : VFun P f args R' := by
  refine ⟨h.1, fun w vs hl hv => (h.2 w vs hl hv).mono fun e w' ⟨v, e1, gr, hd, av, obs, r, fl, hlit, hm, hrep⟩ => ?_⟩
  rcases hr av obs r with r' | ⟨xs, rfl, rfl, r'⟩
  · exact ⟨v, e1, gr, hd, av, obs, r', fl, hlit, hm, hrep⟩
  · refine ⟨v, e1, gr, fun _ => .slice none 0 0, _, _, r', ?_, fun ob ho i hi => ?_, ⟨fun k ob hk b hb => ?_, fun k ob hk => ?_, fun k hk => ⟨none, 0, 0, rfl⟩, fun k k' o o' hk hk' hne => .inl rfl⟩, ?_⟩
    · simp [flatV, flat2, flat1]
    · simp only [List.mem_singleton] at ho
      subst ho
      simp at hi
    · simp [Value.ownBlock] at hb
    · cases k with
      | zero =>
        simp only [List.map_cons, List.map_nil, List.getElem?_cons_zero, Option.some.injEq] at hk
        subst hk
        exact ⟨hsz, [], ⟨by simp, .inl ⟨rfl, rfl⟩⟩, fun i hi => by simp at hi⟩
      | succ k => simp at hk
    · cases hrep with
      | tup _ us hl2 hr2 =>
        match us, hl2 with
        | u1 :: us, hl2 =>
          have q1 := hr2 0 _ u1 rfl rfl
          cases q1 with
          | agg _ ws hl3 hr3 =>
            match ws, hl3 with
            | [x], _ =>
              have q2 := hr3 0 _ x rfl rfl
              cases q2
              refine .tup _ (.agg #[.slice none 0 0] :: us) (by simpa using hl2) fun j a u ha hu => ?_
              cases j with
              | zero =>
                simp only [List.getElem?_cons_zero, Option.some.injEq] at ha hu
                subst ha; subst hu
                refine .agg _ [.slice none 0 0] rfl fun j a u ha hu => ?_
                cases j with
                | zero =>
                  simp only [List.getElem?_cons_zero, Option.some.injEq] at ha hu
                  subst ha; subst hu
                  exact .own (hd := fun _ => .slice none 0 0) 0 (by simp)
                | succ j => simp at ha
              | succ j =>
                simp only [List.getElem?_cons_succ] at ha hu
                have := hr2 (j + 1) a u (by simpa using ha) (by simpa using hu)
                rw [List.getElem?_map, Option.map_eq_some_iff] at ha
                obtain ⟨y, hy, rfl⟩ := ha
                cases this
                exact .lit _
def erased (t : List PNode) : List PNode := if inOrd t then (erT t t.length).1 else []
theorem inOrd_all {t : List PNode} (h : inOrd t = true) : ∀ i, i < t.length → 0 ≤ fromZ t i := fun i hi => by
  simp only [inOrd, Bool.and_eq_true, decide_eq_true_eq] at h
  obtain ⟨⟨h1, h2⟩, h3⟩ := h
  have e1 : (t.length : Int) - 1 = ((t.length - 1 : Nat) : Int) := by omega
  rw [e1] at h2
  exact fromZ_all t (t.length - 1) i (by omega) (by omega) (by omega)
theorem inOrd_root {t : List PNode} (h : inOrd t = true) : 1 ≤ t.length ∧ t.length ≤ 20000 ∧ fromZ t ((t.length - 1 : Nat) : Int) = 0 := by
  simp only [inOrd, Bool.and_eq_true, decide_eq_true_eq] at h
  obtain ⟨⟨h1, h2⟩, h3⟩ := h
  have e1 : (t.length : Int) - 1 = ((t.length - 1 : Nat) : Int) := by omega
  rw [e1] at h2
  exact ⟨h1.1, h1.2, h2⟩
def erR (t : List PNode) (av : AV) (obs : List Ob) : Prop := (inOrd t = true ∧ av = .tup [.agg [.own 0], .lit (.bool true)] ∧ obs = [⟨56, 4, (erased t).length, nodCells (erased t)⟩]) ∨ (inOrd t = false ∧ av = .tup [.agg [.lit (.slice none 0 0)], .lit (.bool false)] ∧ obs = [])
theorem erR_own {t : List PNode} {av : AV} {obs : List Ob} (h : erR t av obs) : (av = .tup [.agg [.own 0], .lit (.bool (inOrd t))] ∧ obs = [⟨56, 4, (erased t).length, nodCells (erased t)⟩]) ∨ ∃ xs : List Value, av = .tup (.agg [.lit (.slice none 0 0)] :: xs.map .lit) ∧ obs = [] ∧
    (AV.tup (.agg [.own 0] :: xs.map .lit) = .tup [.agg [.own 0], .lit (.bool (inOrd t))] ∧ [(⟨56, 4, 0, nodCells []⟩ : Ob)] = [⟨56, 4, (erased t).length, nodCells (erased t)⟩]) := by
  rcases h with ⟨h1, rfl, rfl⟩ | ⟨h1, rfl, rfl⟩
  · exact .inl ⟨by rw [h1], rfl⟩
  · refine .inr ⟨[.bool false], rfl, rfl, ?_⟩
    have e : erased t = [] := by simp [erased, h1]
    rw [h1, e]
    exact ⟨rfl, rfl⟩
theorem c_specErase1 (t : List PNode) (ht : t.length ≤ 1048576) (hwt : nodsWf t) : VFun Tryd.prog 8 [.agg [.sl 4 t.length (nodCells t)]] (erR t) := by
  have clt : ∀ (i : Nat) (c : AV), i < t.length → c ∈ nodCells t i → Closed c := fun i c _ h => nodClosed t i c h
  refine vfun_start Tryd.func8 (by kernel_rfl) rfl (by simp [Tryd.ntmps8]) ?_
  simp only [Tryd.ntmps8, Tryd.results8]
  simp [go_sem]
  refine vcall_pure (c_l3InOrder t (by omega) hwt) ?_ ?_
  · simp [go_sem]
    exact argSl_refl (by omega) clt
  · cases h1 : inOrd t with
    | false => simp [go_sem, erR, h1]
    | true =>
      obtain ⟨g1, g2, g3⟩ := inOrd_root h1
      have e1 : IntKind.i64.wrap ((t.length : Int) - 1) = ((t.length - 1 : Nat) : Int) := by rw [wrap_i64 (by omega)]; omega
      have c1 := c_l3Erased t ht (inOrd_all h1) (t.length - 1) (by omega)
      rw [g3, show t.length - 1 + 1 = t.length by omega] at c1
      simp [go_sem, e1]
      refine ⟨by omega, ?_⟩
      refine vcall_share [2] c1 (by simp) ?_ ?_ trivial ?_
      · simp [go_sem]
        exact clt
      · simp [go_sem, nodRow, erT]
      · rintro av mem maps ⟨rfl, rfl, rfl⟩
        simp [go_sem, nodRow]
        refine ⟨_, obsSame_one.mpr ⟨⟨56, 4, (erT t t.length).1.length, nodCells (erT t t.length).1⟩, ⟨rfl, rfl, rfl, fun j hj => ⟨rfl, nodLit _ j⟩⟩, rfl⟩, ?_⟩
        exact .inl ⟨h1, rfl, by simp [erased, h1]⟩
theorem c_specErase (t : List PNode) (ht : t.length ≤ 1048576) (hwt : nodsWf t) : VFun Tryd.prog 8 [.agg [.sl 4 t.length (nodCells t)]] (fun av obs => av = .tup [.agg [.own 0], .lit (.bool (inOrd t))] ∧ obs = [⟨56, 4, (erased t).length, nodCells (erased t)⟩]) :=
  (c_specErase1 t ht hwt).adoptA 56 4 (by omega) (nodCells []) fun av obs h => erR_own h
/-- what is not used is 0 in a tree in order -/
theorem inOrd_zero {t : List PNode} {i : Nat} (h0 : 0 ≤ fromZ t i) : (kidsN (nodAt t i).kind = 0 → (nodAt t i).a = 0 ∧ (nodAt t i).b = 0) ∧ (kidsN (nodAt t i).kind = 1 → (nodAt t i).b = 0) := by
  rw [fromZ_eq] at h0
  refine ⟨fun k => ?_, fun k => ?_⟩
  · rw [if_pos k] at h0
    split at h0
    · omega
    · omega
  · rw [if_neg (by omega), if_pos k] at h0
    split at h0
    · omega
    · omega
theorem toN_grp {t : List PNode} {i : Nat} (h : (nodAt t i).kind = 6) (ha : (nodAt t i).a.toNat < i) : toN t i = toN t (nodAt t i).a.toNat := by
  have hl := erT_to_len t i
  show (erT t (i + 1)).2.getD i 0 = _
  simp only [erT, h, if_true]
  rw [getD_last hl, erT_to t _ i ha]
theorem toN_not {t : List PNode} {i : Nat} (h : ¬ (nodAt t i).kind = 6) : toN t i = (erT t i).1.length := by
  have hl := erT_to_len t i
  show (erT t (i + 1)).2.getD i 0 = _
  simp only [erT, if_neg h]
  rw [getD_last hl]
def toFill (t : List PNode) (i j : Nat) : List AV := [.lit (.int .i64 (if j < i then toN t j else 0))]
theorem toFill_at (t : List PNode) (i j : Nat) : toFill t i j = [.lit (.int .i64 (if j < i then toN t j else 0))] := rfl
set_option maxRecDepth 100000 in
theorem c_Erase1 (t : List PNode) (ht : t.length ≤ 1048576) (hwt : nodsWf t) : VFun Tryd.prog 10 [.agg [.sl 4 t.length (nodCells t)]] (erR t) := by
  have clt : ∀ (i : Nat) (c : AV), i < t.length → c ∈ nodCells t i → Closed c := fun i c _ h => nodClosed t i c h
  refine vfun_start Tryd.func10 (by kernel_rfl) rfl (by simp [Tryd.ntmps10]) ?_
  simp only [Tryd.ntmps10, Tryd.results10]
  simp [go_sem]
  refine vcall_pure (c_inOrder t (by omega) hwt) ?_ ?_
  · simp [go_sem]
    exact argSl_refl (by omega) clt
  · cases h1 : inOrd t with
    | false => simp [go_sem, erR, h1]
    | true =>
      have hkid := fun i hi => inOrd_kid h1 (i := i) hi
      have hall := inOrd_all h1
      simp [go_sem]
      refine ⟨by omega, by omega, by omega, by omega, ?_⟩
      refine vc_loopE (fun i : Nat => i ≤ t.length) (fun i => t.length - i)
        (fun i => .of [(2, .ptr 0 1 0 0), (4, .ptr 1 1 0 0), (5, .own 2), (18, .sl 4 t.length (nodCells t)), (19, .lit (.int .i64 t.length)), (20, .lit (.int .i64 i))] [some ⟨28, 1, 1, fun _ => [.lit (.slice none 0 0)]⟩, some ⟨28, 1, 1, fun _ => [.own 3]⟩, some ⟨3, 1, t.length, toFill t i⟩, nodRow (erT t i).1]) ⟨0, by omega, ?_⟩ (fun i hi => ?_)
      · refine (Ent.adopt (j := 2) (c := 0) rfl rfl rfl 56 4 (by omega) (nodCells [])).trans ?_
        refine ent_ks [1, 2, 3, 4] (by simp) (by simp) (by simp) (by simp) (by simp [go_sem]) ?_ ?_
        · simp [go_sem]
          exact clt
        · simp [go_sem, nodRow, erT, toFill]
      · have fill : ∀ (h : i < t.length) (v : Int), v = toN t i → ∀ j, j < t.length → updF t.length (toFill t i) i 0 [AV.lit (.int .i64 v)] j = toFill t (i + 1) j := fun h v hv j hj => by
          rw [updF_at h hj]
          by_cases hji : j = i
          · subst hji
            simp [toFill, splice, hv]
          · rw [if_neg hji]
            simp only [toFill]
            by_cases h2 : j < i
            · rw [if_pos h2, if_pos (by omega)]
            · rw [if_neg h2, if_neg (by omega)]
        have tocl : ∀ (i j : Nat) (c : AV), c ∈ toFill t i j → Closed c := fun i j c hc => by
          simp only [toFill, List.mem_singleton] at hc
          subst hc; exact .lit _
        have hlen := erT_len t i
        by_cases h : i < t.length
        · obtain ⟨x1, x2, x3, x4⟩ := hkid i h
          obtain ⟨z0, z1⟩ := inOrd_zero (hall i h)
          by_cases h6 : (nodAt t i).kind = 6
          · have k1 : kidsN (nodAt t i).kind = 1 := by simp [kidsN, h6]
            have ha := x3 (by omega)
            simp [go_sem, nodCells_at, toFill_at, nodRow, h, h6]
            refine ⟨ha.1, by omega, by omega, i + 1, by omega, by omega, ?_⟩
            refine ent_ks [0, 1, 2, 3] (by simp) (by simp) (by simp) (by simp) (by simp [go_sem]) ?_ ?_
            · simp [go_sem]
              exact ⟨clt, wrap_succ (by omega)⟩
            · simp [go_sem]
              have eT : (erT t (i + 1)).1 = (erT t i).1 := by simp [erT, h6]
              rw [eT]
              exact ⟨.inl fun j hj => ⟨fill h _ (by rw [toN_grp h6 (by omega), if_pos (by omega)]) j hj, tocl _ _⟩, .inl ⟨rfl, fun j _ => ⟨rfl, nodClosed _ j⟩⟩⟩
          · have eT : (erT t (i + 1)).1 = (erT t i).1 ++ [⟨(nodAt t i).text, (nodAt t i).kind, if kidsN (nodAt t i).kind = 0 then 0 else (erT t i).2.getD (nodAt t i).a.toNat 0, if kidsN (nodAt t i).kind = 2 then (erT t i).2.getD (nodAt t i).b.toNat 0 else 0⟩] := by
              simp only [erT, if_neg h6]
            have eN := toN_not h6
            have hlT : (erT t i).1.length + 1 = (erT t (i + 1)).1.length := by rw [eT]; simp
            have c1 := c_kids (nodAt t i) x2
            simp only [PNode.cells] at c1
            have nods : ∀ (x y : Int) (f : Nat → List AV), (erT t (i + 1)).1 = (erT t i).1 ++ [⟨(nodAt t i).text, (nodAt t i).kind, x, y⟩] → (∀ j, j < (erT t i).1.length + 1 → f j = joinF (erT t i).1.length (nodCells (erT t i).1) (fun q => [PNode.cells ⟨(nodAt t i).text, (nodAt t i).kind, x, y⟩][q]?.getD []) j) →
                ∀ j, j < (erT t (i + 1)).1.length → f j = nodCells (erT t (i + 1)).1 j ∧ ∀ c, c ∈ nodCells (erT t (i + 1)).1 j → Closed c := fun x y f e hf j hj => by
              refine ⟨?_, nodClosed _ j⟩
              rw [hf j (by omega), e]
              exact nod_app _ _ j (by omega)
            rcases kidsN_cases (nodAt t i).kind with k | k | k
            · obtain ⟨y1, y2⟩ := z0 k
              rw [if_pos k, if_neg (by omega)] at eT
              simp [go_sem, nodCells_at, toFill_at, nodRow, h, h6]
              refine vcall_pure c1 ?_ ?_
              · simp [go_sem]
              · simp [go_sem, k]
                refine ⟨by omega, h, by omega, by omega, i + 1, by omega, by omega, ?_⟩
                refine ent_ks [0, 1, 2, 6] (by simp) (by simp) (by simp) (by simp) (by simp [go_sem]) ?_ ?_
                · simp [go_sem]
                  exact ⟨clt, wrap_succ (by omega)⟩
                · simp [go_sem]
                  exact ⟨.inl fun j hj => ⟨fill h _ eN.symm j hj, tocl _ _⟩, .inl ⟨hlT, nods 0 0 _ eT fun j _ => by simp [PNode.cells, y1, y2]⟩⟩
            · have y2 := z1 k
              have ha := x3 (by omega)
              rw [if_neg (by omega), if_neg (by omega), erT_to t _ i (by omega)] at eT
              simp [go_sem, nodCells_at, toFill_at, nodRow, h, h6]
              refine vcall_pure c1 ?_ ?_
              · simp [go_sem]
              · simp [go_sem, k, toFill_at]
                refine ⟨ha.1, by omega, by omega, by omega, h, by omega, by omega, i + 1, by omega, by omega, ?_⟩
                refine ent_ks [0, 1, 2, 6] (by simp) (by simp) (by simp) (by simp) (by simp [go_sem]) ?_ ?_
                · simp [go_sem]
                  exact ⟨clt, wrap_succ (by omega)⟩
                · simp [go_sem]
                  exact ⟨.inl fun j hj => ⟨fill h _ eN.symm j hj, tocl _ _⟩, .inl ⟨hlT, nods _ 0 _ eT fun j _ => by simp [PNode.cells, y2, show (nodAt t i).a.toNat < i by omega]⟩⟩
            · have ha := x3 (by omega)
              have hb := x4 k
              rw [if_neg (by omega), if_pos k, erT_to t _ i (by omega), erT_to t _ i (by omega)] at eT
              simp [go_sem, nodCells_at, toFill_at, nodRow, h, h6]
              refine vcall_pure c1 ?_ ?_
              · simp [go_sem]
              · simp [go_sem, k]
                refine vc_drawnE (⟨[(2, .ptr 0 1 0 0), (4, .ptr 1 1 0 0), (5, .own 2), (6, .lit (.int .i64 i)), (7, .ptr 4 4 0 0), (18, .sl 4 t.length (nodCells t)), (19, .lit (.int .i64 t.length)), (20, .lit (.int .i64 i))], [some ⟨28, 1, 1, fun _ => [.lit (.slice none 0 0)]⟩, some ⟨28, 1, 1, fun _ => [.own 3]⟩, some ⟨3, 1, t.length, toFill t i⟩, nodRow (erT t i).1, some ⟨56, 4, 1, fun _ => PNode.cells ⟨(nodAt t i).text, (nodAt t i).kind, toN t (nodAt t i).a.toNat, toN t (nodAt t i).b.toNat⟩⟩], [], 0⟩) [11,13] (.q 0 <| .q 1 <| .q 2 <| .q 3 <| .q 4 <| .q 6 <| .q 7 <| .q 10 <| .or 5 (.or 8 (.or 9 (.or 11 (.q 12 <| .or 13 (.done) (.nil)) (.nil)) (.or 11 (.q 9 <| .q 12 <| .or 13 (.done) (.nil)) (.nil))) (.or 11 (.q 8 <| .q 9 <| .q 12 <| .or 13 (.done) (.nil)) (.nil))) (.or 11 (.q 5 <| .q 8 <| .q 9 <| .q 12 <| .or 13 (.done) (.nil)) (.nil))) (by kernel_rfl) ?_ ?_
                · simp [go_sem, toFill_at]
                  have ia : (nodAt t i).a.toNat < i := by omega
                  have ib : (nodAt t i).b.toNat < i := by omega
                  have q1 : 0 ≤ (nodAt t i).a ∧ (nodAt t i).a < t.length ∧ (nodAt t i).a.toNat < t.length := by omega
                  have q2 : 0 ≤ (nodAt t i).b ∧ (nodAt t i).b < t.length ∧ (nodAt t i).b.toNat < t.length := by omega
                  simp only [ia, ib, q1, q2, if_true, true_and, and_self]
                  repeat' apply And.intro
                  all_goals
                    refine ent_ks [0, 1, 2, 3, 4] (by simp) (by simp) (by simp) (by simp) (by simp [go_sem]) ?_ ?_
                    · simp [go_sem]
                      exact clt
                    · simp [go_sem, PNode.cells, nodRow]
                      exact ⟨.inl fun j _ => tocl _ j, .inl fun j _ => nodClosed _ j⟩
                · simp [go_sem, PNode.cells, nodRow]
                  refine ⟨by omega, h, by omega, by omega, i + 1, by omega, by omega, ?_⟩
                  refine ent_ks [0, 1, 2, 6] (by simp) (by simp) (by simp) (by simp) (by simp [go_sem]) ?_ ?_
                  · simp [go_sem]
                    exact ⟨clt, wrap_succ (by omega)⟩
                  · simp [go_sem]
                    exact ⟨.inl fun j hj => ⟨fill h _ eN.symm j hj, tocl _ _⟩, .inl ⟨hlT, nods _ _ _ eT fun j _ => by simp [PNode.cells]⟩⟩
        · have hl1 : i = t.length := by omega
          subst hl1
          simp [go_sem, nodCells_at, toFill_at, nodRow]
          refine ⟨_, obsSame_one.mpr ⟨⟨56, 4, (erT t t.length).1.length, nodCells (erT t t.length).1⟩, ⟨rfl, rfl, rfl, fun j hj => ⟨rfl, nodLit _ j⟩⟩, rfl⟩, ?_⟩
          exact .inl ⟨h1, rfl, by simp [erased, h1]⟩
theorem c_Erase (t : List PNode) (ht : t.length ≤ 1048576) (hwt : nodsWf t) : VFun Tryd.prog 10 [.agg [.sl 4 t.length (nodCells t)]] (fun av obs => av = .tup [.agg [.own 0], .lit (.bool (inOrd t))] ∧ obs = [⟨56, 4, (erased t).length, nodCells (erased t)⟩]) :=
  (c_Erase1 t ht hwt).adoptA 56 4 (by omega) (nodCells []) fun av obs h => erR_own h
theorem erased_len (t : List PNode) : (erased t).length ≤ t.length := by
  unfold erased
  split
  · exact erT_len t _
  · simp
end Go.Proofs.YtbjkgfooangjhaaDoor.V
/- Contracts: the law of Erase. -/
namespace Go.Proofs.YtbjkgfooangjhaaDoor.V
open Go.RowKit
set_option linter.unusedVariables false
set_option linter.unusedSimpArgs false
set_option linter.constructorNameAsVariable false
set_option maxRecDepth 100000 in
theorem c_FnExactErase (t : List PNode) (htl : t.length ≤ maxLen) (hwt : nodsWf t) : VFun Tryd.prog 3 [.agg [.sl 4 t.length (nodCells t)]] (fun av _ => av = .lit (.bool true)) := by
  have clt : ∀ (i : Nat) (c : AV), i < t.length → c ∈ nodCells t i → Closed c := fun i c _ h => nodClosed t i c h
  have cle : ∀ (i : Nat) (c : AV), i < (erased t).length → c ∈ nodCells (erased t) i → Closed c := fun i c _ h => nodClosed _ i c h
  have hle := erased_len t
  refine vfun_start Tryd.func3 (by kernel_rfl) rfl (by simp [Tryd.ntmps3]) ?_
  simp only [Tryd.ntmps3, Tryd.results3]
  simp [go_sem]
  refine vcall_use (c_szTree t 1048576 htl hwt (by decide) (by decide)) ?_ ?_
  · simp [go_sem]
    exact argSl_refl (by omega) clt
  · rintro av obs ⟨rfl, rfl | ⟨h2, rfl⟩⟩
    · simp [go_sem]
    · simp [go_sem]
      refine fun h3 => ?_
      have hst : t.length ≤ 1048576 := by omega
      refine vcall_use (c_toTree t hst) ?_ ?_
      · simp [go_sem]
        exact argSl_refl (by omega) clt
      · rintro av obs ⟨rfl, rfl⟩
        simp [go_sem]
        refine vcall_use (c_specErase t hst hwt) ?_ ?_
        · simp [go_sem]
          exact argSl_own (k := 1) rfl (by omega) clt
        · rintro av obs ⟨rfl, rfl⟩
          simp [go_sem]
          refine vcall_use (c_toTree t hst) ?_ ?_
          · simp [go_sem]
            exact argSl_refl (by omega) clt
          · rintro av obs ⟨rfl, rfl⟩
            simp [go_sem]
            refine vcall_use (c_Erase t hst hwt) ?_ ?_
            · simp [go_sem]
              exact argSl_own (k := 4) rfl (by omega) clt
            · rintro av obs ⟨rfl, rfl⟩
              simp [go_sem]
              refine vcall_pure (c_eqTree (erased t) (erased t) (by omega) (by omega)) ?_ ?_
              · simp [go_sem]
                exact ⟨argSl_own (k := 6) rfl (by omega) cle, argSl_own (k := 2) rfl (by omega) cle⟩
              · simp [go_sem, nodsEq_refl]
                refine vc_drawn [] (.q 0 <| .q 1 <| .or 2 (.or 3 (.q 4 <| .done) (.nil)) (.nil)) (by kernel_rfl) ?_
                simp [go_sem]
                refine vcallV_use (c_toTree t hst) ?_ ?_
                · simp [go_sem]
                  exact argSl_refl (by omega) clt
                · rintro av obs ⟨rfl, rfl⟩
                  simp [go_sem]
                  refine vcallV_pure (c_eqTree t t (by omega) (by omega)) ?_ ?_
                  · simp [go_sem]
                    exact ⟨argSl_own (k := 4) rfl (by omega) clt, argSl_own (k := 8) rfl (by omega) clt⟩
                  · simp [go_sem, nodsEq_refl]
                    refine vcall_share [4] (c_markTree t 1 hst (by omega)) (by simp) ?_ ?_ trivial ?_
                    · simp [go_sem]
                    · simp [go_sem]
                      exact fun i _ => cellsRn_lits (nodLit _ i)
                    · rintro av mem maps ⟨rfl, rfl, rfl⟩
                      simp [go_sem]
                      refine ⟨fun _ => ?_, by omega⟩
                      refine vcall_pure (c_eqTree (erased t) (erased t) (by omega) (by omega)) ?_ ?_
                      · simp [go_sem]
                        exact ⟨argSl_own (k := 6) rfl (by omega) cle, argSl_own (k := 2) rfl (by omega) cle⟩
                      · simp [go_sem, nodsEq_refl]
                        refine vcall_share [6] (c_markTree (erased t) 1 (by omega) (by omega)) (by simp) ?_ ?_ trivial ?_
                        · simp [go_sem]
                        · simp [go_sem]
                          exact fun i _ => cellsRn_lits (nodLit _ i)
                        · rintro av mem maps ⟨rfl, rfl, rfl⟩
                          simp [go_sem]
                          refine vcall_pure (c_heldTree (erased t).length 1 (by omega) (by omega)) ?_ ?_
                          · simp [go_sem]
                            exact argSl_own (k := 6) rfl (by omega) fun i c _ hc => markNClosed 1 i c hc
                          · simp [go_sem]
                            refine ⟨by omega, fun _ => vcall_use (c_toTree t hst) ?_ ?_⟩
                            · simp [go_sem]
                              exact argSl_refl (by omega) clt
                            · rintro av obs ⟨rfl, rfl⟩
                              simp [go_sem]
                              refine vcall_use (c_Erase t hst hwt) ?_ ?_
                              · simp [go_sem]
                                exact argSl_own (k := 9) rfl (by omega) clt
                              · rintro av obs ⟨rfl, rfl⟩
                                simp [go_sem]
                                refine vcall_pure (c_eqTree (erased t) (erased t) (by omega) (by omega)) ?_ ?_
                                · simp [go_sem]
                                  exact ⟨argSl_own (k := 10) rfl (by omega) cle, argSl_own (k := 2) rfl (by omega) cle⟩
                                · simp [go_sem, nodsEq_refl]
                                  refine vcall_pure (c_heldTree (erased t).length 1 (by omega) (by omega)) ?_ ?_
                                  · simp [go_sem]
                                    exact argSl_own (k := 6) rfl (by omega) fun i c _ hc => markNClosed 1 i c hc
                                  · simp [go_sem]
                                    omega
end Go.Proofs.YtbjkgfooangjhaaDoor.V
/- Contracts: package strings' Builder: String. -/
namespace Go.Proofs.YtbjkgfooangjhaaDoor.V
open Go.RowKit
set_option linter.unusedVariables false
set_option linter.unusedSimpArgs false
set_option linter.constructorNameAsVariable false
theorem grown_drew (w : World) (row : Option Nat) : w.grownBy w.drew row := ⟨rfl, rfl, rfl, Nat.le_refl _, fun _ _ _ => rfl⟩
theorem grown_freeze (w : World) (p : Addr) (n : Nat) : w.grownBy (w.freeze p n) (some p.block) := by
  unfold World.freeze
  split
  · exact ⟨rfl, rfl, rfl, Nat.le_refl _, fun _ _ _ => rfl⟩
  · exact ⟨rfl, rfl, rfl, by simp, fun k _ hk => by
      simp only [Array.getElem?_modify]
      rw [if_neg (fun e => hk (by rw [e]))]⟩
theorem cellsByte : Tryd.prog.cellsOf 5 = 1 := by kernel_rfl
set_option maxHeartbeats 2000000 in
set_option maxRecDepth 100000 in
theorem str_row (b g cap : Nat) (cur : Array Value) (l : List UInt8) (w : World) (h0 : l ≠ []) (c1 : w.drew.cell? ⟨b, 1, none⟩ = some (.slice (some ⟨g, 0, none⟩) l.length cap)) (hg : w.drew.heap[g]? = some (.cells cur 5 (0, 0)))
    (hnc : l.length ≤ cap) (hcm : cap ≤ maxLen) (hcs : cur.size = cap) (hcell : ∀ j x, l[j]? = some x → w.drew.cell? ((⟨g, 0, none⟩ : Addr).add j) = some (.int .u8 x.toNat)) :
    Calls Tryd.prog 49 #[.pointer (some ⟨b, 0, none⟩)] w fun e w' => e = .returned (.string ⟨l.toArray⟩) ∧ w.grownBy w' (some g) := by
  have hl0 : l.length ≠ 0 := by simpa using h0
  have hSD : (Builtin.unsafeSliceData_ #[85] 132 #[.slice (some ⟨g, 0, none⟩) l.length cap]).run Tryd.prog w.drew = .ok (.pointer (some ⟨g, 0, none⟩)) w.drew :=
    Lib.run_unsafeSliceData_row _ _ _ _ _ _ (by omega)
  have hUS : (Builtin.unsafeString_ #[132, 3] 9 #[.pointer (some ⟨g, 0, none⟩), .int .i64 l.length]).run Tryd.prog w.drew = .ok (.string ⟨l.toArray⟩) (w.drew.freeze ⟨g, 0, none⟩ l.length) :=
    Lib.run_unsafeString_row w.drew 132 3 9 5 Tryd.underlying132 cellsByte g cur.size (by simp [World.shape?, hg]) l h0 (by omega) (by unfold maxLen at hcm; omega) hcell
  have hgr : w.grownBy (w.drew.freeze ⟨g, 0, none⟩ l.length) (some g) := by
    have h1 := grown_freeze w.drew ⟨g, 0, none⟩ l.length
    exact ⟨h1.os, h1.tape, h1.output, h1.size, h1.block⟩
  clear hcell hnc hcm hcs hg
  go_enter Tryd.func49, Tryd.ntmps49
  go_wp2
  go_region
  all_goals (go_wp2; go_ret; exact ⟨rfl, hgr⟩)
theorem str_none (W : World) (q : Option Addr) : (Builtin.unsafeString_ #[132, 3] 9 #[.pointer q, .int .i64 0]).run Tryd.prog W = .ok (.string .empty) W := Lib.run_unsafeString_none W _ _ _ q
set_option maxHeartbeats 2000000 in
set_option maxRecDepth 100000 in
theorem str_nil (b : Nat) (w : World) (row : Option Nat) (c1 : w.drew.cell? ⟨b, 1, none⟩ = some (.slice none 0 0)) :
    Calls Tryd.prog 49 #[.pointer (some ⟨b, 0, none⟩)] w fun e w' => e = .returned (.string ⟨#[]⟩) ∧ w.grownBy w' row := by
  have hUS := str_none
  have hSD : (Builtin.unsafeSliceData_ #[85] 132 #[.slice none 0 0]).run Tryd.prog w.drew = .ok (.pointer none) w.drew := rfl
  have hgr := grown_drew w row
  go_enter Tryd.func49, Tryd.ntmps49
  go_wp2
  go_region
  all_goals (go_wp2; go_ret; exact ⟨rfl, hgr⟩)
set_option maxHeartbeats 2000000 in
set_option maxRecDepth 100000 in
theorem str_noroom (b g : Nat) (w : World) (row : Option Nat) (cur : Array Value) (hlt : b < w.heap.size) (c1 : w.drew.cell? ⟨b, 1, none⟩ = some (.slice (some ⟨g, 0, none⟩) 0 0)) (hg : w.drew.heap[g]? = some (.cells cur 5 (0, 0))) :
    Calls Tryd.prog 49 #[.pointer (some ⟨b, 0, none⟩)] w fun e w' => e = .returned (.string ⟨#[]⟩) ∧ w.grownBy w' row := by
  have hUS := str_none
  have hSD : (Builtin.unsafeSliceData_ #[85] 132 #[.slice (some ⟨g, 0, none⟩) 0 0]).run Tryd.prog w.drew = .ok (.pointer (some ⟨w.drew.heap.size, 0, none⟩)) (w.drew.alloc (.view ⟨g, 0, none⟩ 5)) :=
    Lib.run_unsafeSliceData_zero w.drew _ _ 5 Tryd.underlying132 ⟨g, 0, none⟩ 0 (5, cur.size) (by simp [World.shape?, hg])
  have c2 : (w.drew.alloc (.view ⟨g, 0, none⟩ 5)).cell? ⟨b, 1, none⟩ = some (.slice (some ⟨g, 0, none⟩) 0 0) := by
    have e : (w.drew.alloc (.view ⟨g, 0, none⟩ 5)).heap[b]? = w.drew.heap[b]? := Lib.alloc_old w.drew _ b hlt
    unfold World.cell? at c1 ⊢
    simp only at c1 ⊢
    rw [e]; exact c1
  have c3 : (w.alloc (.view ⟨g, 0, none⟩ 5)).drew.cell? ⟨b, 1, none⟩ = some (.slice (some ⟨g, 0, none⟩) 0 0) := c2
  have c0 : w.cell? ⟨b, 1, none⟩ = some (.slice (some ⟨g, 0, none⟩) 0 0) := c1
  have hgr : w.grownBy (w.drew.alloc (.view ⟨g, 0, none⟩ 5)) row := by
    have h1 := World.grownBy_alloc w.drew (.view ⟨g, 0, none⟩ 5) row
    exact ⟨h1.os, h1.tape, h1.output, h1.size, h1.block⟩
  clear hg hlt
  go_enter Tryd.func49, Tryd.ntmps49
  go_wp2
  go_region
  all_goals (go_wp2; go_ret; exact ⟨rfl, hgr⟩)
set_option maxHeartbeats 2000000 in
set_option maxRecDepth 100000 in
theorem str_room (b g cap : Nat) (w : World) (row : Option Nat) (hc0 : cap ≠ 0) (c1 : w.drew.cell? ⟨b, 1, none⟩ = some (.slice (some ⟨g, 0, none⟩) 0 cap)) :
    Calls Tryd.prog 49 #[.pointer (some ⟨b, 0, none⟩)] w fun e w' => e = .returned (.string ⟨#[]⟩) ∧ w.grownBy w' row := by
  have hUS := str_none
  have hSD : (Builtin.unsafeSliceData_ #[85] 132 #[.slice (some ⟨g, 0, none⟩) 0 cap]).run Tryd.prog w.drew = .ok (.pointer (some ⟨g, 0, none⟩)) w.drew :=
    Lib.run_unsafeSliceData_row _ _ _ _ _ _ hc0
  have hgr := grown_drew w row
  clear hc0
  go_enter Tryd.func49, Tryd.ntmps49
  go_wp2
  go_region
  all_goals (go_wp2; go_ret; exact ⟨rfl, hgr⟩)
/-- String, of a builder whose bytes are those of a text: the text; its bytes are given up -/
theorem c_String (p : AV) (z : ByteArray) : VProc Tryd.prog 49 [.ptr 0 2 0 0] [some ⟨90, 2, 1, fun _ => [p, .own 1]⟩, some ⟨5, 1, z.size, byteCells z⟩] [] (fun av mem maps => av = .lit (.string z) ∧ mem = [none, none] ∧ maps = []) := by
  refine ⟨⟨_, Tryd.func49, rfl, rfl⟩, fun w vs hd0 hl hv hm hmp => ?_⟩
  match vs, hl with
  | [v], _ =>
    have h0 := hv 0 _ v rfl rfl
    cases h0 with
    | ptr _ _ _ _ b n' c' hk hb =>
      obtain ⟨_, vals0, hown0, hr0⟩ := hm.obs 0 _ rfl
      obtain ⟨_, vals1, hown1, hr1⟩ := hm.obs 1 _ rfl
      obtain ⟨u, hu1, hu2, hu3⟩ := (hr0 0 (by simp)).2 1 _ rfl
      cases hu3
      simp only [Nat.zero_mul, Nat.zero_add] at hu1
      have c1 : w.cell? ⟨b, 1, none⟩ = some (hd0 1) := by
        have := hown0.cells (g := b) (by rw [hb]; rfl) 1 _ hu1
        simpa [Addr.add] using this
      have hlt : b < w.heap.size := World.block_lt_of_cell? w ⟨b, 1, none⟩ c1
      have hbytes : ∀ i, i < z.size → vals1[i]? = some (.int .u8 (byteAt z i)) := by
        intro i hi
        obtain ⟨u, g1, g2, g3⟩ := (hr1 i hi).2 0 _ rfl
        cases g3
        simpa using g1
      have fin : ∀ w', w.grownBy w' (hd0 1).ownBlock → Bel (Sh w hd0 [some ⟨90, 2, 1, fun _ => [p, .own 1]⟩, some ⟨5, 1, z.size, byteCells z⟩] []) w w' ∧ ∃ hd av mem maps, (av = .lit (.string z) ∧ mem = [none, none] ∧ maps = []) ∧ PostOk [some ⟨90, 2, 1, fun _ => [p, .own 1]⟩, some ⟨5, 1, z.size, byteCells z⟩] [] av mem maps ∧ (∀ k, k < 2 → hd k = hd0 k) ∧ MemRel (Sh w hd0 [some ⟨90, 2, 1, fun _ => [p, .own 1]⟩, some ⟨5, 1, z.size, byteCells z⟩] []) w' hd mem ∧ MapRel Tryd.prog (Sh w hd0 [some ⟨90, 2, 1, fun _ => [p, .own 1]⟩, some ⟨5, 1, z.size, byteCells z⟩] []) w' maps ∧ Rep w' (okOf mem hd) hd mem.length av (.string z) := by
        intro w' hg
        have nn : ∀ (k : Nat) (ob : Ob), ([none, none] : List (Option Ob))[k]? = some (some ob) → False := fun k ob h => by
          match k, h with
          | 0, h => simp at h
          | 1, h => simp at h
          | k + 2, h => simp at h
        refine ⟨(Bel.refl _ w).grown hg fun k hk => .inr (.inl ⟨1, _, rfl, hk⟩), hd0, _, _, _, ⟨rfl, rfl, rfl⟩, ⟨by simp, rfl, fun k ob h => (nn k ob h).elim, fun b h => h⟩, fun _ _ => rfl, ⟨fun k ob h => (nn k ob h).elim, fun k ob h => (nn k ob h).elim, fun k hk => hm.hds k (by simpa using hk), fun k k' ob ob' h => (nn k ob h).elim⟩, fun b mp h => by simp [lkm] at h, .lit _⟩
      have done_ : ∀ (l : List UInt8), z = ⟨l.toArray⟩ → (Calls Tryd.prog 49 #[.pointer (some ⟨b, 0, none⟩)] w fun e w' => e = .returned (.string ⟨l.toArray⟩) ∧ w.grownBy w' (hd0 1).ownBlock) → Calls Tryd.prog 49 [Value.pointer (some ⟨b, 0 * 2 + 0, none⟩)].toArray w (fun e w' => ∃ v, e = .returned v ∧ Bel (Sh w hd0 [some ⟨90, 2, 1, fun _ => [p, .own 1]⟩, some ⟨5, 1, z.size, byteCells z⟩] []) w w' ∧ ∃ hd av mem maps, (av = .lit (.string z) ∧ mem = [none, none] ∧ maps = []) ∧ PostOk [some ⟨90, 2, 1, fun _ => [p, .own 1]⟩, some ⟨5, 1, z.size, byteCells z⟩] [] av mem maps ∧ (∀ k, k < 2 → hd k = hd0 k) ∧ MemRel (Sh w hd0 [some ⟨90, 2, 1, fun _ => [p, .own 1]⟩, some ⟨5, 1, z.size, byteCells z⟩] []) w' hd mem ∧ MapRel Tryd.prog (Sh w hd0 [some ⟨90, 2, 1, fun _ => [p, .own 1]⟩, some ⟨5, 1, z.size, byteCells z⟩] []) w' maps ∧ Rep w' (okOf mem hd) hd mem.length av v) := by
        intro l hz hc
        refine hc.mono ?_
        rintro e w' ⟨rfl, hg⟩
        rw [← hz]
        exact ⟨_, rfl, fin w' hg⟩
      rcases hown1.2 with ⟨hn, hz0⟩ | ⟨g, cap, cur, hg1, _, hg2, hnc, hcm, hcs, htake⟩
      · refine done_ [] ?_ (str_nil b w _ ?_)
        · obtain ⟨⟨l⟩⟩ := z
          match l, hz0 with
          | [], _ => rfl
        · rw [hn] at c1; exact c1
      · rw [hg1] at c1
        rw [hg1] at done_
        rcases Nat.eq_zero_or_pos z.size with h0 | h0
        · have hz : z = ⟨#[]⟩ := by
            obtain ⟨⟨l⟩⟩ := z
            match l, h0 with
            | [], _ => rfl
          simp only at c1
          rw [h0] at c1
          by_cases hc0 : cap = 0
          · subst hc0
            exact done_ [] hz (str_noroom b g w _ cur hlt c1 hg2)
          · exact done_ [] hz (str_room b g cap w _ hc0 c1)
        · have hls : z.data.toList.length = z.size := by simp
          refine done_ z.data.toList (by simp) ?_
          refine (str_row b g cap cur z.data.toList w (by intro e; rw [e] at hls; simp at hls; omega) ?_ hg2 (by rw [hls]; exact hnc) hcm (by simpa using hcs) fun j x hx => ?_).mono fun e w' h => h
          · rw [hls]; exact c1
          · have hj : j < z.size := by rw [← hls]; exact (List.getElem?_eq_some_iff.1 hx).1
            have h1 := hown1.cells (g := g) (by rw [hg1]; rfl) j _ (hbytes j hj)
            have e : byteAt z j = (x.toNat : Int) := by
              unfold byteAt
              rw [dif_pos hj]
              have : z[j] = x := by
                rw [List.getElem?_eq_getElem (by rw [hls]; exact hj)] at hx
                exact Option.some.inj hx
              rw [this]
            rw [e] at h1
            exact h1
end Go.Proofs.YtbjkgfooangjhaaDoor.V
/- Contracts: package strings' Builder: WriteString; rendering by the program. -/
namespace Go.Proofs.YtbjkgfooangjhaaDoor.V
open Go.RowKit
set_option linter.unusedVariables false
set_option linter.unusedSimpArgs false
set_option linter.constructorNameAsVariable false
def bp (u : Bool) : AV := if u then .ptr 0 2 0 0 else .lit (.pointer none)
theorem coBuilder : Tryd.prog.cellsOf 90 = 2 := by kernel_rfl
@[go_sem] theorem byteCells_ren {g : Nat → Nat} {z : ByteArray} {i : Nat} : (byteCells z i).map (ren1 g) = byteCells z i := map_lits rfl
theorem same_NoEscape : sameX Tryd.prog 84 := ⟨_, Tryd.func84, by kernel_rfl, by kernel_rfl, by kernel_rfl, by kernel_rfl⟩
theorem c_copyCheck (u : Bool) (z : ByteArray) : VProc Tryd.prog 76 [.ptr 0 2 0 0] [some ⟨90, 2, 1, fun _ => [bp u, .own 1]⟩, some ⟨5, 1, z.size, byteCells z⟩] [] (fun av mem maps => av = .tup [] ∧ mem = [some ⟨90, 2, 1, fun _ => [.ptr 0 2 0 0, .own 1]⟩, some ⟨5, 1, z.size, byteCells z⟩] ∧ maps = []) := by
  refine vproc_start Tryd.func76 (by kernel_rfl) rfl (by simp [Tryd.ntmps76]) ?_
  simp only [Tryd.ntmps76, Tryd.results76]
  simp [go_sem]
  have fin : ∀ t, vendP [] (fun av mem maps => av = .tup [] ∧ mem = [some ⟨90, 2, 1, fun _ => [.ptr 0 2 0 0, .own 1]⟩, some ⟨5, 1, z.size, byteCells z⟩] ∧ maps = []) ⟨t, [some ⟨90, 2, 1, fun _ => [.ptr 0 2 0 0, .own 1]⟩, some ⟨5, 1, z.size, byteCells z⟩], [], 2⟩ (.tup []) := by
    intro t
    refine ⟨rfl, [], [some ⟨90, 2, 1, fun _ => [.ptr 0 2 0 0, .own 1]⟩, some ⟨5, 1, z.size, byteCells z⟩], by simp, by simp, by simp [go_sem], ?_, by simp [go_sem], ?_⟩
    · simp [go_sem]
      exact ⟨⟨rfl, rfl, rfl, fun i hi => ⟨rfl, rfl, fun c hc q hq => by simp at hc; rcases hc with rfl | rfl <;> simp [owns1] at hq <;> simp [hq]⟩⟩, outAt_lits (fun i _ => rfl) (fun i _ => rfl)⟩
    · simp [go_sem]
  cases u with
  | true =>
    simp [go_sem, bp]
    exact fin _
  | false =>
    simp [go_sem, bp]
    refine ⟨⟨_, _, ⟨rfl, rfl⟩, by decide⟩, vcall_same same_NoEscape ?_⟩
    simp [go_sem, coBuilder]
    exact fin _
theorem c_WriteString (u : Bool) (z t : ByteArray) (h : z.size + t.size ≤ 140737488355328) : VProc Tryd.prog 48 [.ptr 0 2 0 0, .lit (.string t)] [some ⟨90, 2, 1, fun _ => [bp u, .own 1]⟩, some ⟨5, 1, z.size, byteCells z⟩] [] (fun av mem maps => av = .tup [.lit (.int .i64 t.size), .lit .nilIface] ∧ mem = [some ⟨90, 2, 1, fun _ => [.ptr 0 2 0 0, .own 2]⟩, none, some ⟨5, 1, z.size + t.size, byteCells (z ++ t)⟩] ∧ maps = []) := by
  refine vproc_start Tryd.func48 (by kernel_rfl) rfl (by simp [Tryd.ntmps48]) ?_
  simp only [Tryd.ntmps48, Tryd.results48]
  simp [go_sem]
  refine vcall_share [0, 1] (c_copyCheck u z) (by simp) ?_ ?_ trivial ?_
  · simp [go_sem]
  · simp [go_sem]
    refine ⟨?_, fun i _ => cellsRn_lits rfl⟩
    cases u
    · exact .closed _ (.lit _)
    · exact .ptr 0 2 0 0 (by omega)
  · rintro av mem maps ⟨rfl, rfl, rfl⟩
    simp [go_sem]
    refine ⟨h, rfl, [2], [some ⟨90, 2, 1, fun _ => [.ptr 0 2 0 0, .own 2]⟩, none, some ⟨5, 1, z.size + t.size, byteCells (z ++ t)⟩], by simp, by simp, by simp [go_sem], ?_, by simp [go_sem], ?_⟩
    · simp [go_sem]
      exact ⟨⟨rfl, rfl, rfl, fun i hi => ⟨rfl, rfl, fun c hc q hq => by simp at hc; rcases hc with rfl | rfl <;> simp [owns1] at hq <;> simp [hq]⟩⟩, outAt_lits (fun i hi => join_bytes z t i hi) (fun i _ => rfl)⟩
    · simp [go_sem]
end Go.Proofs.YtbjkgfooangjhaaDoor.V
/- Contracts: the law of Render. -/
namespace Go.Proofs.YtbjkgfooangjhaaDoor.V
open Go.RowKit
set_option linter.unusedVariables false
set_option linter.unusedSimpArgs false
set_option linter.constructorNameAsVariable false
end Go.Proofs.YtbjkgfooangjhaaDoor.V
