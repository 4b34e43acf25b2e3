import Derived.Test.YtjdmmhcogmepaaaGreatDoorMD
import Derived.Test.YtjdmmhcogmepaaaGreatDoorMC
import Derived.Recover
set_option linter.unusedVariables false
set_option linter.unusedSimpArgs false
set_option linter.constructorNameAsVariable false
namespace Go.Proofs.YtjdmmhcogmepaaaGreatDoor.V
open Go.RowKit
open Go.Proofs.YtjdmmhcogmepaaaGreatDoor.Ops (Tr)
theorem c_l4Grouped (l : List POp) (hl : l.length ≤ 9223372036854775807) (hw : opsWf l) (t : List PNode) (ht : t.length ≤ 1048576) (h : NodesOk l t) (hng : ∀ i, i < t.length → ¬ (nodAt t i).kind = 6) : ∀ (i : Nat), i < t.length → ∀ (m : Int) (out : List PNode), out.length + 2 * (i + 1 - (fromZ t i).toNat) ≤ 3000000 →
  VProc Tryz.prog 56 [.agg [.sl 4 l.length (opCells l)], .sl 4 t.length (nodCells t), .lit (.int .i64 i), .lit (.int .i64 m), .own 0] [nodRow out] [] (fun av mem maps => av = .own 1 ∧ mem = [none, nodRow (grpG l t i m out)] ∧ maps = []) := by
 intro i
 induction i using Nat.strongRecOn with
 | ind i ih => exact fun hi m out ho => c_l4Grouped_step l hl hw t ht h hng i hi m out ho fun j hj m out ho => ih j hj (by omega) m out ho
theorem InTab_bare {l : List POp} : ∀ {e : ET}, InTab l e → InTab l (bare e)
 | .leaf b, h => h
 | .grp e, h => InTab_bare (e := e) h
 | .pre o e, ⟨h1, h2, h3, h4⟩ => ⟨h1, h2, h3, InTab_bare h4⟩
 | .post o e, ⟨h1, h2, h3, h4⟩ => ⟨h1, h2, h3, InTab_bare h4⟩
 | .inf o x y, ⟨h1, h2, h3, h4, h5⟩ => ⟨h1, h2, h3, InTab_bare h4, InTab_bare h5⟩
theorem InTab_grpd {l : List POp} : ∀ {e : ET} (m : Int), InTab l e → InTab l (grpd e m)
 | .leaf b, m, h => by simp only [grpd]; split <;> exact h
 | .grp e, m, h => by have := InTab_grpd (e := e) 0 h; simp only [grpd]; split <;> exact this
 | .pre o e, m, ⟨h1, h2, h3, h4⟩ => by have := InTab_grpd (hole o false) h4; simp only [grpd]; split <;> exact ⟨h1, h2, h3, this⟩
 | .post o e, m, ⟨h1, h2, h3, h4⟩ => by have := InTab_grpd (hole o false) h4; simp only [grpd]; split <;> exact ⟨h1, h2, h3, this⟩
 | .inf o x y, m, ⟨h1, h2, h3, h4, h5⟩ => by have := InTab_grpd (hole o false) h4; have := InTab_grpd (hole o true) h5; simp only [grpd]; split <;> exact ⟨h1, h2, h3, by assumption, by assumption⟩
theorem erT_from (t : List PNode) : ∀ (i j : Nat), j < (erT t i).1.length → ∃ k, k < i ∧ (nodAt (erT t i).1 j).text = (nodAt t k).text ∧ (nodAt (erT t i).1 j).kind = (nodAt t k).kind ∧ ¬ (nodAt t k).kind = 6
 | 0, j, h => by simp [erT] at h
 | i + 1, j, h => by
  by_cases h6 : (nodAt t i).kind = 6
  ·have e : (erT t (i + 1)).1 = (erT t i).1 := by simp [erT, h6]
   rw [e] at h ⊢
   obtain ⟨k, h1, h2⟩ := erT_from t i j h
   exact ⟨k, by omega, h2⟩
  ·obtain ⟨x, y, e⟩ : ∃ x y, (erT t (i + 1)).1 = (erT t i).1 ++ [⟨(nodAt t i).text, (nodAt t i).kind, x, y⟩] := by
    simp only [erT, if_neg h6]
    exact ⟨_, _, rfl⟩
   rw [e] at h ⊢
   by_cases hj : j < (erT t i).1.length
   ·obtain ⟨k, h1, h2⟩ := erT_from t i j hj
    refine ⟨k, by omega, ?_⟩
    have : nodAt ((erT t i).1 ++ [⟨(nodAt t i).text, (nodAt t i).kind, x, y⟩]) j = nodAt (erT t i).1 j := by
     simp only [nodAt, List.getD_eq_getElem?_getD]
     rw [List.getElem?_append_left hj]
    rw [this]; exact h2
   ·have hj' : j = (erT t i).1.length := by simp at h; omega
    refine ⟨i, by omega, ?_⟩
    rw [nodAt_end _ _ hj']
    exact ⟨rfl, rfl, h6⟩
def rootE (l : List POp) (t : List PNode) : ET := treeOf l t (t.length - 1)
def groupE (l : List POp) (t : List PNode) : ET := grpd (bare (rootE l t)) 0
def groupOk (l : List POp) (t : List PNode) : Bool := wellF l t && decide (sizeE (groupE l t) ≤ 20000)
def groupZ (l : List POp) (t : List PNode) : List PNode := if groupOk l t then lay (groupE l t) [] else []
theorem wellF_ord {l : List POp} {t : List PNode} (h : wellF l t = true) : inOrd t = true ∧ tblOk l = 0 := by
 simp only [wellF, Bool.and_eq_true, decide_eq_true_eq] at h
 exact ⟨h.1.2, h.1.1⟩
theorem bare_facts {l : List POp} {t : List PNode} (h : wellF l t = true) : 1 ≤ t.length ∧ t.length ≤ 20000 ∧ InTab l (rootE l t) ∧ t = lay (rootE l t) [] ∧ erased t = lay (bare (rootE l t)) [] ∧ NodesOk l (erased t) ∧ (∀ i, i < (erased t).length → ¬ (nodAt (erased t) i).kind = 6) ∧
  1 ≤ (erased t).length ∧ fromZ (erased t) (((erased t).length - 1 : Nat) : Int) = 0 ∧ treeOf l (erased t) ((erased t).length - 1) = bare (rootE l t) := by
 obtain ⟨hin, h0⟩ := wellF_ord h
 obtain ⟨g1, g2, g3⟩ := inOrd_root hin
 have hok := nodesOk_of h
 obtain ⟨q1, q2, q3⟩ := tree_lay hok (t.length - 1) (by omega)
 rw [g3, show t.length - 1 + 1 = t.length by omega] at q1 q3
 rw [List.take_length] at q1
 have e3 : erased t = lay (bare (rootE l t)) [] := by
  unfold erased
  rw [if_pos hin, q3]; rfl
 have hl := lay_len (bare (rootE l t)) []
 have hp := sizeE_pos (bare (rootE l t))
 obtain ⟨f1, f2⟩ := lay_tree (l := l) (t := erased t) (bare (rootE l t)) [] (InTab_bare q2) (fun j hj => by rw [e3])
 rw [← e3] at f1 f2 hl
 have hlen : 1 ≤ (erased t).length := by simp at hl; omega
 have hfrom : ∀ j, j < (erased t).length → ∃ k, k < t.length ∧ (nodAt (erased t) j).text = (nodAt t k).text ∧ (nodAt (erased t) j).kind = (nodAt t k).kind ∧ ¬ (nodAt t k).kind = 6 := by
  unfold erased
  rw [if_pos hin]
  exact fun j hj => erT_from t t.length j hj
 refine ⟨g1, g2, q2, q1, e3, ⟨fun i hi => ?_, fun i hi => ?_, fun i hi e => ?_⟩, fun i hi => ?_, hlen, by simpa using f1, f2⟩
 ·exact fromZ_all (erased t) ((erased t).length - 1) i (by rw [f1]; simp) (by rw [f1]; simp) (by omega)
 ·obtain ⟨k, hk, e1, e2, _⟩ := hfrom i hi
  have := hok.txt k hk
  unfold txtOk at this ⊢
  rw [e1, e2]; exact this
 ·obtain ⟨k, hk, e1, e2, _⟩ := hfrom i hi
  have e' : isOpN (nodAt t k) = true := by unfold isOpN at e ⊢; rw [← e2]; exact e
  rw [e1, e2]
  exact hok.has k hk e'
 ·obtain ⟨k, hk, e1, e2, e4⟩ := hfrom i hi
  rw [e2]; exact e4
def grR (l : List POp) (t : List PNode) (av : AV) (obs : List Ob) : Prop := (groupOk l t = true ∧ av = .tup [.agg [.own 0], .lit (.bool true)] ∧ obs = [⟨77, 4, (groupZ l t).length, nodCells (groupZ l t)⟩]) ∨ (groupOk l t = false ∧ av = .tup [.agg [.lit (.slice none 0 0)], .lit (.bool false)] ∧ obs = [])
theorem grR_own {l : List POp} {t : List PNode} {av : AV} {obs : List Ob} (h : grR l t av obs) : (av = .tup [.agg [.own 0], .lit (.bool (groupOk l t))] ∧ obs = [⟨77, 4, (groupZ l t).length, nodCells (groupZ l t)⟩]) ∨ ∃ xs : List Value, av = .tup (.agg [.lit (.slice none 0 0)] :: xs.map .lit) ∧ obs = [] ∧
  (AV.tup (.agg [.own 0] :: xs.map .lit) = .tup [.agg [.own 0], .lit (.bool (groupOk l t))] ∧ [(⟨77, 4, 0, nodCells []⟩ : Ob)] = [⟨77, 4, (groupZ l t).length, nodCells (groupZ l t)⟩]) := by
 rcases h with ⟨h1, rfl, rfl⟩ | ⟨h1, rfl, rfl⟩
 ·exact .inl ⟨by rw [h1], rfl⟩
 ·refine .inr ⟨[.bool false], rfl, rfl, ?_⟩
  have e : groupZ l t = [] := by simp [groupZ, h1]
  rw [h1, e]
  exact ⟨rfl, rfl⟩
set_option maxRecDepth 100000 in
theorem c_specGroup1 (l : List POp) (hl : l.length ≤ 9223372036854775807) (hw : opsWf l) (t : List PNode) (ht : t.length ≤ 1048576) (hwt : nodsWf t) : VFun Tryz.prog 22 [.agg [.sl 4 l.length (opCells l)], .agg [.sl 4 t.length (nodCells t)]] (grR l t) := by
 have cl : ∀ (i : Nat) (c : AV), i < l.length → c ∈ opCells l i → Closed c := fun i c _ h => opClosed l i c h
 have clt : ∀ (i : Nat) (c : AV), i < t.length → c ∈ nodCells t i → Closed c := fun i c _ h => nodClosed t i c h
 have cle : ∀ (i : Nat) (c : AV), i < (erased t).length → c ∈ nodCells (erased t) i → Closed c := fun i c _ h => nodClosed _ i c h
 refine vfun_start Tryz.func22 (by kernel_rfl) rfl (by simp [Tryz.ntmps22]) ?_; simp only [Tryz.ntmps22, Tryz.results22]; simp [go_sem]
 refine vcall_pure (c_l3WellFormed l hl hw t (by omega) hwt) ?_ ?_
 ·simp [go_sem]
  exact ⟨argSl_refl (by omega) cl, argSl_refl (by omega) clt⟩
 ·cases h1 : wellF l t with
  | false => simp [go_sem, grR, groupOk, h1]
  | true =>
   obtain ⟨g1, g2, g3, g4, g5, g6, g7, g8, g9, g10⟩ := bare_facts h1
   have hle := erased_len t
   have c1 := c_l4Grouped l hl hw (erased t) (by omega) g6 g7 ((erased t).length - 1) (by omega) 0 [] (by simp; omega)
   have hG : grpG l (erased t) ((erased t).length - 1) 0 [] = lay (groupE l t) [] := by
    unfold grpG groupE
    rw [g10]
   have hsz : (lay (groupE l t) []).length = sizeE (groupE l t) := by rw [lay_len]; simp
   have hs2 := size_grpd (bare (rootE l t)) 0
   have hs3 : sizeE (bare (rootE l t)) = (erased t).length := by rw [g5, lay_len]; simp
   have hs4 : sizeE (groupE l t) ≤ 2 * (erased t).length := by unfold groupE; omega
   rw [hG] at c1
   have e1 : IntKind.i64.wrap (((erased t).length : Int) - 1) = (((erased t).length - 1 : Nat) : Int) := by rw [wrap_i64 (by omega)]; omega
   simp [go_sem]
   refine vcall_use (c_specErase t ht hwt) ?_ ?_
   ·simp [go_sem]
    exact argSl_refl (by omega) clt
   ·rintro av obs ⟨rfl, rfl⟩
    simp [go_sem, e1]
    refine ⟨by omega, ?_⟩
    refine vcall_shareX [5] c1 (by simp) ?_ ?_ trivial ?_
    ·simp [go_sem]
     refine ⟨.inl ?_, .inr (.inl ⟨by simp, argSl_own (k := 3) rfl (by omega) cle, ?_⟩), .inl (.closed _ (.lit _)), .inl (.closed _ (.lit _)), .inl ?_⟩
     ·exact .closed _ (by simp only [closed_agg, List.mem_singleton]; rintro c rfl; simp only [closed_sl]; exact cl)
     ·exact fun i hi => nodLit _ i
     ·exact .own 0 (by simp)
    ·simp [go_sem, nodRow]
    ·rintro av mem maps ⟨rfl, rfl, rfl⟩
     refine ⟨noSl_row fun i => rfl, ?_⟩
     simp [go_sem, nodRow, hsz]
     refine ⟨by omega, fun hb => ?_, fun hb => ⟨_, obsSame_one.mpr ⟨⟨77, 4, sizeE (groupE l t), nodCells (lay (groupE l t) [])⟩, ⟨rfl, rfl, rfl, fun j hj => ⟨rfl, nodLit _ j⟩⟩, rfl⟩, ?_⟩⟩
     ·exact .inr ⟨by simp only [groupOk, h1, Bool.true_and, decide_eq_false_iff_not]; omega, rfl, rfl⟩
     ·have e2 : groupOk l t = true := by simp only [groupOk, h1, Bool.true_and, decide_eq_true_eq]; omega
      have e3 : groupZ l t = lay (groupE l t) [] := by rw [groupZ, e2]; rfl
      exact .inl ⟨e2, rfl, by rw [e3, hsz]⟩
theorem c_specGroup (l : List POp) (hl : l.length ≤ 9223372036854775807) (hw : opsWf l) (t : List PNode) (ht : t.length ≤ 1048576) (hwt : nodsWf t) : VFun Tryz.prog 22 [.agg [.sl 4 l.length (opCells l)], .agg [.sl 4 t.length (nodCells t)]] (fun av obs => av = .tup [.agg [.own 0], .lit (.bool (groupOk l t))] ∧ obs = [⟨77, 4, (groupZ l t).length, nodCells (groupZ l t)⟩]) :=
 (c_specGroup1 l hl hw t ht hwt).adoptA 77 4 (by omega) (nodCells []) fun av obs h => grR_own h
def NodTx (B : Nat) (T : List PNode) : Prop := ∀ i, i < T.length → (nodAt T i).text.size ≤ B
theorem nodTx_app {B : Nat} {T : List PNode} {n : PNode} (h : NodTx B T) (hn : n.text.size ≤ B) : NodTx B (T ++ [n]) := fun i hi => by
 simp only [List.length_append, List.length_singleton] at hi
 by_cases e : i < T.length
 ·rw [nodAt_old e]; exact h i e
 ·obtain rfl : i = T.length := by omega
  rw [nodAt_new]; exact hn
theorem nodTx_nil (B : Nat) : NodTx B [] := fun i hi => by simp at hi
theorem nodTx_mem {B : Nat} {T : List PNode} : NodTx B T ↔ ∀ n, n ∈ T → n.text.size ≤ B := by
 refine ⟨fun h n hn => ?_, fun h i hi => ?_⟩
 ·obtain ⟨i, hi, rfl⟩ := List.getElem_of_mem hn
  have := h i hi
  unfold nodAt at this
  rwa [List.getD_eq_getElem?_getD, List.getElem?_eq_getElem hi] at this
 ·refine h _ ?_
  unfold nodAt
  rw [List.getD_eq_getElem?_getD, List.getElem?_eq_getElem hi]
  exact List.getElem_mem hi
def ETx (B : Nat) : ET → Prop
 | .leaf b => b.2.size ≤ B
 | .grp e => ETx B e
 | .pre o e => o.text.size ≤ B ∧ ETx B e
 | .post o e => o.text.size ≤ B ∧ ETx B e
 | .inf o x y => o.text.size ≤ B ∧ ETx B x ∧ ETx B y
theorem lay_txN {B : Nat} : ∀ (e : ET) (out : List PNode), ETx B e → NodTx B out → NodTx B (lay e out)
 | .leaf b, out, h, ho => nodTx_app ho h
 | .grp e, out, h, ho => nodTx_app (lay_txN e out h ho) (Nat.zero_le _)
 | .pre o e, out, h, ho => nodTx_app (lay_txN e out h.2 ho) h.1
 | .post o e, out, h, ho => nodTx_app (lay_txN e out h.2 ho) h.1
 | .inf o x y, out, h, ho => nodTx_app (lay_txN y _ h.2.2 (lay_txN x out h.2.1 ho)) h.1
theorem tx_layN {B : Nat} : ∀ (e : ET) (out : List PNode), NodTx B (lay e out) → ETx B e ∧ NodTx B out
 | .leaf b, out, h => by
  simp only [lay, nodTx_mem, List.mem_append, List.mem_singleton] at h ⊢
  exact ⟨h _ (.inr rfl), fun n hn => h n (.inl hn)⟩
 | .grp e, out, h => by
  simp only [lay, nodTx_mem, List.mem_append, List.mem_singleton] at h
  exact tx_layN e out (nodTx_mem.2 fun n hn => h n (.inl hn))
 | .pre o e, out, h => by
  simp only [lay, nodTx_mem, List.mem_append, List.mem_singleton] at h
  obtain ⟨h1, h2⟩ := tx_layN e out (nodTx_mem.2 fun n hn => h n (.inl hn))
  exact ⟨⟨h _ (.inr rfl), h1⟩, h2⟩
 | .post o e, out, h => by
  simp only [lay, nodTx_mem, List.mem_append, List.mem_singleton] at h
  obtain ⟨h1, h2⟩ := tx_layN e out (nodTx_mem.2 fun n hn => h n (.inl hn))
  exact ⟨⟨h _ (.inr rfl), h1⟩, h2⟩
 | .inf o x y, out, h => by
  simp only [lay, nodTx_mem, List.mem_append, List.mem_singleton] at h
  obtain ⟨h1, h2⟩ := tx_layN y _ (nodTx_mem.2 fun n hn => h n (.inl hn))
  obtain ⟨h3, h4⟩ := tx_layN x out h2
  exact ⟨⟨h _ (.inr rfl), h3, h1⟩, h4⟩
theorem bare_txN {B : Nat} : ∀ {e : ET}, ETx B e → ETx B (bare e)
 | .leaf b, h => h
 | .grp e, h => bare_txN (e := e) h
 | .pre o e, h => ⟨h.1, bare_txN h.2⟩
 | .post o e, h => ⟨h.1, bare_txN h.2⟩
 | .inf o x y, h => ⟨h.1, bare_txN h.2.1, bare_txN h.2.2⟩
theorem grpd_txN {B : Nat} : ∀ {e : ET} (m : Int), ETx B e → ETx B (grpd e m)
 | .leaf b, m, h => by simp only [grpd]; split <;> exact h
 | .grp e, m, h => by simp only [grpd]; split <;> exact grpd_txN (e := e) 0 h
 | .pre o e, m, h => by simp only [grpd]; split <;> exact ⟨h.1, grpd_txN _ h.2⟩
 | .post o e, m, h => by simp only [grpd]; split <;> exact ⟨h.1, grpd_txN _ h.2⟩
 | .inf o x y, m, h => by simp only [grpd]; split <;> exact ⟨h.1, grpd_txN _ h.2.1, grpd_txN _ h.2.2⟩
end Go.Proofs.YtjdmmhcogmepaaaGreatDoor.V
namespace Go.Proofs.YtjdmmhcogmepaaaGreatDoor.V
open Go.RowKit
theorem gapT_size (k : Nat) : (gapT k).size ≤ 2 := by unfold gapT; split <;> decide
theorem ext_size_le (z : ByteArray) (a b : Nat) : (z.extract a b).size ≤ z.size := by
 rw [ByteArray.size_extract]; omega
theorem wordT_size {l : List POp} (hz : ∀ i, i < l.length → (opAt l i).text.size ≤ 100) (k b : Nat) : (wordT l k b).size ≤ 100 := by
 have h1 := l1T_size k
 have h2 := ext_size_le ⟨#[97, 49, 95, 98]⟩ 0 (1 + k / 8 % 4)
 have h3 := ext_size_le ⟨#[49, 48, 50, 55]⟩ (k / 8 % 4) 4
 have e2 : (⟨#[97, 49, 95, 98]⟩ : ByteArray).size = 4 := rfl
 have e3 : (⟨#[49, 48, 50, 55]⟩ : ByteArray).size = 4 := rfl
 have e4 : (⟨#[40]⟩ : ByteArray).size = 1 := rfl
 have e5 : (⟨#[41]⟩ : ByteArray).size = 1 := rfl
 have e6 : (⟨#[b.toUInt8]⟩ : ByteArray).size = 1 := rfl
 unfold wordT
 split
 ·rename_i h
  exact hz _ (Nat.mod_lt _ h.2)
 ·repeat' split
  all_goals omega
def PadI (n m j : Nat) : Prop := j = 0 ∨ n + j ≤ 19999 + m
theorem drawOp_txt (r : Rd) (tidy : Bool) : (drawOp r tidy).text.size ≤ 3 := by
 have h := l1T_size r.nx.v
 have e : (drawOp r tidy).text = l1T r.nx.v := by
  simp only [drawOp, drawOp2, drawOp1, drawOp0]
  split <;> split <;> rfl
 rw [e]; exact h
theorem tabRun_txt (p : Rd) : ∀ i, ∀ o, o ∈ (tabRun i ([], p)).1 → o.text.size ≤ 3
 | 0 => fun o h => by simp [tabRun] at h
 | i + 1 => fun o h => by
  simp only [tabRun, tabStep] at h
  split at h
  ·rcases List.mem_append.1 h with h | h
   ·exact tabRun_txt p i o h
   ·simp only [List.mem_singleton] at h
    rw [h]; exact drawOp_txt _ _
  ·exact tabRun_txt p i o h
theorem drawTab_txt (r : Rd) : ∀ o, o ∈ (drawTab r).1 → o.text.size ≤ 3 := tabRun_txt r.nx _
theorem drawTab_len (r : Rd) : (drawTab r).1.length ≤ 10 := by
 have h := tabRun_len r.nx (3 + r.v % 8)
 have : r.v % 8 < 8 := Nat.mod_lt _ (by decide)
 unfold drawTab
 omega
theorem drawTab_ok {r : Rd} (h : r.ok) : (drawTab r).2.ok := tabRun_ok (Rd.nx_ok h) _
theorem opAt_mem {l : List POp} {i : Nat} (h : i < l.length) : opAt l i ∈ l := by
 unfold opAt
 rw [List.getD_eq_getElem?_getD, List.getElem?_eq_getElem h]
 exact List.getElem_mem h
theorem bigTab_txt (v : Nat) : ∀ i o, o ∈ bigTab v i → o.text.size = 3
 | 0, o, h => by simp [bigTab] at h
 | i + 1, o, h => by
  rcases List.mem_append.1 h with h | h
  ·exact bigTab_txt v i o h
  ·simp only [List.mem_singleton] at h
   rw [h]; rfl
theorem spoilOp_txt {o : POp} (ho : o.text.size ≤ 3) (k : Nat) (r : Rd) : (spoilOp o k r).text.size ≤ 17 := by
 have h1 := ext_size_le ⟨#[43, 45, 43, 45, 43, 45, 43, 45, 43, 45, 43, 45, 43, 45, 43, 45, 43]⟩ 0 (16 + k / 8 % 2)
 have e1 : (⟨#[43, 45, 43, 45, 43, 45, 43, 45, 43, 45, 43, 45, 43, 45, 43, 45, 43]⟩ : ByteArray).size = 17 := rfl
 have e2 : (⟨#[]⟩ : ByteArray).size = 0 := rfl
 have e3 : (⟨#[UInt8.ofNat k]⟩ : ByteArray).size = 1 := rfl
 have h2 := drawOp_txt r false
 unfold spoilOp
 repeat' split
 all_goals try simp only [ByteArray.size_append]
 all_goals omega
theorem spoilTab_txt {l : List POp} (hl : ∀ o, o ∈ l → o.text.size ≤ 3) (r : Rd) : ∀ o, o ∈ spoilTab l r → o.text.size ≤ 17 := by
 intro o ho
 unfold spoilTab at ho
 split at ho
 ·have := bigTab_txt _ _ o ho; omega
 ·rename_i hb
  have hne : 0 < l.length := by
   simp only [spoilBig, decide_eq_true_eq, not_or] at hb
   omega
  rcases List.mem_or_eq_of_mem_set ho with h | h
  ·have := hl o h; omega
  ·rw [h]
   exact spoilOp_txt (hl _ (opAt_mem (Nat.mod_lt _ hne))) _ _
theorem spoilTab_len {l : List POp} (hl : l.length ≤ 10) (r : Rd) : (spoilTab l r).length ≤ 501 := by
 unfold spoilTab
 split
 ·rw [bigTab_len]
  have : r.nx.v % 2 < 2 := Nat.mod_lt _ (by decide)
  omega
 ·simp; omega
theorem gen_tx {l : List POp} {g : Bool} (hl : ∀ o, o ∈ l → o.text.size ≤ 6) : ∀ (d : Nat) (r : Rd) (out : List PNode), NodTx 6 out → NodTx 6 (genN l g d r out).1 := by
 have hleaf : ∀ k, (leafN k).text.size ≤ 6 := fun k => by
  unfold leafN
  split
  ·simp only [ByteArray.size_extract]
   have : (⟨#[97, 98, 99, 100, 95, 57]⟩ : ByteArray).size = 6 := rfl
   omega
  ·simp only [ByteArray.size_extract]
   have : (⟨#[48, 49, 55, 50]⟩ : ByteArray).size = 4 := rfl
   omega
 intro d
 induction d with
 | zero => intro r out h; exact nodTx_app h (hleaf _)
 | succ d ih =>
  intro r out h
  rw [genN]
  split
  ·exact nodTx_app h (hleaf _)
  ·rename_i hc
   have hlen : l.length ≠ 0 := fun e => hc (.inr (.inr e))
   have hx : r.v / 8 % l.length < l.length := Nat.mod_lt _ (by omega)
   have ho : (opAt l (r.v / 8 % l.length)).text.size ≤ 6 := hl _ (opAt_mem hx)
   split
   ·exact nodTx_app (ih _ _ h) (Nat.zero_le _)
   ·split
    ·exact nodTx_app (ih _ _ (ih _ _ h)) ho
    ·exact nodTx_app (ih _ _ h) ho
theorem tabRun_tbl (p : Rd) : ∀ i, tblOk (tabRun i ([], p)).1 = 0
 | 0 => by show tblOk ([] : List POp) = 0; decide
 | i + 1 => by
  simp only [tabRun, tabStep]
  split
  ·rename_i h; exact h
  ·exact tabRun_tbl p i
theorem drawTab_tbl (r : Rd) : tblOk (drawTab r).1 = 0 := tabRun_tbl r.nx _
theorem kinds_of {l : List POp} (h : tblOk l = 0) : KindsSm l := fun i hi => by
 have := ok_of_ok h i hi
 simp [opOk] at this
 omega
theorem groupZ_len2 (l : List POp) (t : List PNode) : (groupZ l t).length ≤ 20000 ∧ (groupOk l t = true → 0 < (groupZ l t).length) := by
 unfold groupZ
 split
 ·rename_i hg
  simp only [groupOk, Bool.and_eq_true, decide_eq_true_eq] at hg
  have hl := lay_len (groupE l t) []
  have hp := sizeE_pos (groupE l t)
  simp only [List.length_nil] at hl
  omega
 ·rename_i hg
  exact ⟨by simp, fun h => absurd h hg⟩
def meetB (a b : ByteArray) : Bool :=
 if a = ⟨#[]⟩ ∨ b = ⟨#[]⟩ then false
 else if isSg (byteAt a 0) = true ∨ isSg (byteAt b 0) = true then isSg (byteAt a 0) && isSg (byteAt b 0)
 else decide (a ≠ ⟨#[40]⟩) && decide (a ≠ ⟨#[41]⟩) && decide (b ≠ ⟨#[40]⟩) && decide (b ≠ ⟨#[41]⟩)
theorem c_l3Meet (a b : ByteArray) : VFun Tryz.prog 114 [.lit (.string a), .lit (.string b)] (fun av obs => obs = [] ∧ av = .lit (.bool (meetB a b))) := by
 have c1 := c_l1IsSign (byteAt a 0)
 have c2 := c_l1IsSign (byteAt b 0)
 have e0 : ∀ z : ByteArray, z.toList = [] ↔ z = ⟨#[]⟩ := fun z => by have := ba_toList z ⟨#[]⟩; simpa using this
 have e40 : ∀ z : ByteArray, z.toList = [40] ↔ z = ⟨#[40]⟩ := fun z => by have := ba_toList z ⟨#[40]⟩; simpa using this
 have e41 : ∀ z : ByteArray, z.toList = [41] ↔ z = ⟨#[41]⟩ := fun z => by have := ba_toList z ⟨#[41]⟩; simpa using this
 have sz : ∀ z : ByteArray, ¬ z.toList = [] → 0 < z.size := fun z h => by
  rcases Nat.eq_zero_or_pos z.size with h1 | h1
  ·exact absurd ((e0 z).2 (ByteArray.ext (Array.eq_empty_of_size_eq_zero h1))) h
  ·exact h1
 refine vfun_start Tryz.func114 (by kernel_rfl) rfl (by simp [Tryz.ntmps114]) ?_; simp only [Tryz.ntmps114, Tryz.results114]; simp [go_sem]
 refine ⟨fun ha => ⟨fun hb => ?_, fun hb => ⟨sz a ha, vcall_pure c1 ?_ ?_⟩⟩, fun ha => ?_⟩
 ·unfold meetB; rw [if_pos (.inr ((e0 b).1 hb))]
 ·simp [go_sem]
 ·have h0 : ¬ (a = ⟨#[]⟩ ∨ b = ⟨#[]⟩) := fun h => h.elim (fun h => ha ((e0 a).2 h)) (fun h => hb ((e0 b).2 h))
  have hsz := sz b hb
  unfold meetB
  rw [if_neg h0]
  cases hA : isSg (byteAt a 0) with
  | true =>
   rw [hA] at c1
   rw [if_pos (.inl rfl)]
   simp [go_sem]
   refine ⟨sz a ha, vcall_pure c1 ?_ ?_⟩
   ·simp [go_sem]
   simp [go_sem]
   refine ⟨hsz, vcall_pure c2 ?_ ?_⟩
   ·simp [go_sem]
   simp [go_sem]
  | false =>
   rw [hA] at c1
   simp [go_sem]
   refine ⟨hsz, vcall_pure c2 ?_ ?_⟩
   ·simp [go_sem]
   cases hB : isSg (byteAt b 0) with
   | true =>
    simp [go_sem]
    refine ⟨sz a ha, vcall_pure c1 ?_ ?_⟩
    ·simp [go_sem]
    simp [go_sem]
   | false =>
    simp [go_sem]
    have eb : (b.toList == [41]) = decide (b = ⟨#[41]⟩) := by rw [Bool.eq_iff_iff]; simp [e41]
    simp only [e40, e41, eb]
    by_cases h1 : a = ⟨#[40]⟩ <;> by_cases h2 : a = ⟨#[41]⟩ <;> by_cases h3 : b = ⟨#[40]⟩ <;> by_cases h4 : b = ⟨#[41]⟩ <;> simp [h1, h2, h3, h4]
 ·unfold meetB; rw [if_pos (.inl ((e0 a).1 ha))]
def txAt (ws : List ByteArray) (i : Nat) : ByteArray := ws.getD i ByteArray.empty
def txCells (ws : List ByteArray) (i : Nat) : List AV := [.lit (.string (txAt ws i))]
theorem txCells_at (ws : List ByteArray) (i : Nat) : txCells ws i = [.lit (.string (txAt ws i))] := rfl
theorem txClosed (l : List ByteArray) (i : Nat) (c : AV) (h : c ∈ txCells l i) : Closed c := by
 simp [txCells] at h; subst h; exact .lit _
theorem txLit (l : List ByteArray) (i : Nat) : (txCells l i).all isLit = true := rfl
@[go_sem] theorem txCells_ren (f : Nat → Nat) (l : List ByteArray) (i : Nat) : (txCells l i).map (ren1 f) = txCells l i := rfl
@[go_sem] theorem txCells_one (l : List ByteArray) (i : Nat) : (txCells l i).all oneAV = true := rfl
def gapS (ws : List ByteArray) (q : Rd) (i : Nat) : ByteArray := if (0 < i ∧ gapT q.v = ⟨#[]⟩) ∧ meetB (txAt ws (i - 1)) (txAt ws i) = true then ⟨#[32]⟩ else gapT q.v
def sprR (ws : List ByteArray) (r : Rd) : Nat → ByteArray × Rd
 | 0 => (gapT r.v, r.nx)
 | i + 1 => ((sprR ws r i).1 ++ gapS ws (sprR ws r i).2 i ++ txAt ws i, (sprR ws r i).2.nx)
def spread (ws : List ByteArray) (r : Rd) : ByteArray := (sprR ws r ws.length).1 ++ gapT (sprR ws r ws.length).2.v
def spreadRd (ws : List ByteArray) (r : Rd) : Rd := (sprR ws r ws.length).2.nx
theorem gapS_size (ws : List ByteArray) (q : Rd) (i : Nat) : (gapS ws q i).size ≤ 2 := by
 unfold gapS; split
 ·decide
 ·exact gapT_size _
theorem spr_ok {r : Rd} (h : r.okw) (ws : List ByteArray) : ∀ i, (sprR ws r i).2.okw
 | 0 => Rd.nx_okw h
 | i + 1 => Rd.nx_okw (spr_ok h ws i)
theorem spr_size {ws : List ByteArray} {B : Nat} (hB : ∀ i, (txAt ws i).size ≤ B) (r : Rd) : ∀ i, (sprR ws r i).1.size ≤ i * (B + 2) + 2
 | 0 => by have := gapT_size r.v; simp only [sprR]; omega
 | i + 1 => by
  have h1 := spr_size hB r i
  have h2 := gapS_size ws (sprR ws r i).2 i
  have h3 := hB i
  have e : (i + 1) * (B + 2) = i * (B + 2) + (B + 2) := Nat.succ_mul _ _
  simp only [sprR, ByteArray.size_append]
  omega
def txRow (ws : List ByteArray) : Option Ob := some ⟨9, 1, ws.length, txCells ws⟩
set_option maxRecDepth 100000 in
theorem c_l3Spread (ws : List ByteArray) (hw : ws.length ≤ 100000) (hB : ∀ i, (txAt ws i).size ≤ 100000) (r : Rd) (hr : r.okw) : VProc Tryz.prog 71 [.ptr 0 2 0 0, .own 1] [rdOb r, txRow ws] [] (fun av mem maps => av = .lit (.string (spread ws r)) ∧ mem = [rdOb (spreadRd ws r), txRow ws] ∧ maps = []) := by
 have cr : ∀ (r : Rd) (i : Nat) (c : AV), i < r.n → c ∈ rdCells r.f i → Closed c := fun r i c _ h => rdClosed r.f i c h
 have clw : ∀ (i : Nat) (c : AV), i < ws.length → c ∈ txCells ws i → Closed c := fun i c _ h => txClosed ws i c h
 have c1 := c_l2GapW r hr
 simp only [rdOb, txRow] at c1 ⊢
 refine vproc_start Tryz.func71 (by kernel_rfl) rfl (by simp [Tryz.ntmps71]) ?_; simp only [Tryz.ntmps71, Tryz.results71]; simp [go_sem]
 refine vcall_share [0] c1 (by simp) ?_ ?_ trivial ?_
 ·simp [go_sem]
 ·simp [go_sem]
  exact cr r
 rintro av mem maps ⟨rfl, rfl, rfl⟩
 simp [go_sem]
 refine vc_loopE (fun i : Nat => i ≤ ws.length) (fun i => ws.length - i) (fun i => ⟨[(0, .ptr 0 2 0 0), (1, .own 1), (5, .lit (.string (sprR ws r i).1)), (6, .lit (.int .i64 i))], [rdOb (sprR ws r i).2, txRow ws], [], 2⟩) ⟨0, by omega, ?_⟩ (fun i hi => ?_)
 ·refine ent_ks [0, 1] (by simp) (by simp) (by simp) (by decide) (by simp [go_sem]) ?_ ?_
  ·simp [go_sem, sprR]
  ·simp [go_sem, rdOb, txRow, sprR]
   exact ⟨fun i c h1 h2 => rdClosed _ _ c h2, .inl fun j hj c hc => txClosed _ _ c hc⟩
 ·have hq := spr_ok hr ws i
  have hz := spr_size hB r i
  have hst : sprR ws r (i + 1) = ((sprR ws r i).1 ++ gapS ws (sprR ws r i).2 i ++ txAt ws i, (sprR ws r i).2.nx) := rfl
  have hfin : i = ws.length → spread ws r = (sprR ws r i).1 ++ gapT (sprR ws r i).2.v ∧ spreadRd ws r = (sprR ws r i).2.nx := fun e => by subst e; exact ⟨rfl, rfl⟩
  have hb : i * (100000 + 2) ≤ 100000 * (100000 + 2) := Nat.mul_le_mul (by omega) (by omega)
  have ew : IntKind.i64.wrap ((i : Int) + 1) = ((i + 1 : Nat) : Int) := by rw [wrap_i64 (by omega)]; omega
  generalize sprR ws r i = u at *
  obtain ⟨z, q⟩ := u
  simp only at hq hz hst hfin
  have c2 := c_l2GapW q hq
  simp only [rdOb, txRow] at c2 ⊢
  have g2 := gapS_size ws q i
  have gd : gapS ws q i = if (0 < i ∧ gapT q.v = ⟨#[]⟩) ∧ meetB (txAt ws (i - 1)) (txAt ws i) = true then ⟨#[32]⟩ else gapT q.v := rfl
  have gt := gapT_size q.v
  have wi := hB i
  generalize gapT q.v = g at *
  have e0 : g.toList = [] ↔ g = ⟨#[]⟩ := by have := ba_toList g ⟨#[]⟩; simpa using this
  simp [go_sem]
  refine ⟨by omega, fun hlt => ?_, fun hge => ?_⟩
  ·refine vcall_share [0] c2 (by simp) ?_ ?_ trivial ?_
   ·simp [go_sem]
   ·simp [go_sem]
    exact cr q
   rintro av mem maps ⟨rfl, rfl, rfl⟩
   simp [go_sem]
   have b1 : ¬ 9223372036854775807 < z.size + g.size := by omega
   have b2 : ¬ 9223372036854775807 < z.size + g.size + (txAt ws i).size := by omega
   have b3 : ¬ 9223372036854775807 < z.size + 1 := by omega
   have b4 : ¬ 9223372036854775807 < z.size + 1 + (txAt ws i).size := by omega
   have e1 : (⟨#[32]⟩ : ByteArray).size = 1 := rfl
   refine vc_drawn [] (.q 0 <| .q 1 <| .q 2 <| .q 3 <| .q 4 <| .q 5 <| .q 6 <| .q 7 <| .q 8 <| .q 9 <| .q 10 <| .q 11 <| .q 12 <| .q 13 <| .q 14 <| .q 15 <| .or 16 (.q 17 <| .done) (.nil)) (by kernel_rfl) ?_
   by_cases h0 : 0 < i
   ·have wi1 : IntKind.i64.wrap ((i : Int) - 1) = ((i - 1 : Nat) : Int) := by rw [wrap_i64 (by omega)]; omega
    have c3 := c_l3Meet (txAt ws (i - 1)) (txAt ws i)
    by_cases hg : g.toList = []
    ·simp [go_sem, txCells_at, h0, hg, wi1]
     refine ⟨by omega, hlt, vcallV_pure c3 ?_ ?_⟩
     ·simp [go_sem]
     cases hm : meetB (txAt ws (i - 1)) (txAt ws i) with
     | true =>
      simp [go_sem, txCells_at, b3, b4, e1]
      refine ⟨hlt, i + 1, by omega, by omega, ?_⟩
      rw [hst, gd, if_pos ⟨⟨h0, e0.1 hg⟩, hm⟩]
      refine ent_ks [0, 1] (by simp) (by simp) (by simp) (by decide) (by simp [go_sem]) ?_ ?_
      ·simp [go_sem, ew]
      ·simp [go_sem, rdOb, txRow]
       exact ⟨fun i c h1 h2 => rdClosed _ _ c h2, .inl fun j hj c hc => txClosed _ _ c hc⟩
     | false =>
      simp [go_sem, txCells_at, b1, b2]
      refine ⟨hlt, i + 1, by omega, by omega, ?_⟩
      rw [hst, gd, if_neg (fun h => by rw [hm] at h; simp at h)]
      refine ent_ks [0, 1] (by simp) (by simp) (by simp) (by decide) (by simp [go_sem]) ?_ ?_
      ·simp [go_sem, ew]
      ·simp [go_sem, rdOb, txRow]
       exact ⟨fun i c h1 h2 => rdClosed _ _ c h2, .inl fun j hj c hc => txClosed _ _ c hc⟩
    ·simp [go_sem, txCells_at, h0, hg, b1, b2]
     refine ⟨hlt, i + 1, by omega, by omega, ?_⟩
     rw [hst, gd, if_neg (fun h => hg (e0.2 h.1.2))]
     refine ent_ks [0, 1] (by simp) (by simp) (by simp) (by decide) (by simp [go_sem]) ?_ ?_
     ·simp [go_sem, ew]
     ·simp [go_sem, rdOb, txRow]
      exact ⟨fun i c h1 h2 => rdClosed _ _ c h2, .inl fun j hj c hc => txClosed _ _ c hc⟩
   ·simp [go_sem, txCells_at, h0, b1, b2]
    refine ⟨hlt, i + 1, by omega, by omega, ?_⟩
    rw [hst, gd, if_neg (fun h => h0 h.1.1)]
    refine ent_ks [0, 1] (by simp) (by simp) (by simp) (by decide) (by simp [go_sem]) ?_ ?_
    ·simp [go_sem, ew]
    ·simp [go_sem, rdOb, txRow]
     exact ⟨fun i c h1 h2 => rdClosed _ _ c h2, .inl fun j hj c hc => txClosed _ _ c hc⟩
  ·obtain rfl : i = ws.length := by omega
   refine vcall_share [0] c2 (by simp) ?_ ?_ trivial ?_
   ·simp [go_sem]
   ·simp [go_sem]
    exact cr q
   rintro av mem maps ⟨rfl, rfl, rfl⟩
   obtain ⟨f1, f2⟩ := hfin rfl
   have b1 : ¬ 9223372036854775807 < z.size + g.size := by omega
   simp [go_sem, b1]
   rw [f1, f2]
   refine ⟨rfl, [], [rdOb q.nx, txRow ws], by simp, by simp, by simp [go_sem], ?_, by simp [go_sem], ?_⟩
   ·simp [go_sem, rdOb, txRow]
    exact ⟨rdOut, outAt_lits (fun _ _ => rfl) (fun j _ => txLit _ j)⟩
   ·simp [go_sem, rdOb, txRow]
open Go.Proofs.YtjdmmhcogmepaaaGreatDoor.Ops (Tr)
def adoptM (mem : List (Option Ob)) (j : Nat) (ob : Ob) (c ty sz : Nat) (g : Nat → List AV) : List (Option Ob) := mem.set j (some { ob with f := fun _ => (ob.f 0).set c (.own mem.length) }) ++ [some ⟨ty, sz, 0, g⟩]
theorem memRel_adopt {B : Nat → Prop} {w : World} {hd : Nat → Value} {mem : List (Option Ob)} (h : MemRel B w hd mem) {j : Nat} {ob : Ob} (hj : mem[j]? = some (some ob)) (hn : ob.n = 1) {c : Nat} (hc : (ob.f 0)[c]? = some (.lit (.slice none 0 0))) (ty sz : Nat) (hsz : 0 < sz) (g : Nat → List AV) :
  ∃ HD : Nat → Value, (∀ k, k < mem.length → HD k = hd k) ∧ TailEq hd HD ∧ (HD mem.length).ownBlock = none ∧ MemRel B w HD (adoptM mem j ob c ty sz g) ∧ (∀ {av : AV} {u : Value}, Rep w (okOf mem hd) hd mem.length av u → Rep w (okOf (adoptM mem j ob c ty sz g) HD) HD (adoptM mem j ob c ty sz g).length av u) ∧
   (∀ k o', (adoptM mem j ob c ty sz g)[k]? = some (some o') → k < mem.length → ∃ o, mem[k]? = some (some o)) ∧ (adoptM mem j ob c ty sz g).length = mem.length + 1 := by
 obtain ⟨HD, hHD⟩ : ∃ HD : Nat → Value, HD = fun k => if k = mem.length then .slice none 0 0 else hd k := ⟨_, rfl⟩
 have hlow : ∀ k, k < mem.length → HD k = hd k := fun k hk => by rw [hHD]; exact if_neg (by omega)
 have hnew : HD mem.length = .slice none 0 0 := by rw [hHD]; exact if_pos rfl
 have heqT : TailEq hd HD := ⟨mem.length + 1, fun k hk => by rw [hHD]; exact if_neg (by omega)⟩
 have hjl : j < mem.length := (List.getElem?_eq_some_iff.1 hj).1
 obtain ⟨mem', hmem'⟩ : ∃ mem', mem' = adoptM mem j ob c ty sz g := ⟨_, rfl⟩
 rw [← hmem']
 have hlen' : mem'.length = mem.length + 1 := by rw [hmem']; simp [adoptM]
 have live : ∀ k o', mem'[k]? = some (some o') → (k = mem.length ∧ o' = ⟨ty, sz, 0, g⟩) ∨ (k < mem.length ∧ k ≠ j ∧ mem[k]? = some (some o')) ∨ (k = j ∧ o' = { ob with f := fun _ => (ob.f 0).set c (.own mem.length) }) := by
  intro k o' hk
  rw [hmem', adoptM, List.getElem?_append] at hk
  simp only [List.length_set] at hk
  split at hk
  ·rename_i hkl
   by_cases e : j = k
   ·subst e
    rw [List.getElem?_set_self hjl] at hk
    simp only [Option.some.injEq] at hk
    exact .inr (.inr ⟨rfl, hk.symm⟩)
   ·rw [List.getElem?_set_ne e] at hk
    exact .inr (.inl ⟨hkl, fun e2 => e e2.symm, hk⟩)
  ·rename_i hkl
   have : k = mem.length := by
    have := (List.getElem?_eq_some_iff.1 hk).1
    simp at this; omega
   subst this
   simp at hk
   exact .inl ⟨rfl, hk.symm⟩
 have old : ∀ k o', mem'[k]? = some (some o') → k < mem.length → ∃ o, mem[k]? = some (some o) := by
  intro k o' hk hkl
  rcases live k o' hk with ⟨e, _⟩ | ⟨_, _, h2⟩ | ⟨rfl, _⟩
  ·omega
  ·exact ⟨o', h2⟩
  ·exact ⟨ob, hj⟩
 have hok : ∀ ad u, okOf mem hd ad.block → w.cell? ad = some u → w.cell? ad = some u ∧ okOf mem' HD ad.block := by
  intro ad u ho hcl
  refine ⟨hcl, fun k o' hk e => ?_, ho.2.eq heqT⟩
  by_cases hkl : k < mem.length
  ·obtain ⟨o, h1⟩ := old k o' hk hkl
   rw [hlow k hkl] at e
   exact ho.1 k o h1 e
  ·have : k = mem.length := by have := (List.getElem?_eq_some_iff.1 hk).1; omega
   subst this
   rw [hnew] at e; simp [Value.ownBlock] at e
 have hle : mem.length ≤ mem'.length := by omega
 have ltOf : ∀ k o', mem'[k]? = some (some o') → k < mem.length + 1 := fun k o' hk => by rw [← hlen']; exact (List.getElem?_eq_some_iff.1 hk).1
 refine ⟨HD, hlow, heqT, by rw [hnew]; rfl, ⟨fun k o' hk b hb => ?_, fun k o' hk => ?_, fun k hk => ?_, fun k k' o o' hk hk' hne => ?_⟩, fun hr => hr.mono hok hlow hle, old, hlen'⟩
 ·by_cases hkl : k < mem.length
  ·obtain ⟨o, h1⟩ := old k o' hk hkl
   rw [hlow k hkl] at hb
   exact h.alw k o h1 b hb
  ·have : k = mem.length := by have := ltOf k o' hk; omega
   subst this
   rw [hnew] at hb; simp [Value.ownBlock] at hb
 ·rcases live k o' hk with ⟨rfl, rfl⟩ | ⟨hkl, _, h2⟩ | ⟨rfl, rfl⟩
  ·rw [hnew]
   exact ⟨hsz, [], ⟨by simp, .inl ⟨rfl, rfl⟩⟩, fun i hi => by simp at hi⟩
  ·obtain ⟨hs, vals, ho, hr⟩ := h.obs k o' h2
   rw [hlow k hkl]
   refine ⟨hs, vals, ho, fun i hi => ⟨(hr i hi).1, fun q av hq => ?_⟩⟩
   obtain ⟨u, g1, g2, g3⟩ := (hr i hi).2 q av hq
   exact ⟨u, g1, g2, g3.mono hok hlow hle⟩
  ·obtain ⟨hs, vals, ho, hr⟩ := h.obs k ob hj
   rw [hlow k hjl]
   refine ⟨hs, vals, ho, fun i hi => ?_⟩
   have hi0 : i = 0 := by have hi' : i < ob.n := hi; omega
   subst hi0
   obtain ⟨q1, q2⟩ := hr 0 hi
   refine ⟨by simpa using q1, fun q av hq => ?_⟩
   simp only at hq
   by_cases e : c = q
   ·subst e
    have hcl : c < (ob.f 0).length := (List.getElem?_eq_some_iff.1 hc).1
    rw [List.getElem?_set_self hcl] at hq
    simp only [Option.some.injEq] at hq
    subst hq
    obtain ⟨u, g1, g2, g3⟩ := q2 c _ hc
    cases g3
    refine ⟨_, g1, g2, ?_⟩
    rw [← hnew]
    exact .own _ (by show mem.length < mem'.length; omega)
   ·rw [List.getElem?_set_ne e] at hq
    obtain ⟨u, g1, g2, g3⟩ := q2 q av hq
    exact ⟨u, g1, g2, g3.mono hok hlow hle⟩
 ·by_cases hkl : k < mem.length
  ·rw [hlow k hkl]; exact h.hds k hkl
  ·have : k = mem.length := by have hk' : k < mem'.length := hk; omega
   subst this
   exact ⟨none, 0, 0, hnew⟩
 ·by_cases e1 : k = mem.length
  ·subst e1; rw [hnew]; exact .inl rfl
  ·by_cases e2 : k' = mem.length
   ·subst e2
    rw [hnew]
    cases hq : (HD k).ownBlock with
    | none => exact .inl rfl
    | some b => exact .inr (by simp [Value.ownBlock])
   ·have l1 : k < mem.length := by have := ltOf k o hk; omega
    have l2 : k' < mem.length := by have := ltOf k' o' hk'; omega
    obtain ⟨o1, h1⟩ := old k o hk l1
    obtain ⟨o2, h2⟩ := old k' o' hk' l2
    rw [hlow k l1, hlow k' l2]
    exact h.apart k k' o1 o2 h1 h2 hne
theorem VProc.adopt {P : Program} {f : FuncId} {args : List AV} {mem : List (Option Ob)} {maps0 : List (Nat × Mp)} {R : AV → List (Option Ob) → List (Nat × Mp) → Prop} {j : Nat} {ob : Ob} {c ty sz : Nat} {g : Nat → List AV}
  (h : VProc P f args (adoptM mem j ob c ty sz g) maps0 R) (hj : mem[j]? = some (some ob)) (hn : ob.n = 1) (hc : (ob.f 0)[c]? = some (.lit (.slice none 0 0))) (hsz : 0 < sz) : VProc P f args mem maps0 R := by
 refine ⟨h.1, fun w vs hd0 hl hv hm hmp htl => ?_⟩
 obtain ⟨HD, h1, h1', h2, h3, h4, h5, h6⟩ := memRel_adopt hm hj hn hc ty sz hsz g
 have hsh : ∀ b, Sh w HD (adoptM mem j ob c ty sz g) maps0 b → Sh w hd0 mem maps0 b := by
  rintro b (q | ⟨k, o, hk, hb⟩ | q)
  ·exact .inl q
  ·have hkl := (List.getElem?_eq_some_iff.1 hk).1
   by_cases e : k < mem.length
   ·obtain ⟨o', ho⟩ := h5 k o hk e
    exact .inr (.inl ⟨k, o', ho, by rw [← h1 k e]; exact hb⟩)
   ·have : k = mem.length := by omega
    subst this
    rw [h2] at hb; cases hb
  ·exact .inr (.inr q)
 have htl' : TailNot HD (Sh w HD (adoptM mem j ob c ty sz g) maps0) := by
  obtain ⟨K, hK⟩ := htl
  obtain ⟨M, hM⟩ := h1'
  refine ⟨K + M, fun k hk b hb hs => ?_⟩
  rw [hM k (by omega)] at hb
  exact hK k (by omega) b hb (hsh b hs)
 refine (h.2 w vs HD hl (fun j a u ha hu => h4 (hv j a u ha hu)) h3 hmp htl').mono fun e w' ⟨v, e1, bel, hd, av, mm, maps, r, po, hfix, hmr, hmap, hrep⟩ => ?_
 refine ⟨v, e1, bel.weak hsh, hd, av, mm, maps, r, ⟨by have := po.len; omega, po.flat, po.cells, po.maps⟩, ⟨fun k hk => (hfix.1 k (by omega)).trans (h1 k hk), h1'.trans hfix.2⟩, ⟨fun k o hk b hb => hsh b (hmr.alw k o hk b hb), hmr.obs, hmr.hds, hmr.apart⟩, fun b mp hb => ?_, hrep⟩
 obtain ⟨q1, q2⟩ := hmap b mp hb
 exact ⟨hsh b q1, q2⟩
structure PWord where
 text : ByteArray
 infix_ : Bool
 op : Bool
deriving Inhabited
def PWord.cells (o : PWord) : List AV := [.lit (.string o.text), .lit (.bool o.infix_), .lit (.bool o.op)]
def wdAt (t : List PWord) (i : Nat) : PWord := t.getD i default
def wdCells (l : List PWord) (i : Nat) : List AV := (l.getD i default).cells
@[go_sem] theorem wdCells_ren (f : Nat → Nat) (l : List PWord) (i : Nat) : (wdCells l i).map (ren1 f) = wdCells l i := rfl
def lpar : PWord := ⟨⟨#[40]⟩, false, false⟩
def rpar : PWord := ⟨⟨#[41]⟩, false, false⟩
def opWord (o : POp) : PWord := ⟨o.text, decide (o.kind = 2), true⟩
def yieldW : ET → List PWord
 | .leaf b => [⟨b.2, false, false⟩]
 | .grp e => lpar :: (yieldW e ++ [rpar])
 | .pre o e => opWord o :: yieldW e
 | .post o e => yieldW e ++ [opWord o]
 | .inf o x y => yieldW x ++ opWord o :: yieldW y
theorem yieldW_len : ∀ e : ET, (yieldW e).length ≤ 2 * sizeE e
 | .leaf b => by simp [yieldW, sizeE]
 | .grp e => by have := yieldW_len e; simp [yieldW, sizeE]; omega
 | .pre o e => by have := yieldW_len e; simp [yieldW, sizeE]; omega
 | .post o e => by have := yieldW_len e; simp [yieldW, sizeE]; omega
 | .inf o x y => by have := yieldW_len x; have := yieldW_len y; simp [yieldW, sizeE]; omega
theorem sizeE_bare : ∀ e : ET, sizeE (bare e) ≤ sizeE e
 | .leaf b => by simp [bare]
 | .grp e => by have := sizeE_bare e; simp [bare, sizeE]; omega
 | .pre o e => by have := sizeE_bare e; simp [bare, sizeE]; omega
 | .post o e => by have := sizeE_bare e; simp [bare, sizeE]; omega
 | .inf o x y => by have := sizeE_bare x; have := sizeE_bare y; simp [bare, sizeE]; omega
def PWord.cellsY (o : PWord) : List AV := [.lit (.string o.text), .lit (.bool o.op), .lit (.bool o.infix_)]
def ysCells (l : List PWord) (i : Nat) : List AV := (l.getD i default).cellsY
theorem ysCells_at (l : List PWord) (i : Nat) : ysCells l i = [.lit (.string (wdAt l i).text), .lit (.bool (wdAt l i).op), .lit (.bool (wdAt l i).infix_)] := rfl
theorem ysLit (l : List PWord) (i : Nat) : (ysCells l i).all isLit = true := rfl
@[go_sem] theorem ysCells_ren (f : Nat → Nat) (l : List PWord) (i : Nat) : (ysCells l i).map (ren1 f) = ysCells l i := rfl
def ysRow (t : List PWord) : Option Ob := some ⟨83, 3, t.length, ysCells t⟩
theorem ys_app {T : List PWord} {n : Nat} {g : Nat → List AV} (o : PWord) (hn : n = T.length) (hg : g 0 = o.cellsY) (j : Nat) (hj : j < n + 1) : joinF n (ysCells T) g j = ysCells (T ++ [o]) j := by
 subst hn
 unfold joinF
 by_cases e : j < T.length
 ·rw [if_pos e]
  unfold ysCells
  rw [List.getD_eq_getElem?_getD, List.getD_eq_getElem?_getD, List.getElem?_append_left e]
 ·have e1 : j = T.length := by omega
  subst e1
  rw [if_neg e, Nat.sub_self, hg]
  simp [ysCells]
theorem sh0Y {idx : Nat → Nat} {m k : Nat} {T : List PWord} : ∀ i, i < k → CellsRn idx m (ysCells T i) (ysCells T i) := fun i _ => cellsRn_lits (ysLit _ i)
theorem sh1Y {idx : Nat → Nat} {m n k : Nat} {T T' : List PWord} {g : Nat → List AV} (o : PWord) (hn : n = T'.length) (hg : g 0 = o.cellsY) (e : T' ++ [o] = T) (hk : k = T.length) : ∀ i, i < k → CellsRn idx m (joinF n (ysCells T') g i) (ysCells T i) := fun i hi => by
 subst e; subst hk
 rw [ys_app o hn hg i (by rw [hn]; simpa using hi)]
 exact cellsRn_lits (ysLit _ i)
theorem out0Y {idx : Nat → Nat} {ks : List Nat} {T : List PWord} {n ty : Nat} : OutAt idx ks ⟨ty, 3, n, ysCells T⟩ (some (some ⟨ty, 3, n, ysCells T⟩)) := outAt_lits (fun _ _ => rfl) (fun j _ => ysLit _ j)
theorem out1Y {idx : Nat → Nat} {ks : List Nat} {T T' : List PWord} {g : Nat → List AV} {n k ty : Nat} (o : PWord) (hn : n = T'.length) (hg : g 0 = o.cellsY) (e : T' ++ [o] = T) (hk : k = T.length) : OutAt idx ks ⟨ty, 3, k, ysCells T⟩ (some (some ⟨ty, 3, k, joinF n (ysCells T') g⟩)) := by
 subst e; subst hk
 exact outAt_lits (fun i hi => ys_app o hn hg i (by rw [hn]; simpa using hi)) (fun j _ => ysLit _ j)
def YOk (g : List PNode) (e : ET) : Prop := ∀ pre : List PNode, (∀ j, j < (lay e pre).length → nodAt g j = nodAt (lay e pre) j) → (lay e pre).length ≤ g.length → ∀ (ws : List PWord), ws.length + 2 * sizeE e ≤ 6000000 →
 VProc Tryz.prog 47 [.sl 4 g.length (nodCells g), .lit (.int .i64 ((lay e pre).length - 1 : Nat)), .own 0] [ysRow ws] [] (fun av mem maps => av = .own 1 ∧ mem = [none, ysRow (ws ++ yieldW e)] ∧ maps = [])
theorem layPre {e : ET} {pre : List PNode} {g : List PNode} {n : PNode} (hn : ∀ j, j < (lay e pre ++ [n]).length → nodAt g j = nodAt (lay e pre ++ [n]) j) : (∀ j, j < (lay e pre).length → nodAt g j = nodAt (lay e pre) j) ∧ nodAt g (lay e pre).length = n := by
 refine ⟨fun j hj => ?_, ?_⟩
 ·rw [hn j (by simp; omega)]
  simp only [nodAt, List.getD_eq_getElem?_getD]
  rw [List.getElem?_append_left hj]
 ·rw [hn _ (by simp), nodAt_end _ _ rfl]
set_option maxRecDepth 100000 in
theorem yield_leaf (g : List PNode) (hg : g.length ≤ 1048576) (b : Int × ByteArray) (hk : b.1 = 1 ∨ b.1 = 2) : YOk g (.leaf b) := by
 have clg : ∀ (i : Nat) (c : AV), i < g.length → c ∈ nodCells g i → Closed c := fun i c _ h => nodClosed g i c h
 intro pre hn hl ws hw
 have hn' := hn pre.length (by simp [lay])
 simp only [lay] at hn' hl
 rw [nodAt_end _ _ rfl] at hn'
 simp only [List.length_append, List.length_singleton] at hl
 have hi : (lay (.leaf b) pre).length - 1 = pre.length := by simp [lay]
 rw [hi]
 generalize hq : pre.length = q at *
 have c1 := c_l3IsOp (nodAt g q)
 have c2 := c_l3Kids b.1
 have e1 : isOpN (nodAt g q) = false := by simp [isOpN, hn']; omega
 rw [hn'] at e1
 have k0 : kidsN b.1 = 0 := by rcases hk with h | h <;> simp [kidsN, h]
 have k4 : (b.1 == 4) = false := by rcases hk with h | h <;> simp [h]
 simp only [PNode.cells, hn', sizeE, yieldW, ysRow] at c1 hw ⊢
 refine vproc_start Tryz.func47 (by kernel_rfl) rfl (by simp [Tryz.ntmps47]) ?_; simp only [Tryz.ntmps47, Tryz.results47]; simp [go_sem]
 simp [nodCells_at, hn']
 refine ⟨by omega, ?_⟩
 refine vc_drawnE (⟨[(2, .own 0), (7, .ptr 1 4 0 0), (8, .ptr 2 3 0 0)], [ysRow ws, some ⟨77, 4, 1, fun _ => [.lit (.int .i64 b.1), .lit (.string b.2), .lit (.int .i64 0), .lit (.int .i64 0)]⟩, some ⟨83, 3, 1, fun _ => [.lit (.string b.2), .lit (.bool false), .lit (.bool false)]⟩], [], 1⟩) [9] (.q 0 <| .q 1 <| .q 2 <| .q 4 <| .q 5 <| .q 6 <| .or 3 (.q 7 <| .or 8 (.or 9 (.done) (.nil)) (.nil)) (.or 8 (.or 3 (.q 7 <| .or 9 (.done) (.nil)) (.nil)) (.nil))) (by kernel_rfl) ?_ ?_
 ·simp [go_sem]
  refine ⟨vcallV_pure c1 ?_ ?_, vcallV_pure c1 ?_ ?_⟩
  ·simp [go_sem]
  ·simp [go_sem, e1, k4]
   refine ent_ks [0, 1, 2] (by simp) (by simp) (by simp) (by simp) (by simp [go_sem]) ?_ ?_
   ·simp [go_sem]
   ·simp [go_sem, ysRow]
    exact .inr sh0Y
  ·simp [go_sem]
  ·simp [go_sem, e1, k4]
   refine ent_ks [0, 1, 2] (by simp) (by simp) (by simp) (by simp) (by simp [go_sem]) ?_ ?_
   ·simp [go_sem]
   ·simp [go_sem, ysRow]
    exact .inr sh0Y
 ·simp [go_sem, ysRow]
  refine vcall_pure c2 ?_ ?_
  ·simp [go_sem]
  ·simp [go_sem, k0]
   refine ⟨by omega, by omega, ?_⟩
   refine ⟨rfl, [4], [none, ysRow (ws ++ [⟨b.2, false, false⟩])], by simp, by simp, by simp [go_sem], ?_, by simp [go_sem], ?_⟩
   ·simp [go_sem, ysRow]
    exact out1Y ⟨b.2, false, false⟩ rfl rfl rfl (by simp)
   ·simp [go_sem, ysRow]
end Go.Proofs.YtjdmmhcogmepaaaGreatDoor.V
namespace Go.Proofs.YtjdmmhcogmepaaaGreatDoor.V
open Go.RowKit
theorem outAt_all {idx : Nat → Nat} {ks : List Nat} {ob : Ob} (h : ∀ i, (ob.f i).all isLit = true) : OutAt idx ks ob (some (some ob)) = True := eq_true (by
 obtain ⟨ty, sz, n, f⟩ := ob
 exact outAt_lits (fun _ _ => rfl) (fun i _ => h i))
theorem K : (∀ r : Rd, rdOb r = some ⟨138, 2, 1, fun _ => [.sl 1 r.n (rdCells r.f), .lit (.int .i64 r.p)]⟩) ∧ (∀ l : List POp, tab l = some ⟨133, 4, l.length, opCells l⟩) ∧ (∀ t : List PNode, nodRow t = some ⟨77, 4, t.length, nodCells t⟩) ∧ (∀ t : List ByteArray, txRow t = some ⟨9, 1, t.length, txCells t⟩) ∧
  (∀ f i c, (c ∈ rdCells f i → Closed c) = True) ∧ (∀ l i c, (c ∈ opCells l i → Closed c) = True) ∧ (∀ l i c, (c ∈ nodCells l i → Closed c) = True) ∧ (∀ l i c, (c ∈ txCells l i → Closed c) = True) ∧
  (∀ g m l i, CellsRn g m (opCells l i) (opCells l i) = True) ∧ (∀ g m l i, CellsRn g m (nodCells l i) (nodCells l i) = True) ∧ (∀ g m l i, CellsRn g m (txCells l i) (txCells l i) = True) ∧
  (∀ (g : Nat → Nat) ks ty n l, OutAt g ks ⟨ty, 4, n, opCells l⟩ (some (some ⟨ty, 4, n, opCells l⟩)) = True) ∧ (∀ (g : Nat → Nat) ks ty n l, OutAt g ks ⟨ty, 4, n, nodCells l⟩ (some (some ⟨ty, 4, n, nodCells l⟩)) = True) ∧ (∀ (g : Nat → Nat) ks ty n l, OutAt g ks ⟨ty, 1, n, txCells l⟩ (some (some ⟨ty, 1, n, txCells l⟩)) = True) ∧
  (∀ (g : Nat → Nat) ks ty (n p : Nat) f, OutAt g ks ⟨ty, 2, 1, fun _ => [.sl 1 n (rdCells f), .lit (.int .i64 p)]⟩ (some (some ⟨ty, 2, 1, fun _ => [.sl 1 n (rdCells f), .lit (.int .i64 p)]⟩)) = True) :=
 ⟨fun _ => rfl, fun _ => rfl, fun _ => rfl, fun _ => rfl, fun _ _ _ => eq_true (rdClosed _ _ _), fun _ _ _ => eq_true (opClosed _ _ _), fun _ _ _ => eq_true (nodClosed _ _ _), fun _ _ _ => eq_true (txClosed _ _ _),
  fun _ _ _ i => eq_true (cellsRn_lits (opLit _ i)), fun _ _ _ i => eq_true (cellsRn_lits (nodLit _ i)), fun _ _ _ i => eq_true (cellsRn_lits (txLit _ i)),
  fun _ _ _ _ _ => outAt_all fun i => opLit _ i, fun _ _ _ _ _ => outAt_all fun i => nodLit _ i, fun _ _ _ _ _ => outAt_all fun i => txLit _ i, fun _ _ _ _ _ _ => eq_true rdOut⟩
theorem tx_new {g : Nat → Nat} {m : Nat} (T : List ByteArray) (w : ByteArray) : (∀ i, i < T.length + 1 → CellsRn g m (joinF T.length (txCells T) (fun i => [[AV.lit (.string w)]][i]?.getD []) i) (txCells (T ++ [w]) i)) = True := eq_true fun i hi => by
 have : joinF T.length (txCells T) (fun i => [[AV.lit (.string w)]][i]?.getD []) i = txCells (T ++ [w]) i := by
  unfold joinF txCells txAt
  by_cases h : i < T.length
  ·rw [if_pos h, List.getD_eq_getElem?_getD, List.getD_eq_getElem?_getD, List.getElem?_append_left h]
  ·have : i = T.length := by omega
   subst this
   rw [if_neg (by omega), List.getD_eq_getElem?_getD, List.getElem?_append_right (by omega)]
   simp
 rw [this]
 exact cellsRn_lits (txLit _ i)
section
variable {P : Program} {s : VS}
theorem vS {f : FuncId} {avs args' : List AV} {k : AV → VS → Prop} {mem0 : List (Option Ob)} {maps0 : List (Nat × Mp)} {R : AV → List (Option Ob) → List (Nat × Mp) → Prop} (ks : List Nat) (h : VProc P f args' mem0 maps0 R)
  (hk : ∀ av mem' maps', R av mem' maps' → k (ren (backN ks s.mem.length) av) { s with mem := mergeM s.mem ks mem', maps := maps' ++ s.maps })
  (hnd : ks.Nodup := by simp) (ha : CellsRn (fun j => ks.getD j 0) ks.length avs args' := by simp [go_sem, K]) (hs : ShMem (fun j => ks.getD j 0) ks.length s.mem ks mem0 := by simp [go_sem, K]) (hm : MapsLe s.maps maps0 := by simp [go_sem]) : vcallP P f avs s k := vcall_share ks h hnd ha hs hm hk
theorem vE (ks : List Nat) {t t' : List (Nat × AV)} {m m' : List (Option Ob)} {M M' : List (Nat × Mp)} {x : Nat}
  (h4 : MemS (fun j => ks.getD j 0) ks.length m ks m' := by simp [go_sem, K]) (h1 : TmpsR (fun j => ks.getD j 0) ks.length t t' := by simp [go_sem, K]) (hnd : ks.Nodup := by simp) (hlt : ∀ k, k ∈ ks → k < m.length := by simp) (hx : x ≤ ks.length := by simp) (hf : ∀ k, k < x → ks.getD k 0 = k := by first | decide | (dsimp only; decide)) (hM : MapsLe M M' := by simp [go_sem]) : Ent ⟨t, m, M, x⟩ ⟨t', m', M', x⟩ := ent_ks ks hnd hlt hx hf hM h1 h4
theorem vF {maps0 : List (Nat × Mp)} {R : AV → List (Option Ob) → List (Nat × Mp) → Prop} {av : AV} (ex : List Nat) (mem' : List (Option Ob)) 
  (hm : MemOut (idxOut s.fix ex) (outKs s.fix ex) s.mem (outKs s.fix ex) mem' := by simp [go_sem, K]) (hR : R (ren (idxOut s.fix ex) av) mem' s.maps := by simp [go_sem, K]) (h0 : flatV av = true := by rfl) (hnd : ex.Nodup := by simp) (he : ∀ e, e ∈ ex → s.fix ≤ e ∧ e < s.mem.length := by simp) (hq : ∀ q, q ∈ ownsV av → q ∈ outKs s.fix ex := by simp [go_sem]) 
  (hM : ∀ b, (lkm maps0 b).isSome = true → (lkm s.maps b).isSome = true := by simp [go_sem]) : vendP maps0 R s av := ⟨h0, ex, mem', hnd, he, hq, hm, hM, hR⟩
end
end Go.Proofs.YtjdmmhcogmepaaaGreatDoor.V
namespace Go.Proofs.YtjdmmhcogmepaaaGreatDoor.V
open Go.RowKit
def opZ0 : POp := ⟨⟨#[]⟩, 0, 0, 0⟩
def lopO (l : List POp) (k : Nat) : POp := if 0 < l.length then opAt l (k / 8 % l.length) else opZ0
structure LnS where
 out : List ByteArray
 beh : Bool
 opn : Nat
 rd : Rd
def LnS.go (s : LnS) : Bool := (decide (s.out.length < 30) && decide (s.rd.p < s.rd.n)) || !s.beh || decide (0 < s.opn)
def LnS.mu (s : LnS) : Nat := 3 * (s.rd.n - s.rd.p) + s.opn + (if s.beh = true then 0 else 1)
def lnStep (l : List POp) (s : LnS) : LnS :=
 if s.beh = false then
  if s.rd.v % 8 = 1 ∧ s.out.length < 30 then ⟨s.out ++ [⟨#[40]⟩], false, s.opn + 1, s.rd.nx⟩
  else if 4 < s.rd.v % 8 ∧ (lopO l s.rd.v).kind = 1 then ⟨s.out ++ [(lopO l s.rd.v).text], false, s.opn, s.rd.nx⟩
  else ⟨s.out ++ [⟨#[97]⟩ ++ (⟨#[49, 50, 51]⟩ : ByteArray).extract 0 (s.rd.v / 8 % 4)], true, s.opn, s.rd.nx⟩
 else if 0 < s.opn ∧ (s.rd.v % 8 = 0 ∨ 30 ≤ s.out.length ∨ s.rd.nx.n ≤ s.rd.nx.p) then ⟨s.out ++ [⟨#[41]⟩], true, s.opn - 1, s.rd.nx⟩
 else if (lopO l s.rd.v).kind = 3 then ⟨s.out ++ [(lopO l s.rd.v).text], true, s.opn, s.rd.nx⟩
 else if (lopO l s.rd.v).kind = 2 then ⟨s.out ++ [(lopO l s.rd.v).text], false, s.opn, s.rd.nx⟩
 else ⟨s.out, true, s.opn, s.rd.nx⟩
def lineE (l : List POp) : Nat → LnS → LnS
 | 0, s => s
 | i + 1, s => if s.go = true then lineE l i (lnStep l s) else s
theorem lnStep_mu {l : List POp} {s : LnS} (h : s.go = true) : (lnStep l s).mu < s.mu ∧ (lnStep l s).out.length ≤ s.out.length + 1 := by
 obtain ⟨out, beh, opn, ⟨n, f, p⟩⟩ := s
 simp only [LnS.go, Bool.or_eq_true, Bool.and_eq_true, decide_eq_true_eq, Bool.not_eq_true'] at h
 by_cases hp : p < n
 ·have e : (Rd.mk n f p).nx = ⟨n, f, p + 1⟩ := by simp [Rd.nx, hp]
  unfold lnStep LnS.mu
  rw [e]
  cases beh <;> simp only [] <;> repeat' split
  all_goals simp_all
  all_goals omega
 ·have e : (Rd.mk n f p).nx = ⟨n, f, p⟩ := by simp [Rd.nx, hp]
  have e2 : (Rd.mk n f p).v = 0 := by simp [Rd.v, hp]
  unfold lnStep LnS.mu
  rw [e, e2]
  cases beh <;> simp only [] <;> repeat' split
  all_goals simp_all
  all_goals omega
theorem lopO_size {l : List POp} {B : Nat} (hz : ∀ i, i < l.length → (opAt l i).text.size ≤ B) (k : Nat) : (lopO l k).text.size ≤ B := by
 unfold lopO; split
 ·exact hz _ (Nat.mod_lt _ (by assumption))
 ·exact Nat.zero_le _
theorem txAt_app {a : List ByteArray} {x : ByteArray} {B : Nat} (ha : ∀ i, (txAt a i).size ≤ B) (hx : x.size ≤ B) (i : Nat) : (txAt (a ++ [x]) i).size ≤ B := by
 have := ha i
 unfold txAt at this ⊢
 rw [List.getD_eq_getElem?_getD] at this ⊢
 by_cases h : i < a.length
 ·rwa [List.getElem?_append_left h]
 ·rw [List.getElem?_append_right (by omega)]
  by_cases h2 : i - a.length = 0
  ·rw [h2]; exact hx
  ·rw [List.getElem?_eq_none (by simp; omega)]; exact Nat.zero_le _
theorem lnStep_ok {l : List POp} {s : LnS} (h : s.rd.ok) : (lnStep l s).rd.ok := by
 have := Rd.nx_ok h
 unfold lnStep
 repeat' split
 all_goals exact this
theorem lnStep_size {l : List POp} {s : LnS} {B : Nat} (hB : 4 ≤ B) (hz : ∀ i, i < l.length → (opAt l i).text.size ≤ B) (h : ∀ i, (txAt s.out i).size ≤ B) (i : Nat) : (txAt (lnStep l s).out i).size ≤ B := by
 have h1 := lopO_size hz s.rd.v
 have e1 : (⟨#[40]⟩ : ByteArray).size = 1 := rfl
 have e2 : (⟨#[41]⟩ : ByteArray).size = 1 := rfl
 have e3 : (⟨#[97]⟩ : ByteArray).size = 1 := rfl
 have e4 : (⟨#[49, 50, 51]⟩ : ByteArray).size = 3 := rfl
 unfold lnStep
 repeat' split
 all_goals simp only []
 all_goals first | exact h i | exact txAt_app h h1 i | exact txAt_app h (by rw [e1]; omega) i | exact txAt_app h (by rw [e2]; omega) i | exact txAt_app h (by simp only [ByteArray.size_append, ByteArray.size_extract]; omega) i
theorem line_ok {l : List POp} : ∀ (i : Nat) {s : LnS}, s.rd.ok → (lineE l i s).rd.ok
 | 0, s, h => h
 | i + 1, s, h => by
  unfold lineE; split
  ·exact line_ok i (lnStep_ok h)
  ·exact h
theorem line_len {l : List POp} : ∀ (i : Nat) {s : LnS}, (lineE l i s).out.length ≤ s.out.length + s.mu
 | 0, s => Nat.le_add_right _ _
 | i + 1, s => by
  unfold lineE; split
  ·rename_i h
   have := lnStep_mu (l := l) h
   have := line_len (l := l) i (s := lnStep l s)
   omega
  ·omega
theorem line_size {l : List POp} {B : Nat} (hB : 4 ≤ B) (hz : ∀ i, i < l.length → (opAt l i).text.size ≤ B) : ∀ (i : Nat) {s : LnS}, (∀ j, (txAt s.out j).size ≤ B) → ∀ j, (txAt (lineE l i s).out j).size ≤ B
 | 0, s, h => h
 | i + 1, s, h => by
  unfold lineE; split
  ·exact line_size hB hz i (lnStep_size hB hz h)
  ·exact h
theorem line_stop {l : List POp} {s : LnS} (h : s.go = false) : ∀ j, lineE l j s = s
 | 0 => rfl
 | j + 1 => by rw [lineE, h]; rfl
def line0 (l : List POp) (r : Rd) : LnS := lineE l 4000 ⟨[], false, 0, r⟩
set_option maxHeartbeats 4000000 in
set_option maxRecDepth 100000 in
theorem c_l3Line (l : List POp) (hl : l.length ≤ 1000) (r : Rd) (hr : r.ok) : VProc Tryz.prog 129 [.ptr 0 2 0 0, .agg [.own 1]] [rdOb r, tab l] [] (fun av mem maps => av = .own 2 ∧ mem = [rdOb (line0 l r).rd, tab l, txRow (line0 l r).out] ∧ maps = []) := by
 have cr : ∀ (r : Rd) (i : Nat) (c : AV), i < r.n → c ∈ rdCells r.f i → Closed c := fun r i c _ h => rdClosed r.f i c h
 have cl : ∀ (i : Nat) (c : AV), i < l.length → c ∈ opCells l i → Closed c := fun i c _ h => opClosed l i c h
 have hmu0 : (LnS.mk [] false 0 r).mu ≤ 4000 := by have := hr.1; simp [LnS.mu]; omega
 unfold line0
 generalize hR : lineE l 4000 ⟨[], false, 0, r⟩ = R
 simp only [rdOb, tab, txRow]
 refine vproc_start Tryz.func129 (by kernel_rfl) rfl (by simp [Tryz.ntmps129]) ?_; simp only [Tryz.ntmps129, Tryz.results129]; simp [go_sem]
 refine vc_loopE (ι := LnS) (fun s => s.rd.ok ∧ (∃ i, lineE l i s = R ∧ s.mu ≤ i) ∧ s.out.length + s.mu ≤ 4000) (fun s => s.mu) (fun s => ⟨[(0, .ptr 0 2 0 0), (3, .ptr 2 1 0 0), (5, .own 3), (6, .lit (.bool s.beh)), (7, .lit (.int .i64 s.opn))], [rdOb s.rd, tab l, some ⟨30, 1, 1, fun _ => [.own 1]⟩, txRow s.out], [], 2⟩) ⟨⟨[], false, 0, r⟩, ⟨hr, ⟨4000, hR, hmu0⟩, by simpa using hmu0⟩, vE [0, 1, 2, 3]⟩ (fun s hs => ?_)
 obtain ⟨hs1, ⟨i, hs2, hs3⟩, hs4⟩ := hs
 have c1 := c_left s.rd hs1
 have c2 := c_next s.rd hs1
 have c3 := c_left s.rd.nx (Rd.nx_ok hs1)
 have hv := Rd.v_lt hs1
 have hst := lnStep_mu (l := l) (s := s)
 have hso := lnStep_ok (l := l) (s := s) hs1
 have hmu : s.mu = 3 * (s.rd.n - s.rd.p) + s.opn + (if s.beh = true then 0 else 1) := rfl
 have hgo : s.go = ((decide (s.out.length < 30) && decide (s.rd.p < s.rd.n)) || !s.beh || decide (0 < s.opn)) := rfl
 have hfin : s.go = false → s = R := fun h => by
  rw [← hs2]
  cases i with
  | zero => rfl
  | succ i => rw [lineE, h]; rfl
 have hnx : s.go = true → ∃ j, lineE l j (lnStep l s) = R ∧ (lnStep l s).mu ≤ j := fun h => by
  have := hst h
  cases i with
  | zero => omega
  | succ i => refine ⟨i, ?_, by omega⟩; rw [← hs2, lineE, h]; rfl
 have hdef : lnStep l s = lnStep l s := rfl
 conv at hdef => rhs; unfold lnStep
 obtain ⟨out, beh, opn, q⟩ := s
 simp only at *
 clear hs2 hs3
 have e8 : (q.v : Int).tmod 8 = ((q.v % 8 : Nat) : Int) := tmod_nat q.v 8
 have e4 : (IntKind.i64.wrap ((q.v : Int) / 8)).tmod 4 = ((q.v / 8 % 4 : Nat) : Int) := quo_rem q.v 8 4 (by omega)
 have ex : (IntKind.i64.wrap ((q.v : Int) / 8)).tmod l.length = ((q.v / 8 % l.length : Nat) : Int) := quo_rem q.v 8 l.length (by omega)
 have hlp : (0 < l.length) = ¬ l = [] := by rw [List.length_pos_iff]
 have hlo : lopO l q.v = if 0 < l.length then opAt l (q.v / 8 % l.length) else opZ0 := rfl
 have hmx : 0 < l.length → q.v / 8 % l.length < l.length := Nat.mod_lt _
 have h4 : q.v / 8 % 4 < 4 := Nat.mod_lt _ (by decide)
 generalize q.v / 8 % l.length = x at *
 generalize q.v / 8 % 4 = y at *
 have ewo : IntKind.i64.wrap ((opn : Int) + 1) = ((opn + 1 : Nat) : Int) := by rw [wrap_i64 (by omega)]; omega
 have hcat : ¬ 9223372036854775807 < 1 + min y 3 := by omega
 by_cases hl : q.n - q.p = 0
 all_goals
  cases beh
  ·have hG : (LnS.mk out false opn q).go = true := by rw [hgo]; simp
   obtain ⟨j, hj1, hj2⟩ := hnx hG
   have hst := hst hG
   clear hfin hgo hnx
   simp [go_sem, K, hl]
   refine ⟨by omega, fun h30 => vS [0] c1 ?_, fun h30 => ?_⟩
   case' refine_1 =>
    rintro av mem maps ⟨rfl, rfl, rfl⟩
    simp [go_sem, K, hl]
   all_goals
    try intro _
    refine vS [0] c2 ?_
    rintro av mem maps ⟨rfl, rfl, rfl⟩
    by_cases hne : l = []
    ·subst hne
     rw [if_neg (by simp)] at hlo
     rw [hlo] at hdef
     simp [go_sem, K, e8, e4, hcat]
     refine ⟨fun h1 => ⟨by omega, fun h2 => ?_, fun h2 => ?_⟩, fun h1 => ?_⟩
     ·rw [if_pos rfl, if_pos ⟨by omega, by omega⟩] at hdef
      rw [hdef] at hst hso hj1 hj2
      exact ⟨by omega, by omega, _, ⟨hso, ⟨j, hj1, hj2⟩, by omega⟩, hst.1, vE [0, 1, 2, 6] (by simp [go_sem, K, tx_new]) (by simp [go_sem, ewo])⟩
     all_goals
      rw [if_pos rfl, if_neg (by omega), if_neg (by simp [opZ0])] at hdef
      rw [hdef] at hst hso hj1 hj2
      exact ⟨fun _ => ⟨by omega, by omega, by omega, _, ⟨hso, ⟨j, hj1, hj2⟩, by omega⟩, hst.1, vE [0, 1, 2, 6] (by simp [go_sem, K, tx_new]) (by simp [go_sem])⟩, fun _ => ⟨by omega, by omega, by omega, _, ⟨hso, ⟨j, hj1, hj2⟩, by omega⟩, hst.1, vE [0, 1, 2, 6] (by simp [go_sem, K, tx_new]) (by simp [go_sem])⟩⟩
    ·rw [if_pos (List.length_pos_iff.2 hne)] at hlo
     rw [hlo] at hdef
     have hx := hmx (List.length_pos_iff.2 hne)
     simp [go_sem, K, hne]
     refine ⟨by omega, fun _ => vc_drawn [10] (.q 0 <| .q 1 <| .q 2 <| .q 3 <| .q 4 <| .q 5 <| .q 6 <| .q 7 <| .q 8 <| .q 9 <| .or 10 (.done) (.nil)) (by kernel_rfl) ?_⟩
     simp [go_sem, K, hne, e8, ex, e4, opCells_at, hcat]
     refine ⟨by omega, hx, fun h1 => ⟨by omega, fun h2 => ?_, fun h2 => ?_⟩, fun h1 => ?_⟩
     ·rw [if_pos rfl, if_pos ⟨by omega, by omega⟩] at hdef
      rw [hdef] at hst hso hj1 hj2
      exact ⟨by omega, by omega, _, ⟨hso, ⟨j, hj1, hj2⟩, by omega⟩, hst.1, vE [0, 1, 2, 6] (by simp [go_sem, K, tx_new]) (by simp [go_sem, ewo])⟩
     all_goals
      rw [if_pos rfl, if_neg (by omega)] at hdef
      refine ⟨fun h3 => ⟨fun h4 => ?_, fun h4 => ?_⟩, fun h3 => ?_⟩
      ·rw [if_pos ⟨by omega, h4⟩] at hdef
       rw [hdef] at hst hso hj1 hj2
       exact ⟨by omega, by omega, _, ⟨hso, ⟨j, hj1, hj2⟩, by omega⟩, hst.1, vE [0, 1, 2, 6] (by simp [go_sem, K, tx_new]) (by simp [go_sem])⟩
      all_goals
       rw [if_neg (by omega)] at hdef
       rw [hdef] at hst hso hj1 hj2
       exact ⟨by omega, by omega, by omega, _, ⟨hso, ⟨j, hj1, hj2⟩, by omega⟩, hst.1, vE [0, 1, 2, 6] (by simp [go_sem, K, tx_new]) (by simp [go_sem])⟩
  ·have hex : ∀ (S : LnS) ts a, S = R → vendP [] (fun av mem maps => av = .own 2 ∧ mem = [rdOb R.rd, tab l, txRow R.out] ∧ maps = []) ⟨ts, [rdOb S.rd, tab l, some ⟨30, 1, 1, fun _ => [.own 1]⟩, txRow S.out, a], [], 2⟩ (.own 3) := fun S ts a h => by
    subst h
    exact vF [3] [rdOb S.rd, tab l, txRow S.out]
   have hex0 : ∀ (S : LnS) ts, S = R → vendP [] (fun av mem maps => av = .own 2 ∧ mem = [rdOb R.rd, tab l, txRow R.out] ∧ maps = []) ⟨ts, [rdOb S.rd, tab l, some ⟨30, 1, 1, fun _ => [.own 1]⟩, txRow S.out], [], 2⟩ (.own 3) := fun S ts h => by
    subst h
    exact vF [3] [rdOb S.rd, tab l, txRow S.out]
   have hnl : ¬ l = [] → 0 < l.length := List.length_pos_iff.2
   have ewp : 0 < opn → IntKind.i64.wrap ((opn : Int) - 1) = ((opn - 1 : Nat) : Int) := fun h => by rw [wrap_i64 (by omega)]; omega
   by_cases ho : opn = 0
   ·subst ho
    simp [go_sem, K, hl]
    refine ⟨by omega, fun h30 => vS [0] c1 ?_, fun h30 => ?_⟩
    ·rintro av mem maps ⟨rfl, rfl, rfl⟩
     simp [go_sem, K, hl]
     first
     |exact hex0 ⟨out, true, 0, q⟩ _ (hfin (by rw [hgo]; simp; omega))
     |intro h0
      have hG : (LnS.mk out true 0 q).go = true := by rw [hgo]; simp; omega
      obtain ⟨j, hj1, hj2⟩ := hnx hG
      have hst := hst hG
      refine vS [0] c2 ?_
      rintro av mem maps ⟨rfl, rfl, rfl⟩
      rw [if_neg (by simp), if_neg (by omega)] at hdef
      by_cases hne : l = []
      case' neg =>
       rw [if_pos (hnl hne)] at hlo
       simp [go_sem, K, hne]
       refine ⟨by omega, fun _ => vc_drawn [10] (.q 0 <| .q 1 <| .q 2 <| .q 3 <| .q 4 <| .q 5 <| .q 6 <| .q 7 <| .q 8 <| .q 9 <| .or 10 (.done) (.nil)) (by kernel_rfl) ?_⟩
       simp [go_sem, K, hne, ex, opCells_at]
       refine ⟨by omega, hmx (hnl hne), fun h4 => ?_, fun h4 => ⟨fun h5 => ?_, fun h5 => ?_⟩⟩
      case' pos =>
       subst hne
       rw [if_neg (by simp)] at hlo
       simp [go_sem, K]
      case refine_1 =>
       rw [hlo, if_pos h4] at hdef
       rw [hdef] at hst hso hj1 hj2
       exact ⟨by omega, by omega, _, ⟨hso, ⟨j, hj1, hj2⟩, by omega⟩, hst.1, vE [0, 1, 2, 6] (by simp [go_sem, K, tx_new]) (by simp [go_sem])⟩
      case refine_2 =>
       rw [hlo, if_neg h4, if_pos h5] at hdef
       rw [hdef] at hst hso hj1 hj2
       exact ⟨by omega, by omega, _, ⟨hso, ⟨j, hj1, hj2⟩, by omega⟩, hst.1, vE [0, 1, 2, 6] (by simp [go_sem, K, tx_new]) (by simp [go_sem])⟩
      all_goals
       rw [hlo, if_neg (by first | exact h4 | simp [opZ0]), if_neg (by first | exact h5 | simp [opZ0])] at hdef
       rw [hdef] at hst hso hj1 hj2
       refine vS [0] c3 ?_
       rintro av mem maps ⟨rfl, rfl, rfl⟩
       by_cases h6 : q.nx.n - q.nx.p = 0
       ·simp [go_sem, K, h6]
        exact hex ⟨out, true, 0, q.nx⟩ _ _ (by rw [← hj1, line_stop (by simp [LnS.go]; omega)])
       ·have h7 : 0 < q.nx.n - q.nx.p := by omega
        simp [go_sem, K, h6, h7]
        exact ⟨_, ⟨hso, ⟨j, hj1, hj2⟩, by omega⟩, hst.1, vE [0, 1, 2, 3]⟩
    ·exact hex0 ⟨out, true, 0, q⟩ _ (hfin (by rw [hgo]; simp; omega))
   ·have hop : 0 < opn := by omega
    have hG : (LnS.mk out true opn q).go = true := by rw [hgo]; simp; omega
    obtain ⟨j, hj1, hj2⟩ := hnx hG
    have hst := hst hG
    have ewp := ewp hop
    simp [go_sem, K, hl, hop]
    refine ⟨by omega, fun h30 => vS [0] c1 ?_, fun h30 => ?_⟩
    case' refine_1 =>
     rintro av mem maps ⟨rfl, rfl, rfl⟩
     simp [go_sem, K, hl, hop]
    all_goals
     try intro _
     refine vS [0] c2 ?_
     rintro av mem maps ⟨rfl, rfl, rfl⟩
     rw [if_neg (by simp)] at hdef
     by_cases hne : l = []
     case' neg =>
      rw [if_pos (hnl hne)] at hlo
      simp [go_sem, K, hne, hop]
      refine ⟨by omega, fun _ => vc_drawn [10] (.q 0 <| .q 1 <| .q 2 <| .q 3 <| .q 4 <| .q 5 <| .q 6 <| .q 7 <| .q 8 <| .q 9 <| .or 10 (.done) (.nil)) (by kernel_rfl) ?_⟩
      simp [go_sem, K, hne, ex, opCells_at, hop, e8]
      refine ⟨by omega, hmx (hnl hne), ?_⟩
     case' pos =>
      subst hne
      rw [if_neg (by simp)] at hlo
      simp [go_sem, K, hop, e8]
     all_goals
      refine ⟨fun h1 => ⟨by omega, fun h2 => vS [0] c3 ?_, fun h2 => ?_⟩, fun h1 => ?_⟩
      case' refine_1 =>
       rintro av mem maps ⟨rfl, rfl, rfl⟩
       by_cases h6 : q.nx.n - q.nx.p = 0
       case' neg =>
        have h7 : 0 < q.nx.n - q.nx.p := by omega
        simp [go_sem, K, h6, h7, opCells_at]
        rw [if_neg (by omega)] at hdef
        try refine ⟨fun h4 => ?_, fun h4 => ⟨fun h5 => ?_, fun h5 => ?_⟩⟩
        try case refine_1 =>
         rw [hlo, if_pos h4] at hdef
         rw [hdef] at hst hso hj1 hj2
         exact ⟨by omega, by omega, _, ⟨hso, ⟨j, hj1, hj2⟩, by omega⟩, hst.1, vE [0, 1, 2, 6] (by simp [go_sem, K, tx_new]) (by simp [go_sem])⟩
        try case refine_2 =>
         rw [hlo, if_neg h4, if_pos h5] at hdef
         rw [hdef] at hst hso hj1 hj2
         exact ⟨by omega, by omega, _, ⟨hso, ⟨j, hj1, hj2⟩, by omega⟩, hst.1, vE [0, 1, 2, 6] (by simp [go_sem, K, tx_new]) (by simp [go_sem])⟩
        rw [hlo, if_neg (by first | exact h4 | simp [opZ0]), if_neg (by first | exact h5 | simp [opZ0])] at hdef
        rw [hdef] at hst hso hj1 hj2
        refine vS [0] c3 ?_
        rintro av mem maps ⟨rfl, rfl, rfl⟩
        simp [go_sem, K, h6, h7]
        exact ⟨_, ⟨hso, ⟨j, hj1, hj2⟩, by omega⟩, hst.1, vE [0, 1, 2, 3]⟩
       simp [go_sem, K, h6]
      all_goals
       rw [if_pos (by omega)] at hdef
       rw [hdef] at hst hso hj1 hj2
       exact ⟨by omega, by omega, _, ⟨hso, ⟨j, hj1, hj2⟩, by omega⟩, hst.1, vE [0, 1, 2, 6] (by simp [go_sem, K, tx_new]) (by simp [go_sem, ewp])⟩
open Go.Proofs.YtjdmmhcogmepaaaGreatDoor.Ops (Tr)
def wordsE (e : ET) : List ByteArray := (yieldW e).map (·.text)
theorem wordsE_len (e : ET) : (wordsE e).length ≤ 2 * sizeE e := by rw [wordsE, List.length_map]; exact yieldW_len e
def RowIs (f : Nat → List AV) (ws : List ByteArray) : Prop := ∀ i, i < ws.length → f i = txCells ws i
theorem RowIs.rfl {ws : List ByteArray} : RowIs (txCells ws) ws := fun _ _ => _root_.rfl
theorem RowIs.one {z : ByteArray} : RowIs (fun i => [[AV.lit (.string z)]][i]?.getD []) [z] := fun i hi => by
 obtain rfl : i = 0 := by simpa using hi
 exact _root_.rfl
theorem RowIs.nil {f : Nat → List AV} : RowIs f [] := fun i hi => by simp at hi
theorem RowIs.join {n : Nat} {f g : Nat → List AV} {a b : List ByteArray} (hf : RowIs f a) (hg : RowIs g b) (hn : n = a.length) : RowIs (joinF n f g) (a ++ b) := fun i hi => by
 subst hn
 unfold joinF txCells txAt
 by_cases h : i < a.length
 ·rw [if_pos h, hf i h, List.getD_eq_getElem?_getD, List.getElem?_append_left h]
  simp [txCells, txAt]
 ·simp only [List.length_append] at hi
  rw [if_neg h, hg _ (by omega), List.getD_eq_getElem?_getD, List.getElem?_append_right (by omega)]
  simp [txCells, txAt]
theorem tx_same {ty n : Nat} {f : Nat → List AV} {ws ws' : List ByteArray} (h : RowIs f ws) (e : ws = ws') (hn : n = ws'.length) : ObsSame [⟨ty, 1, n, f⟩] [⟨ty, 1, ws'.length, txCells ws'⟩] := by
 subst e; subst hn
 exact obsSame_one.mpr ⟨⟨ty, 1, ws.length, txCells ws⟩, ⟨rfl, rfl, rfl, fun j hj => ⟨h j hj, txLit _ j⟩⟩, rfl⟩
def WOk (g : List PNode) (e : ET) : Prop := ∀ pre : List PNode, (∀ j, j < (lay e pre).length → nodAt g j = nodAt (lay e pre) j) → (lay e pre).length ≤ g.length →
 VFun Tryz.prog 131 [.sl 4 g.length (nodCells g), .lit (.int .i64 ((lay e pre).length - 1 : Nat))] (fun av obs => av = .own 0 ∧ obs = [⟨9, 1, (wordsE e).length, txCells (wordsE e)⟩])
set_option maxRecDepth 100000 in
theorem words_leaf (g : List PNode) (hg : g.length ≤ 1048576) (b : Int × ByteArray) (hk : b.1 = 1 ∨ b.1 = 2) : WOk g (.leaf b) := by
 intro pre hn hl
 have hn' := hn pre.length (by simp [lay])
 simp only [lay] at hn' hl
 rw [nodAt_end _ _ rfl] at hn'
 simp only [List.length_append, List.length_singleton] at hl
 have hi : (lay (.leaf b) pre).length - 1 = pre.length := by simp [lay]
 rw [hi]
 generalize hq : pre.length = q at *
 have c2 := c_l3Kids b.1
 have k0 : kidsN b.1 = 0 := by rcases hk with h | h <;> simp [kidsN, h]
 refine vfun_start Tryz.func131 (by kernel_rfl) rfl (by simp [Tryz.ntmps131]) ?_; simp only [Tryz.ntmps131, Tryz.results131]; simp [go_sem]
 simp [go_sem, nodCells_at, hn']
 refine ⟨by omega, vcall_pure c2 (by simp [go_sem]) ?_⟩
 simp [go_sem, k0]
 exact tx_same .one rfl rfl
set_option maxRecDepth 100000 in
theorem words_pre (g : List PNode) (hg : g.length ≤ 1048576) {o : POp} {e : ET} (hk : o.kind = 1) (ih : WOk g e) : WOk g (.pre o e) := by
 obtain ⟨z, k, lv, sd⟩ := o
 simp only at hk
 subst hk
 intro pre hn hl
 simp only [lay] at hn hl ⊢
 obtain ⟨hsub, hn''⟩ := layPre hn
 have hle1 := lay_len e pre
 have hp := sizeE_pos e
 have hyl := wordsE_len e
 simp only [List.length_append, List.length_singleton, Nat.add_sub_cancel] at hl ⊢
 have ih1 := ih pre hsub (by omega)
 have hn' : nodAt g (lay e pre).length = ⟨z, 3, ((lay e pre).length : Int) - 1, 0⟩ := hn''
 generalize hq : (lay e pre).length = q at *
 have ea : (q : Int) - 1 = ((q - 1 : Nat) : Int) := by omega
 have c2 := c_l3Kids 3
 have kk : kidsN 3 = 1 := by simp [kidsN]
 refine vfun_start Tryz.func131 (by kernel_rfl) rfl (by simp [Tryz.ntmps131]) ?_; simp only [Tryz.ntmps131, Tryz.results131]; simp [go_sem]
 simp [go_sem, nodCells_at, hn']
 refine ⟨by omega, vcall_pure c2 (by simp [go_sem]) ?_⟩
 simp [go_sem, kk, ea]
 refine vcall_use ih1 (by simp [go_sem]; exact argSl_refl (by omega) fun i c _ h => nodClosed g i c h) ?_
 rintro av obs ⟨rfl, rfl⟩
 simp [go_sem]
 exact ⟨by omega, by omega, tx_same ((RowIs.nil.join .one rfl).join .rfl rfl) rfl (by simp [wordsE, yieldW] <;> omega)⟩
set_option maxRecDepth 100000 in
theorem words_grp (g : List PNode) (hg : g.length ≤ 1048576) {e : ET} (ih : WOk g e) : WOk g (.grp e) := by
 intro pre hn hl
 simp only [lay] at hn hl ⊢
 obtain ⟨hsub, hn''⟩ := layPre hn
 have hle1 := lay_len e pre
 have hp := sizeE_pos e
 have hyl := wordsE_len e
 simp only [List.length_append, List.length_singleton, Nat.add_sub_cancel] at hl ⊢
 have ih1 := ih pre hsub (by omega)
 have hn' : nodAt g (lay e pre).length = ⟨⟨#[]⟩, 6, ((lay e pre).length : Int) - 1, 0⟩ := hn''
 generalize hq : (lay e pre).length = q at *
 have ea : (q : Int) - 1 = ((q - 1 : Nat) : Int) := by omega
 have c2 := c_l3Kids 6
 have kk : kidsN 6 = 1 := by simp [kidsN]
 refine vfun_start Tryz.func131 (by kernel_rfl) rfl (by simp [Tryz.ntmps131]) ?_; simp only [Tryz.ntmps131, Tryz.results131]; simp [go_sem]
 simp [go_sem, nodCells_at, hn']
 refine ⟨by omega, vcall_pure c2 (by simp [go_sem]) ?_⟩
 simp [go_sem, kk, ea]
 refine vcall_use ih1 (by simp [go_sem]; exact argSl_refl (by omega) fun i c _ h => nodClosed g i c h) ?_
 rintro av obs ⟨rfl, rfl⟩
 simp [go_sem]
 exact ⟨by omega, by omega, by omega, by omega, tx_same (((RowIs.nil.join .one rfl).join .rfl rfl).join .one (by simp <;> omega)) (by simp [wordsE, yieldW, lpar, rpar]) (by simp [wordsE, yieldW] <;> omega)⟩
set_option maxRecDepth 100000 in
theorem words_post (g : List PNode) (hg : g.length ≤ 1048576) {o : POp} {e : ET} (hk : o.kind = 3) (ih : WOk g e) : WOk g (.post o e) := by
 obtain ⟨z, k, lv, sd⟩ := o
 simp only at hk
 subst hk
 intro pre hn hl
 simp only [lay] at hn hl ⊢
 obtain ⟨hsub, hn''⟩ := layPre hn
 have hle1 := lay_len e pre
 have hp := sizeE_pos e
 have hyl := wordsE_len e
 simp only [List.length_append, List.length_singleton, Nat.add_sub_cancel] at hl ⊢
 have ih1 := ih pre hsub (by omega)
 have hn' : nodAt g (lay e pre).length = ⟨z, 5, ((lay e pre).length : Int) - 1, 0⟩ := hn''
 generalize hq : (lay e pre).length = q at *
 have ea : (q : Int) - 1 = ((q - 1 : Nat) : Int) := by omega
 have c2 := c_l3Kids 5
 have kk : kidsN 5 = 1 := by simp [kidsN]
 refine vfun_start Tryz.func131 (by kernel_rfl) rfl (by simp [Tryz.ntmps131]) ?_; simp only [Tryz.ntmps131, Tryz.results131]; simp [go_sem]
 simp [go_sem, nodCells_at, hn']
 refine ⟨by omega, vcall_pure c2 (by simp [go_sem]) ?_⟩
 simp [go_sem, kk, ea]
 refine vcall_use ih1 (by simp [go_sem]; exact argSl_refl (by omega) fun i c _ h => nodClosed g i c h) ?_
 rintro av obs ⟨rfl, rfl⟩
 simp [go_sem]
 refine vc_drawn [2,6] (.q 0 <| .q 1 <| .or 2 (.q 3 <| .q 4 <| .or 5 (.or 6 (.q 7 <| .done) (.nil)) (.nil)) (.or 3 (.or 2 (.q 4 <| .or 5 (.or 6 (.q 7 <| .done) (.nil)) (.nil)) (.or 4 (.or 2 (.or 5 (.or 6 (.q 7 <| .done) (.nil)) (.nil)) (.or 5 (.or 2 (.or 6 (.q 7 <| .done) (.nil)) (.nil)) (.nil))) (.nil))) (.nil))) (by kernel_rfl) ?_
 simp [go_sem]
 exact ⟨by omega, by omega, by omega, by omega, tx_same ((RowIs.nil.join .rfl rfl).join .one rfl) (by simp [wordsE, yieldW, opWord]) (by simp [wordsE, yieldW])⟩
set_option maxRecDepth 100000 in
theorem words_inf (g : List PNode) (hg : g.length ≤ 1048576) {o : POp} {x y : ET} (hk : o.kind = 2) (ihx : WOk g x) (ihy : WOk g y) : WOk g (.inf o x y) := by
 obtain ⟨z, k, lv, sd⟩ := o
 simp only at hk
 subst hk
 intro pre hn hl
 simp only [lay] at hn hl ⊢
 obtain ⟨hsub, hn''⟩ := layPre hn
 have hle1 := lay_len x pre
 have hle2 := lay_len y (lay x pre)
 have hp := sizeE_pos x
 have hp2 := sizeE_pos y
 have hyl := wordsE_len x
 have hyl2 := wordsE_len y
 simp only [List.length_append, List.length_singleton, Nat.add_sub_cancel] at hl ⊢
 have ih2 := ihy (lay x pre) hsub (by omega)
 have ih1 := ihx pre (fun j hj => by rw [hsub j (by omega), lay_pre y _ j hj]) (by omega)
 have hn' : nodAt g (lay y (lay x pre)).length = ⟨z, 4, ((lay x pre).length : Int) - 1, ((lay y (lay x pre)).length : Int) - 1⟩ := hn''
 generalize hq : (lay y (lay x pre)).length = q at *
 generalize hr : (lay x pre).length = p at *
 have ea : (q : Int) - 1 = ((q - 1 : Nat) : Int) := by omega
 have eb : (p : Int) - 1 = ((p - 1 : Nat) : Int) := by omega
 have c2 := c_l3Kids 4
 have kk : kidsN 4 = 2 := by simp [kidsN]
 refine vfun_start Tryz.func131 (by kernel_rfl) rfl (by simp [Tryz.ntmps131]) ?_; simp only [Tryz.ntmps131, Tryz.results131]; simp [go_sem]
 simp [go_sem, nodCells_at, hn']
 refine ⟨by omega, vcall_pure c2 (by simp [go_sem]) ?_⟩
 simp [go_sem, kk, ea, eb]
 refine vcall_use ih1 (by simp [go_sem]; exact argSl_refl (by omega) fun i c _ h => nodClosed g i c h) ?_
 rintro av obs ⟨rfl, rfl⟩
 simp [go_sem]
 refine vc_drawn [2,6] (.q 0 <| .q 1 <| .or 2 (.q 3 <| .q 4 <| .or 5 (.or 6 (.q 7 <| .done) (.nil)) (.nil)) (.or 3 (.or 2 (.q 4 <| .or 5 (.or 6 (.q 7 <| .done) (.nil)) (.nil)) (.or 4 (.or 2 (.or 5 (.or 6 (.q 7 <| .done) (.nil)) (.nil)) (.or 5 (.or 2 (.or 6 (.q 7 <| .done) (.nil)) (.nil)) (.nil))) (.nil))) (.nil))) (by kernel_rfl) ?_
 simp [go_sem]
 repeat' apply And.intro
 all_goals first | omega | skip
 all_goals
  refine vcall_use ih2 (by simp [go_sem]; exact argSl_refl (by omega) fun i c _ h => nodClosed g i c h) ?_
  rintro av obs ⟨rfl, rfl⟩
  simp [go_sem]
  exact ⟨by omega, by omega, tx_same (((RowIs.nil.join .rfl rfl).join .one rfl).join .rfl (by simp [wordsE])) (by simp [wordsE, yieldW, opWord]) (by simp [wordsE, yieldW] <;> omega)⟩
theorem c_l3Words {l : List POp} (g : List PNode) (hg : g.length ≤ 1048576) : ∀ e : ET, InTab l e → WOk g e
 | .leaf b, h => words_leaf g hg b h
 | .grp e, h => words_grp g hg (c_l3Words g hg e h)
 | .pre o e, h => words_pre g hg h.1 (c_l3Words g hg e h.2.2.2)
 | .post o e, h => words_post g hg h.1 (c_l3Words g hg e h.2.2.2)
 | .inf o x y, h => words_inf g hg h.1 (c_l3Words g hg x h.2.2.2.1) (c_l3Words g hg y h.2.2.2.2)
def moreG (e : ET) (r : Rd) : ET × Rd := (if r.v % 6 = 5 then .grp e else e, r.nx)
def moreE : ET → Rd → ET × Rd
 | .leaf b, r => moreG (.leaf b) r
 | .grp e, r => moreG (.grp (moreE e r).1) (moreE e r).2
 | .pre o e, r => moreG (.pre o (moreE e r).1) (moreE e r).2
 | .post o e, r => moreG (.post o (moreE e r).1) (moreE e r).2
 | .inf o x y, r => moreG (.inf o (moreE x r).1 (moreE y (moreE x r).2).1) (moreE y (moreE x r).2).2
theorem moreG_size (e : ET) (r : Rd) : sizeE (moreG e r).1 ≤ sizeE e + 1 := by
 unfold moreG; simp only; split
 ·simp only [sizeE]; omega
 ·omega
theorem moreE_size : ∀ (e : ET) (r : Rd), sizeE (moreE e r).1 ≤ 2 * sizeE e
 | .leaf b, r => by have := moreG_size (.leaf b) r; simp only [moreE, sizeE] at *; omega
 | .grp e, r => by have := moreE_size e r; have := moreG_size (.grp (moreE e r).1) (moreE e r).2; simp only [moreE, sizeE] at *; omega
 | .pre o e, r => by have := moreE_size e r; have := moreG_size (.pre o (moreE e r).1) (moreE e r).2; simp only [moreE, sizeE] at *; omega
 | .post o e, r => by have := moreE_size e r; have := moreG_size (.post o (moreE e r).1) (moreE e r).2; simp only [moreE, sizeE] at *; omega
 | .inf o x y, r => by have := moreE_size x r; have := moreE_size y (moreE x r).2; have := moreG_size (.inf o (moreE x r).1 (moreE y (moreE x r).2).1) (moreE y (moreE x r).2).2; simp only [moreE, sizeE] at *; omega
theorem moreE_ok : ∀ (e : ET) {r : Rd}, r.ok → (moreE e r).2.ok
 | .leaf b, r, h => Rd.nx_ok h
 | .grp e, r, h => Rd.nx_ok (moreE_ok e h)
 | .pre o e, r, h => Rd.nx_ok (moreE_ok e h)
 | .post o e, r, h => Rd.nx_ok (moreE_ok e h)
 | .inf o x y, r, h => Rd.nx_ok (moreE_ok y (moreE_ok x h))
theorem moreG_tab {l : List POp} {e : ET} {r : Rd} (h : InTab l e) : InTab l (moreG e r).1 := by
 unfold moreG; simp only; split <;> exact h
theorem moreE_tab {l : List POp} : ∀ (e : ET) {r : Rd}, InTab l e → InTab l (moreE e r).1
 | .leaf b, r, h => moreG_tab h
 | .grp e, r, h => moreG_tab (e := .grp _) (moreE_tab e h)
 | .pre o e, r, h => moreG_tab (e := .pre _ _) ⟨h.1, h.2.1, h.2.2.1, moreE_tab e h.2.2.2⟩
 | .post o e, r, h => moreG_tab (e := .post _ _) ⟨h.1, h.2.1, h.2.2.1, moreE_tab e h.2.2.2⟩
 | .inf o x y, r, h => moreG_tab (e := .inf _ _ _) ⟨h.1, h.2.1, h.2.2.1, moreE_tab x h.2.2.2.1, moreE_tab y h.2.2.2.2⟩
theorem moreG_tx {B : Nat} {e : ET} {r : Rd} (h : ETx B e) : ETx B (moreG e r).1 := by
 unfold moreG; simp only; split <;> exact h
theorem moreE_tx {B : Nat} : ∀ (e : ET) {r : Rd}, ETx B e → ETx B (moreE e r).1
 | .leaf b, r, h => moreG_tx h
 | .grp e, r, h => moreG_tx (e := .grp _) (moreE_tx e h)
 | .pre o e, r, h => moreG_tx (e := .pre _ _) ⟨h.1, moreE_tx e h.2⟩
 | .post o e, r, h => moreG_tx (e := .post _ _) ⟨h.1, moreE_tx e h.2⟩
 | .inf o x y, r, h => moreG_tx (e := .inf _ _ _) ⟨h.1, moreE_tx x h.2.1, moreE_tx y h.2.2⟩
def NodIs (f : Nat → List AV) (ws : List PNode) : Prop := ∀ i, i < ws.length → f i = nodCells ws i
theorem NodIs.rfl {ws : List PNode} : NodIs (nodCells ws) ws := fun _ _ => _root_.rfl
theorem NodIs.app {n : Nat} {f g : Nat → List AV} {a : List PNode} {o : PNode} (hf : NodIs f a) (hg : g 0 = o.cells) (hn : n = a.length) : NodIs (joinF n f g) (a ++ [o]) := fun i hi => by
 subst hn
 unfold joinF
 by_cases h : i < a.length
 ·rw [if_pos h, hf i h, nodCells, nodCells, List.getD_eq_getElem?_getD, List.getD_eq_getElem?_getD, List.getElem?_append_left h]
 ·simp only [List.length_append, List.length_singleton] at hi
  obtain rfl : i = a.length := by omega
  rw [if_neg h, Nat.sub_self, hg, nodCells, List.getD_eq_getElem?_getD, List.getElem?_append_right (by omega)]
  simp
theorem nod_out {idx : Nat → Nat} {ks : List Nat} {ty n n' : Nat} {f : Nat → List AV} {T : List PNode} (h : NodIs f T) (hn : n = T.length := by simp) (hn' : n' = T.length := by simp) : OutAt idx ks ⟨ty, 4, n', nodCells T⟩ (some (some ⟨ty, 4, n, f⟩)) := by
 subst hn; subst hn'
 exact outAt_lits h fun i _ => nodLit _ i
theorem tx_out {idx : Nat → Nat} {ks : List Nat} {ty n n' : Nat} {f : Nat → List AV} {T : List ByteArray} (h : RowIs f T) (hn : n = T.length := by simp) (hn' : n' = T.length := by simp) : OutAt idx ks ⟨ty, 1, n', txCells T⟩ (some (some ⟨ty, 1, n, f⟩)) := by
 subst hn; subst hn'
 exact outAt_lits h fun i _ => txLit _ i
def MOk (g : List PNode) (e : ET) : Prop := ∀ pre : List PNode, (∀ j, j < (lay e pre).length → nodAt g j = nodAt (lay e pre) j) → (lay e pre).length ≤ g.length → ∀ (r : Rd), r.ok → ∀ out : List PNode, out.length + 2 * sizeE e ≤ 1000000 →
 VProc Tryz.prog 130 [.ptr 0 2 0 0, .sl 4 g.length (nodCells g), .lit (.int .i64 ((lay e pre).length - 1 : Nat)), .own 1] [rdOb r, nodRow out] [] (fun av mem maps => av = .own 2 ∧ mem = [rdOb (moreE e r).2, none, nodRow (lay (moreE e r).1 out)] ∧ maps = [])
set_option maxRecDepth 100000 in
theorem more_leaf (g : List PNode) (hg : g.length ≤ 1048576) (b : Int × ByteArray) (hk : b.1 = 1 ∨ b.1 = 2) : MOk g (.leaf b) := by
 intro pre hn hl r hr out ho
 have hn' := hn pre.length (by simp [lay])
 simp only [lay] at hn' hl
 rw [nodAt_end _ _ rfl] at hn'
 simp only [List.length_append, List.length_singleton] at hl
 have hi : (lay (.leaf b) pre).length - 1 = pre.length := by simp [lay]
 rw [hi]
 generalize hq : pre.length = q at *
 have c2 := c_l3Kids b.1
 have c1 := c_next r hr
 have k0 : kidsN b.1 = 0 := by rcases hk with h | h <;> simp [kidsN, h]
 have e6 : (r.v : Int).tmod 6 = ((r.v % 6 : Nat) : Int) := tmod_nat r.v 6
 simp only [sizeE] at ho
 have ew : IntKind.i64.wrap (out.length : Int) = out.length := wrap_i64 (by omega)
 refine vproc_start Tryz.func130 (by kernel_rfl) rfl (by simp [Tryz.ntmps130]) ?_; simp only [Tryz.ntmps130, Tryz.results130]; simp [go_sem]
 simp [go_sem, K, nodCells_at, hn']
 refine ⟨by omega, vcall_pure c2 (by simp [go_sem]) ?_⟩
 simp [go_sem, K, k0]
 refine vcall_pure c2 (by simp [go_sem]) ?_
 simp [go_sem, K, k0]
 refine ⟨by omega, by omega, vS [0] c1 ?_⟩
 rintro av mem maps ⟨rfl, rfl, rfl⟩
 by_cases h5 : r.v % 6 = 5
 ·have h5' : (r.v : Int) % 6 = 5 := by omega
  have em : moreE (.leaf b) r = (.grp (.leaf b), r.nx) := by simp only [moreE, moreG, h5]; rfl
  rw [em]
  simp [go_sem, K, e6, h5', ew]
  exact ⟨by omega, by omega, by omega, vF [7] [rdOb r.nx, none, nodRow (lay (.grp (.leaf b)) out)] (by simp [go_sem, K]; simp only [lay]; exact nod_out (.app (.app .rfl rfl (by simp)) (by simp [PNode.cells]) (by simp)))⟩
 ·have h5' : ¬ (r.v : Int) % 6 = 5 := by omega
  have em : moreE (.leaf b) r = (.leaf b, r.nx) := by simp only [moreE, moreG, h5]; rfl
  rw [em]
  simp [go_sem, K, e6, h5', ew]
  exact vF [5] [rdOb r.nx, none, nodRow (lay (.leaf b) out)] (by simp [go_sem, K]; simp only [lay]; exact nod_out (.app .rfl rfl (by simp)))
set_option maxRecDepth 100000 in
theorem more_pre (g : List PNode) (hg : g.length ≤ 1048576) {o : POp} {e : ET} (hk : o.kind = 1) (ih : MOk g e) : MOk g (.pre o e) := by
 obtain ⟨z, k, lv, sd⟩ := o
 simp only at hk
 subst hk
 intro pre hn hl r hr out ho
 simp only [lay] at hn hl ⊢
 obtain ⟨hsub, hn''⟩ := layPre hn
 have hle1 := lay_len e pre
 have hp := sizeE_pos e
 simp only [List.length_append, List.length_singleton, Nat.add_sub_cancel, sizeE] at hl ho ⊢
 have ih1 := ih pre hsub (by omega) r hr out (by omega)
 have hn' : nodAt g (lay e pre).length = ⟨z, 3, ((lay e pre).length : Int) - 1, 0⟩ := hn''
 have hms := moreE_size e r
 have hln := lay_len (moreE e r).1 out
 have hp2 := sizeE_pos (moreE e r).1
 generalize hq : (lay e pre).length = q at *
 have ea : (q : Int) - 1 = ((q - 1 : Nat) : Int) := by omega
 have c2 := c_l3Kids 3
 have kk : kidsN 3 = 1 := by simp [kidsN]
 have hr2 := moreE_ok e hr
 have hmo : ∀ e' r', moreE e r = (e', r') → moreE (.pre ⟨z, 1, lv, sd⟩ e) r = moreG (.pre ⟨z, 1, lv, sd⟩ e') r' := fun e' r' h => by simp only [moreE, h]
 generalize hM : moreE e r = M at *
 obtain ⟨e', r'⟩ := M
 have hmo := hmo e' r' rfl
 simp only at hms hln hp2 hr2 ih1
 have c1 := c_next r' hr2
 have e6 : (r'.v : Int).tmod 6 = ((r'.v % 6 : Nat) : Int) := tmod_nat r'.v 6
 have ew : IntKind.i64.wrap ((lay e' out).length : Int) = (lay e' out).length := wrap_i64 (by omega)
 have ew1 : IntKind.i64.wrap (((lay e' out).length : Int) - 1) = ((lay e' out).length : Int) - 1 := wrap_i64 (by omega)
 refine vproc_start Tryz.func130 (by kernel_rfl) rfl (by simp [Tryz.ntmps130]) ?_; simp only [Tryz.ntmps130, Tryz.results130]; simp [go_sem]
 simp [go_sem, K, nodCells_at, hn']
 refine ⟨by omega, vcall_pure c2 (by simp [go_sem]) ?_⟩
 simp [go_sem, K, kk, ea]
 refine vS [0, 1] ih1 ?_
 rintro av mem maps ⟨rfl, rfl, rfl⟩
 simp [go_sem, K, ew1]
 refine ⟨by omega, vcall_pure c2 (by simp [go_sem]) ?_⟩
 simp [go_sem, K, kk]
 refine ⟨by omega, by omega, vS [0] c1 ?_⟩
 rintro av mem maps ⟨rfl, rfl, rfl⟩
 by_cases h5 : r'.v % 6 = 5
 ·have h5' : (r'.v : Int) % 6 = 5 := by omega
  have em : moreE (.pre ⟨z, 1, lv, sd⟩ e) r = (.grp (.pre ⟨z, 1, lv, sd⟩ e'), r'.nx) := by rw [hmo]; simp only [moreG, h5]; rfl
  rw [em]
  simp [go_sem, K, e6, h5', ew]
  exact ⟨by omega, by omega, by omega, vF [8] [rdOb r'.nx, none, nodRow (lay (.grp (.pre ⟨z, 1, lv, sd⟩ e')) out)] (by simp [go_sem, K]; simp only [lay]; exact nod_out (.app (.app .rfl rfl (by simp)) (by simp [PNode.cells]) (by simp)))⟩
 ·have h5' : ¬ (r'.v : Int) % 6 = 5 := by omega
  have em : moreE (.pre ⟨z, 1, lv, sd⟩ e) r = (.pre ⟨z, 1, lv, sd⟩ e', r'.nx) := by rw [hmo]; simp only [moreG, h5]; rfl
  rw [em]
  simp [go_sem, K, e6, h5', ew]
  exact vF [6] [rdOb r'.nx, none, nodRow (lay (.pre ⟨z, 1, lv, sd⟩ e') out)] (by simp [go_sem, K]; simp only [lay]; exact nod_out (.app .rfl rfl (by simp)))
set_option maxRecDepth 100000 in
theorem more_post (g : List PNode) (hg : g.length ≤ 1048576) {o : POp} {e : ET} (hk : o.kind = 3) (ih : MOk g e) : MOk g (.post o e) := by
 obtain ⟨z, k, lv, sd⟩ := o
 simp only at hk
 subst hk
 intro pre hn hl r hr out ho
 simp only [lay] at hn hl ⊢
 obtain ⟨hsub, hn''⟩ := layPre hn
 have hle1 := lay_len e pre
 have hp := sizeE_pos e
 simp only [List.length_append, List.length_singleton, Nat.add_sub_cancel, sizeE] at hl ho ⊢
 have ih1 := ih pre hsub (by omega) r hr out (by omega)
 have hn' : nodAt g (lay e pre).length = ⟨z, 5, ((lay e pre).length : Int) - 1, 0⟩ := hn''
 have hms := moreE_size e r
 have hln := lay_len (moreE e r).1 out
 have hp2 := sizeE_pos (moreE e r).1
 generalize hq : (lay e pre).length = q at *
 have ea : (q : Int) - 1 = ((q - 1 : Nat) : Int) := by omega
 have c2 := c_l3Kids 5
 have kk : kidsN 5 = 1 := by simp [kidsN]
 have hr2 := moreE_ok e hr
 have hmo : ∀ e' r', moreE e r = (e', r') → moreE (.post ⟨z, 3, lv, sd⟩ e) r = moreG (.post ⟨z, 3, lv, sd⟩ e') r' := fun e' r' h => by simp only [moreE, h]
 generalize hM : moreE e r = M at *
 obtain ⟨e', r'⟩ := M
 have hmo := hmo e' r' rfl
 simp only at hms hln hp2 hr2 ih1
 have c1 := c_next r' hr2
 have e6 : (r'.v : Int).tmod 6 = ((r'.v % 6 : Nat) : Int) := tmod_nat r'.v 6
 have ew : IntKind.i64.wrap ((lay e' out).length : Int) = (lay e' out).length := wrap_i64 (by omega)
 have ew1 : IntKind.i64.wrap (((lay e' out).length : Int) - 1) = ((lay e' out).length : Int) - 1 := wrap_i64 (by omega)
 refine vproc_start Tryz.func130 (by kernel_rfl) rfl (by simp [Tryz.ntmps130]) ?_; simp only [Tryz.ntmps130, Tryz.results130]; simp [go_sem]
 simp [go_sem, K, nodCells_at, hn']
 refine ⟨by omega, vcall_pure c2 (by simp [go_sem]) ?_⟩
 simp [go_sem, K, kk, ea]
 refine vS [0, 1] ih1 ?_
 rintro av mem maps ⟨rfl, rfl, rfl⟩
 simp [go_sem, K, ew1]
 refine ⟨by omega, vcall_pure c2 (by simp [go_sem]) ?_⟩
 simp [go_sem, K, kk]
 refine ⟨by omega, by omega, vS [0] c1 ?_⟩
 rintro av mem maps ⟨rfl, rfl, rfl⟩
 by_cases h5 : r'.v % 6 = 5
 ·have h5' : (r'.v : Int) % 6 = 5 := by omega
  have em : moreE (.post ⟨z, 3, lv, sd⟩ e) r = (.grp (.post ⟨z, 3, lv, sd⟩ e'), r'.nx) := by rw [hmo]; simp only [moreG, h5]; rfl
  rw [em]
  simp [go_sem, K, e6, h5', ew]
  exact ⟨by omega, by omega, by omega, vF [8] [rdOb r'.nx, none, nodRow (lay (.grp (.post ⟨z, 3, lv, sd⟩ e')) out)] (by simp [go_sem, K]; simp only [lay]; exact nod_out (.app (.app .rfl rfl (by simp)) (by simp [PNode.cells]) (by simp)))⟩
 ·have h5' : ¬ (r'.v : Int) % 6 = 5 := by omega
  have em : moreE (.post ⟨z, 3, lv, sd⟩ e) r = (.post ⟨z, 3, lv, sd⟩ e', r'.nx) := by rw [hmo]; simp only [moreG, h5]; rfl
  rw [em]
  simp [go_sem, K, e6, h5', ew]
  exact vF [6] [rdOb r'.nx, none, nodRow (lay (.post ⟨z, 3, lv, sd⟩ e') out)] (by simp [go_sem, K]; simp only [lay]; exact nod_out (.app .rfl rfl (by simp)))
set_option maxRecDepth 100000 in
theorem more_grp (g : List PNode) (hg : g.length ≤ 1048576) {e : ET} (ih : MOk g e) : MOk g (.grp e) := by
 intro pre hn hl r hr out ho
 simp only [lay] at hn hl ⊢
 obtain ⟨hsub, hn''⟩ := layPre hn
 have hle1 := lay_len e pre
 have hp := sizeE_pos e
 simp only [List.length_append, List.length_singleton, Nat.add_sub_cancel, sizeE] at hl ho ⊢
 have ih1 := ih pre hsub (by omega) r hr out (by omega)
 have hn' : nodAt g (lay e pre).length = ⟨⟨#[]⟩, 6, ((lay e pre).length : Int) - 1, 0⟩ := hn''
 have hms := moreE_size e r
 have hln := lay_len (moreE e r).1 out
 have hp2 := sizeE_pos (moreE e r).1
 generalize hq : (lay e pre).length = q at *
 have ea : (q : Int) - 1 = ((q - 1 : Nat) : Int) := by omega
 have c2 := c_l3Kids 6
 have kk : kidsN 6 = 1 := by simp [kidsN]
 have hr2 := moreE_ok e hr
 have hmo : ∀ e' r', moreE e r = (e', r') → moreE (.grp e) r = moreG (.grp e') r' := fun e' r' h => by simp only [moreE, h]
 generalize hM : moreE e r = M at *
 obtain ⟨e', r'⟩ := M
 have hmo := hmo e' r' rfl
 simp only at hms hln hp2 hr2 ih1
 have c1 := c_next r' hr2
 have e6 : (r'.v : Int).tmod 6 = ((r'.v % 6 : Nat) : Int) := tmod_nat r'.v 6
 have ew : IntKind.i64.wrap ((lay e' out).length : Int) = (lay e' out).length := wrap_i64 (by omega)
 have ew1 : IntKind.i64.wrap (((lay e' out).length : Int) - 1) = ((lay e' out).length : Int) - 1 := wrap_i64 (by omega)
 refine vproc_start Tryz.func130 (by kernel_rfl) rfl (by simp [Tryz.ntmps130]) ?_; simp only [Tryz.ntmps130, Tryz.results130]; simp [go_sem]
 simp [go_sem, K, nodCells_at, hn']
 refine ⟨by omega, vcall_pure c2 (by simp [go_sem]) ?_⟩
 simp [go_sem, K, kk, ea]
 refine vS [0, 1] ih1 ?_
 rintro av mem maps ⟨rfl, rfl, rfl⟩
 simp [go_sem, K, ew1]
 refine ⟨by omega, vcall_pure c2 (by simp [go_sem]) ?_⟩
 simp [go_sem, K, kk]
 refine ⟨by omega, by omega, vS [0] c1 ?_⟩
 rintro av mem maps ⟨rfl, rfl, rfl⟩
 by_cases h5 : r'.v % 6 = 5
 ·have h5' : (r'.v : Int) % 6 = 5 := by omega
  have em : moreE (.grp e) r = (.grp (.grp e'), r'.nx) := by rw [hmo]; simp only [moreG, h5]; rfl
  rw [em]
  simp [go_sem, K, e6, h5', ew]
  exact ⟨by omega, by omega, by omega, vF [8] [rdOb r'.nx, none, nodRow (lay (.grp (.grp e')) out)] (by simp [go_sem, K]; simp only [lay]; exact nod_out (.app (.app .rfl rfl (by simp)) (by simp [PNode.cells]) (by simp)))⟩
 ·have h5' : ¬ (r'.v : Int) % 6 = 5 := by omega
  have em : moreE (.grp e) r = (.grp e', r'.nx) := by rw [hmo]; simp only [moreG, h5]; rfl
  rw [em]
  simp [go_sem, K, e6, h5', ew]
  exact vF [6] [rdOb r'.nx, none, nodRow (lay (.grp e') out)] (by simp [go_sem, K]; simp only [lay]; exact nod_out (.app .rfl rfl (by simp)))
set_option maxRecDepth 100000 in
theorem more_inf (g : List PNode) (hg : g.length ≤ 1048576) {o : POp} {x y : ET} (hk : o.kind = 2) (ihx : MOk g x) (ihy : MOk g y) : MOk g (.inf o x y) := by
 obtain ⟨z, k, lv, sd⟩ := o
 simp only at hk
 subst hk
 intro pre hn hl r hr out ho
 simp only [lay] at hn hl ⊢
 obtain ⟨hsub, hn''⟩ := layPre hn
 have hle1 := lay_len x pre
 have hle2 := lay_len y (lay x pre)
 have hp := sizeE_pos x
 have hp2 := sizeE_pos y
 simp only [List.length_append, List.length_singleton, Nat.add_sub_cancel, sizeE] at hl ho ⊢
 have ih1 := ihx pre (fun j hj => by rw [hsub j (by omega), lay_pre y _ j hj]) (by omega) r hr out (by omega)
 have hn' : nodAt g (lay y (lay x pre)).length = ⟨z, 4, ((lay x pre).length : Int) - 1, ((lay y (lay x pre)).length : Int) - 1⟩ := hn''
 have hms := moreE_size x r
 have hln := lay_len (moreE x r).1 out
 have hp3 := sizeE_pos (moreE x r).1
 have hr2 := moreE_ok x hr
 have hmo : ∀ e' r' e'' r'', moreE x r = (e', r') → moreE y r' = (e'', r'') → moreE (.inf ⟨z, 2, lv, sd⟩ x y) r = moreG (.inf ⟨z, 2, lv, sd⟩ e' e'') r'' := fun e' r' e'' r'' h h' => by simp only [moreE, h, h']
 generalize hM : moreE x r = M at *
 obtain ⟨e', r'⟩ := M
 simp only at hms hln hp3 hr2 ih1
 have ih2 := ihy (lay x pre) hsub (by omega) r' hr2 (lay e' out) (by omega)
 have hms2 := moreE_size y r'
 have hln2 := lay_len (moreE y r').1 (lay e' out)
 have hp4 := sizeE_pos (moreE y r').1
 have hr3 := moreE_ok y hr2
 have hmo := fun e'' r'' => hmo e' r' e'' r'' rfl
 generalize hM2 : moreE y r' = M2 at *
 obtain ⟨e'', r''⟩ := M2
 have hmo := hmo e'' r'' rfl
 simp only at hms2 hln2 hp4 hr3 ih2
 generalize hq : (lay y (lay x pre)).length = q at *
 generalize hp' : (lay x pre).length = p at *
 have ea : (q : Int) - 1 = ((q - 1 : Nat) : Int) := by omega
 have eb : (p : Int) - 1 = ((p - 1 : Nat) : Int) := by omega
 have c2 := c_l3Kids 4
 have kk : kidsN 4 = 2 := by simp [kidsN]
 have c1 := c_next r'' hr3
 have e6 : (r''.v : Int).tmod 6 = ((r''.v % 6 : Nat) : Int) := tmod_nat r''.v 6
 have ew1 : IntKind.i64.wrap (((lay e' out).length : Int) - 1) = ((lay e' out).length : Int) - 1 := wrap_i64 (by omega)
 have ew2 : IntKind.i64.wrap (((lay e'' (lay e' out)).length : Int) - 1) = ((lay e'' (lay e' out)).length : Int) - 1 := wrap_i64 (by omega)
 have ew : IntKind.i64.wrap ((lay e'' (lay e' out)).length : Int) = (lay e'' (lay e' out)).length := wrap_i64 (by omega)
 refine vproc_start Tryz.func130 (by kernel_rfl) rfl (by simp [Tryz.ntmps130]) ?_; simp only [Tryz.ntmps130, Tryz.results130]; simp [go_sem]
 simp [go_sem, K, nodCells_at, hn']
 refine ⟨by omega, vcall_pure c2 (by simp [go_sem]) ?_⟩
 simp [go_sem, K, kk, ea, eb]
 refine vS [0, 1] ih1 ?_
 rintro av mem maps ⟨rfl, rfl, rfl⟩
 simp [go_sem, K, ew1]
 refine ⟨by omega, vcall_pure c2 (by simp [go_sem]) ?_⟩
 simp [go_sem, K, kk, ea]
 refine vS [0, 4] ih2 ?_
 rintro av mem maps ⟨rfl, rfl, rfl⟩
 simp [go_sem, K, ew2]
 refine ⟨by omega, by omega, by omega, vS [0] c1 ?_⟩
 rintro av mem maps ⟨rfl, rfl, rfl⟩
 by_cases h5 : r''.v % 6 = 5
 ·have h5' : (r''.v : Int) % 6 = 5 := by omega
  have em : moreE (.inf ⟨z, 2, lv, sd⟩ x y) r = (.grp (.inf ⟨z, 2, lv, sd⟩ e' e''), r''.nx) := by rw [hmo]; simp only [moreG, h5]; rfl
  rw [em]
  simp [go_sem, K, e6, h5', ew]
  exact ⟨by omega, by omega, by omega, vF [9] [rdOb r''.nx, none, nodRow (lay (.grp (.inf ⟨z, 2, lv, sd⟩ e' e'')) out)] (by simp [go_sem, K]; simp only [lay]; exact nod_out (.app (.app .rfl rfl (by simp)) (by simp [PNode.cells]) (by simp)))⟩
 ·have h5' : ¬ (r''.v : Int) % 6 = 5 := by omega
  have em : moreE (.inf ⟨z, 2, lv, sd⟩ x y) r = (.inf ⟨z, 2, lv, sd⟩ e' e'', r''.nx) := by rw [hmo]; simp only [moreG, h5]; rfl
  rw [em]
  simp [go_sem, K, e6, h5', ew]
  exact vF [7] [rdOb r''.nx, none, nodRow (lay (.inf ⟨z, 2, lv, sd⟩ e' e'') out)] (by simp [go_sem, K]; simp only [lay]; exact nod_out (.app .rfl rfl (by simp)))
theorem c_l3More {l : List POp} (g : List PNode) (hg : g.length ≤ 1048576) : ∀ e : ET, InTab l e → MOk g e
 | .leaf b, h => more_leaf g hg b h
 | .grp e, h => more_grp g hg (c_l3More g hg e h)
 | .pre o e, h => more_pre g hg h.1 (c_l3More g hg e h.2.2.2)
 | .post o e, h => more_post g hg h.1 (c_l3More g hg e h.2.2.2)
 | .inf o x y, h => more_inf g hg h.1 (c_l3More g hg x h.2.2.2.1) (c_l3More g hg y h.2.2.2.2)
end Go.Proofs.YtjdmmhcogmepaaaGreatDoor.V
namespace Go.Proofs.YtjdmmhcogmepaaaGreatDoor.V
open Go.RowKit
section
variable {P : Program} {n : Nat} {base : Fr} {w0 w : World} {hd : Nat → Value} {s : VS} {a : Act}
theorem lk_map {ts : List Nat} {x : AV} {r : List (Nat × AV)} {u : Nat} : lk (ts.map (fun t => (t, x)) ++ r) u = if u ∈ ts then x else lk r u := by
 induction ts with
 | nil => simp
 | cons t ts ih =>
  simp only [List.map_cons, List.cons_append, lk]
  by_cases e : t = u
  ·subst e; simp
  ·rw [if_neg e, ih]
   have e' : ¬ u = t := fun h => e h.symm
   simp [e']
theorem RelH.rowSl (h : RelH n base w0 hd s a w) {k : Nat} {ob : Ob} (hk : s.mem[k]? = some (some ob)) (hc : ∀ i, i < ob.n → ∀ c, c ∈ ob.f i → Closed c) : Rep w (okOf (s.mem.set k none) hd) hd (s.mem.set k none).length (.sl ob.sz ob.n ob.f) (hd k) := by
 obtain ⟨hs, vals, ho, hr⟩ := h.me.obs k ob hk
 have hok : ∀ ad u, okOf s.mem hd ad.block → w.cell? ad = some u → w.cell? ad = some u ∧ okOf (s.mem.set k none) hd ad.block := fun ad u ho hcell => ⟨hcell, free_ok _ _ _ _ ho⟩
 rcases ho.2 with ⟨e, h0⟩ | ⟨g, cap, cur, e, h3, h1, h2, h4⟩
 ·rw [e, show Value.slice none 0 0 = Value.slice none ob.n 0 by rw [h0]]
  exact .sl _ _ _ none 0 (fun _ _ => undef) (by omega) (by omega) hs (fun i hi => (hr i hi).1) (fun hp => by omega) (fun i j av hi => by omega)
 ·have hcells := fun i hi => h.cells_ hk e (i := i) hi
  have hown : (hd k).ownBlock = some g := by rw [e]; rfl
  rw [e]
  refine .sl _ _ _ _ _ (fun i j => (w.cell? ((⟨g, i * ob.sz, none⟩ : Addr).add j)).getD undef) (by omega) (by simp only [maxLen] at h2; omega) hs (fun i hi => (hr i hi).1) (fun hp => ⟨_, rfl, ⟨fun q ob' hq e' => ?_, h.ownTail (h.me.alw k ob hk g hown)⟩, fun i j hi hj => ?_⟩) fun i j av hi hj => ?_
  ·obtain ⟨hq1, hq2⟩ := free_get hq
   rcases h.me.apart q k ob' ob hq1 hk hq2 with e2 | e2
   ·rw [e'] at e2; cases e2
   ·exact e2 (by rw [e', hown])
  ·obtain ⟨u, h1, _⟩ := hcells i hi j _ (List.getElem?_eq_getElem (by rw [(hr i hi).1]; exact hj))
   have e3 : ((⟨g, 0, none⟩ : Addr).add (i * ob.sz + j)) = (⟨g, i * ob.sz, none⟩ : Addr).add j := by
    by_cases hj0 : j = 0
    ·subst hj0
     by_cases hi0 : i * ob.sz = 0
     ·simp [Addr.add, hi0]
     ·simp only [Addr.add, Nat.add_zero]; rw [if_neg hi0]; simp
    ·have hne : ¬ (i * ob.sz + j = 0) := by omega
     simp only [Addr.add]; rw [if_neg hne, if_neg hj0]; simp
   rw [e3, h1]; rfl
  ·obtain ⟨u, h1, h2⟩ := hcells i hi j av hj
   simp only [h1]
   exact Rep.closed (hc i hi av (List.mem_of_getElem? hj)) (fun ad u' g1 g2 => ⟨g2, free_ok _ _ _ _ g1⟩) h2
end
theorem Ent.give {s : VS} (ts : List Nat) (k : Nat) {ob : Ob} (hk : s.mem[k]? = some (some ob)) (hc : ∀ i, i < ob.n → ∀ c, c ∈ ob.f i → Closed c) (ht : ∀ t, t ∈ ts → lk s.tmps t = .own k) :
  Ent s { s with tmps := ts.map (fun t => (t, .sl ob.sz ob.n ob.f)) ++ s.tmps, mem := s.mem.set k none } := by
 intro n base w0 hd a w h
 have hf := h.free k
 have hr := h.rowSl hk hc
 refine ⟨hd, hf.defers, hf.size, hf.below, hf.le, hf.fixl, hf.fix, hf.mp, fun u => ?_, hf.me⟩
 simp only [lk_map]
 split
 ·rename_i hu
  have := h.tm u
  rw [ht u hu] at this
  generalize a.tmps.getD u undef = v at this
  cases this
  exact hr
 ·exact hf.tm u
end Go.Proofs.YtjdmmhcogmepaaaGreatDoor.V
namespace Go.Proofs.YtjdmmhcogmepaaaGreatDoor.V
open Go.RowKit
section
variable {P : Program} {n : Nat} {base : Fr} {w0 w : World} {hd : Nat → Value} {s : VS} {a : Act}
theorem okOf_set {mem : List (Option Ob)} {hd : Nat → Value} {j : Nat} {oj oj' : Ob} (hj : mem[j]? = some (some oj)) {b : Nat} (h : okOf mem hd b) : okOf (mem.set j (some oj')) hd b := by
 refine ⟨fun q ob hq => ?_, h.2⟩
 by_cases e : j = q
 ·subst e; exact h.1 j oj hj
 ·rw [List.getElem?_set_ne e] at hq; exact h.1 q ob hq
theorem RelH.recell (h : RelH n base w0 hd s a w) {j : Nat} {oj oj' : Ob} (hj : s.mem[j]? = some (some oj)) (e1 : oj'.ty = oj.ty) (e2 : oj'.sz = oj.sz) (e3 : oj'.n = oj.n)
  (hc : ∀ i, i < oj.n → (oj'.f i).length = (oj.f i).length ∧ ∀ (q : Nat) av av' u, (oj.f i)[q]? = some av → (oj'.f i)[q]? = some av' → Rep w (okOf s.mem hd) hd s.mem.length av u → Rep w (okOf s.mem hd) hd s.mem.length av' u) : RelH n base w0 hd { s with mem := s.mem.set j (some oj') } a w := by
 have hok : ∀ ad u, okOf s.mem hd ad.block → w.cell? ad = some u → w.cell? ad = some u ∧ okOf (s.mem.set j (some oj')) hd ad.block := fun ad u ho hcell => ⟨hcell, okOf_set hj ho⟩
 have hjl := (List.getElem?_eq_some_iff.1 hj).1
 have live : ∀ q ob, (s.mem.set j (some oj'))[q]? = some (some ob) → (q = j ∧ ob = oj') ∨ (q ≠ j ∧ s.mem[q]? = some (some ob)) := fun q ob hq => by
  by_cases e : j = q
  ·subst e
   rw [List.getElem?_set_self hjl] at hq
   simp only [Option.some.injEq] at hq
   exact .inl ⟨rfl, hq.symm⟩
  ·rw [List.getElem?_set_ne e] at hq
   exact .inr ⟨fun e' => e e'.symm, hq⟩
 have was : ∀ q ob, (s.mem.set j (some oj'))[q]? = some (some ob) → ∃ ob0, s.mem[q]? = some (some ob0) := fun q ob hq => by
  rcases live q ob hq with ⟨rfl, _⟩ | ⟨_, h2⟩
  ·exact ⟨oj, hj⟩
  ·exact ⟨ob, h2⟩
 refine ⟨h.defers, h.size, h.below, h.le, by simpa using h.fixl, h.fix, h.mp, fun t => (h.tm t).mono hok (fun _ _ => rfl) (by simp), ⟨fun q ob hq => ?_, fun q ob hq => ?_, fun q hq => h.me.hds q (by simpa using hq), fun q q' ob ob' hq hq' hne => ?_⟩⟩
 ·obtain ⟨o0, h0⟩ := was q ob hq
  exact h.me.alw q o0 h0
 ·rcases live q ob hq with ⟨rfl, rfl⟩ | ⟨_, h2⟩
  ·obtain ⟨hs, vals, ho, hr⟩ := h.me.obs q oj hj
   rw [e1, e2, e3]
   refine ⟨hs, vals, ho, fun i hi => ?_⟩
   obtain ⟨l1, l2⟩ := hc i hi
   obtain ⟨r1, r2⟩ := hr i hi
   refine ⟨l1.trans r1, fun p av hp => ?_⟩
   have hpl : p < (oj.f i).length := by rw [← l1]; exact (List.getElem?_eq_some_iff.1 hp).1
   obtain ⟨u, g1, g2, g3⟩ := r2 p _ (List.getElem?_eq_getElem hpl)
   exact ⟨u, g1, g2, (l2 p _ av u (List.getElem?_eq_getElem hpl) hp g3).mono hok (fun _ _ => rfl) (by simp)⟩
  ·obtain ⟨hs, vals, ho, hr⟩ := h.me.obs q ob h2
   refine ⟨hs, vals, ho, fun i hi => ⟨(hr i hi).1, fun p av hp => ?_⟩⟩
   obtain ⟨u, g1, g2, g3⟩ := (hr i hi).2 p av hp
   exact ⟨u, g1, g2, g3.mono hok (fun _ _ => rfl) (by simp)⟩
 ·obtain ⟨o0, h0⟩ := was q ob hq
  obtain ⟨o1, h1⟩ := was q' ob' hq'
  exact h.me.apart q q' o0 o1 h0 h1 hne
end
theorem Ent.giveIn {s : VS} (j k c : Nat) {ob oj : Ob} (hk : s.mem[k]? = some (some ob)) (hcl : ∀ i, i < ob.n → ∀ c, c ∈ ob.f i → Closed c) (hj : s.mem[j]? = some (some oj)) (hjk : j ≠ k) (hc : ∀ i, i < oj.n → (oj.f i)[c]? = some (.own k)) :
  Ent s { s with mem := (s.mem.set k none).set j (some { oj with f := fun i => (oj.f i).set c (.sl ob.sz ob.n ob.f) }) } := by
 intro n base w0 hd a w h
 have hf := h.free k
 have hr := h.rowSl hk hcl
 have hj' : (s.mem.set k none)[j]? = some (some oj) := by rw [List.getElem?_set_ne (fun e => hjk e.symm)]; exact hj
 refine ⟨hd, hf.recell (s := { s with mem := s.mem.set k none }) hj' rfl rfl rfl fun i hi => ⟨by simp, fun q av av' u h1 h2 h3 => ?_⟩⟩
 simp only at h2
 rw [List.getElem?_set] at h2
 by_cases e : c = q
 ·subst e
  rw [if_pos rfl] at h2
  split at h2
  ·rw [hc i hi] at h1
   cases h1; cases h2
   cases h3
   exact hr
  ·cases h2
 ·rw [if_neg e, h1] at h2
  cases h2; exact h3
end Go.Proofs.YtjdmmhcogmepaaaGreatDoor.V
namespace Go.Proofs.YtjdmmhcogmepaaaGreatDoor.V
open Go.RowKit
open Go.Proofs.YtjdmmhcogmepaaaGreatDoor.Ops (Tr)
def drawWords (l : List POp) (r : Rd) : List ByteArray × Rd :=
 if r.v % 4 = 3 then ((line0 l r.nx).out, (line0 l r.nx).rd)
 else if groupOk l (drawTree l false r.nx).1 = true then (wordsE (moreE (groupE l (drawTree l false r.nx).1) (drawTree l false r.nx).2).1, (moreE (groupE l (drawTree l false r.nx).1) (drawTree l false r.nx).2).2)
 else ([⟨#[97]⟩], (drawTree l false r.nx).2)
set_option maxHeartbeats 4000000 in
set_option maxRecDepth 100000 in
theorem c_l3DrawWords (l : List POp) (hl : l.length ≤ 1000) (hk : KindsSm l) (hw : opsWf l) (hx : ∀ o, o ∈ l → o.text.size ≤ 6) (r : Rd) (hr : r.ok) : VProc Tryz.prog 104 [.ptr 0 2 0 0, .agg [.own 1]] [rdOb r, tab l] [] (fun av mem maps => av = .own 2 ∧ mem = [rdOb (drawWords l r).2, tab l, txRow (drawWords l r).1] ∧ maps = []) := by
 have hn := Rd.nx_ok hr
 have c1 := c_next r hr
 have cl := c_l3Line l hl r.nx hn
 have ct := c_l3DrawTree l hl hk false r.nx hn
 have hlen := drawTree_len l false r.nx
 have htx : NodTx 6 (drawTree l false r.nx).1 := gen_tx hx _ _ _ (nodTx_nil 6)
 have hdr : (drawTree l false r.nx).2.ok := gen_ok _ _ _ (Rd.nx_ok hn)
 have e4 : (r.v : Int).tmod 4 = ((r.v % 4 : Nat) : Int) := tmod_nat r.v 4
 unfold drawWords
 generalize drawTree l false r.nx = d at *
 have cg := c_specGroup l (by omega) hw d.1 (by omega) (fun i hi => by have := htx i hi; simp only [PNode.wf, maxLen]; omega)
 have hgl := groupZ_len2 l d.1
 have hgz : groupOk l d.1 = true → groupZ l d.1 = lay (groupE l d.1) [] ∧ InTab l (groupE l d.1) ∧ sizeE (groupE l d.1) ≤ 20000 := fun h => by
  have hh := h
  simp only [groupOk, Bool.and_eq_true, decide_eq_true_eq] at hh
  exact ⟨by rw [groupZ, if_pos h], InTab_grpd 0 (InTab_bare (bare_facts hh.1).2.2.1), hh.2⟩
 generalize groupE l d.1 = G at *
 generalize groupZ l d.1 = Z at *
 by_cases h3 : r.v % 4 = 3
 ·rw [if_pos h3]
  have h3' : (r.v : Int) % 4 = 3 := by omega
  refine vproc_start Tryz.func104 (by kernel_rfl) rfl (by simp [Tryz.ntmps104]) ?_; simp only [Tryz.ntmps104, Tryz.results104]; simp [go_sem]
  refine vS [0] c1 ?_
  rintro av mem maps ⟨rfl, rfl, rfl⟩
  simp [go_sem, K, e4, h3']
  refine vS [0, 1] cl ?_
  rintro av mem maps ⟨rfl, rfl, rfl⟩
  simp [go_sem, K]
  exact vF [3] [rdOb (line0 l r.nx).rd, tab l, txRow (line0 l r.nx).out]
 ·rw [if_neg h3]
  have h3' : ¬ (r.v : Int) % 4 = 3 := by omega
  refine vproc_start Tryz.func104 (by kernel_rfl) rfl (by simp [Tryz.ntmps104]) ?_; simp only [Tryz.ntmps104, Tryz.results104]; simp [go_sem]
  refine vS [0] c1 ?_
  rintro av mem maps ⟨rfl, rfl, rfl⟩
  simp [go_sem, K, e4, h3']
  refine vc_drawnE (⟨[(0, .ptr 0 2 0 0), (6, .ptr 2 1 0 0), (7, .lit (.bool (groupOk l d.1)))], [rdOb d.2, tab l, some ⟨37, 1, 1, fun _ => [.sl 4 Z.length (nodCells Z)]⟩], [], 2⟩) [9,3,4] (.q 1 <| .q 2 <| .or 0 (.or 3 (.or 4 (.q 5 <| .q 6 <| .or 7 (.or 8 (.or 9 (.q 10 <| .done) (.nil)) (.nil)) (.or 8 (.or 7 (.or 9 (.q 10 <| .done) (.nil)) (.or 9 (.q 7 <| .q 10 <| .done) (.nil))) (.nil))) (.or 8 (.or 4 (.q 5 <| .q 6 <| .or 7 (.or 9 (.q 10 <| .done) (.nil)) (.or 9 (.q 7 <| .q 10 <| .done) (.nil))) (.nil)) (.nil))) (.or 8 (.or 3 (.or 4 (.q 5 <| .q 6 <| .or 7 (.or 9 (.q 10 <| .done) (.nil)) (.or 9 (.q 7 <| .q 10 <| .done) (.nil))) (.nil)) (.nil)) (.nil))) (.or 3 (.q 0 <| .or 4 (.q 5 <| .q 6 <| .or 7 (.or 8 (.or 9 (.q 10 <| .done) (.nil)) (.nil)) (.or 8 (.or 7 (.or 9 (.q 10 <| .done) (.nil)) (.or 9 (.q 7 <| .q 10 <| .done) (.nil))) (.nil))) (.or 8 (.or 4 (.q 5 <| .q 6 <| .or 7 (.or 9 (.q 10 <| .done) (.nil)) (.or 9 (.q 7 <| .q 10 <| .done) (.nil))) (.nil)) (.nil))) (.or 8 (.or 0 (.or 3 (.or 4 (.q 5 <| .q 6 <| .or 7 (.or 9 (.q 10 <| .done) (.nil)) (.or 9 (.q 7 <| .q 10 <| .done) (.nil))) (.nil)) (.nil)) (.or 3 (.q 0 <| .or 4 (.q 5 <| .q 6 <| .or 7 (.or 9 (.q 10 <| .done) (.nil)) (.or 9 (.q 7 <| .q 10 <| .done) (.nil))) (.nil)) (.nil))) (.nil)))) (by kernel_rfl) ?_ ?_
  ·simp [go_sem, K]
   repeat' apply And.intro
   all_goals
    refine vS [0, 1] ct ?_
    rintro av mem maps ⟨rfl, rfl, rfl⟩
    simp [go_sem, K]
    repeat' apply And.intro
    all_goals
     refine vcall_use cg ?_ ?_
     ·simp [go_sem]
      exact ⟨argSl_own rfl (by omega) fun i c _ h => opClosed _ i c h, argSl_own rfl (by omega) fun i c _ h => nodClosed _ i c h⟩
     rintro av obs ⟨rfl, rfl⟩
     simp [go_sem, K]
     repeat' apply And.intro
     all_goals first
     | exact Ent.trans (Ent.giveIn 4 5 0 rfl (fun i _ c h => nodClosed _ i c h) rfl (by decide) (fun _ _ => rfl)) (vE [0, 1, 4])
     | exact Ent.trans (Ent.giveIn 5 4 0 rfl (fun i _ c h => nodClosed _ i c h) rfl (by decide) (fun _ _ => rfl)) (vE [0, 1, 5])
     | exact Ent.trans (Ent.giveIn 3 5 0 rfl (fun i _ c h => nodClosed _ i c h) rfl (by decide) (fun _ _ => rfl)) (vE [0, 1, 3])
  ·simp [go_sem, K]
   refine ⟨fun hg => ?_, fun hg => ?_⟩
   ·rw [hg]
    exact vF [3] [rdOb d.2, tab l, txRow [⟨#[97]⟩]] (by simp [go_sem, K]; exact tx_out .one)
   ·obtain ⟨rfl, hT, hs⟩ := hgz hg
    have hp := sizeE_pos G
    have hll := lay_len G []
    simp only [List.length_nil, Nat.zero_add] at hll
    have cm := c_l3More (lay G []) (by omega) G hT [] (fun _ _ => rfl) (Nat.le_refl _) d.2 hdr [] (by simp; omega)
    have hms := moreE_size G d.2
    have hln := lay_len (moreE G d.2).1 []
    have hp2 := sizeE_pos (moreE G d.2).1
    simp only [List.length_nil, Nat.zero_add] at hln
    have cw := c_l3Words (lay (moreE G d.2).1 []) (by omega) _ (moreE_tab G (r := d.2) hT) [] (fun _ _ => rfl) (Nat.le_refl _)
    have ew : IntKind.i64.wrap (((lay G []).length : Int) - 1) = (((lay G []).length - 1 : Nat) : Int) := by rw [wrap_i64 (by omega)]; omega
    have ew2 : IntKind.i64.wrap (((lay (moreE G d.2).1 []).length : Int) - 1) = (((lay (moreE G d.2).1 []).length - 1 : Nat) : Int) := by rw [wrap_i64 (by omega)]; omega
    rw [if_pos hg]
    generalize moreE G d.2 = M at *
    obtain ⟨e', r'⟩ := M
    simp only at *
    refine ⟨by omega, vS [0, 3] cm ?_ (ha := by simp [go_sem, K, ew])⟩
    rintro av mem maps ⟨rfl, rfl, rfl⟩
    simp [go_sem, K, ew2]
    refine ⟨by omega, vcall_use cw ?_ ?_⟩
    ·simp [go_sem]
     exact argSl_own rfl (by omega) fun i c _ h => nodClosed _ i c h
    rintro av obs ⟨rfl, rfl⟩
    simp [go_sem, K]
    exact vF [5] [rdOb r', tab l, txRow (wordsE e')]
theorem line_pos {l : List POp} {r : Rd} : 0 < (line0 l r).out.length := by
  have mono : ∀ (i : Nat) (s : LnS), s.out.length ≤ (lineE l i s).out.length := fun i => by
    induction i with
    | zero => exact fun s => Nat.le_refl _
    | succ i ih =>
      intro s
      unfold lineE
      split
      · refine Nat.le_trans ?_ (ih _)
        unfold lnStep
        repeat' split
        all_goals simp
      · exact Nat.le_refl _
  have h := mono 3999 (lnStep l ⟨[], false, 0, r⟩)
  have e : line0 l r = lineE l 3999 (lnStep l ⟨[], false, 0, r⟩) := by
    unfold line0
    rw [lineE, if_pos (by simp [LnS.go])]
  rw [e]
  refine Nat.lt_of_lt_of_le ?_ h
  unfold lnStep
  rw [if_pos rfl]
  repeat' split
  all_goals simp
theorem words_tx {B : Nat} (hB : 1 ≤ B) : ∀ {e : ET}, ETx B e → ∀ w, w ∈ wordsE e → w.size ≤ B
  | .leaf b, h, w, hw => by simp [wordsE, yieldW] at hw; subst hw; exact h
  | .grp e, h, w, hw => by
    simp [wordsE, yieldW, lpar, rpar] at hw
    rcases hw with rfl | ⟨a, ha, rfl⟩ | rfl
    · exact hB
    · exact words_tx hB (e := e) h _ (List.mem_map_of_mem ha)
    · exact hB
  | .pre o e, h, w, hw => by
    simp [wordsE, yieldW, opWord] at hw
    rcases hw with rfl | ⟨a, ha, rfl⟩
    · exact h.1
    · exact words_tx hB h.2 _ (List.mem_map_of_mem ha)
  | .post o e, h, w, hw => by
    simp [wordsE, yieldW, opWord] at hw
    rcases hw with ⟨a, ha, rfl⟩ | rfl
    · exact words_tx hB h.2 _ (List.mem_map_of_mem ha)
    · exact h.1
  | .inf o x y, h, w, hw => by
    simp [wordsE, yieldW, opWord] at hw
    rcases hw with ⟨a, ha, rfl⟩ | rfl | ⟨a, ha, rfl⟩
    · exact words_tx hB h.2.1 _ (List.mem_map_of_mem ha)
    · exact h.1
    · exact words_tx hB h.2.2 _ (List.mem_map_of_mem ha)
theorem txAt_le {ws : List ByteArray} {B : Nat} (h : ∀ w, w ∈ ws → w.size ≤ B) (i : Nat) : (txAt ws i).size ≤ B := by
  unfold txAt
  rw [List.getD_eq_getElem?_getD]
  cases e : ws[i]? with
  | none => exact Nat.zero_le _
  | some w => exact h w (List.mem_of_getElem? e)
theorem wordsE_pos : ∀ e : ET, 0 < (wordsE e).length
  | .leaf b => by simp [wordsE, yieldW]
  | .grp e => by simp [wordsE, yieldW]
  | .pre o e => by simp [wordsE, yieldW]
  | .post o e => by simp [wordsE, yieldW]
  | .inf o x y => by simp [wordsE, yieldW]; omega
theorem drawWords_ok {l : List POp} (hx : ∀ o, o ∈ l → o.text.size ≤ 6) {r : Rd} (hr : r.ok) : 0 < (drawWords l r).1.length ∧ (drawWords l r).1.length ≤ 4000 ∧ (∀ i, (txAt (drawWords l r).1 i).size ≤ 6) ∧ (drawWords l r).2.ok := by
  have hn := Rd.nx_ok hr
  unfold drawWords
  split
  · refine ⟨line_pos, ?_, line_size (by omega) (fun i hi => hx _ (opAt_mem hi)) _ (fun j => by simp [txAt]), line_ok _ hn⟩
    have h := line_len (l := l) 4000 (s := ⟨[], false, 0, r.nx⟩)
    have h2 : (LnS.mk [] false 0 r.nx).mu ≤ 4000 := by have := hn.1; simp [LnS.mu]; omega
    simp only [List.length_nil, Nat.zero_add] at h
    show (lineE l 4000 _).out.length ≤ 4000
    omega
  · have hlen := drawTree_len l false r.nx
    have htx : NodTx 6 (drawTree l false r.nx).1 := gen_tx hx _ _ _ (nodTx_nil 6)
    have hdr : (drawTree l false r.nx).2.ok := gen_ok _ _ _ (Rd.nx_ok hn)
    generalize drawTree l false r.nx = d at *
    split
    · rename_i hg
      have hh := hg
      simp only [groupOk, Bool.and_eq_true] at hh
      have hb := bare_facts hh.1
      have h2 : NodTx 6 (lay (rootE l d.1) []) := by rw [← hb.2.2.2.1]; exact htx
      have hg6 : ETx 6 (groupE l d.1) := grpd_txN 0 (bare_txN (tx_layN _ _ h2).1)
      have hs1 := size_grpd (bare (rootE l d.1)) 0
      have hs2 := sizeE_bare (rootE l d.1)
      have hs3 : sizeE (rootE l d.1) = d.1.length := by
        have := lay_len (rootE l d.1) []
        rw [← hb.2.2.2.1] at this
        simpa using this.symm
      have hs4 := moreE_size (groupE l d.1) d.2
      have hs5 := wordsE_len (moreE (groupE l d.1) d.2).1
      have hs6 : sizeE (groupE l d.1) = sizeE (grpd (bare (rootE l d.1)) 0) := rfl
      exact ⟨wordsE_pos _, by simp only; omega, txAt_le (words_tx (by omega) (moreE_tx _ hg6)), moreE_ok _ hdr⟩
    · exact ⟨Nat.one_pos, by simp, fun i => txAt_le (fun w hw => by simp at hw; subst hw; decide) i, hdr⟩
def runB (z p : ByteArray) : Nat → ByteArray
  | 0 => z
  | j + 1 => runB z p j ++ p
theorem runB_size (z p : ByteArray) : ∀ j, (runB z p j).size = z.size + j * p.size
  | 0 => by simp [runB]
  | j + 1 => by rw [runB, ByteArray.size_append, runB_size z p j, Nat.succ_mul]; omega
def ByIs (f : Nat → List AV) (z : ByteArray) : Prop := ∀ i, i < z.size → f i = byteCells z i
theorem ByIs.rfl {z : ByteArray} : ByIs (byteCells z) z := fun _ _ => _root_.rfl
theorem ByIs.join {n : Nat} {f g : Nat → List AV} {a b : ByteArray} (hf : ByIs f a) (hg : ByIs g b) (hn : n = a.size) : ByIs (joinF n f g) (a ++ b) := fun i hi => by
  subst hn
  unfold joinF
  rw [ByteArray.size_append] at hi
  have hb := byteAt_app a b i hi
  by_cases h : i < a.size
  · rw [if_pos h, hf i h, byteCells, byteCells, hb, if_pos h]
  · rw [if_neg h, hg _ (by omega), byteCells, byteCells, hb, if_neg h]
theorem by_mem {g : Nat → Nat} {m n : Nat} {f : Nat → List AV} {z : ByteArray} (h : ByIs f z) (hn : n = z.size) : ∀ i, i < n → CellsRn g m (f i) (byteCells z i) := fun i hi => by
  subst hn
  rw [h i hi]
  exact cellsRn_lits _root_.rfl
theorem ByIs.one (c : UInt8) : ByIs (fun i => [[AV.lit (.int .u8 c.toNat)]][i]?.getD []) ⟨#[c]⟩ := fun i hi => by
  obtain rfl : i = 0 := by have : (⟨#[c]⟩ : ByteArray).size = 1 := _root_.rfl; omega
  exact _root_.rfl
theorem tx_set {T : List ByteArray} {i : Nat} (z : ByteArray) (hi : i < T.length) (j : Nat) (hj : j < T.length) : updF T.length (txCells T) i 0 [.lit (.string z)] j = txCells (T.set i z) j := by
  rw [updF_at hi hj]
  unfold txCells txAt
  by_cases e : j = i
  · subst e
    have e2 : (T.set j z).getD j ByteArray.empty = z := by rw [List.getD_eq_getElem?_getD, List.getElem?_set_self hj]; rfl
    rw [if_pos rfl, e2]
    rfl
  · rw [if_neg e, List.getD_eq_getElem?_getD, List.getD_eq_getElem?_getD, List.getElem?_set_ne (fun h => e h.symm)]
def brText (n : Nat) : ByteArray := runB (runB ⟨#[]⟩ ⟨#[40]⟩ n ++ ⟨#[97]⟩) ⟨#[41]⟩ n
def drawText (l : List POp) (sp : Bool) (r : Rd) : ByteArray × Rd :=
  if sp = true ∧ r.v % 8 = 7 then
    (spread ((drawWords l r.nx).1.set (r.v / 8 % (drawWords l r.nx).1.length) (wordT l (drawWords l r.nx).2.v (drawWords l r.nx).2.nx.v)) { (if wordTwo l (drawWords l r.nx).2.v then (drawWords l r.nx).2.nx.nx else (drawWords l r.nx).2.nx) with p := r.v % 5 },
     spreadRd ((drawWords l r.nx).1.set (r.v / 8 % (drawWords l r.nx).1.length) (wordT l (drawWords l r.nx).2.v (drawWords l r.nx).2.nx.v)) { (if wordTwo l (drawWords l r.nx).2.v then (drawWords l r.nx).2.nx.nx else (drawWords l r.nx).2.nx) with p := r.v % 5 })
  else if sp = true ∧ r.v % 64 = 6 then (brText (998 + r.v / 64), (drawWords l r.nx).2)
  else (spread (drawWords l r.nx).1 { (drawWords l r.nx).2 with p := r.v % 5 }, spreadRd (drawWords l r.nx).1 { (drawWords l r.nx).2 with p := r.v % 5 })
set_option maxHeartbeats 4000000 in
set_option maxRecDepth 100000 in
theorem c_l3DrawText (l : List POp) (hl : l.length ≤ 1000) (hk : KindsSm l) (hw : opsWf l) (hx : ∀ o, o ∈ l → o.text.size ≤ 6) (sp : Bool) (r : Rd) (hr : r.ok) : VProc Tryz.prog 64 [.ptr 0 2 0 0, .agg [.own 1], .lit (.bool sp)] [rdOb r, tab l] [] (fun av mem maps => av = .lit (.string (drawText l sp r).1) ∧ mem = [rdOb (drawText l sp r).2, tab l] ∧ maps = []) := by
  have hn := Rd.nx_ok hr
  have hv := Rd.v_lt hr
  have c1 := c_next r hr
  have c2 := c_l3DrawWords l hl hk hw hx r.nx hn
  obtain ⟨hp, hlen, hsz, hq⟩ := drawWords_ok (l := l) hx hn
  unfold drawText
  generalize drawWords l r.nx = D at *
  obtain ⟨ws, q⟩ := D
  simp only at *
  generalize r.v = k at *
  have e8 : (k : Int).tmod 8 = ((k % 8 : Nat) : Int) := tmod_nat k 8
  have e64 : (k : Int).tmod 64 = ((k % 64 : Nat) : Int) := tmod_nat k 64
  have e5 : (k : Int).tmod 5 = ((k % 5 : Nat) : Int) := tmod_nat k 5
  have h5 : k % 5 < 5 := Nat.mod_lt _ (by decide)
  have hne : ¬ ws = [] := fun e => by rw [e] at hp; simp at hp
  have fin : ∀ (q : Rd), q.ok → ∀ ws : List ByteArray, ws.length ≤ 100000 → (∀ i, (txAt ws i).size ≤ 100000) → VProc Tryz.prog 71 [.ptr 0 2 0 0, .own 1] [some ⟨138, 2, 1, fun _ => [.sl 1 q.n (rdCells q.f), .lit (.int .i64 (k % 5 : Nat))]⟩, txRow ws] [] (fun av mem maps => av = .lit (.string (spread ws { q with p := k % 5 })) ∧ mem = [rdOb (spreadRd ws { q with p := k % 5 }), txRow ws] ∧ maps = []) := fun q hq ws h1 h2 => c_l3Spread ws h1 h2 { q with p := k % 5 } ⟨hq.1, by simp only; omega, hq.2.2⟩
  by_cases h7 : sp = true ∧ k % 8 = 7
  · rw [if_pos h7]
    obtain ⟨rfl, h7⟩ := h7
    have h7' : (k : Int) % 8 = 7 := by omega
    have h64' : ¬ (k : Int) % 64 = 6 := by omega
    have c3 := c_l2DrawWord l hl q hq
    have ei : (IntKind.i64.wrap ((k : Int) / 8)).tmod ws.length = ((k / 8 % ws.length : Nat) : Int) := quo_rem k 8 ws.length (by omega)
    have hi : k / 8 % ws.length < ws.length := Nat.mod_lt _ hp
    have hwt := wordT_size (fun i hi => by have := hx _ (opAt_mem hi); omega) q.v q.nx.v (l := l)
    generalize k / 8 % ws.length = i at *
    refine vproc_start Tryz.func64 (by kernel_rfl) rfl (by simp [Tryz.ntmps64]) ?_; simp only [Tryz.ntmps64, Tryz.results64]; simp [go_sem]
    refine vS [0] c1 ?_
    rintro av mem maps ⟨rfl, rfl, rfl⟩
    simp [go_sem, K]
    refine vS [0, 1] c2 ?_
    rintro av mem maps ⟨rfl, rfl, rfl⟩
    simp [go_sem, K, e8, h7', hne, ei]
    refine ⟨by omega, vS [0, 1] c3 ?_⟩
    rintro av mem maps ⟨rfl, rfl, rfl⟩
    simp [go_sem, K, e64, h64', e5]
    refine ⟨hi, ?_⟩
    have cs := fin (if wordTwo l q.v then q.nx.nx else q.nx) (by by_cases h : wordTwo l q.v = true <;> simp only [h] <;> first | exact Rd.nx_ok (Rd.nx_ok hq) | exact Rd.nx_ok hq) (ws.set i (wordT l q.v q.nx.v)) (by simp; omega) (fun j => ?_)
    · generalize (if wordTwo l q.v = true then q.nx.nx else q.nx) = q' at *
      refine vS [0, 3] cs ?_ (hs := ?_)
      · rintro av mem maps ⟨rfl, rfl, rfl⟩
        simp [go_sem, K]
        exact vF [] [rdOb (spreadRd (ws.set i (wordT l q.v q.nx.v)) { q' with p := k % 5 }), tab l]
      · simp [go_sem, K]
        intro j hj
        rw [show (fun i => txCells ws i) = txCells ws from rfl, tx_set _ hi j hj]
        exact cellsRn_lits (txLit _ j)
    · have := hsz j
      unfold txAt at this ⊢
      rw [List.getD_eq_getElem?_getD] at this ⊢
      rw [List.getElem?_set]
      by_cases e : i = j
      · subst e
        rw [if_pos rfl, if_pos hi]
        simp only [Option.getD_some]; omega
      · rw [if_neg e]; omega
  · rw [if_neg h7]
    by_cases h6 : sp = true ∧ k % 64 = 6
    · rw [if_pos h6]
      obtain ⟨rfl, h6⟩ := h6
      have h7' : ¬ (k : Int) % 8 = 7 := by omega
      have h6' : (k : Int) % 64 = 6 := by omega
      refine vproc_start Tryz.func64 (by kernel_rfl) rfl (by simp [Tryz.ntmps64]) ?_; simp only [Tryz.ntmps64, Tryz.results64]; simp [go_sem]
      refine vS [0] c1 ?_
      rintro av mem maps ⟨rfl, rfl, rfl⟩
      simp [go_sem, K]
      refine vS [0, 1] c2 ?_
      rintro av mem maps ⟨rfl, rfl, rfl⟩
      have hn64 : k / 64 ≤ 3 := by omega
      have e64q : IntKind.i64.wrap ((k : Int) / 64) = ((k / 64 : Nat) : Int) := div_small (by omega)
      generalize k / 64 = m at *
      have e98 : IntKind.i64.wrap (998 + (m : Int)) = ((998 + m : Nat) : Int) := by rw [wrap_i64 (by omega)]; omega
      have z1 : ∀ j, (runB ⟨#[]⟩ ⟨#[40]⟩ j).size = j := fun j => by rw [runB_size]; simp [ByteArray.size]
      have z2 : ∀ j, (runB (runB ⟨#[]⟩ ⟨#[40]⟩ (998 + m) ++ ⟨#[97]⟩) ⟨#[41]⟩ j).size = 998 + m + 1 + j := fun j => by rw [runB_size, ByteArray.size_append, z1]; simp [ByteArray.size]
      simp [go_sem, K, e8, h7', e64, h6']
      refine vc_loopE (fun j : Nat => j ≤ 998 + m) (fun j => 998 + m - j) (fun j => ⟨[(0, .ptr 0 2 0 0), (7, .lit (.int .i64 k)), (10, .own 2), (11, .lit (.int .i64 j))], [rdOb q, tab l, some ⟨5, 1, j, byteCells (runB ⟨#[]⟩ ⟨#[40]⟩ j)⟩], [], 2⟩) ⟨0, by omega, vE [0, 1, 4]⟩ (fun j hj => ?_)
      have ewj : IntKind.i64.wrap ((j : Int) + 1) = ((j + 1 : Nat) : Int) := by rw [wrap_i64 (by omega)]; omega
      simp [go_sem, K, e64q, e98]
      refine ⟨fun hlt => ⟨by omega, by omega, j + 1, by omega, by omega, vE [0, 1, 4] ?_ (by simp [go_sem, K, ewj])⟩, fun hge => ⟨by omega, by omega, ?_⟩⟩
      · simp [go_sem, K]
        exact .inr (by_mem (ByIs.join .rfl (.one 40) (by rw [z1])) (z1 (j + 1)).symm)
      obtain rfl : j = 998 + m := by omega
      refine vc_loopE (fun j : Nat => j ≤ 998 + m) (fun j => 998 + m - j) (fun j => ⟨[(0, .ptr 0 2 0 0), (7, .lit (.int .i64 k)), (10, .own 2), (12, .lit (.int .i64 j))], [rdOb q, tab l, some ⟨5, 1, 998 + m + 1 + j, byteCells (runB (runB ⟨#[]⟩ ⟨#[40]⟩ (998 + m) ++ ⟨#[97]⟩) ⟨#[41]⟩ j)⟩], [], 2⟩) ⟨0, by omega, vE [0, 1, 4] ?_⟩ (fun j hj => ?_)
      · simp [go_sem, K]
        exact .inr (by_mem (ByIs.join .rfl (.one 97) (by rw [z1])) (z2 0).symm)
      have ewj : IntKind.i64.wrap ((j : Int) + 1) = ((j + 1 : Nat) : Int) := by rw [wrap_i64 (by omega)]; omega
      simp [go_sem, K, e64q, e98]
      refine ⟨fun hlt => ⟨by omega, by omega, j + 1, by omega, by omega, vE [0, 1, 4] ?_ (by simp [go_sem, K, ewj])⟩, fun hge => ?_⟩
      · simp [go_sem, K]
        exact .inr ⟨by omega, (by_mem (ByIs.join .rfl (.one 41) (by rw [z2])) (z2 (j + 1)).symm)⟩
      obtain rfl : j = 998 + m := by omega
      exact ⟨_, z2 _, fun _ _ => rfl, vF [] [rdOb q, tab l] (hR := by simp [go_sem, K, brText])⟩
    · rw [if_neg h6]
      have cs := fin q hq ws (by omega) (fun i => by have := hsz i; omega)
      refine vproc_start Tryz.func64 (by kernel_rfl) rfl (by simp [Tryz.ntmps64]) ?_; simp only [Tryz.ntmps64, Tryz.results64]; simp [go_sem]
      refine vS [0] c1 ?_
      rintro av mem maps ⟨rfl, rfl, rfl⟩
      simp [go_sem, K]
      refine vS [0, 1] c2 ?_
      rintro av mem maps ⟨rfl, rfl, rfl⟩
      have hsp : sp = false ∨ (sp = true ∧ ¬ (k : Int) % 8 = 7 ∧ ¬ (k : Int) % 64 = 6) := by
        cases sp with
        | false => exact .inl rfl
        | true => simp at h7 h6; exact .inr ⟨rfl, by omega, by omega⟩
      rcases hsp with hsp | ⟨hsp, h7', h6'⟩
      case' inl => simp [go_sem, K, hsp, e5]
      case' inr => simp [go_sem, K, hsp, e8, h7', e64, h6', e5]
      all_goals
        refine vS [0, 3] cs ?_
        rintro av mem maps ⟨rfl, rfl, rfl⟩
        simp [go_sem, K]
        exact vF [] [rdOb (spreadRd ws { q with p := k % 5 }), tab l]
def minTx (n : Nat) : ByteArray := runB ⟨#[]⟩ ⟨#[45, 32]⟩ n ++ ⟨#[49]⟩
def padB (z : ByteArray) (n : Nat) : ByteArray := runB z ⟨#[32]⟩ (n - z.size)
def parOut (k : Nat) (l : List POp) (z : ByteArray × Rd) : List POp × ByteArray :=
 if k % 32 = 29 then ([minusOp], minTx (998 + k / 32 % 4)) else if k % 32 = 31 then (spoilTab l z.2, z.1) else if k % 32 = 30 then (l, padB z.1 (19999 + k / 32 % 3)) else (l, z.1)
def drawPar (N : Nat) (f : Nat → Nat) : List POp × ByteArray := parOut (rdOf N f).v (drawTab (rdOf N f).nx).1 (drawText (drawTab (rdOf N f).nx).1 (decide ((rdOf N f).v % 3 = 2)) (drawTab (rdOf N f).nx).2)
theorem ByIs.two (c d : UInt8) : ByIs (fun i => [[AV.lit (.int .u8 c.toNat)], [AV.lit (.int .u8 d.toNat)]][i]?.getD []) ⟨#[c, d]⟩ := fun i hi => by
 have : (⟨#[c, d]⟩ : ByteArray).size = 2 := _root_.rfl
 have : i = 0 ∨ i = 1 := by omega
 rcases this with rfl | rfl <;> exact _root_.rfl
theorem spread_size {ws : List ByteArray} {B : Nat} (hB : ∀ i, (txAt ws i).size ≤ B) (r : Rd) : (spread ws r).size ≤ ws.length * (B + 2) + 4 := by
 have h1 := spr_size hB r ws.length
 have h2 := gapT_size (sprR ws r ws.length).2.v
 unfold spread
 rw [ByteArray.size_append]
 omega
theorem spread_okw {ws : List ByteArray} {r : Rd} (h : r.okw) : (spreadRd ws r).okw := Rd.nx_okw (spr_ok h ws ws.length)
theorem drawText_ok {l : List POp} (hx : ∀ o, o ∈ l → o.text.size ≤ 6) {sp : Bool} {r : Rd} (hr : r.ok) : (drawText l sp r).1.size ≤ 500000 ∧ (drawText l sp r).2.okw := by
 have hn := Rd.nx_ok hr
 obtain ⟨hp, hlen, hsz, hq⟩ := drawWords_ok (l := l) hx hn
 have h5 : r.v % 5 < 5 := Nat.mod_lt _ (by decide)
 have hv := Rd.v_lt hr
 have okp : ∀ q : Rd, q.ok → ({ q with p := r.v % 5 } : Rd).okw := fun q h => ⟨h.1, by simp only; omega, h.2.2⟩
 have mul : ∀ n, n ≤ 4000 → n * (100 + 2) ≤ 408000 := fun n h => by have := Nat.mul_le_mul_right 102 h; omega
 unfold drawText
 split
 ·have hwt := wordT_size (fun i hi => by have := hx _ (opAt_mem hi); omega) (drawWords l r.nx).2.v (drawWords l r.nx).2.nx.v (l := l)
  have hB : ∀ i, (txAt ((drawWords l r.nx).1.set (r.v / 8 % (drawWords l r.nx).1.length) (wordT l (drawWords l r.nx).2.v (drawWords l r.nx).2.nx.v)) i).size ≤ 100 := fun i => by
   refine txAt_le (fun w hw => ?_) i
   rcases List.mem_or_eq_of_mem_set hw with h | h
   ·obtain ⟨j, hj, rfl⟩ := List.getElem_of_mem h
    have := hsz j
    unfold txAt at this
    rw [List.getD_eq_getElem?_getD, List.getElem?_eq_getElem hj] at this
    simp only [Option.getD_some] at this
    omega
   ·rw [h]; exact hwt
  refine ⟨?_, spread_okw (okp _ ?_)⟩
  ·have := spread_size hB { (if wordTwo l (drawWords l r.nx).2.v then (drawWords l r.nx).2.nx.nx else (drawWords l r.nx).2.nx) with p := r.v % 5 }
   have := mul _ hlen
   rw [List.length_set] at *
   show (spread _ _).size ≤ 500000
   omega
  ·split
   ·exact Rd.nx_ok (Rd.nx_ok hq)
   ·exact Rd.nx_ok hq
 ·split
  ·refine ⟨?_, hq.w⟩
   simp only [brText]
   rw [runB_size, ByteArray.size_append, runB_size]
   simp [ByteArray.size]
   omega
  ·refine ⟨?_, spread_okw (okp _ hq)⟩
   have := spread_size hsz { (drawWords l r.nx).2 with p := r.v % 5 }
   have := Nat.mul_le_mul_right 8 hlen
   show (spread _ _).size ≤ 500000
   omega
theorem drawPar_ok {N : Nat} {f : Nat → Nat} (hf : ∀ i, f i < 256) : (drawPar N f).1.length ≤ 501 ∧ opsWf (drawPar N f).1 ∧ (drawPar N f).2.size ≤ 600000 := by
 have hr := rdOf_ok N f hf
 have hn := Rd.nx_ok hr
 have h1 := drawTab_txt (rdOf N f).nx
 have h2 := drawTab_len (rdOf N f).nx
 have h3 := drawTab_ok hn
 have h4 := drawText_ok (l := (drawTab (rdOf N f).nx).1) (fun o ho => by have := h1 o ho; omega) (sp := decide ((rdOf N f).v % 3 = 2)) h3
 unfold drawPar
 generalize drawText (drawTab (rdOf N f).nx).1 (decide ((rdOf N f).v % 3 = 2)) (drawTab (rdOf N f).nx).2 = S at *
 generalize drawTab (rdOf N f).nx = T at *
 have wf : ∀ l : List POp, (∀ o, o ∈ l → o.text.size ≤ 17) → opsWf l := fun l h i hi => by
  have := h _ (opAt_mem hi)
  show (opAt l i).wf
  simp only [POp.wf, maxLen]; omega
 unfold parOut
 split
 ·refine ⟨by simp, wf _ fun o ho => by simp at ho; subst ho; decide, ?_⟩
  simp only [minTx]
  rw [ByteArray.size_append, runB_size]
  simp [ByteArray.size]
  omega
 ·split
  ·exact ⟨spoilTab_len h2 _, wf _ (spoilTab_txt h1 _), by simp only; omega⟩
  ·split
   ·refine ⟨by simp only; omega, wf _ fun o ho => by have := h1 o ho; omega, ?_⟩
    simp only [padB]
    rw [runB_size, show (⟨#[32]⟩ : ByteArray).size = 1 from rfl]
    omega
   ·exact ⟨by simp only; omega, wf _ fun o ho => by have := h1 o ho; omega, by simp only; omega⟩
set_option maxHeartbeats 4000000 in
set_option maxRecDepth 100000 in
theorem c_DrawParse (N : Nat) (f : Nat → Nat) (hN : N ≤ 9223372036854775807) (hf : ∀ i, f i < 256) : VFun Tryz.prog 30 [.sl 1 N (rdCells f)] (fun av obs => av = .tup [.agg [.own 0], .lit (.string (drawPar N f).2)] ∧ obs = [⟨133, 4, (drawPar N f).1.length, opCells (drawPar N f).1⟩]) := by
 have c0 := c_l1Open N f hN
 have hr := rdOf_ok N f hf
 have hn := Rd.nx_ok hr
 have hv := Rd.v_lt hr
 have c1 := c_next (rdOf N f) hr
 have c2 := c_l1DrawTable (rdOf N f).nx hn
 have h1 := drawTab_txt (rdOf N f).nx
 have h2 := drawTab_len (rdOf N f).nx
 have h3 := drawTab_ok hn
 have h0 := drawTab_tbl (rdOf N f).nx
 have hx : ∀ o, o ∈ (drawTab (rdOf N f).nx).1 → o.text.size ≤ 6 := fun o ho => by have := h1 o ho; omega
 have hw : opsWf (drawTab (rdOf N f).nx).1 := fun i hi => by have := hx _ (opAt_mem hi); show (opAt _ i).wf; simp only [POp.wf, maxLen]; omega
 have h4 := drawText_ok hx (sp := decide ((rdOf N f).v % 3 = 2)) h3
 have c3 := c_l3DrawText (drawTab (rdOf N f).nx).1 (by omega) (kinds_of h0) hw hx (decide ((rdOf N f).v % 3 = 2)) (drawTab (rdOf N f).nx).2 h3
 unfold drawPar
 generalize drawText (drawTab (rdOf N f).nx).1 (decide ((rdOf N f).v % 3 = 2)) (drawTab (rdOf N f).nx).2 = S at *
 generalize drawTab (rdOf N f).nx = T at *
 generalize rdOf N f = r at *
 generalize r.v = k at *
 obtain ⟨z, q⟩ := S
 have c4 := c_l1SpoilTableW T.1 (by omega) (fun i hi => by have := hx _ (opAt_mem hi); omega) q h4.2
 have e3 : ((k : Int).tmod 3 == 2) = decide (k % 3 = 2) := by
  rw [show (k : Int).tmod 3 = ((k % 3 : Nat) : Int) from tmod_nat k 3, Bool.eq_iff_iff]; simp; omega
 have e32 : (k : Int).tmod 32 = ((k % 32 : Nat) : Int) := tmod_nat k 32
 have hk32 : IntKind.i64.wrap ((k : Int) / 32) = ((k / 32 : Nat) : Int) := div_small (by omega)
 unfold parOut
 refine vfun_start Tryz.func30 (by kernel_rfl) rfl (by simp [Tryz.ntmps30]) ?_; simp only [Tryz.ntmps30, Tryz.results30]; simp [go_sem]
 refine vS [] c0 ?_
 rintro av mem maps ⟨rfl, rfl, rfl⟩
 simp [go_sem, K]
 refine vS [1] c1 ?_
 rintro av mem maps ⟨rfl, rfl, rfl⟩
 simp [go_sem, K]
 refine vS [1] c2 ?_
 rintro av mem maps ⟨rfl, rfl, rfl⟩
 simp [go_sem, K, e3]
 refine vS [1, 2] c3 ?_
 rintro av mem maps ⟨rfl, rfl, rfl⟩
 by_cases h31 : k % 32 = 31
 ·rw [if_neg (by omega), if_pos h31]
  have a31 : (k : Int) % 32 = 31 := by omega
  simp [go_sem, K, e32, a31]
  refine vS [1, 2] c4 ?_
  rintro av mem maps ⟨rfl, ⟨_, rfl, rfl⟩ | ⟨_, rfl, rfl⟩⟩
  all_goals
   simp [go_sem, K, e32, a31]
   exact ⟨⟨rfl, rfl, rfl, fun _ _ => ⟨rfl, opLit _ _⟩⟩, trivial⟩
 ·have a31 : ¬ (k : Int) % 32 = 31 := by omega
  by_cases h29 : k % 32 = 29
  ·rw [if_pos h29]
   have a29 : (k : Int) % 32 = 29 := by omega
   have hm : k / 32 % 4 < 4 := Nat.mod_lt _ (by decide)
   have em : (IntKind.i64.wrap ((k : Int) / 32)).tmod 4 = ((k / 32 % 4 : Nat) : Int) := quo_rem k 32 4 (by omega)
   generalize k / 32 % 4 = m at *
   have w1 : IntKind.i64.wrap (1000 + (m : Int)) = 1000 + (m : Int) := wrap_i64 (by omega)
   have w2 : IntKind.i64.wrap (1000 + (m : Int) - 2) = ((998 + m : Nat) : Int) := by rw [wrap_i64 (by omega)]; omega
   have z1 : ∀ j, (runB ⟨#[]⟩ ⟨#[45, 32]⟩ j).size = j * 2 := fun j => by rw [runB_size]; simp [ByteArray.size]
   simp [go_sem, K, e32, a29, em, w1, w2]
   refine vc_loopE (fun j : Nat => j ≤ 998 + m) (fun j => 998 + m - j) (fun j => ⟨[(2, .ptr 0 1 0 0), (8, .own 1), (9, .lit (.int .i64 (998 + m : Nat))), (10, .lit (.int .i64 j))], [some ⟨30, 1, 1, fun _ => [.lit (.slice none 0 0)]⟩, some ⟨5, 1, j * 2, byteCells (runB ⟨#[]⟩ ⟨#[45, 32]⟩ j)⟩], [], 0⟩) ⟨0, by omega, vE [0, 4]⟩ (fun j hj => ?_)
   have ewj : IntKind.i64.wrap ((j : Int) + 1) = ((j + 1 : Nat) : Int) := by rw [wrap_i64 (by omega)]; omega
   simp [go_sem, K]
   refine ⟨fun hlt => ⟨fun i hi x hx => by rcases (by omega : i = 0 ∨ i = 1) with rfl | rfl <;> simp at hx <;> subst hx <;> rfl, by omega, by omega, j + 1, by omega, by omega, vE [0, 3] ?_ (by simp [go_sem, K, ewj])⟩, fun hge => ?_⟩
   ·simp [go_sem, K]
    exact .inr ⟨by omega, by_mem (ByIs.join .rfl (.two 45 32) (by rw [z1])) (z1 (j + 1)).symm⟩
   obtain rfl : j = 998 + m := by omega
   refine vc_drawn [3,5] (.q 1 <| .or 0 (.or 2 (.or 3 (.or 4 (.or 5 (.q 6 <| .done) (.nil)) (.or 5 (.q 4 <| .q 6 <| .done) (.nil))) (.nil)) (.nil)) (.or 2 (.or 0 (.or 3 (.or 4 (.or 5 (.q 6 <| .done) (.nil)) (.or 5 (.q 4 <| .q 6 <| .done) (.nil))) (.nil)) (.nil)) (.nil))) (by kernel_rfl) ?_
   simp [go_sem, K]
   repeat' apply And.intro
   all_goals
    refine vcallV_use c_l3Minus ?_ ?_
    ·trivial
    rintro av obs ⟨rfl, rfl⟩
    simp [go_sem, K]
    exact ⟨by omega, by omega, minTx (998 + m), by rw [minTx, ByteArray.size_append, z1]; rfl, fun i hi => ByIs.join .rfl (.one 49) (by rw [z1]) i (by rw [ByteArray.size_append, z1]; exact hi), ⟨⟨rfl, rfl, rfl, fun _ _ => ⟨rfl, opLit _ _⟩⟩, trivial⟩, rfl⟩
  ·rw [if_neg h29, if_neg h31]
   have a29 : ¬ (k : Int) % 32 = 29 := by omega
   by_cases h30 : k % 32 = 30
   ·rw [if_pos h30]
    have a30 : (k : Int) % 32 = 30 := by omega
    have hm : k / 32 % 3 < 3 := Nat.mod_lt _ (by decide)
    have em : (IntKind.i64.wrap ((k : Int) / 32)).tmod 3 = ((k / 32 % 3 : Nat) : Int) := quo_rem k 32 3 (by omega)
    generalize k / 32 % 3 = m at *
    have w1 : IntKind.i64.wrap (20000 + (m : Int)) = 20000 + (m : Int) := wrap_i64 (by omega)
    have w2 : IntKind.i64.wrap (20000 + (m : Int) - 1) = ((19999 + m : Nat) : Int) := by rw [wrap_i64 (by omega)]; omega
    have z1 : ∀ j, (runB z ⟨#[32]⟩ j).size = z.size + j := fun j => by rw [runB_size, show (⟨#[32]⟩ : ByteArray).size = 1 from rfl]; omega
    have hz : z.size ≤ 500000 := h4.1
    simp [go_sem, K, e32, a30, em, w1, w2]
    refine ⟨by omega, ?_⟩
    refine vc_loopE (fun j : Nat => PadI z.size m j) (fun j => 19999 + m - (z.size + j)) (fun j => ⟨[(2, .ptr 0 1 0 0), (5, .lit (.int .i64 k)), (6, .ptr 2 1 0 0), (11, .own 3)], [some ⟨30, 1, 1, fun _ => [.lit (.slice none 0 0)]⟩, tab T.1, some ⟨30, 1, 1, fun _ => [.own 1]⟩, some ⟨5 + tagged, 1, z.size + j, byteCells (runB z ⟨#[32]⟩ j)⟩], [], 0⟩) ⟨0, .inl rfl, vE [0, 2, 3, 4] (by simp [go_sem, K, runB]; exact .inr fun i _ => cellsRn_lits rfl)⟩ (fun j hj => ?_)
    have hj' : j = 0 ∨ z.size + j ≤ 19999 + m := hj
    simp [go_sem, K, em, w1, w2]
    refine ⟨by omega, fun hlt => ⟨by omega, by omega, j + 1, .inr (by omega), by omega, vE [0, 1, 2, 5] ?_⟩, fun hge => ?_⟩
    ·simp [go_sem, K]
     exact .inr ⟨by omega, by_mem (ByIs.join .rfl (.one 32) (by rw [z1])) (z1 (j + 1)).symm⟩
    have hje : j = 19999 + m - z.size := by omega
    refine vc_drawn [3] (.q 0 <| .or 1 (.or 2 (.or 3 (.q 4 <| .done) (.nil)) (.or 3 (.q 2 <| .q 4 <| .done) (.nil))) (.or 3 (.q 1 <| .q 2 <| .q 4 <| .done) (.nil))) (by kernel_rfl) ?_
    simp [go_sem, K]
    exact ⟨_, z1 j, fun _ _ => rfl, ⟨⟨rfl, rfl, rfl, fun _ _ => ⟨rfl, opLit _ _⟩⟩, trivial⟩, by rw [hje]; rfl⟩
   ·rw [if_neg h30]
    have a30 : ¬ (k : Int) % 32 = 30 := by omega
    simp [go_sem, K, e32, a31, a29, a30]
    exact ⟨⟨rfl, rfl, rfl, fun _ _ => ⟨rfl, opLit _ _⟩⟩, trivial⟩
end Go.Proofs.YtjdmmhcogmepaaaGreatDoor.V
namespace Go.Proofs.YtjdmmhcogmepaaaGreatDoor.V
open Go.RowKit
open Go.Proofs.YtjdmmhcogmepaaaGreatDoor.Ops (Tr Tk Lv Res Fit)
theorem c_build_left_none (l : List POp) (hl : l.length ≤ 9223372036854775807) (hu : Uniq l) (t : List PTok) (ht : t.length ≤ 1048576) (rs : List Int) (hrs : rs.length = t.length) (a b : Nat) (s : List TkP) (hab : a + s.length = b) (hb : b ≤ t.length) (hs : SegIs l t rs a s) (k : Nat) (o : POp) (er : Ops.root lvO s 0 0 none = some (k, o)) (tk : TkP) (hk : s[k]? = some tk) (htk : tk = .inf o ∨ (tk = .post o ∧ k + 1 = s.length)) (out : List PNode) (ho : out.length ≤ 2000000)
  (ih : VProc Tryz.prog 70 [.agg [.sl 4 l.length (opCells l)], .sl 3 t.length (tokCells t), .sl 1 rs.length (intCells rs), .lit (.int .i64 a), .lit (.int .i64 (a + k : Nat)), .own 0] [nodRow out] [] (BuildR k out none)) :
  VProc Tryz.prog 70 [.agg [.sl 4 l.length (opCells l)], .sl 3 t.length (tokCells t), .sl 1 rs.length (intCells rs), .lit (.int .i64 a), .lit (.int .i64 b), .own 0] [nodRow out] [] (BuildR s.length out none) := by
 have cl : ∀ (i : Nat) (c : AV), i < l.length → c ∈ opCells l i → Closed c := fun i c _ h => opClosed l i c h
 have clt : ∀ (i : Nat) (c : AV), i < t.length → c ∈ tokCells t i → Closed c := fun i c _ h => tokClosed t i c h
 have cli : ∀ (i : Nat) (c : AV), i < rs.length → c ∈ intCells rs i → Closed c := fun i c _ h => intClosed rs i c h
 have cr := c_l3Root l hl hu t ht rs hrs a b s hab hb hs
 rw [er] at cr
 have eb : bestI a (some (k, o)) = ((a + k : Nat) : Int) := rfl
 rw [eb] at cr
 have hlt := (List.getElem?_eq_some_iff.1 hk).1
 obtain ⟨_, hr⟩ := seg_at hs hk
 have hp : a + k < t.length := by omega
 obtain ⟨p, hp'⟩ : ∃ p, a + k = p := ⟨_, rfl⟩
 rw [hp'] at cr hr hp ih
 have hp0 : ¬ ((p : Int) < 0) := by omega
 have hp2 : p < rs.length := by omega
 have w4 : IntKind.i64.wrap 4 = 4 := by decide
 have w5 : IntKind.i64.wrap 5 = 5 := by decide
 have wb : IntKind.i64.wrap ((b : Int) - 1) = (b : Int) - 1 := wrap_i64 (by omega)
 refine vproc_start Tryz.func70 (by kernel_rfl) rfl (by simp [Tryz.ntmps70]) ?_; simp only [Tryz.ntmps70, Tryz.results70]; simp [go_sem]
 refine vcall_pure cr ?_ ?_
 ·simp [go_sem]
  exact ⟨argSl_refl (by omega) cl, argSl_refl (by omega) clt, argSl_refl (by omega) cli⟩
 ·simp [go_sem, hp0]
  refine vc_drawn [12] (.q 0 <| .q 1 <| .q 2 <| .q 3 <| .q 4 <| .q 5 <| .q 6 <| .q 7 <| .q 8 <| .q 9 <| .q 10 <| .or 11 (.or 12 (.done) (.nil)) (.nil)) (by kernel_rfl) ?_
  rcases htk with rfl | ⟨rfl, hke⟩
  ·simp only [roleT] at hr
   simp [go_sem, tokCells_at, intCells_at, hp, hp2, hr, w4, nodRow]
   refine vcall_share [0] ih (by simp) ?_ ?_ trivial ?_
   ·simp [go_sem]
    exact ⟨cl, clt, cli⟩
   ·simp [go_sem, nodRow]
    exact fun i _ => cellsRn_lits (nodLit _ i)
   ·rintro av mem maps ⟨T, hT, hB⟩
    rcases hB with ⟨rfl, rfl, rfl⟩ | ⟨rfl, rfl, rfl⟩
    ·simp [go_sem, nodRow]
     refine ⟨rfl, [3], [none, nodRow T], by simp, by simp [go_sem], by simp [go_sem], ?_, by simp [go_sem], ?_⟩
     ·simp [go_sem, nodRow]
      exact outAt_same rfl fun j _ => rfl
     ·simp [go_sem]
      exact ⟨T, by omega, .inl ⟨rfl, rfl, rfl⟩⟩
    ·simp [go_sem, nodRow]
     refine ⟨rfl, [], [nodRow T], by simp, by simp [go_sem], by simp [go_sem], ?_, by simp [go_sem], ?_⟩
     ·simp [go_sem, nodRow]
      exact outAt_same rfl fun j _ => rfl
     ·simp [go_sem]
      exact ⟨T, by omega, .inr ⟨rfl, rfl, rfl⟩⟩
  ·simp only [roleT] at hr
   have hpb : IntKind.i64.wrap ((b : Int) - 1) = (p : Int) := by rw [wb]; omega
   simp [go_sem, tokCells_at, intCells_at, hp, hp2, hr, w5, hpb, nodRow]
   refine vcall_share [0] ih (by simp) ?_ ?_ trivial ?_
   ·simp [go_sem]
    exact ⟨cl, clt, cli⟩
   ·simp [go_sem, nodRow]
    exact fun i _ => cellsRn_lits (nodLit _ i)
   ·rintro av mem maps ⟨T, hT, hB⟩
    rcases hB with ⟨rfl, rfl, rfl⟩ | ⟨rfl, rfl, rfl⟩
    ·simp [go_sem, nodRow]
     refine ⟨rfl, [3], [none, nodRow T], by simp, by simp [go_sem], by simp [go_sem], ?_, by simp [go_sem], ?_⟩
     ·simp [go_sem, nodRow]
      exact outAt_same rfl fun j _ => rfl
     ·simp [go_sem]
      exact ⟨T, by omega, .inl ⟨rfl, rfl, rfl⟩⟩
    ·simp [go_sem, nodRow]
     refine ⟨rfl, [], [nodRow T], by simp, by simp [go_sem], by simp [go_sem], ?_, by simp [go_sem], ?_⟩
     ·simp [go_sem, nodRow]
      exact outAt_same rfl fun j _ => rfl
     ·simp [go_sem]
      exact ⟨T, by omega, .inr ⟨rfl, rfl, rfl⟩⟩
theorem has_last {l : List POp} (hu : Uniq l) (e : PT) (out : List PNode) (h1 : LeavesOk e) (h2 : e.All lvO (InL l)) (h3 : KindsOk e) (h : isOpN (nodAt (lay e out) ((lay e out).length - 1)) = true) : opHas l (nodAt (lay e out) ((lay e out).length - 1)).text ((nodAt (lay e out) ((lay e out).length - 1)).kind - 2) = true := by
 have one : ∀ {o : POp}, InL l o → opHas l o.text (o.kind + 2 - 2) = true := fun {o} hj => by
  rw [show o.kind + 2 - 2 = o.kind by omega]
  exact (op_unique hu rfl hj).1
 cases e with
 | leaf b =>
  simp only [lay, last_node] at h
  have h1' : b.1 = 1 ∨ b.1 = 2 := h1
  simp [isOpN] at h; omega
 | grp e => simp only [lay, last_node] at h; simp [isOpN] at h
 | pre o e => simp only [lay, last_node]; exact one h2.1
 | post o e => simp only [lay, last_node]; exact one h2.1
 | inf o x y => simp only [lay, last_node]; exact one h2.1
theorem argSl_ownE {mem : List (Option Ob)} {k sz n N ty : Nat} {f f' : Nat → List AV} (hk : mem[k]? = some (some ⟨ty, sz, N, f⟩)) (hsz : 0 < sz) (hn : N = n) (h : ∀ i, i < n → f i = f' i) (hc : ∀ (i : Nat) c, i < n → c ∈ f' i → Closed c) : ArgSl mem (.own k) sz n f' :=
 ⟨hsz, f, by simp [contents, hk, hn], fun i hi => ⟨h i hi, fun c hc' => hc i c hi hc'⟩⟩
theorem c_build_pre_some (l : List POp) (hl : l.length ≤ 9223372036854775807) (hu : Uniq l) (t : List PTok) (ht : t.length ≤ 1048576) (rs : List Int) (hrs : rs.length = t.length) (a b : Nat) (s : List TkP) (hab : a + s.length = b) (hb : b ≤ t.length) (hs : SegIs l t rs a s) (o : POp) (er : Ops.root lvO s 0 0 none = some (0, o)) (hk : s[0]? = some (.pre o)) (hw : opsWf l) (hj : InL l o) (hok : opOk o = true) (hk1 : o.kind = 1) (e : PT) (h1 : LeavesOk e) (h2 : e.All lvO (InL l)) (h3 : KindsOk e) (out : List PNode) (ho : out.length ≤ 2000000) (hle : (lay e out).length ≤ 3000000) (hsz : (lay e out).length ≤ out.length + (s.length - 1))
  (ih : VProc Tryz.prog 70 [.agg [.sl 4 l.length (opCells l)], .sl 3 t.length (tokCells t), .sl 1 rs.length (intCells rs), .lit (.int .i64 (a + 1 : Nat)), .lit (.int .i64 b), .own 0] [nodRow out] [] (BuildR (s.length - 1) out (some e))) :
  VProc Tryz.prog 70 [.agg [.sl 4 l.length (opCells l)], .sl 3 t.length (tokCells t), .sl 1 rs.length (intCells rs), .lit (.int .i64 a), .lit (.int .i64 b), .own 0] [nodRow out] [] (BuildR s.length out (if (lvO o).h2 ≤ e.level lvO then some (.pre o e) else none)) := by
 have cl : ∀ (i : Nat) (c : AV), i < l.length → c ∈ opCells l i → Closed c := fun i c _ h => opClosed l i c h
 have clt : ∀ (i : Nat) (c : AV), i < t.length → c ∈ tokCells t i → Closed c := fun i c _ h => tokClosed t i c h
 have cli : ∀ (i : Nat) (c : AV), i < rs.length → c ∈ intCells rs i → Closed c := fun i c _ h => intClosed rs i c h
 have cr := c_l3Root l hl hu t ht rs hrs a b s hab hb hs
 rw [er] at cr
 have eb : bestI a (some (0, o)) = (a : Int) := by simp [bestI]
 rw [eb] at cr
 have hlt := (List.getElem?_eq_some_iff.1 hk).1
 obtain ⟨hTk, hr⟩ := seg_at hs hk
 have htx : o.text = (tokAt t a).text := hTk.2.1
 simp only [Nat.add_zero, roleT] at hr
 have hp : a < t.length := by omega
 have hp0 : ¬ ((a : Int) < 0) := by omega
 have hp2 : a < rs.length := by omega
 have w : IntKind.i64.wrap 3 = 3 := by decide
 have ew1 : IntKind.i64.wrap ((a : Int) + 1) = ((a + 1 : Nat) : Int) := wrap_succ (by omega)
 refine vproc_start Tryz.func70 (by kernel_rfl) rfl (by simp [Tryz.ntmps70]) ?_; simp only [Tryz.ntmps70, Tryz.results70]; simp [go_sem]
 refine vcall_pure cr ?_ ?_
 ·simp [go_sem]
  exact ⟨argSl_refl (by omega) cl, argSl_refl (by omega) clt, argSl_refl (by omega) cli⟩
 ·simp [go_sem, hp0]
  refine vc_drawn [12] (.q 0 <| .q 1 <| .q 2 <| .q 3 <| .q 4 <| .q 5 <| .q 6 <| .q 7 <| .q 8 <| .q 9 <| .q 10 <| .or 11 (.or 12 (.done) (.nil)) (.nil)) (by kernel_rfl) ?_
  simp [go_sem, tokCells_at, intCells_at, hp, hp2, hr, w, ew1, nodRow]
  refine vcall_share [0] ih (by simp) ?_ ?_ trivial ?_
  ·simp [go_sem]
   exact ⟨cl, clt, cli⟩
  ·simp [go_sem, nodRow]
   exact fun i _ => cellsRn_lits (nodLit _ i)
  ·rintro av mem maps ⟨rfl, rfl, rfl⟩
   have hg := lay_grows e out
   have ew : IntKind.i64.wrap (((lay e out).length : Int) - 1) = ((lay e out).length : Int) - 1 := wrap_i64 (by omega)
   simp [go_sem, nodRow, ew]
   have ew0 : IntKind.i64.wrap ((lay e out).length : Int) = (lay e out).length := wrap_i64 (by omega)
   obtain ⟨T2, hT2⟩ : ∃ T2, T2 = lay e out ++ [(⟨o.text, 3, ((lay e out).length : Int) - 1, 0⟩ : PNode)] := ⟨_, rfl⟩
   have hl2 : T2.length = (lay e out).length + 1 := by rw [hT2]; simp
   have hn : nodAt T2 (lay e out).length = ⟨o.text, 3, ((lay e out).length : Int) - 1, 0⟩ := by rw [hT2]; exact nodAt_new
   have hf : fitsN l T2 (lay e out).length = decide ((lvO o).h2 ≤ e.level lvO) := by rw [hT2]; exact fits_pre hu hj hok hk1 e out h1 h2 h3
   have cf := c_l3Fits l hl hw T2 (by omega) (lay e out).length (by omega) (fun _ => by
    rw [hn]
    have ha : (((lay e out).length : Int) - 1).toNat = (lay e out).length - 1 := by omega
    simp only [ha]
    rw [show nodAt T2 ((lay e out).length - 1) = nodAt (lay e out) ((lay e out).length - 1) by rw [hT2]; exact nodAt_old (by omega)]
    refine ⟨by have := (op_unique hu (z := o.text) rfl hj).1; rw [hk1] at this; exact this, by omega, has_last hu e out h1 h2 h3, fun hh => absurd rfl hh⟩)
   rw [hf] at cf
   rw [ew0]
   refine ⟨by omega, by omega, by omega, by omega, vcall_pure cf ?_ ?_⟩
   ·simp [go_sem]
    exact ⟨argSl_refl (by omega) cl, argSl_ownE (k := 5) rfl (by omega) hl2.symm (fun i hi => by rw [hT2, htx]; exact nod_app (lay e out) ⟨(tokAt t a).text, 3, ((lay e out).length : Int) - 1, 0⟩ i (by omega)) (fun i c _ h => nodClosed T2 i c h)⟩
   ·simp [go_sem]
    by_cases hc : (lvO o).h2 ≤ e.level lvO
    ·simp only [if_pos hc, hc, decide_true, if_true]
     refine ⟨rfl, [5], [none, nodRow (lay (.pre o e) out)], by simp, by simp [go_sem], by simp [go_sem], ?_, by simp [go_sem], ?_⟩
     ·simp [go_sem, nodRow]
      refine outAt_app (o := ⟨(tokAt t a).text, 3, ((lay e out).length : Int) - 1, 0⟩) (by rw [← htx]; simp [lay, hk1]) fun j hj => ?_
      exact nod_app (lay e out) ⟨(tokAt t a).text, 3, ((lay e out).length : Int) - 1, 0⟩ j hj
     ·simp [go_sem, BuildR, nodRow]
    ·simp only [if_neg hc, hc, decide_false]
     refine ⟨rfl, [5], [none, nodRow T2], by simp, by simp [go_sem], by simp [go_sem], ?_, by simp [go_sem], ?_⟩
     ·simp [go_sem, nodRow]
      refine outAt_app (o := ⟨(tokAt t a).text, 3, ((lay e out).length : Int) - 1, 0⟩) (by rw [← htx]; exact hT2) fun j hj => ?_
      exact nod_app (lay e out) ⟨(tokAt t a).text, 3, ((lay e out).length : Int) - 1, 0⟩ j hj
     ·simp [go_sem]
      exact ⟨T2, by omega, .inl ⟨rfl, rfl, rfl⟩⟩
theorem c_build_post_some (l : List POp) (hl : l.length ≤ 9223372036854775807) (hu : Uniq l) (t : List PTok) (ht : t.length ≤ 1048576) (rs : List Int) (hrs : rs.length = t.length) (a b : Nat) (s : List TkP) (hab : a + s.length = b) (hb : b ≤ t.length) (hs : SegIs l t rs a s) (k : Nat) (o : POp) (er : Ops.root lvO s 0 0 none = some (k, o)) (hk : s[k]? = some (.post o)) (hke : k + 1 = s.length) (hw : opsWf l) (hj : InL l o) (hok : opOk o = true) (hk1 : o.kind = 3) (e : PT) (h1 : LeavesOk e) (h2 : e.All lvO (InL l)) (h3 : KindsOk e) (out : List PNode) (ho : out.length ≤ 2000000) (hle : (lay e out).length ≤ 3000000) (hsz : (lay e out).length ≤ out.length + (s.length - 1))
  (ih : VProc Tryz.prog 70 [.agg [.sl 4 l.length (opCells l)], .sl 3 t.length (tokCells t), .sl 1 rs.length (intCells rs), .lit (.int .i64 a), .lit (.int .i64 (a + k : Nat)), .own 0] [nodRow out] [] (BuildR k out (some e))) :
  VProc Tryz.prog 70 [.agg [.sl 4 l.length (opCells l)], .sl 3 t.length (tokCells t), .sl 1 rs.length (intCells rs), .lit (.int .i64 a), .lit (.int .i64 b), .own 0] [nodRow out] [] (BuildR s.length out (if (lvO o).h1 ≤ e.level lvO then some (.post o e) else none)) := by
 have cl : ∀ (i : Nat) (c : AV), i < l.length → c ∈ opCells l i → Closed c := fun i c _ h => opClosed l i c h
 have clt : ∀ (i : Nat) (c : AV), i < t.length → c ∈ tokCells t i → Closed c := fun i c _ h => tokClosed t i c h
 have cli : ∀ (i : Nat) (c : AV), i < rs.length → c ∈ intCells rs i → Closed c := fun i c _ h => intClosed rs i c h
 have cr := c_l3Root l hl hu t ht rs hrs a b s hab hb hs
 rw [er] at cr
 have eb : bestI a (some (k, o)) = ((a + k : Nat) : Int) := rfl
 rw [eb] at cr
 have hlt := (List.getElem?_eq_some_iff.1 hk).1
 obtain ⟨hTk, hr⟩ := seg_at hs hk
 simp only [roleT] at hr
 have hp : a + k < t.length := by omega
 obtain ⟨p, hp'⟩ : ∃ p, a + k = p := ⟨_, rfl⟩
 rw [hp'] at cr hr hp ih hTk
 have htx : o.text = (tokAt t p).text := hTk.2.1
 have hp0 : ¬ ((p : Int) < 0) := by omega
 have hp2 : p < rs.length := by omega
 have w5 : IntKind.i64.wrap 5 = 5 := by decide
 have hpb : IntKind.i64.wrap ((b : Int) - 1) = (p : Int) := by rw [wrap_i64 (by omega)]; omega
 refine vproc_start Tryz.func70 (by kernel_rfl) rfl (by simp [Tryz.ntmps70]) ?_; simp only [Tryz.ntmps70, Tryz.results70]; simp [go_sem]
 refine vcall_pure cr ?_ ?_
 ·simp [go_sem]
  exact ⟨argSl_refl (by omega) cl, argSl_refl (by omega) clt, argSl_refl (by omega) cli⟩
 ·simp [go_sem, hp0]
  refine vc_drawn [12] (.q 0 <| .q 1 <| .q 2 <| .q 3 <| .q 4 <| .q 5 <| .q 6 <| .q 7 <| .q 8 <| .q 9 <| .q 10 <| .or 11 (.or 12 (.done) (.nil)) (.nil)) (by kernel_rfl) ?_
  simp [go_sem, tokCells_at, intCells_at, hp, hp2, hr, w5, hpb, nodRow]
  refine vcall_share [0] ih (by simp) ?_ ?_ trivial ?_
  ·simp [go_sem]
   exact ⟨cl, clt, cli⟩
  ·simp [go_sem, nodRow]
   exact fun i _ => cellsRn_lits (nodLit _ i)
  ·rintro av mem maps ⟨rfl, rfl, rfl⟩
   have hg := lay_grows e out
   have ew : IntKind.i64.wrap (((lay e out).length : Int) - 1) = ((lay e out).length : Int) - 1 := wrap_i64 (by omega)
   simp [go_sem, nodRow, ew]
   have ew0 : IntKind.i64.wrap ((lay e out).length : Int) = (lay e out).length := wrap_i64 (by omega)
   obtain ⟨T2, hT2⟩ : ∃ T2, T2 = lay e out ++ [(⟨o.text, 5, ((lay e out).length : Int) - 1, 0⟩ : PNode)] := ⟨_, rfl⟩
   have hl2 : T2.length = (lay e out).length + 1 := by rw [hT2]; simp
   have hn : nodAt T2 (lay e out).length = ⟨o.text, 5, ((lay e out).length : Int) - 1, 0⟩ := by rw [hT2]; exact nodAt_new
   have hf : fitsN l T2 (lay e out).length = decide ((lvO o).h1 ≤ e.level lvO) := by rw [hT2]; exact fits_post hu hj hok hk1 e out h1 h2 h3
   have cf := c_l3Fits l hl hw T2 (by omega) (lay e out).length (by omega) (fun _ => by
    rw [hn]
    have ha : (((lay e out).length : Int) - 1).toNat = (lay e out).length - 1 := by omega
    simp only [ha]
    rw [show nodAt T2 ((lay e out).length - 1) = nodAt (lay e out) ((lay e out).length - 1) by rw [hT2]; exact nodAt_old (by omega)]
    refine ⟨by have := (op_unique hu (z := o.text) rfl hj).1; rw [hk1] at this; exact this, by omega, has_last hu e out h1 h2 h3, fun hh => absurd rfl hh⟩)
   rw [hf] at cf
   rw [ew0]
   refine ⟨by omega, by omega, by omega, by omega, vcall_pure cf ?_ ?_⟩
   ·simp [go_sem]
    exact ⟨argSl_refl (by omega) cl, argSl_ownE (k := 5) rfl (by omega) hl2.symm (fun i hi => by rw [hT2, htx]; exact nod_app (lay e out) ⟨(tokAt t p).text, 5, ((lay e out).length : Int) - 1, 0⟩ i (by omega)) (fun i c _ h => nodClosed T2 i c h)⟩
   ·simp [go_sem]
    by_cases hc : (lvO o).h1 ≤ e.level lvO
    ·simp only [if_pos hc, hc, decide_true, if_true]
     refine ⟨rfl, [5], [none, nodRow (lay (.post o e) out)], by simp, by simp [go_sem], by simp [go_sem], ?_, by simp [go_sem], ?_⟩
     ·simp [go_sem, nodRow]
      refine outAt_app (o := ⟨(tokAt t p).text, 5, ((lay e out).length : Int) - 1, 0⟩) (by rw [← htx]; simp [lay, hk1]) fun j hj => ?_
      exact nod_app (lay e out) ⟨(tokAt t p).text, 5, ((lay e out).length : Int) - 1, 0⟩ j hj
     ·simp [go_sem, BuildR, nodRow]
    ·simp only [if_neg hc, hc, decide_false]
     refine ⟨rfl, [5], [none, nodRow T2], by simp, by simp [go_sem], by simp [go_sem], ?_, by simp [go_sem], ?_⟩
     ·simp [go_sem, nodRow]
      refine outAt_app (o := ⟨(tokAt t p).text, 5, ((lay e out).length : Int) - 1, 0⟩) (by rw [← htx]; exact hT2) fun j hj => ?_
      exact nod_app (lay e out) ⟨(tokAt t p).text, 5, ((lay e out).length : Int) - 1, 0⟩ j hj
     ·simp [go_sem]
      exact ⟨T2, by omega, .inl ⟨rfl, rfl, rfl⟩⟩
theorem c_build_inf_none (l : List POp) (hl : l.length ≤ 9223372036854775807) (hu : Uniq l) (t : List PTok) (ht : t.length ≤ 1048576) (rs : List Int) (hrs : rs.length = t.length) (a b : Nat) (s : List TkP) (hab : a + s.length = b) (hb : b ≤ t.length) (hs : SegIs l t rs a s) (k : Nat) (o : POp) (er : Ops.root lvO s 0 0 none = some (k, o)) (hk : s[k]? = some (.inf o)) (hw : opsWf l) (hj : InL l o) (e : PT) (out : List PNode) (ho : out.length ≤ 2000000) (hle : (lay e out).length ≤ 3000000) (hsz : (lay e out).length ≤ out.length + k)
  (ih : VProc Tryz.prog 70 [.agg [.sl 4 l.length (opCells l)], .sl 3 t.length (tokCells t), .sl 1 rs.length (intCells rs), .lit (.int .i64 a), .lit (.int .i64 (a + k : Nat)), .own 0] [nodRow out] [] (BuildR k out (some e)))
  (ih2 : VProc Tryz.prog 70 [.agg [.sl 4 l.length (opCells l)], .sl 3 t.length (tokCells t), .sl 1 rs.length (intCells rs), .lit (.int .i64 (a + k + 1 : Nat)), .lit (.int .i64 b), .own 0] [nodRow (lay e out)] [] (BuildR (s.length - k - 1) (lay e out) none)) :
  VProc Tryz.prog 70 [.agg [.sl 4 l.length (opCells l)], .sl 3 t.length (tokCells t), .sl 1 rs.length (intCells rs), .lit (.int .i64 a), .lit (.int .i64 b), .own 0] [nodRow out] [] (BuildR s.length out none) := by
 have cl : ∀ (i : Nat) (c : AV), i < l.length → c ∈ opCells l i → Closed c := fun i c _ h => opClosed l i c h
 have clt : ∀ (i : Nat) (c : AV), i < t.length → c ∈ tokCells t i → Closed c := fun i c _ h => tokClosed t i c h
 have cli : ∀ (i : Nat) (c : AV), i < rs.length → c ∈ intCells rs i → Closed c := fun i c _ h => intClosed rs i c h
 have cr := c_l3Root l hl hu t ht rs hrs a b s hab hb hs
 rw [er] at cr
 have eb : bestI a (some (k, o)) = ((a + k : Nat) : Int) := rfl
 rw [eb] at cr
 have hlt := (List.getElem?_eq_some_iff.1 hk).1
 obtain ⟨hTk, hr⟩ := seg_at hs hk
 simp only [roleT] at hr
 have hp : a + k < t.length := by omega
 obtain ⟨p, hp'⟩ : ∃ p, a + k = p := ⟨_, rfl⟩
 rw [hp'] at cr hr hp ih ih2 hTk
 have htx : o.text = (tokAt t p).text := hTk.2.1
 have hp0 : ¬ ((p : Int) < 0) := by omega
 have hp2 : p < rs.length := by omega
 have w4 : IntKind.i64.wrap 4 = 4 := by decide
 have ew1 : IntKind.i64.wrap ((p : Int) + 1) = ((p + 1 : Nat) : Int) := wrap_succ (by omega)
 refine vproc_start Tryz.func70 (by kernel_rfl) rfl (by simp [Tryz.ntmps70]) ?_; simp only [Tryz.ntmps70, Tryz.results70]; simp [go_sem]
 refine vcall_pure cr ?_ ?_
 ·simp [go_sem]
  exact ⟨argSl_refl (by omega) cl, argSl_refl (by omega) clt, argSl_refl (by omega) cli⟩
 ·simp [go_sem, hp0]
  refine vc_drawn [12] (.q 0 <| .q 1 <| .q 2 <| .q 3 <| .q 4 <| .q 5 <| .q 6 <| .q 7 <| .q 8 <| .q 9 <| .q 10 <| .or 11 (.or 12 (.done) (.nil)) (.nil)) (by kernel_rfl) ?_
  simp [go_sem, tokCells_at, intCells_at, hp, hp2, hr, w4, nodRow]
  refine vcall_share [0] ih (by simp) ?_ ?_ trivial ?_
  ·simp [go_sem]
   exact ⟨cl, clt, cli⟩
  ·simp [go_sem, nodRow]
   exact fun i _ => cellsRn_lits (nodLit _ i)
  ·rintro av mem maps ⟨rfl, rfl, rfl⟩
   have hg := lay_grows e out
   have ew : IntKind.i64.wrap (((lay e out).length : Int) - 1) = ((lay e out).length : Int) - 1 := wrap_i64 (by omega)
   simp [go_sem, nodRow, ew, ew1]
   refine ⟨by omega, ?_⟩
   refine vcall_share [3] ih2 (by simp) ?_ ?_ trivial ?_
   ·simp [go_sem]
    exact ⟨cl, clt, cli⟩
   ·simp [go_sem, nodRow]
    exact fun i _ => cellsRn_lits (nodLit _ i)
   ·rintro av mem maps ⟨T, hT, hB⟩
    rcases hB with ⟨rfl, rfl, rfl⟩ | ⟨rfl, rfl, rfl⟩
    ·simp [go_sem, nodRow]
     refine ⟨rfl, [4], [none, nodRow T], by simp, by simp [go_sem], by simp [go_sem], ?_, by simp [go_sem], ?_⟩
     ·simp [go_sem, nodRow]
      exact outAt_same rfl fun j _ => rfl
     ·simp [go_sem]
      exact ⟨T, by omega, .inl ⟨rfl, rfl, rfl⟩⟩
    ·simp [go_sem, nodRow]
     refine ⟨rfl, [3], [none, nodRow T], by simp, by simp [go_sem], by simp [go_sem], ?_, by simp [go_sem], ?_⟩
     ·simp [go_sem, nodRow]
      exact outAt_same rfl fun j _ => rfl
     ·simp [go_sem]
      exact ⟨T, by omega, .inl ⟨rfl, rfl, rfl⟩⟩
theorem c_build_inf_some (l : List POp) (hl : l.length ≤ 9223372036854775807) (hu : Uniq l) (t : List PTok) (ht : t.length ≤ 1048576) (rs : List Int) (hrs : rs.length = t.length) (a b : Nat) (s : List TkP) (hab : a + s.length = b) (hb : b ≤ t.length) (hs : SegIs l t rs a s) (k : Nat) (o : POp) (er : Ops.root lvO s 0 0 none = some (k, o)) (hk : s[k]? = some (.inf o)) (hw : opsWf l) (hj : InL l o) (hok : opOk o = true) (hk1 : o.kind = 2) (e e' : PT) (h1 : LeavesOk e) (h2 : e.All lvO (InL l)) (h3 : KindsOk e) (q1 : LeavesOk e') (q2 : e'.All lvO (InL l)) (q3 : KindsOk e') (out : List PNode) (ho : out.length ≤ 2000000) (hle : (lay e out).length ≤ 3000000) (hle2 : (lay e' (lay e out)).length ≤ 3000000) (hsz : (lay e out).length ≤ out.length + k) (hsz2 : (lay e' (lay e out)).length ≤ (lay e out).length + (s.length - k - 1))
  (ih : VProc Tryz.prog 70 [.agg [.sl 4 l.length (opCells l)], .sl 3 t.length (tokCells t), .sl 1 rs.length (intCells rs), .lit (.int .i64 a), .lit (.int .i64 (a + k : Nat)), .own 0] [nodRow out] [] (BuildR k out (some e)))
  (ih2 : VProc Tryz.prog 70 [.agg [.sl 4 l.length (opCells l)], .sl 3 t.length (tokCells t), .sl 1 rs.length (intCells rs), .lit (.int .i64 (a + k + 1 : Nat)), .lit (.int .i64 b), .own 0] [nodRow (lay e out)] [] (BuildR (s.length - k - 1) (lay e out) (some e'))) :
  VProc Tryz.prog 70 [.agg [.sl 4 l.length (opCells l)], .sl 3 t.length (tokCells t), .sl 1 rs.length (intCells rs), .lit (.int .i64 a), .lit (.int .i64 b), .own 0] [nodRow out] [] (BuildR s.length out (if (lvO o).h1 ≤ e.level lvO ∧ (lvO o).h2 ≤ e'.level lvO then some (.inf o e e') else none)) := by
 have cl : ∀ (i : Nat) (c : AV), i < l.length → c ∈ opCells l i → Closed c := fun i c _ h => opClosed l i c h
 have clt : ∀ (i : Nat) (c : AV), i < t.length → c ∈ tokCells t i → Closed c := fun i c _ h => tokClosed t i c h
 have cli : ∀ (i : Nat) (c : AV), i < rs.length → c ∈ intCells rs i → Closed c := fun i c _ h => intClosed rs i c h
 have cr := c_l3Root l hl hu t ht rs hrs a b s hab hb hs
 rw [er] at cr
 have eb : bestI a (some (k, o)) = ((a + k : Nat) : Int) := rfl
 rw [eb] at cr
 have hlt := (List.getElem?_eq_some_iff.1 hk).1
 obtain ⟨hTk, hr⟩ := seg_at hs hk
 simp only [roleT] at hr
 have hp : a + k < t.length := by omega
 obtain ⟨p, hp'⟩ : ∃ p, a + k = p := ⟨_, rfl⟩
 rw [hp'] at cr hr hp ih ih2 hTk
 have htx : o.text = (tokAt t p).text := hTk.2.1
 have hp0 : ¬ ((p : Int) < 0) := by omega
 have hp2 : p < rs.length := by omega
 have w4 : IntKind.i64.wrap 4 = 4 := by decide
 have ew1 : IntKind.i64.wrap ((p : Int) + 1) = ((p + 1 : Nat) : Int) := wrap_succ (by omega)
 refine vproc_start Tryz.func70 (by kernel_rfl) rfl (by simp [Tryz.ntmps70]) ?_; simp only [Tryz.ntmps70, Tryz.results70]; simp [go_sem]
 refine vcall_pure cr ?_ ?_
 ·simp [go_sem]
  exact ⟨argSl_refl (by omega) cl, argSl_refl (by omega) clt, argSl_refl (by omega) cli⟩
 ·simp [go_sem, hp0]
  refine vc_drawn [12] (.q 0 <| .q 1 <| .q 2 <| .q 3 <| .q 4 <| .q 5 <| .q 6 <| .q 7 <| .q 8 <| .q 9 <| .q 10 <| .or 11 (.or 12 (.done) (.nil)) (.nil)) (by kernel_rfl) ?_
  simp [go_sem, tokCells_at, intCells_at, hp, hp2, hr, w4, nodRow]
  refine vcall_share [0] ih (by simp) ?_ ?_ trivial ?_
  ·simp [go_sem]
   exact ⟨cl, clt, cli⟩
  ·simp [go_sem, nodRow]
   exact fun i _ => cellsRn_lits (nodLit _ i)
  ·rintro av mem maps ⟨rfl, rfl, rfl⟩
   have hg := lay_grows e out
   have ew : IntKind.i64.wrap (((lay e out).length : Int) - 1) = ((lay e out).length : Int) - 1 := wrap_i64 (by omega)
   simp [go_sem, nodRow, ew, ew1]
   refine ⟨by omega, ?_⟩
   refine vcall_share [3] ih2 (by simp) ?_ ?_ trivial ?_
   ·simp [go_sem]
    exact ⟨cl, clt, cli⟩
   ·simp [go_sem, nodRow]
    exact fun i _ => cellsRn_lits (nodLit _ i)
   ·rintro av mem maps ⟨rfl, rfl, rfl⟩
    have hg2 := lay_grows e' (lay e out)
    have ew' : IntKind.i64.wrap (((lay e' (lay e out)).length : Int) - 1) = ((lay e' (lay e out)).length : Int) - 1 := wrap_i64 (by omega)
    simp [go_sem, nodRow, ew']
    have ew0 : IntKind.i64.wrap ((lay e' (lay e out)).length : Int) = (lay e' (lay e out)).length := wrap_i64 (by omega)
    obtain ⟨nd, hnd⟩ : ∃ nd, nd = (⟨o.text, 4, ((lay e out).length : Int) - 1, ((lay e' (lay e out)).length : Int) - 1⟩ : PNode) := ⟨_, rfl⟩
    obtain ⟨T2, hT2⟩ : ∃ T2, T2 = lay e' (lay e out) ++ [nd] := ⟨_, rfl⟩
    have hl2 : T2.length = (lay e' (lay e out)).length + 1 := by rw [hT2]; simp
    have hn : nodAt T2 (lay e' (lay e out)).length = nd := by rw [hT2]; exact nodAt_new
    have hf : fitsN l T2 (lay e' (lay e out)).length = decide ((lvO o).h1 ≤ e.level lvO ∧ (lvO o).h2 ≤ e'.level lvO) := by rw [hT2, hnd]; exact fits_inf hu hj hok hk1 e e' out h1 h2 h3 q1 q2 q3
    have cf := c_l3Fits l hl hw T2 (by omega) (lay e' (lay e out)).length (by omega) (fun _ => by
     rw [hn, hnd]
     have ha : (((lay e out).length : Int) - 1).toNat = (lay e out).length - 1 := by omega
     have hb' : (((lay e' (lay e out)).length : Int) - 1).toNat = (lay e' (lay e out)).length - 1 := by omega
     simp only [ha, hb']
     rw [show nodAt T2 ((lay e out).length - 1) = nodAt (lay e out) ((lay e out).length - 1) by rw [hT2, nodAt_old (by omega)]; exact lay_old e' (lay e out) _ (by omega)]
     rw [show nodAt T2 ((lay e' (lay e out)).length - 1) = nodAt (lay e' (lay e out)) ((lay e' (lay e out)).length - 1) by rw [hT2]; exact nodAt_old (by omega)]
     refine ⟨by have := (op_unique hu (z := o.text) rfl hj).1; rw [hk1] at this; exact this, by omega, has_last hu e out h1 h2 h3, fun hh => ⟨by omega, has_last hu e' (lay e out) q1 q2 q3⟩⟩)
    rw [hf] at cf
    rw [ew0]
    rw [htx] at hnd
    refine ⟨by omega, by omega, by omega, by omega, vcall_pure cf ?_ ?_⟩
    ·simp [go_sem]
     exact ⟨argSl_refl (by omega) cl, argSl_ownE (k := 6) rfl (by omega) hl2.symm (fun i hi => by rw [hT2, hnd]; exact nod_app (lay e' (lay e out)) ⟨(tokAt t p).text, 4, ((lay e out).length : Int) - 1, ((lay e' (lay e out)).length : Int) - 1⟩ i (by omega)) (fun i c _ h => nodClosed T2 i c h)⟩
    ·simp [go_sem]
     by_cases hc : (lvO o).h1 ≤ e.level lvO ∧ (lvO o).h2 ≤ e'.level lvO
     ·simp only [if_pos hc, hc, decide_true, if_true, and_self]
      refine ⟨rfl, [6], [none, nodRow (lay (.inf o e e') out)], by simp, by simp [go_sem], by simp [go_sem], ?_, by simp [go_sem], ?_⟩
      ·simp [go_sem, nodRow]
       refine outAt_app (o := ⟨(tokAt t p).text, 4, ((lay e out).length : Int) - 1, ((lay e' (lay e out)).length : Int) - 1⟩) (by rw [← htx]; simp [lay, hk1]) fun j hj => ?_
       exact nod_app (lay e' (lay e out)) ⟨(tokAt t p).text, 4, ((lay e out).length : Int) - 1, ((lay e' (lay e out)).length : Int) - 1⟩ j hj
      ·simp [go_sem, BuildR, nodRow]
     ·have hdc : decide ((lvO o).h1 ≤ e.level lvO ∧ (lvO o).h2 ≤ e'.level lvO) = false := decide_eq_false hc
      simp only [if_neg hc]
      refine ⟨rfl, [6], [none, nodRow T2], by simp, by simp [go_sem], by simp [go_sem], ?_, by simp [go_sem], ?_⟩
      ·simp [go_sem, nodRow]
       refine outAt_app (o := ⟨(tokAt t p).text, 4, ((lay e out).length : Int) - 1, ((lay e' (lay e out)).length : Int) - 1⟩) (by rw [← hnd]; exact hT2) fun j hj => ?_
       exact nod_app (lay e' (lay e out)) ⟨(tokAt t p).text, 4, ((lay e out).length : Int) - 1, ((lay e' (lay e out)).length : Int) - 1⟩ j hj
      ·simp [go_sem]
       exact ⟨T2, by omega, .inl ⟨by simpa using hc, rfl, rfl⟩⟩
end Go.Proofs.YtjdmmhcogmepaaaGreatDoor.V
namespace Go.Proofs.YtjdmmhcogmepaaaGreatDoor.V
open Go.RowKit
open Go.Proofs.YtjdmmhcogmepaaaGreatDoor.Ops (Tr Tk Lv Res Fit OF)
theorem seg_append {l : List POp} {t : List PTok} {rs : List Int} : ∀ {u w : List TkP} {i : Nat}, SegIs l t rs i (u ++ w) ↔ SegIs l t rs i u ∧ SegIs l t rs (i + u.length) w
 | [], w, i => by simp [SegIs]
 | x :: u, w, i => by
  simp only [List.cons_append, SegIs, List.length_cons, seg_append (u := u), and_assoc]
  rw [show i + (u.length + 1) = i + 1 + u.length by omega]
theorem seg_ok {l : List POp} {t : List PTok} {rs : List Int} : ∀ (e : PT) (i : Nat), SegIs l t rs i e.yield → LeavesOk e ∧ e.All lvO (InL l) ∧ KindsOk e
 | .leaf b, i, h => by
  simp only [Tr.yield, SegIs, TokIs] at h
  refine ⟨?_, trivial, trivial⟩
  have := h.1
  simp only [LeavesOk]
  rw [this.2]; exact this.1
 | .grp e, i, h => by
  simp only [Tr.yield, SegIs] at h
  exact seg_ok e _ (seg_append.1 h.2.2).1
 | .pre o e, i, h => by
  simp only [Tr.yield, SegIs, TokIs] at h
  obtain ⟨⟨_, _, hk, hj⟩, _, h2⟩ := h
  obtain ⟨g0, g1, g2⟩ := seg_ok e _ h2
  exact ⟨g0, ⟨hj, by simp [lvO, sortN, hk], g1⟩, hk, g2⟩
 | .post o e, i, h => by
  simp only [Tr.yield] at h
  obtain ⟨h1, h3⟩ := seg_append.1 h
  obtain ⟨g0, g1, g2⟩ := seg_ok e _ h1
  simp only [SegIs, TokIs] at h3
  obtain ⟨⟨_, _, hk, hj⟩, _⟩ := h3
  exact ⟨g0, ⟨hj, by simp [lvO, sortN, hk], g1⟩, hk, g2⟩
 | .inf o x y, i, h => by
  simp only [Tr.yield] at h
  obtain ⟨h1, h3⟩ := seg_append.1 h
  obtain ⟨g0, g1, g2⟩ := seg_ok x _ h1
  simp only [SegIs, TokIs] at h3
  obtain ⟨⟨_, _, hk, hj⟩, _, h4⟩ := h3
  obtain ⟨q0, q1, q2⟩ := seg_ok y _ h4
  exact ⟨⟨g0, q0⟩, ⟨hj, g1, q1⟩, hk, g2, q2⟩
theorem lay_yield : ∀ (e : PT) (out : List PNode), (lay e out).length ≤ out.length + e.yield.length
 | .leaf _, out => by simp [lay, Tr.yield]
 | .grp e, out => by have := lay_yield e out; simp [lay, Tr.yield]; omega
 | .pre _ e, out => by have := lay_yield e out; simp [lay, Tr.yield]; omega
 | .post _ e, out => by have := lay_yield e out; simp [lay, Tr.yield]; omega
 | .inf _ x y, out => by have := lay_yield x out; have := lay_yield y (lay x out); simp [lay, Tr.yield]; omega
theorem c_build (l : List POp) (hl : l.length ≤ 9223372036854775807) (hu : Uniq l) (hw : opsWf l) (hok : ∀ j, j < l.length → opOk (opAt l j) = true) (t : List PTok) (ht : t.length ≤ 1048576) (rs : List Int) (hrs : rs.length = t.length) : ∀ (n : Nat) (s : List TkP) (a b : Nat) (out : List PNode), s.length ≤ n → OF s → a + s.length = b → b ≤ t.length → SegIs l t rs a s → out.length + s.length ≤ 2000000 →
  VProc Tryz.prog 70 [.agg [.sl 4 l.length (opCells l)], .sl 3 t.length (tokCells t), .sl 1 rs.length (intCells rs), .lit (.int .i64 a), .lit (.int .i64 b), .own 0] [nodRow out] [] (BuildR s.length out (Ops.build lvO n s)) := by
 have okL : ∀ {o}, InL l o → opOk o = true := fun ⟨j, hj, e⟩ => e ▸ hok j hj
 intro n
 induction n with
 | zero =>
  intro s a b out hn ⟨t0, h0⟩
  have := Ops.yield_pos t0
  rw [h0] at this; omega
 | succ n ih =>
  intro s a b out hn hof hab hb hs ho
  have good : ∀ {s' : List TkP} {e : PT} {a' : Nat}, SegIs l t rs a' s' → OF s' → Ops.build lvO n s' = some e → LeavesOk e ∧ e.All lvO (InL l) ∧ KindsOk e ∧ ∀ out, (lay e out).length ≤ out.length + s'.length := fun h1 h2 h3 => by
   obtain ⟨_, hy⟩ := Ops.build_sound lvO n _ _ h2 h3
   rw [← hy] at h1 ⊢
   obtain ⟨g0, g1, g2⟩ := seg_ok _ _ h1
   exact ⟨g0, g1, g2, lay_yield _⟩
  rw [Ops.build]
  unfold Ops.buildF
  cases hr : Ops.root lvO s 0 0 none with
  | none =>
   obtain ⟨t0, h0⟩ := id hof
   rw [← h0] at hr
   rcases Ops.root_none lvO t0 hr with ⟨bb, rfl⟩ | ⟨t1, rfl⟩
   ·simp only [Tr.yield] at h0
    subst h0
    simp only [List.length_singleton] at hab
    subst hab
    exact c_build_leaf l hl hu t ht rs hrs a hb bb hs out (by omega)
   ·simp only [Tr.yield] at h0 hr
    rw [h0] at hr
    have hlen : s.length = t1.yield.length + 2 := by rw [← h0]; simp
    have hs1 : SegIs l t rs (a + 1) t1.yield := by
     rw [← h0] at hs
     exact (seg_append.1 hs.2.2).1
    have h1 := ih t1.yield (a + 1) (b - 1) out (by omega) ⟨t1, rfl⟩ (by omega) (by omega) hs1 (by omega)
    have := c_build_grp l hl hu t ht rs hrs a b s hab hb hs t1.yield h0.symm hr out (by omega) (Ops.build lvO n t1.yield) (fun e he => by
     have := (good hs1 ⟨t1, rfl⟩ he).2.2.2 out; omega) h1
    subst h0
    simpa using this
  | some x =>
   obtain ⟨k, o⟩ := x
   rcases Ops.root_at lvO s 0 0 none k o hr with h | ⟨u, tk, w, hsu, hop, hd, hk⟩
   ·cases h
   ·simp only [Int.zero_add, Nat.zero_add] at hd hk
    have hsk : s[k]? = some tk := by rw [hsu, hk]; simp
    have hlen : s.length = u.length + w.length + 1 := by rw [hsu]; simp; omega
    have hseg := hs
    rw [hsu] at hseg
    obtain ⟨hsl, hsr⟩ := seg_append.1 hseg
    have hTk := hsr.1
    have hsq := hsr.2.2
    simp only [hsk]
    cases tk with
    | leaf bb => simp [Tk.op?] at hop
    | opn => simp [Tk.op?] at hop
    | cls => simp [Tk.op?] at hop
    | pre o' =>
     simp only [Tk.op?, Option.some.injEq] at hop
     subst hop
     simp only
     by_cases hk0 : k = 0
     ·obtain rfl : u = [] := List.eq_nil_of_length_eq_zero (by omega)
      subst hk0
      simp only [List.nil_append] at hsu
      rw [if_neg (by simp)]
      have hdr : s.drop 1 = w := by rw [hsu]; rfl
      rw [hdr]
      have hofw : OF w := Ops.of_pre (o := o') (by rw [← hsu]; exact hof)
      have hsw : SegIs l t rs (a + 1) w := by simpa using hsq
      have h1 := ih w (a + 1) b out (by omega) hofw (by simp at hlen; omega) hb hsw (by omega)
      have hl1 : w.length = s.length - 1 := by omega
      rw [hl1] at h1
      cases he : Ops.build lvO n w with
      | none =>
       rw [he] at h1
       exact c_build_pre_none l hl hu t ht rs hrs a b s hab hb hs o' hr hsk out (by omega) h1
      | some e =>
       rw [he] at h1
       obtain ⟨g0, g1, g2, g3⟩ := good hsw hofw he
       have g3 := g3 out
       exact c_build_pre_some l hl hu t ht rs hrs a b s hab hb hs o' hr hsk hw hTk.2.2.2 (okL hTk.2.2.2) hTk.2.2.1 e g0 g1 g2 out (by omega) (by omega) (by omega) h1
     ·rw [if_pos hk0]
      exact c_build_bad l hl hu t ht rs hrs a b s hab hb hs k o' hr _ hsk (.inl ⟨rfl, hk0⟩) out (by omega)
    | post o' =>
     simp only [Tk.op?, Option.some.injEq] at hop
     subst hop
     simp only
     by_cases hk0 : k + 1 = s.length
     ·obtain rfl : w = [] := List.eq_nil_of_length_eq_zero (by omega)
      rw [if_neg (by omega)]
      have hdr : s.take k = u := by rw [hsu, hk]; simp
      rw [hdr]
      have hofw : OF u := Ops.of_post (o := o') (by rw [← hsu]; exact hof)
      have h1 := ih u a (a + k) out (by omega) hofw (by omega) (by omega) hsl (by omega)
      rw [← hk] at h1
      cases he : Ops.build lvO n u with
      | none =>
       rw [he] at h1
       exact c_build_left_none l hl hu t ht rs hrs a b s hab hb hs k o' hr _ hsk (.inr ⟨rfl, hk0⟩) out (by omega) h1
      | some e =>
       rw [he] at h1
       obtain ⟨g0, g1, g2, g3⟩ := good hsl hofw he
       have g3 := g3 out
       exact c_build_post_some l hl hu t ht rs hrs a b s hab hb hs k o' hr hsk hk0 hw hTk.2.2.2 (okL hTk.2.2.2) hTk.2.2.1 e g0 g1 g2 out (by omega) (by omega) (by omega) h1
     ·rw [if_pos hk0]
      exact c_build_bad l hl hu t ht rs hrs a b s hab hb hs k o' hr _ hsk (.inr ⟨rfl, hk0⟩) out (by omega)
    | inf o' =>
     simp only [Tk.op?, Option.some.injEq] at hop
     subst hop
     simp only
     have hdr : s.take k = u := by rw [hsu, hk]; simp
     have hdr2 : s.drop (k + 1) = w := by rw [hsu, hk]; simp
     rw [hdr, hdr2]
     obtain ⟨hofu, hofw⟩ := Ops.of_inf (o := o') (by rw [← hsu]; exact hof) hd
     have h1 := ih u a (a + k) out (by omega) hofu (by omega) (by omega) hsl (by omega)
     rw [← hk] at h1
     cases he : Ops.build lvO n u with
     | none =>
      rw [he] at h1
      exact c_build_left_none l hl hu t ht rs hrs a b s hab hb hs k o' hr _ hsk (.inl rfl) out (by omega) h1
     | some e =>
      rw [he] at h1
      obtain ⟨g0, g1, g2, g3⟩ := good hsl hofu he
      have g3 := g3 out
      have hsw : SegIs l t rs (a + k + 1) w := by rw [hk]; exact hsq
      have h2 := ih w (a + k + 1) b (lay e out) (by omega) hofw (by omega) hb hsw (by omega)
      have hl1 : w.length = s.length - k - 1 := by omega
      rw [hl1] at h2
      simp only
      cases he2 : Ops.build lvO n w with
      | none =>
       rw [he2] at h2
       exact c_build_inf_none l hl hu t ht rs hrs a b s hab hb hs k o' hr hsk hw hTk.2.2.2 e out (by omega) (by omega) (by omega) h1 h2
      | some e2 =>
       rw [he2] at h2
       obtain ⟨q0, q1, q2, q3⟩ := good hsw hofw he2
       have q3 := q3 (lay e out)
       exact c_build_inf_some l hl hu t ht rs hrs a b s hab hb hs k o' hr hsk hw hTk.2.2.2 (okL hTk.2.2.2) hTk.2.2.1 e e2 g0 g1 g2 q0 q1 q2 out (by omega) (by omega) (by omega) (by omega) (by omega) h1 h2
def below (T : List PNode) (H : List Int) (i : Nat) : Int :=
 if kidsN (nodAt T i).kind = 0 then 0 else if kidsN (nodAt T i).kind = 1 then intAt H (nodAt T i).a.toNat else max (intAt H (nodAt T i).a.toNat) (intAt H (nodAt T i).b.toNat)
structure HStep (T : List PNode) (H : List Int) (i : Nat) : Prop where
 a : kidsN (nodAt T i).kind ≠ 0 → 0 ≤ (nodAt T i).a ∧ (nodAt T i).a < i
 b : kidsN (nodAt T i).kind = 2 → 0 ≤ (nodAt T i).b ∧ (nodAt T i).b < i
 h : intAt H i = below T H i + 1
 lo : 1 ≤ intAt H i ∧ intAt H i ≤ i + 1
def HOk (T : List PNode) (H : List Int) : Prop := H.length = T.length ∧ ∀ i, i < T.length → HStep T H i
theorem intAt_old {H : List Int} {h : Int} {i : Nat} (hi : i < H.length) : intAt (H ++ [h]) i = intAt H i := by
 simp [intAt, List.getD_eq_getElem?_getD, List.getElem?_append_left hi]
theorem intAt_new {H : List Int} {h : Int} {i : Nat} (hi : i = H.length) : intAt (H ++ [h]) i = h := by
 subst hi; simp [intAt, List.getD_eq_getElem?_getD]
theorem one0 : ((1 : Int) = 0) = False := by simp
theorem two0 : ((2 : Int) = 0) = False := by simp
theorem two1 : ((2 : Int) = 1) = False := by simp
theorem kids_012 (k : Int) : kidsN k = 0 ∨ kidsN k = 1 ∨ kidsN k = 2 := kidsN_cases k
theorem below_old {T : List PNode} {H : List Int} {n : PNode} {h : Int} {i : Nat} (hl : H.length = T.length) (hi : i < T.length) (s : HStep T H i) : below (T ++ [n]) (H ++ [h]) i = below T H i := by
 unfold below
 rw [nodAt_old hi]
 rcases kids_012 (nodAt T i).kind with e | e | e
 ·rw [if_pos e, if_pos e]
 ·have := s.a (by omega)
  simp only [e, one0, if_false, if_true]
  rw [intAt_old (by omega)]
 ·have := s.a (by omega)
  have := s.b e
  simp only [e, two0, two1, if_false]
  rw [intAt_old (by omega), intAt_old (by omega)]
theorem hOk_app {T : List PNode} {H : List Int} {n : PNode} {h : Int} (ok : HOk T H) (ha : kidsN n.kind ≠ 0 → 0 ≤ n.a ∧ n.a < T.length) (hb : kidsN n.kind = 2 → 0 ≤ n.b ∧ n.b < T.length)
  (hh : h = (if kidsN n.kind = 0 then 0 else if kidsN n.kind = 1 then intAt H n.a.toNat else max (intAt H n.a.toNat) (intAt H n.b.toNat)) + 1) : HOk (T ++ [n]) (H ++ [h]) := by
 obtain ⟨hl, hs⟩ := ok
 refine ⟨by simp [hl], fun i hi => ?_⟩
 simp only [List.length_append, List.length_singleton] at hi
 by_cases e : i < T.length
 ·have s := hs i e
  refine ⟨?_, ?_, ?_, ?_⟩
  ·rw [nodAt_old e]; exact s.a
  ·rw [nodAt_old e]; exact s.b
  ·rw [below_old hl e s, intAt_old (by omega)]; exact s.h
  ·rw [intAt_old (by omega)]; exact s.lo
 ·obtain rfl : i = T.length := by omega
  have hn : nodAt (T ++ [n]) T.length = n := nodAt_new
  have hb' : below (T ++ [n]) (H ++ [h]) T.length + 1 = h := by
   unfold below
   rw [hn, hh]
   rcases kids_012 n.kind with e | e | e
   ·rw [if_pos e, if_pos e]
   ·have := ha (by omega)
    simp only [e, one0, if_false, if_true]
    rw [intAt_old (by omega)]
   ·have := ha (by omega)
    have := hb e
    simp only [e, two0, two1, if_false]
    rw [intAt_old (by omega), intAt_old (by omega)]
  refine ⟨?_, ?_, ?_, ?_⟩
  ·rw [hn]; exact ha
  ·rw [hn]; exact hb
  ·rw [hb', intAt_new hl.symm]
  ·rw [intAt_new hl.symm, hh]
   rcases kids_012 n.kind with e | e | e
   ·rw [if_pos e]; omega
   ·have := ha (by omega)
    have := (hs n.a.toNat (by omega)).lo
    rw [if_neg (by omega), if_pos e]; omega
   ·have := ha (by omega)
    have := hb e
    have := (hs n.a.toNat (by omega)).lo
    have := (hs n.b.toNat (by omega)).lo
    rw [if_neg (by omega), if_neg (by omega)]; omega
def his : PT → List Int → List Int
 | .leaf _, hs => hs ++ [1]
 | .grp e, hs => his e hs ++ [1 + highT e]
 | .pre _ e, hs => his e hs ++ [1 + highT e]
 | .post _ e, hs => his e hs ++ [1 + highT e]
 | .inf _ x y, hs => his y (his x hs) ++ [1 + max (highT x) (highT y)]
theorem his_last (e : PT) (hs : List Int) : intAt (his e hs) ((his e hs).length - 1) = highT e := by
 cases e <;> simp only [his, highT] <;> rw [intAt_new (by simp)]
theorem his_pos (e : PT) (hs : List Int) : hs.length < (his e hs).length := by
 induction e generalizing hs with
 | leaf _ => simp [his]
 | grp e ih => have := ih hs; simp [his]; omega
 | pre _ e ih => have := ih hs; simp [his]; omega
 | post _ e ih => have := ih hs; simp [his]; omega
 | inf _ x y ihx ihy => have := ihx hs; have := ihy (his x hs); simp [his]; omega
theorem his_old (e : PT) : ∀ (hs : List Int) (i : Nat), i < hs.length → intAt (his e hs) i = intAt hs i := by
 induction e with
 | leaf _ => intro hs i h; simp only [his]; exact intAt_old h
 | grp e ih => intro hs i h; have := his_pos e hs; simp only [his]; rw [intAt_old (by omega), ih hs i h]
 | pre _ e ih => intro hs i h; have := his_pos e hs; simp only [his]; rw [intAt_old (by omega), ih hs i h]
 | post _ e ih => intro hs i h; have := his_pos e hs; simp only [his]; rw [intAt_old (by omega), ih hs i h]
 | inf _ x y ihx ihy => intro hs i h; have := his_pos x hs; have := his_pos y (his x hs); simp only [his]; rw [intAt_old (by omega), ihy _ i (by omega), ihx hs i h]
theorem hOk_lay : ∀ (e : PT) (out : List PNode) (hs : List Int), LeavesOk e → KindsOk e → HOk out hs → HOk (lay e out) (his e hs)
 | .leaf b, out, hs, h1, h2, ok => by
  have k0 : kidsN b.1 = 0 := by have h : b.1 = 1 ∨ b.1 = 2 := h1; rcases h with e | e <;> simp [kidsN, e]
  simp only [lay, his]
  exact hOk_app ok (fun h => absurd k0 h) (fun h => by simp only at h; omega) (by simp [k0])
 | .grp e, out, hs, h1, h2, ok => by
  have := hOk_lay e out hs h1 h2 ok
  have hl := this.1
  have hp := his_pos e hs
  have hlast := his_last e hs
  have k1 : kidsN 6 = 1 := rfl
  simp only [lay, his]
  refine hOk_app this (fun _ => by simp only; omega) (fun h => by simp only at h; omega) ?_
  simp only [k1, one0, if_false, if_true]
  rw [show (((lay e out).length : Int) - 1).toNat = (his e hs).length - 1 by omega, hlast]
  omega
 | .pre o e, out, hs, h1, h2, ok => by
  have := hOk_lay e out hs h1 h2.2 ok
  have hl := this.1
  have hp := his_pos e hs
  have hlast := his_last e hs
  have k1 : kidsN (o.kind + 2) = 1 := by rw [h2.1]; rfl
  simp only [lay, his]
  refine hOk_app this (fun _ => by simp only; omega) (fun h => by simp only at h; omega) ?_
  simp only [k1, one0, if_false, if_true]
  rw [show (((lay e out).length : Int) - 1).toNat = (his e hs).length - 1 by omega, hlast]
  omega
 | .post o e, out, hs, h1, h2, ok => by
  have := hOk_lay e out hs h1 h2.2 ok
  have hl := this.1
  have hp := his_pos e hs
  have hlast := his_last e hs
  have k1 : kidsN (o.kind + 2) = 1 := by rw [h2.1]; rfl
  simp only [lay, his]
  refine hOk_app this (fun _ => by simp only; omega) (fun h => by simp only at h; omega) ?_
  simp only [k1, one0, if_false, if_true]
  rw [show (((lay e out).length : Int) - 1).toNat = (his e hs).length - 1 by omega, hlast]
  omega
 | .inf o x y, out, hs, h1, h2, ok => by
  have okx := hOk_lay x out hs h1.1 h2.2.1 ok
  have := hOk_lay y _ _ h1.2 h2.2.2 okx
  have hl := this.1
  have hlx := okx.1
  have hp := his_pos y (his x hs)
  have hpx := his_pos x hs
  have hlast := his_last y (his x hs)
  have hlastx := his_last x hs
  have k2 : kidsN (o.kind + 2) = 2 := by rw [h2.1]; rfl
  simp only [lay, his]
  refine hOk_app this (fun _ => by simp only; omega) (fun h => by simp only; omega) ?_
  simp only [k2, two0, two1, if_false]
  rw [show (((lay y (lay x out)).length : Int) - 1).toNat = (his y (his x hs)).length - 1 by omega, hlast, show (((lay x out).length : Int) - 1).toNat = (his x hs).length - 1 by omega, his_old y _ _ (by omega), hlastx]
  omega
end Go.Proofs.YtjdmmhcogmepaaaGreatDoor.V
namespace Go.Proofs.YtjdmmhcogmepaaaGreatDoor.V
open Go.RowKit
theorem take_succI {H : List Int} {i : Nat} (h : i < H.length) : H.take (i + 1) = H.take i ++ [intAt H i] := by
 rw [List.take_add_one]
 simp [intAt, List.getD_eq_getElem?_getD, h]
theorem intAt_take {H : List Int} {i j : Nat} (h : j < i) : intAt (H.take i) j = intAt H j := by
 simp [intAt, List.getD_eq_getElem?_getD, h]
set_option maxRecDepth 100000 in
theorem c_l3Height (T : List PNode) (H : List Int) (hT : 0 < T.length ∧ T.length ≤ 3000000) (ok : HOk T H) : VFun Tryz.prog 48 [.agg [.sl 4 T.length (nodCells T)]] (fun av obs => obs = [] ∧ av = .lit (.int .i64 (intAt H (T.length - 1)))) := by
 have clt : ∀ (i : Nat) (c : AV), i < T.length → c ∈ nodCells T i → Closed c := fun i c _ h => nodClosed T i c h
 obtain ⟨hl, hs⟩ := ok
 refine vfun_start Tryz.func48 (by kernel_rfl) rfl (by simp [Tryz.ntmps48]) ?_; simp only [Tryz.ntmps48, Tryz.results48]; simp [go_sem]
 refine vc_loopE (fun i : Nat => i ≤ T.length) (fun i => T.length - i) (fun i => .of [(1, .ptr 0 1 0 0), (3, .own 1), (4, .lit (.int .i64 i))] [some ⟨37, 1, 1, fun _ => [.sl 4 T.length (nodCells T)]⟩, some ⟨3, 1, i, intCells (H.take i)⟩]) ⟨0, by omega, ?_⟩ (fun i hi => ?_)
 ·refine ent_ks [0, 1] (by simp) (by simp) (by simp) (by simp) trivial ?_ ?_
  ·simp [go_sem]
  ·simp [go_sem]
   exact clt
 ·have hlen : (H.take i).length = i := by simp; omega
  simp [go_sem, nodCells_at]
  refine ⟨by omega, fun h => ⟨h, vcall_pure (c_l3Kids (nodAt T i).kind) ?_ ?_⟩, fun h => ?_⟩
  ·simp [go_sem]
  ·obtain ⟨sa, sb, sh, slo⟩ := hs i h
   have next : ∀ (mm : Int) (f : Nat → List AV), mm = below T H i → (f 0 = [.lit (.int .i64 (IntKind.i64.wrap (mm + 1)))]) → ∀ j, j < i + 1 → joinF i (intCells (H.take i)) f j = intCells (H.take (i + 1)) j := fun mm f h1 h2 j hj => by
    rw [take_succI (by omega), ← int_app1 (H.take i) (intAt H i) j (by omega), hlen]
    unfold joinF
    split
    ·rfl
    ·have : j - i = 0 := by omega
     rw [this, h2, h1, sh]
     rw [wrap_i64 (by omega)]
     rfl
   rcases kids_012 (nodAt T i).kind with e | e | e
   ·simp [go_sem, e]
    refine vcall_pure (c_l3Kids (nodAt T i).kind) ?_ ?_
    ·simp [go_sem]
    ·simp [go_sem, e]
     refine ⟨by omega, by omega, i + 1, by omega, by omega, ?_⟩
     ·refine ent_ks [0, 4] (by simp) (by simp) (by simp) (by simp) trivial ?_ ?_
      ·simp [go_sem]
       exact wrap_succ (by omega)
      ·simp [go_sem]
       exact ⟨clt, .inl fun j hj => ⟨next 0 _ (by simp [below, e]) rfl j hj, intClosed _ _⟩⟩
   ·have ha := sa (by omega)
    have ia : intAt (H.take i) (nodAt T i).a.toNat = intAt H (nodAt T i).a.toNat := intAt_take (by omega)
    simp [go_sem, e, intCells_at]
    refine ⟨ha.1, ha.2, by omega, vcall_pure (c_l3Kids (nodAt T i).kind) ?_ ?_⟩
    ·simp [go_sem]
    ·simp [go_sem, e]
     refine ⟨by omega, by omega, i + 1, by omega, by omega, ?_⟩
     ·refine ent_ks [0, 4] (by simp) (by simp) (by simp) (by simp) trivial ?_ ?_
      ·simp [go_sem]
       exact wrap_succ (by omega)
      ·simp [go_sem]
       exact ⟨clt, .inl fun j hj => ⟨next _ _ (by simp [below, e, ia]) rfl j hj, intClosed _ _⟩⟩
   ·have ha := sa (by omega)
    have hb := sb e
    have ia : intAt (H.take i) (nodAt T i).a.toNat = intAt H (nodAt T i).a.toNat := intAt_take (by omega)
    have ib : intAt (H.take i) (nodAt T i).b.toNat = intAt H (nodAt T i).b.toNat := intAt_take (by omega)
    simp [go_sem, e, intCells_at]
    refine ⟨ha.1, ha.2, by omega, vcall_pure (c_l3Kids (nodAt T i).kind) ?_ ?_⟩
    ·simp [go_sem]
    ·simp [go_sem, e, intCells_at]
     refine ⟨hb.1, hb.2, by omega, fun hc => ⟨hb.1, hb.2, by omega, by omega, by omega, i + 1, by omega, by omega, ?_⟩, fun hc => ⟨by omega, by omega, i + 1, by omega, by omega, ?_⟩⟩
     ·refine ent_ks [0, 4] (by simp) (by simp) (by simp) (by simp) trivial ?_ ?_
      ·simp [go_sem]
       exact wrap_succ (by omega)
      ·simp [go_sem]
       exact ⟨clt, .inl fun j hj => ⟨next _ _ (by rw [ia, ib] at hc; simp [below, e, ib]; omega) rfl j hj, intClosed _ _⟩⟩
     ·refine ent_ks [0, 4] (by simp) (by simp) (by simp) (by simp) trivial ?_ ?_
      ·simp [go_sem]
       exact wrap_succ (by omega)
      ·simp [go_sem]
       exact ⟨clt, .inl fun j hj => ⟨next _ _ (by rw [ia, ib] at hc; simp [below, e, ia]; omega) rfl j hj, intClosed _ _⟩⟩
  ·obtain rfl : i = T.length := by omega
   have w : IntKind.i64.wrap ((T.length : Int) - 1) = ((T.length - 1 : Nat) : Int) := by rw [wrap_i64 (by omega)]; omega
   rw [w]
   simp only [Int.toNat_natCast]
   simp [go_sem, intCells_at, intAt_take (H := H) (i := T.length) (j := T.length - 1) (by omega)]
   omega
theorem ext_app (z : ByteArray) {f i k : Nat} (h1 : f ≤ i) (h2 : i ≤ k) : z.extract f i ++ z.extract i k = z.extract f k := by
 apply ByteArray.ext
 simp only [ByteArray.data_append, ByteArray.data_extract]
 rw [Array.extract_append_extract]
 congr 1 <;> omega
theorem rend_cons (o : PTok) (l : List PTok) : rend (o :: l) = o.gap ++ o.text ++ rend l := by
 have gen : ∀ (l : List PTok) (b : ByteArray), l.foldl (fun b o => b ++ o.gap ++ o.text) b = b ++ l.foldl (fun b o => b ++ o.gap ++ o.text) ByteArray.empty := by
  intro l
  induction l with
  | nil => intro b; simp
  | cons o l ih =>
   intro b
   simp only [List.foldl_cons]
   rw [ih (b ++ o.gap ++ o.text), ih (ByteArray.empty ++ o.gap ++ o.text)]
   simp [ByteArray.append_assoc]
 unfold rend
 simp only [List.foldl_cons]
 rw [gen]
 simp
theorem rend_lexFrom (l : List POp) (z : ByteArray) (f : Nat) (hf : f ≤ z.size) : rend (lexFrom l z f) = z.extract f z.size := by
 generalize hn : z.size - f = n
 induction n using Nat.strongRecOn generalizing f with
 | ind n ih =>
  have hr := run_le isBl z f hf
  by_cases h : f + run isBl z f < z.size
  ·rw [lexFrom_go rfl h, rend_cons]
   have hg := longest_ge l z (f + run isBl z f)
   have hl := longest_le l z (f + run isBl z f) h
   obtain ⟨i, hi⟩ : ∃ i, i = f + run isBl z f := ⟨_, rfl⟩
   rw [← hi] at hg hl h hr ⊢
   have hfi : f ≤ i := by omega
   obtain ⟨j, hj⟩ : ∃ j, j = i + longest l z i := ⟨_, rfl⟩
   rw [← hj] at hl ⊢
   simp only
   rw [ih (z.size - j) (by omega) j hl rfl, ext_app z hfi (by omega), ext_app z (by omega) hl]
  ·have e : f + run isBl z f = z.size := by omega
   rw [lexFrom_end rfl h, rend_cons, e]
   simp only [rend, List.foldl_nil]
   rw [show (⟨#[]⟩ : ByteArray) = ByteArray.empty from rfl, ByteArray.append_empty, ByteArray.append_empty]
theorem ext_size_leZ (z : ByteArray) (a b : Nat) : (z.extract a b).size ≤ z.size := by
 rw [ByteArray.size_extract]; omega
theorem lexZ_texts {l : List POp} {z : ByteArray} (hz : z.size ≤ 200000) : (lexZ l z).length ≤ 200001 ∧ tokSum (lexZ l z) ≤ 200000 := by
 unfold lexZ
 split
 ·rename_i h
  have h1 := lexFrom_len l z 0 (by omega)
  have h2 := rend_lexFrom l z 0 (by omega)
  have h3 := rend_size (lexFrom l z 0)
  rw [h2] at h3
  have h4 := ext_size_leZ z 0 z.size
  exact ⟨by omega, by omega⟩
 ·exact ⟨by simp, by simp [tokSum]⟩
theorem tok_le {l : List PTok} {i : Nat} (hi : i < l.length) : tokSize (tokAt l i) ≤ tokSum l := by
 induction l generalizing i with
 | nil => simp at hi
 | cons o l ih =>
  unfold tokSum at *
  cases i with
  | zero => simp [tokAt]
  | succ i =>
   have := ih (i := i) (by simpa using hi)
   simp only [List.map_cons, List.sum_cons]
   have e : tokAt (o :: l) (i + 1) = tokAt l i := by simp [tokAt]
   rw [e]
   omega
def offZ (t : List PTok) (i : Nat) : Int := (tokSum (t.take i) + (tokAt t i).gap.size : Nat)
theorem argSl_eq {mem : List (Option Ob)} {sz n : Nat} {f f' : Nat → List AV} (hsz : 0 < sz) (h : ∀ i, i < n → f i = f' i ∧ ∀ c, c ∈ f' i → Closed c) : ArgSl mem (.sl sz n f) sz n f' :=
 ⟨hsz, f, by simp [contents], h⟩
theorem tokAt_take {t : List PTok} {i j : Nat} (h : j < i) : tokAt (t.take i) j = tokAt t j := by
 simp [tokAt, List.getD_eq_getElem?_getD, h]
theorem c_l3Offset (t : List PTok) (ht : t.length + tokSum t ≤ 1048576) (i : Nat) (hi : i < t.length) : VFun Tryz.prog 68 [.sl 3 t.length (tokCells t), .lit (.int .i64 i)] (fun av obs => obs = [] ∧ av = .lit (.int .i64 (offZ t i))) := by
 have clt : ∀ (i : Nat) (c : AV), i < t.length → c ∈ tokCells t i → Closed c := fun i c _ h => tokClosed t i c h
 have hle := tokSum_take_le t i
 have hsz := rend_size (t.take i)
 have htl : (t.take i).length = i := by simp; omega
 have hg := tok_le hi
 have cr := c_specRender (t.take i) (by omega)
 rw [htl] at cr
 unfold tokSize at hg
 refine vfun_start Tryz.func68 (by kernel_rfl) rfl (by simp [Tryz.ntmps68]) ?_; simp only [Tryz.ntmps68, Tryz.results68]; simp [go_sem]
 refine vc_drawn [] (.q 0 <| .q 1 <| .q 2 <| .q 5 <| .q 6 <| .q 7 <| .q 8 <| .q 9 <| .q 10 <| .or 3 (.q 4 <| .q 11 <| .q 12 <| .done) (.nil)) (by kernel_rfl) ?_
 simp [go_sem, tokCells_at]
 refine ⟨by omega, hi, vcallV_pure cr ?_ ?_⟩
 ·simp [go_sem]
  exact argSl_eq (by omega) fun j hj => ⟨by rw [tokCells_at, tokAt_take hj], fun c hc => tokClosed _ _ c hc⟩
 ·simp [go_sem, hsz]
  rw [wrap_i64 (by omega)]
  simp [offZ]
open Go.Proofs.YtjdmmhcogmepaaaGreatDoor.Ops (Tr Tk Lv Res Fit OF)
def badAt (t : List PTok) : Option Nat := (List.range t.length).find? fun i => decide ((tokAt t i).kind = 6)
theorem badAt_some {t : List PTok} {i : Nat} (hi : i < t.length) (h : ∀ j, j < i → (tokAt t j).kind ≠ 6) (hb : (tokAt t i).kind = 6) : badAt t = some i := by
 unfold badAt
 rw [List.find?_range_eq_some]
 refine ⟨by simpa using hb, by simpa using hi, fun j hj => ?_⟩
 simpa using h j hj
theorem badAt_none {t : List PTok} (h : ∀ j, j < t.length → (tokAt t j).kind ≠ 6) : badAt t = none := by
 unfold badAt
 rw [List.find?_eq_none]
 intro j hj
 simpa using h j (by simpa using hj)
open Classical in
noncomputable def toksZ (l : List POp) (t : List PTok) : List TkP := if h : ∃ ts : List TkP, ToksAre l t 0 ts ∧ Fit true 0 ts then Classical.choose h else []
theorem toksZ_ok {l : List POp} {t : List PTok} (h : ∃ ts : List TkP, ToksAre l t 0 ts ∧ Fit true 0 ts) : ToksAre l t 0 (toksZ l t) ∧ Fit true 0 (toksZ l t) := by
 unfold toksZ
 rw [dif_pos h]
 exact Classical.choose_spec h
noncomputable def partT (l : List POp) (t : List PTok) : Option PT := Ops.build lvO (toksZ l t).length (toksZ l t)
noncomputable def parK (l : List POp) (t : List PTok) : List PNode × Int × Int := match badAt t with
 | some i => ([], 3, offZ t i)
 | none => if 0 ≤ (rolesZ l t).2 then ([], 4, offZ t (rolesZ l t).2.toNat) else match partT l t with
  | none => ([], 5, 0)
  | some e => if highT e ≤ 1000 then (lay e [], 0, 0) else ([], 6, 0)
noncomputable def parZ (l : List POp) (z : ByteArray) : List PNode × Int × Int :=
 if tblOk l ≠ 0 then ([], 1, 0) else if ¬ z.size ≤ 20000 then ([], 2, 0) else parK l (lexZ l z)
theorem parK_bad {l : List POp} {t : List PTok} {i : Nat} (h : badAt t = some i) : parK l t = ([], 3, offZ t i) := by unfold parK; rw [h]
theorem parK_roles {l : List POp} {t : List PTok} (h : badAt t = none) (hr : 0 ≤ (rolesZ l t).2) : parK l t = ([], 4, offZ t (rolesZ l t).2.toNat) := by unfold parK; rw [h]; simp only; rw [if_pos hr]
theorem parK_none {l : List POp} {t : List PTok} (h : badAt t = none) (hr : (rolesZ l t).2 = -1) (hp : partT l t = none) : parK l t = ([], 5, 0) := by unfold parK; rw [h]; simp only; rw [if_neg (by omega), hp]
theorem parK_high {l : List POp} {t : List PTok} {e : PT} (h : badAt t = none) (hr : (rolesZ l t).2 = -1) (hp : partT l t = some e) (he : ¬ highT e ≤ 1000) : parK l t = ([], 6, 0) := by unfold parK; rw [h]; simp only; rw [if_neg (by omega), hp]; simp only; rw [if_neg he]
theorem parK_ok {l : List POp} {t : List PTok} {e : PT} (h : badAt t = none) (hr : (rolesZ l t).2 = -1) (hp : partT l t = some e) (he : highT e ≤ 1000) : parK l t = (lay e [], 0, 0) := by unfold parK; rw [h]; simp only; rw [if_neg (by omega), hp]; simp only; rw [if_pos he]
theorem lexFrom_last {l : List POp} {z : ByteArray} (f : Nat) (hf : f ≤ z.size) : (lexFrom l z f).length ≠ 0 ∧ (tokAt (lexFrom l z f) ((lexFrom l z f).length - 1)).kind = 7 := by
 generalize hn : z.size - f = n
 induction n using Nat.strongRecOn generalizing f with
 | ind n ih =>
  have hr := run_le isBl z f hf
  by_cases h : f + run isBl z f < z.size
  ·have hg := longest_ge l z (f + run isBl z f)
   have hl := longest_le l z (f + run isBl z f) h
   obtain ⟨h1, h2⟩ := ih (z.size - (f + run isBl z f + longest l z (f + run isBl z f))) (by omega) (f + run isBl z f + longest l z (f + run isBl z f)) hl rfl
   rw [lexFrom_go rfl h]
   refine ⟨by simp, ?_⟩
   obtain ⟨q, hq⟩ : ∃ q, q = lexFrom l z (f + run isBl z f + longest l z (f + run isBl z f)) := ⟨_, rfl⟩
   rw [← hq] at h1 h2 ⊢
   rw [← h2]
   simp only [tokAt, List.getD_eq_getElem?_getD, List.length_cons, Nat.add_sub_cancel]
   rw [show q.length = (q.length - 1) + 1 by omega, List.getElem?_cons_succ]
   simp
  ·rw [lexFrom_end rfl h]
   simp [tokAt]
theorem lexZ_ends {l : List POp} {z : ByteArray} (h : lexOk l z = true) : endsOk (lexZ l z) = true := by
 obtain ⟨h1, h2⟩ := lexFrom_last (l := l) (z := z) 0 (by omega)
 rw [lexZ, if_pos h]
 simp only [endsOk, h1, h2, ne_eq, not_false_eq_true, decide_true, Bool.and_self]
theorem roles_two {l : List POp} {t : List PTok} (h0 : tblOk l = 0) (he : endsOk t = true) : ((rolesZ l t).2 = -1 ∧ (rolesZ l t).1 = rolesUp l t t.length) ∨ (0 ≤ (rolesZ l t).2 ∧ (rolesZ l t).2 < t.length) := by
 unfold rolesZ
 rw [if_neg (by omega)]
 split
 ·rename_i i hb
  unfold firstBad at hb
  rw [List.find?_range_eq_some] at hb
  have := hb.2.1
  simp only [List.mem_range] at this
  exact .inr ⟨by simp, by simp; omega⟩
 ·rw [if_pos he]
  exact .inl ⟨rfl, rfl⟩
structure Fits (l : List POp) (t : List PTok) : Prop where
 len : (toksZ l t).length + 1 = t.length
 toks : ToksAre l t 0 (toksZ l t)
 fit : Fit true 0 (toksZ l t)
 seg : SegIs l t (rolesUp l t t.length) 0 (toksZ l t)
 all : ∀ e : PT, e.yield = toksZ l t → e.All lvO (InL l)
theorem fits_of {l : List POp} {t : List PTok} (h0 : tblOk l = 0) (hr : (rolesZ l t).2 = -1) : Fits l t := by
 have hu := uniq_of_ok h0
 obtain ⟨h1, h2⟩ := toksZ_ok (toks_of hu hr)
 have hl := toksAre_len h1
 have hs := seg_of hu _ 0 0 h1 h2 rfl
 exact ⟨by omega, h1, h2, hs, fun e he => by rw [← he] at hs; exact (seg_ok e 0 hs).2.1⟩
theorem partT_ok {l : List POp} {t : List PTok} {e : PT} (F : Fits l t) (h : partT l t = some e) : e.Adm lvO ∧ e.yield = toksZ l t ∧ LeavesOk e ∧ e.All lvO (InL l) ∧ KindsOk e := by
 obtain ⟨h1, h2⟩ := Ops.build_sound lvO _ _ _ (OF.of_fit F.fit) h
 have hs := F.seg
 rw [← h2] at hs
 exact ⟨h1, h2, seg_ok e 0 hs⟩
theorem run_of {l : List POp} {t : List PTok} (h0 : tblOk l = 0) (F : Fits l t) : ∃ r : Option (PT × List TkP), Ops.operand lvO (2 * (toksZ l t).length + 2) 0 (toksZ l t) = some r ∧
  (match r with
  | none => partT l t = none
  | some (e, rest) => t.length - 1 - rest.length < t.length ∧ ((partT l t = some e ∧ (tokAt t (t.length - 1 - rest.length)).kind = 7) ∨ (partT l t = none ∧ (tokAt t (t.length - 1 - rest.length)).kind ≠ 7))) := by
 have hof := OF.of_fit F.fit
 have hbe := Ops.build_eq_operand lvO (good_of_ok h0) (toksZ l t) hof F.all
 have hlen := F.len
 obtain ⟨r, hr⟩ := (Ops.fuel_all lvO (2 * (toksZ l t).length + 2)).1 0 (toksZ l t) (by omega)
 refine ⟨r, hr, ?_⟩
 have hno : (∀ e, r ≠ some (e, [])) → partT l t = none := fun h => by
  cases hp : partT l t with
  | none => rfl
  | some e =>
   have := (hbe e).1 hp
   rw [hr] at this
   exact absurd (Option.some.inj this) (h e)
 cases r with
 | none => exact hno fun e => by simp
 | some x =>
  obtain ⟨e, rest⟩ := x
  obtain ⟨h1, h2, _⟩ := (Ops.sound_all lvO _).1 _ _ _ _ hr
  have htk := F.toks
  rw [h1] at htk
  have hl := toksAre_len htk
  have hrest := toksAre_rest htk
  refine ⟨by omega, ?_⟩
  cases rest with
  | nil =>
   refine .inl ⟨(hbe e).2 hr, ?_⟩
   exact hrest.2
  | cons tk r =>
   refine .inr ⟨hno fun e' => by simp, ?_⟩
   have := hrest.1
   cases tk with
   | leaf b => have h := this.1; omega
   | opn => have h : _ = _ := this; omega
   | cls => have h : _ = _ := this; omega
   | pre o => have h := this.1; omega
   | inf o => have h := this.1; omega
   | post o => have h := this.1; omega
theorem noSl_one {ty sz n : Nat} {f : Nat → List AV} (h : ∀ i, (f i).all flat1 = true) : NoSl [some ⟨ty, sz, n, f⟩] := fun k ob hk i _ => by
 cases k with
 | zero =>
  simp only [List.getElem?_cons_zero, Option.some.injEq] at hk
  subst hk
  exact h i
 | succ k => simp at hk
def paR (l : List POp) (z : ByteArray) (av : AV) (obs : List Ob) : Prop := (av = .tup [.agg [.own 0], .lit (.int .i64 (parZ l z).2.1), .lit (.int .i64 (parZ l z).2.2)] ∧ obs = [⟨77, 4, (parZ l z).1.length, nodCells (parZ l z).1⟩]) ∨ ∃ x y : Int, parZ l z = ([], x, y) ∧ av = .tup [.agg [.lit (.slice none 0 0)], .lit (.int .i64 x), .lit (.int .i64 y)] ∧ obs = []
theorem paR_nil {l : List POp} {z : ByteArray} {x y : Int} (h : parZ l z = ([], x, y)) : paR l z (.tup [.agg [.lit (.slice none 0 0)], .lit (.int .i64 x), .lit (.int .i64 y)]) [] := .inr ⟨x, y, h, rfl, rfl⟩
theorem paR_own {l : List POp} {z : ByteArray} {av : AV} {obs : List Ob} (h : paR l z av obs) : (av = .tup [.agg [.own 0], .lit (.int .i64 (parZ l z).2.1), .lit (.int .i64 (parZ l z).2.2)] ∧ obs = [⟨77, 4, (parZ l z).1.length, nodCells (parZ l z).1⟩]) ∨ ∃ xs : List Value, av = .tup (.agg [.lit (.slice none 0 0)] :: xs.map .lit) ∧ obs = [] ∧
  (AV.tup (.agg [.own 0] :: xs.map .lit) = .tup [.agg [.own 0], .lit (.int .i64 (parZ l z).2.1), .lit (.int .i64 (parZ l z).2.2)] ∧ [(⟨77, 4, 0, nodCells []⟩ : Ob)] = [⟨77, 4, (parZ l z).1.length, nodCells (parZ l z).1⟩]) := by
 rcases h with h | ⟨x, y, h1, rfl, rfl⟩
 ·exact .inl h
 ·refine .inr ⟨[.int .i64 x, .int .i64 y], rfl, rfl, ?_⟩
  rw [h1]
  exact ⟨rfl, rfl⟩
set_option maxRecDepth 100000 in
theorem c_specParse1 (l : List POp) (hl : l.length ≤ 9223372036854775807) (hw : opsWf l) (z : ByteArray) (hz : z.size ≤ 1048576) : VFun Tryz.prog 31 [.agg [.sl 4 l.length (opCells l)], .lit (.string z)] (paR l z) := by
 have cl : ∀ (i : Nat) (c : AV), i < l.length → c ∈ opCells l i → Closed c := fun i c _ h => opClosed l i c h
 refine vfun_start Tryz.func31 (by kernel_rfl) rfl (by simp [Tryz.ntmps31]) ?_; simp only [Tryz.ntmps31, Tryz.results31]; simp [go_sem]
 refine vcall_pure (c_specTableOk l hl hw) ?_ ?_
 ·simp [go_sem]
  exact argSl_refl (by omega) cl
 ·simp [go_sem]
  refine ⟨fun h0 => paR_nil (by simp [parZ, h0]), fun h0 => ?_⟩
  have hu := uniq_of_ok h0
  refine vcall_use (c_specLex l hl hw z hz) ?_ ?_
  ·simp [go_sem]
   exact argSl_refl (by omega) cl
  ·rintro av obs ⟨rfl, rfl⟩
   simp [go_sem]
   refine ⟨fun h1 => paR_nil ?_, fun h1 => ?_⟩
   ·have : ¬ z.size ≤ 20000 := fun e => by simp [lexOk, h0, e] at h1
    simp [parZ, h0, this]
   have hz2 : z.size ≤ 20000 := by simp [lexOk] at h1; exact h1.2
   have hends := lexZ_ends h1
   obtain ⟨hq1, hq2⟩ := lexZ_texts (l := l) (z := z) (by omega)
   obtain ⟨t, ht⟩ : ∃ t, t = lexZ l z := ⟨_, rfl⟩
   have hpar : parZ l z = parK l t := by rw [parZ, if_neg (by omega), if_neg (by omega), ← ht]
   rw [← ht] at hends hq1 hq2 ⊢
   have clt : ∀ (i : Nat) (c : AV), i < t.length → c ∈ tokCells t i → Closed c := fun i c _ h => tokClosed t i c h
   have hto : t.length + tokSum t ≤ 1048576 := by omega
   refine vc_loop (fun i : Nat => i ≤ t.length ∧ ∀ j, j < i → (tokAt t j).kind ≠ 6) (fun i => t.length - i) (fun i => .of [(2, .ptr 0 1 0 0), (4, .ptr 1 1 0 0), (5, .lit (.int .i64 0)), (6, .lit (.int .i64 0)), (7, .own 2), (9, .lit (.int .i64 i))] [some ⟨30, 1, 1, fun _ => [.sl 4 l.length (opCells l)]⟩, some ⟨37, 1, 1, fun _ => [.lit (.slice none 0 0)]⟩, some ⟨88, 3, t.length, tokCells t⟩]) ⟨0, ⟨by omega, by simp⟩, ?_⟩ (fun i hi => ?_)
   ·simp [go_sem]
    exact ⟨cl, fun i hi c hc => .closed _ (clt i c hi hc)⟩
   ·simp [go_sem, tokCells_at]
    refine ⟨by omega, fun h => ⟨h, fun hk => ?_, fun hk => ?_⟩, fun h => ?_⟩
    ·have hb := badAt_some h hi.2 hk
     refine vcall_pure (c_l3Offset t hto i h) ?_ ?_
     ·simp [go_sem]
      exact argSl_own (k := 2) rfl (by omega) clt
     ·simp [go_sem]
      exact paR_nil (by rw [hpar, parK_bad hb])
    ·refine ⟨i + 1, ⟨by omega, fun j hj => ?_⟩, by omega, wrap_succ (by omega), cl⟩
     rcases Nat.lt_succ_iff_lt_or_eq.mp hj with hj | rfl
     ·exact hi.2 j hj
     ·exact hk
    ·obtain rfl : i = t.length := by omega
     have hnb := badAt_none hi.2
     refine vcall_use (c_specRoles l hl hw t (by omega)) ?_ ?_
     ·simp [go_sem]
      exact ⟨argSl_refl (by omega) cl, argSl_own (k := 2) rfl (by omega) clt⟩
     ·rintro av obs ⟨rfl, rfl⟩
      simp [go_sem]
      rcases roles_two h0 hends with ⟨hr, hR⟩ | ⟨hr, hlt⟩
      ·rw [hr, hR]
       simp [go_sem]
       have F := fits_of h0 hr
       have hpos : 0 < t.length := by have := F.len; omega
       have w1 : IntKind.i64.wrap ((t.length : Int) - 1) = ((t.length - 1 : Nat) : Int) := by rw [wrap_i64 (by omega)]; omega
       have clr : ∀ (i : Nat) (c : AV), i < (rolesUp l t t.length).length → c ∈ intCells (rolesUp l t t.length) i → Closed c := fun i c _ h => intClosed _ i c h
       have cb := c_build l hl hu hw (ok_of_ok h0) t (by omega) (rolesUp l t t.length) (rolesUp_len l t t.length) (toksZ l t).length (toksZ l t) 0 (t.length - 1) [] (Nat.le_refl _) (OF.of_fit F.fit) (by have := F.len; omega) (by omega) F.seg (by have := F.len; simp; omega)
       rw [w1]
       refine ⟨by omega, vcall_shareX [4] cb (by simp) ?_ ?_ trivial ?_⟩
       ·simp [go_sem]
        refine ⟨.inl ?_, .inr (.inl ⟨by simp, argSl_own (k := 2) rfl (by omega) clt, ?_⟩), .inr (.inl ⟨by simp, argSl_own (k := 3) rfl (by omega) clr, ?_⟩), .inl (.closed _ (.lit _)), .inl (.closed _ (.lit _)), .inl ?_⟩
        ·exact .closed _ (by simp only [closed_agg, List.mem_singleton]; rintro c rfl; simp only [closed_sl]; exact cl)
        ·exact fun i hi => tokLit _ i
        ·exact fun i hi => rfl
        ·exact .own 0 (by simp)
       ·simp [go_sem, nodRow]
       ·cases hp : partT l t with
        | none =>
         have hk := parK_none hnb hr hp
         rw [partT] at hp
         rw [hp]
         rintro av mem maps ⟨T, hT, ⟨rfl, rfl, rfl⟩ | ⟨rfl, rfl, rfl⟩⟩
         ·refine ⟨noSl_row fun i => rfl, ?_⟩
          simp [go_sem, nodRow]
          exact paR_nil (by rw [hpar, hk])
         ·refine ⟨noSl_one fun i => rfl, ?_⟩
          simp [go_sem, nodRow]
          exact paR_nil (by rw [hpar, hk])
        | some e =>
         obtain ⟨e1, e2, e3, e4, e5⟩ := partT_ok F hp
         have hp' := hp
         rw [partT] at hp
         rw [hp]
         rintro av mem maps ⟨rfl, rfl, rfl⟩
         refine ⟨noSl_row fun i => rfl, ?_⟩
         simp [go_sem, nodRow]
         have hly := lay_yield e []
         have hgr := lay_grows e []
         have hF := F.len
         rw [← e2] at hF
         simp only [List.length_nil, Nat.zero_add] at hly hgr
         have hH := hOk_lay e [] [] e3 e5 ⟨rfl, fun i hi => by simp at hi⟩
         have hlast := his_last e []
         rw [hH.1] at hlast
         have cle : ∀ (i : Nat) (c : AV), i < (lay e []).length → c ∈ nodCells (lay e []) i → Closed c := fun i c _ h => nodClosed _ i c h
         have ch := c_l3Height (lay e []) (his e []) (by omega) hH
         rw [hlast] at ch
         refine vcall_pure ch ?_ ?_
         ·simp [go_sem]
          exact argSl_own (k := 5) rfl (by omega) cle
         ·simp [go_sem]
          refine ⟨fun h6 => paR_nil (by rw [hpar, parK_high hnb hr hp' (by omega)]), fun h6 => ⟨_, obsSame_one.mpr ⟨⟨77, 4, (lay e []).length, nodCells (lay e [])⟩, ⟨rfl, rfl, rfl, fun j hj => ⟨rfl, nodLit _ j⟩⟩, rfl⟩, .inl ?_⟩⟩
          rw [hpar, parK_ok hnb hr hp' h6]
          exact ⟨rfl, rfl⟩
      ·obtain ⟨q, hq⟩ : ∃ q : Nat, (rolesZ l t).2 = q := ⟨(rolesZ l t).2.toNat, by omega⟩
       have hk := parK_roles hnb hr
       rw [hq] at hr hlt hk ⊢
       simp only [Int.toNat_natCast] at hk
       simp [go_sem, hr]
       have hq' : q < t.length := by omega
       refine ⟨vcall_pure (c_l3Offset t hto q hq') ?_ ?_, fun h => by omega⟩
       ·simp [go_sem]
        exact argSl_own (k := 2) rfl (by omega) clt
       ·simp [go_sem]
        exact paR_nil (by rw [hpar, hk])
theorem c_specParse (l : List POp) (hl : l.length ≤ 9223372036854775807) (hw : opsWf l) (z : ByteArray) (hz : z.size ≤ 1048576) : VFun Tryz.prog 31 [.agg [.sl 4 l.length (opCells l)], .lit (.string z)] (fun av obs => av = .tup [.agg [.own 0], .lit (.int .i64 (parZ l z).2.1), .lit (.int .i64 (parZ l z).2.2)] ∧ obs = [⟨77, 4, (parZ l z).1.length, nodCells (parZ l z).1⟩]) :=
 (c_specParse1 l hl hw z hz).adoptA 77 4 (by omega) (nodCells []) fun av obs h => paR_own h
end Go.Proofs.YtjdmmhcogmepaaaGreatDoor.V
namespace Go.Proofs.YtjdmmhcogmepaaaGreatDoor.V
open Go.RowKit
open Go.Maps (Keyed)
open Go.Proofs.YtjdmmhcogmepaaaGreatDoor.Ops (Tr Tk Lv Res Fit)
theorem zeroNud : zeroIs Tryz.prog 165 .nilFunc := fun w => Tryz.zeroValue165 w
theorem toks_at {E : PEnv} {i : Nat} {tk : TkP} {r : List TkP} (h : ToksAre E.l E.t i (tk :: r)) : i < E.t.length ∧ E.at_ r = i + 1 ∧ E.at_ (tk :: r) = i := by
 have := toksAre_len h
 simp only [List.length_cons] at this
 unfold PEnv.at_
 simp only [List.length_cons]
 omega
theorem fi_leaf (E : PEnv) (i : Nat) (hi : i < E.t.length) (rest : List TkP) (hr : E.at_ rest = i + 1) (hk : (tokAt E.t i).kind = 1 ∨ (tokAt E.t i).kind = 2) : E.Ans 125 [.ptr 0 6 0 0] i (some (.leaf ((tokAt E.t i).kind, (tokAt E.t i).text), rest)) := by
 refine .mk ?_
 have cn := c_pnext E.b1 E.b2 E.b3 E.b4 E.t E.len i hi
 rw [hr]
 simp only [PEnv.ob, pOb, PEnv.mps, mapsP, PTok.cells] at cn ⊢
 refine vprocG_start Tryz.func125 (by kernel_rfl) rfl (by simp [Tryz.ntmps125]) ?_; simp only [Tryz.ntmps125, Tryz.results125]; simp [go_sem]
 refine vcall_share [0] cn (by simp) ?_ ?_ ?_ ?_
 ·simp [go_sem]
 ·simp [go_sem]
  exact fun i c _ h => tokClosed E.t i c h
 ·simp [go_sem]
 ·rintro av mem maps ⟨rfl, rfl, rfl⟩
  simp only [pOb]
  simp [go_sem]
  rcases hk with hk | hk
  ·simp [hk, go_sem]
   exact E.fin_ [] (by simp only [partP, hk]) rfl
  ·simp [hk, go_sem]
   exact E.fin_ [] (by simp only [partP, hk]) rfl
theorem fi_open (E : PEnv) (i : Nat) (hi : i < E.t.length) (j : Nat) (hj : j < E.t.length) (e : PT) (r0 rest : List TkP) (h0 : E.at_ r0 = j) (hr : E.at_ rest = j + 1) (hk : (tokAt E.t i).kind = 4) (hk2 : (tokAt E.t j).kind = 5) (hl : highT e < 2 ^ 62) (ho : E.Ans 95 [.ptr 0 6 0 0, .lit (.int .i64 0)] (i + 1) (some (e, r0))) : E.Ans 125 [.ptr 0 6 0 0] i (some (.grp e, rest)) := by
 refine .mk ?_
 obtain ⟨T, u, hT, _, fh, hh, ch⟩ := partIs e
 have ew : IntKind.i64.wrap (1 + highT e) = 1 + highT e := wrap_i64 (by have := highT_pos e; omega)
 have cn := c_pnext E.b1 E.b2 E.b3 E.b4 E.t E.len i hi
 have cn2 := c_pnext E.b1 E.b2 E.b3 E.b4 E.t E.len j hj
 rw [hr]
 simp only [PEnv.ob, pOb, PEnv.mps, mapsP, PTok.cells] at cn cn2 ⊢
 refine vprocG_start Tryz.func125 (by kernel_rfl) rfl (by simp [Tryz.ntmps125]) ?_; simp only [Tryz.ntmps125, Tryz.results125]; simp [go_sem]
 refine vcall_share [0] cn (by simp) ?_ ?_ ?_ ?_
 ·simp [go_sem]
 ·simp [go_sem]
  exact fun i c _ h => tokClosed E.t i c h
 ·simp [go_sem]
 ·rintro av mem maps ⟨rfl, rfl, rfl⟩
  simp only [pOb]
  simp [hk, go_sem]
  refine vcall_tell [0] 48 ho (by simp) rfl (fun i _ => rnP E.lo i) ?_ ?_ ?_ ?_
  ·simp [go_sem]
  ·simp [go_sem, PEnv.ob, pOb]
   exact fun i c _ h => tokClosed E.t i c h
  ·exact E.mpsLe []
  ·rintro av mem maps ⟨⟨rfl, rfl⟩, rfl⟩
   rw [h0]
   simp only [PEnv.ob, pOb, PEnv.mps, mapsP]
   simp [go_sem]
   refine vcall_share [0] cn2 (by simp) ?_ ?_ ?_ ?_
   ·simp [go_sem]
   ·simp [go_sem]
    exact fun i c _ h => tokClosed E.t i c h
   ·simp [go_sem]
   ·rintro av mem maps ⟨rfl, rfl, rfl⟩
    simp only [pOb]
    simp [hk2, go_sem]
    rw [hT]
    simp [go_sem, hh]
    refine vcall_pure ch ?_ ?_
    ·simp [go_sem]
    ·simp [go_sem, ew]
     exact E.fin_ E.mps (by simp only [partP, hT]) rfl
theorem fi_open_dies (E : PEnv) (i : Nat) (hi : i < E.t.length) (hk : (tokAt E.t i).kind = 4) (ho : E.Ans 95 [.ptr 0 6 0 0, .lit (.int .i64 0)] (i + 1) none) : E.Ans 125 [.ptr 0 6 0 0] i none := by
 have cn := c_pnext E.b1 E.b2 E.b3 E.b4 E.t E.len i hi
 simp only [PEnv.Ans, PEnv.ob, pOb, PEnv.mps, mapsP, PTok.cells] at cn ho ⊢
 refine vdies_start Tryz.func125 (by kernel_rfl) rfl (by simp [Tryz.ntmps125]) ?_; simp only [Tryz.ntmps125, startG, startP, List.length_cons, List.length_nil, List.length_singleton]
 refine vd_snd ?_
 simp [go_sem]
 refine vd_snd ?_
 simp [go_sem]
 refine vcall_share [0] cn (by simp) ?_ ?_ ?_ ?_
 ·simp [go_sem]
 ·simp [go_sem]
  exact fun i c _ h => tokClosed E.t i c h
 ·simp [go_sem]
 ·rintro av mem maps ⟨rfl, rfl, rfl⟩
  simp only [pOb]
  simp [hk, go_sem]
  refine vd_fst ?_
  refine vd_snd ?_
  simp [hk, go_sem]
  refine vd_snd ?_
  simp [hk, go_sem]
  refine vd_snd ?_
  simp [hk, go_sem]
  refine vd_snd ?_
  simp [hk, go_sem]
  refine vd_fst ?_
  refine vd_at 1 ?_
  simp [go_sem]
  refine vdcall_tell [0] 48 ho (by simp) rfl (fun i _ => rnP E.lo i) ?_ ?_ (E.mpsLe []) (E.mpsLe [])
  ·simp [go_sem]
  ·simp [go_sem, PEnv.ob, pOb]
   exact fun i c _ h => tokClosed E.t i c h
theorem fi_open_end (E : PEnv) (i : Nat) (hi : i < E.t.length) (j : Nat) (hj : j < E.t.length) (e : PT) (r0 : List TkP) (h0 : E.at_ r0 = j) (hk : (tokAt E.t i).kind = 4) (hk2 : (tokAt E.t j).kind ≠ 5) (ho : E.Ans 95 [.ptr 0 6 0 0, .lit (.int .i64 0)] (i + 1) (some (e, r0))) : E.Ans 125 [.ptr 0 6 0 0] i none := by
 have cn := c_pnext E.b1 E.b2 E.b3 E.b4 E.t E.len i hi
 have cn2 := c_pnext E.b1 E.b2 E.b3 E.b4 E.t E.len j hj
 simp only [PEnv.Ans, PEnv.ob, pOb, PEnv.mps, mapsP, PTok.cells] at cn cn2 ⊢
 refine vdies_start Tryz.func125 (by kernel_rfl) rfl (by simp [Tryz.ntmps125]) ?_; simp only [Tryz.ntmps125, startG, startP, List.length_cons, List.length_nil, List.length_singleton]
 refine vd_snd ?_
 simp [go_sem]
 refine vd_snd ?_
 simp [go_sem]
 refine vcall_share [0] cn (by simp) ?_ ?_ ?_ ?_
 ·simp [go_sem]
 ·simp [go_sem]
  exact fun i c _ h => tokClosed E.t i c h
 ·simp [go_sem]
 ·rintro av mem maps ⟨rfl, rfl, rfl⟩
  simp only [pOb]
  simp [hk, go_sem]
  refine vd_fst ?_
  refine vd_snd ?_
  simp [hk, go_sem]
  refine vd_snd ?_
  simp [hk, go_sem]
  refine vd_snd ?_
  simp [hk, go_sem]
  refine vd_snd ?_
  simp [hk, go_sem]
  refine vd_snd ?_
  simp [hk, go_sem]
  refine vcall_tell [0] 48 ho (by simp) rfl (fun i _ => rnP E.lo i) ?_ ?_ ?_ ?_
  ·simp [go_sem]
  ·simp [go_sem, PEnv.ob, pOb]
   exact fun i c _ h => tokClosed E.t i c h
  ·exact E.mpsLe []
  ·rintro av mem maps ⟨⟨rfl, rfl⟩, rfl⟩
   rw [h0]
   simp only [PEnv.ob, pOb, PEnv.mps, mapsP]
   simp [go_sem]
   refine vd_fst ?_
   refine vd_snd ?_
   simp [go_sem]
   refine vcall_share [0] cn2 (by simp) ?_ ?_ ?_ ?_
   ·simp [go_sem]
   ·simp [go_sem]
    exact fun i c _ h => tokClosed E.t i c h
   ·simp [go_sem]
   ·rintro av mem maps ⟨rfl, rfl, rfl⟩
    simp only [pOb]
    simp [hk2, go_sem]
    refine vd_at 2 ?_
    simp [go_sem, noTreeV, E.n13, E.n14, E.n34]
theorem fi_pre (E : PEnv) (i : Nat) (hi : i < E.t.length) (q : Nat) (hk : (tokAt E.t i).kind = 3) (hz : (tokAt E.t i).text.size ≤ maxLen) (hm : mget E.esN (.string (tokAt E.t i).text) = some (.func (.func 94) #[] #[vsP E.bp E.bo 0, vsP E.bp E.bo (q + 1)])) (e : PT) (rest : List TkP)
  (ho : E.Ans 94 [.agg (tokAt E.t i).cells, .lit (vsP E.bp E.bo 0), .lit (vsP E.bp E.bo (q + 1))] (i + 1) (some (e, rest))) : E.Ans 125 [.ptr 0 6 0 0] i (some (e, rest)) := by
 refine .mk ?_
 have cn := c_pnext E.b1 E.b2 E.b3 E.b4 E.t E.len i hi
 have h13 := E.n13
 have h14 := E.n14
 have h34 := E.n34
 simp only [PEnv.ob, pOb, PEnv.mps, mapsP, PTok.cells, vsP] at cn ho hm ⊢
 refine vprocG_start Tryz.func125 (by kernel_rfl) rfl (by simp [Tryz.ntmps125]) ?_; simp only [Tryz.ntmps125, Tryz.results125]; simp [go_sem]
 refine vcall_share [0] cn (by simp) ?_ ?_ ?_ ?_
 ·simp [go_sem]
 ·simp [go_sem]
  exact fun i c _ h => tokClosed E.t i c h
 ·simp [go_sem]
 ·rintro av mem maps ⟨rfl, rfl, rfl⟩
  simp only [pOb]
  simp [hk, go_sem]
  refine vc_drawn [8] (.q 0 <| .q 1 <| .q 2 <| .q 3 <| .q 4 <| .q 5 <| .q 6 <| .q 7 <| .or 8 (.q 9 <| .done) (.nil)) (by kernel_rfl) ?_
  simp [hk, go_sem, h13, h14, h34]
  refine vlookK_use keyedString (keyString hz) _ zeroNud ?_
  rw [hm]
  simp [go_sem]
  refine vcall_tell [0] 48 ho (by simp) rfl (fun i _ => rnP E.lo i) ?_ ?_ ?_ ?_
  ·simp [go_sem, hk]
  ·simp [go_sem, PEnv.ob, pOb]
   exact fun i c _ h => tokClosed E.t i c h
  ·exact E.mpsLe []
  ·rintro av mem maps ⟨⟨rfl, rfl⟩, rfl⟩
   simp only [PEnv.ob, pOb, PEnv.mps, mapsP]
   simp [go_sem]
   exact E.fin_ E.mps rfl rfl
theorem fi_pre_dies (E : PEnv) (i : Nat) (hi : i < E.t.length) (q : Nat) (hk : (tokAt E.t i).kind = 3) (hz : (tokAt E.t i).text.size ≤ maxLen) (hm : mget E.esN (.string (tokAt E.t i).text) = some (.func (.func 94) #[] #[vsP E.bp E.bo 0, vsP E.bp E.bo (q + 1)]))
  (ho : E.Ans 94 [.agg (tokAt E.t i).cells, .lit (vsP E.bp E.bo 0), .lit (vsP E.bp E.bo (q + 1))] (i + 1) none) : E.Ans 125 [.ptr 0 6 0 0] i none := by
 have cn := c_pnext E.b1 E.b2 E.b3 E.b4 E.t E.len i hi
 have h13 := E.n13
 have h14 := E.n14
 have h34 := E.n34
 simp only [PEnv.Ans, PEnv.ob, pOb, PEnv.mps, mapsP, PTok.cells, vsP] at cn ho hm ⊢
 refine vdies_start Tryz.func125 (by kernel_rfl) rfl (by simp [Tryz.ntmps125]) ?_; simp only [Tryz.ntmps125, startG, startP, List.length_cons, List.length_nil, List.length_singleton]
 refine vd_snd ?_
 simp [go_sem]
 refine vd_snd ?_
 simp [go_sem]
 refine vcall_share [0] cn (by simp) ?_ ?_ ?_ ?_
 ·simp [go_sem]
 ·simp [go_sem]
  exact fun i c _ h => tokClosed E.t i c h
 ·simp [go_sem]
 ·rintro av mem maps ⟨rfl, rfl, rfl⟩
  simp only [pOb]
  simp [hk, go_sem]
  refine vd_snd ?_
  simp [hk, go_sem]
  refine vd_fst (vd_drawn [8] (.q 0 <| .q 1 <| .q 2 <| .q 3 <| .q 4 <| .q 5 <| .q 6 <| .q 7 <| .or 8 (.q 9 <| .done) (.nil)) (by kernel_rfl) ?_)
  simp [hk, go_sem, h13, h14, h34]
  refine vlookK_use keyedString (keyString hz) _ zeroNud ?_
  rw [hm]
  simp [go_sem]
  refine vdcall_tell [0] 48 ho (by simp) rfl (fun i _ => rnP E.lo i) ?_ ?_ (E.mpsLe []) (E.mpsLe [])
  ·simp [go_sem, hk]
  ·simp [go_sem, PEnv.ob, pOb]
   exact fun i c _ h => tokClosed E.t i c h
theorem tok_kind {l : List POp} {k : PTok} {tk : TkP} (h : TokIs l k tk) : k.kind = 5 → tk = .cls := by
 cases tk <;> simp only [TokIs] at h <;> intro h5 <;> first | rfl | (exfalso; omega) | skip
theorem c_first (E : PEnv) (n : Nat) (hO : ∀ i m d ts res, ToksAre E.l E.t i ts → Fit true d ts → Ops.operand lvO n m ts = some res → E.Ans 95 [.ptr 0 6 0 0, .lit (.int .i64 m)] i res)
  (i d : Nat) (ts : List TkP) (res : Option (PT × List TkP)) (ht : ToksAre E.l E.t i ts) (hf : Fit true d ts) (h : Ops.firstF lvO (Ops.operand lvO n) ts = some res) : E.Ans 125 [.ptr 0 6 0 0] i res := by
 cases ts with
 | nil => exact absurd hf (by simp [Fit])
 | cons tk r =>
  obtain ⟨hi, h1, _⟩ := toks_at ht
  obtain ⟨ht1, ht2⟩ := ht
  have big : ∀ {m : Int} {u : List TkP} {e : PT} {rest : List TkP}, u.length ≤ E.t.length → Ops.operand lvO n m u = some (some (e, rest)) → highT e ≤ 1048576 := @fun _ _ e _ hu hq => by
   have := ((Ops.sound_all lvO n).1 _ _ _ _ hq).1
   have h2 := highT_yield e
   have h3 := congrArg List.length this
   rw [List.length_append] at h3
   have := E.len
   omega
  have hlen := toksAre_len ht2
  cases tk with
  | leaf b =>
   simp only [Ops.firstF, Option.some.injEq] at h
   subst h
   simp only [TokIs] at ht1
   have := fi_leaf E i hi r h1 ht1.1
   rw [ht1.2]; exact this
  | opn =>
   simp only [TokIs] at ht1
   simp only [Fit] at hf
   cases hq : Ops.operand lvO n 0 r with
   | none => simp [Ops.firstF, hq] at h
   | some x =>
    have ho := hO (i + 1) 0 (d + 1) r x ht2 hf hq
    cases x with
    | none =>
     simp [Ops.firstF, hq] at h
     subst h
     exact fi_open_dies E i hi ht1 ho
    | some y =>
     obtain ⟨e, r0⟩ := y
     have hs := ((Ops.sound_all lvO n).1 _ _ _ _ hq).1
     have ht3 := ht2
     rw [hs] at ht3
     have ht4 := toksAre_rest ht3
     have hj : E.t.length - 1 - r0.length < E.t.length := by omega
     have hb := big (by omega) hq
     simp only [Ops.firstF, hq] at h
     cases r0 with
     | nil =>
      simp at h; subst h
      exact fi_open_end E i hi (E.at_ []) hj e [] rfl ht1 (by
       have := ht4.2
       show (tokAt E.t (E.t.length - 1 - 0)).kind ≠ 5
       simp only [List.length_nil] at this
       omega) ho
     | cons tk2 r1 =>
      obtain ⟨_, h6, h7⟩ := toks_at ht4
      by_cases hc : tk2 = .cls
      ·subst hc
       simp at h; subst h
       have hk5 := ht4.1
       simp only [TokIs] at hk5
       exact fi_open E i hi (E.at_ (.cls :: r1)) hj e _ r1 rfl h6 ht1 hk5 (by omega) ho
      ·have hn : res = none := by cases tk2 <;> first | exact absurd rfl hc | (simp at h; exact h.symm)
       subst hn
       exact fi_open_end E i hi (E.at_ (tk2 :: r1)) hj e _ rfl ht1 (fun h5 => hc (tok_kind ht4.1 h5)) ho
  | pre o =>
   simp only [TokIs] at ht1
   simp only [Fit] at hf
   obtain ⟨k1, k2, k3, j, hj, rfl⟩ := ht1
   obtain ⟨q, hq0, hq1, hq2⟩ := E.maps.nud j hj k3
   have hok := E.maps.ok j hj
   have hh : hole (opAt E.lo q) false = (lvO (opAt E.l j)).h2 := by rw [hq1]; exact hole_h2p hok k3
   have hw : (opAt E.lo q).wf := by rw [hq1]; exact E.maps.wf j hj
   rw [k2] at hq2
   cases hq : Ops.operand lvO n (lvO (opAt E.l j)).h2 r with
   | none => simp [Ops.firstF, hq] at h
   | some x =>
    have ho := hO (i + 1) _ d r x ht2 hf hq
    rw [← hh] at ho
    simp only [Ops.firstF, hq] at h
    cases x with
    | none =>
     simp at h; subst h
     exact fi_pre_dies E i hi q k1 (E.txt i hi) hq2 (an_pre_dies E _ q hq0 hw _ ho)
    | some y =>
     obtain ⟨e, r0⟩ := y
     simp at h; subst h
     have hb := big (by omega) hq
     have := fi_pre E i hi q k1 (E.txt i hi) hq2 _ _ (an_pre E (tokAt E.t i) q hq0 hw _ e r0 (by omega) ho)
     rw [hq1] at this; exact this
  | cls => exact absurd hf (by simp [Fit])
  | inf o => exact absurd hf (by simp [Fit])
  | post o => exact absurd hf (by simp [Fit])
theorem PEnv.mpsLe1 (E : PEnv) (M : List (Nat × Mp)) : MapsLe ((E.b1, ⟨151, E.esA⟩) :: (E.mps ++ M)) E.mps := by
 have h1 := E.n13
 have h2 := E.n14
 have h3 := E.n34
 simp [PEnv.mps, mapsP, MapsLe, lkm, h1, h2, h3, Ne.symm h1, Ne.symm h2, Ne.symm h3]
theorem PEnv.fin2 (E : PEnv) {u v : Value} {i j : Nat} {M : List (Nat × Mp)} (hM : MapsLe M E.mps) {r : List (Option Ob)} {tm : List (Nat × AV)} (hv : v = u) (hij : i = j) : vendP E.mps (E.Rt u j) ⟨tm, E.ob i :: r, M, 1⟩ (.lit v) := by
 subst hv; subst hij
 refine ⟨rfl, [], [E.ob i], by simp, by simp, by simp [go_sem], ?_, fun b hb => ?_, ⟨⟨rfl, rfl⟩, hM⟩⟩
 ·simp only [PEnv.ob, pOb]
  simp [go_sem]
  exact pOut
 ·cases hq : lkm E.mps b with
  | none => rw [hq] at hb; simp at hb
  | some mp => rw [mapsLe_get hM (b, mp) (lkm_mem hq)]; rfl
theorem zeroLed : zeroIs Tryz.prog 166 .nilFunc := fun w => Tryz.zeroValue166 w
structure AtLoop (E : PEnv) (n : Nat) (m : Int) (res : Option (PT × List TkP)) (x : PT × List TkP) : Prop where
 run : ∃ k, k ≤ n ∧ Ops.loop lvO k m x.1 x.2 = some res
 toks : ToksAre E.l E.t (E.at_ x.2) x.2
 fit : ∃ d, Fit false d x.2
 len : x.1.yield.length + x.2.length + 1 ≤ E.t.length
def atLoopS (E : PEnv) (m : Int) (x : PT × List TkP) : VS := ⟨[(62, .fam (E.lo.length + 1) (vsP E.bp E.bo) (asP E.lo)), (0, .ptr 0 6 0 0), (1, .lit (.int .i64 m)), (4, .lit .nilIface), (5, .lit (partP x.1))], [E.ob (E.at_ x.2)], E.mps, 1⟩
theorem op_some (E : PEnv) (n : Nat) (hO : ∀ i m d ts res, ToksAre E.l E.t i ts → Fit true d ts → Ops.operand lvO n m ts = some res → E.Ans 95 [.ptr 0 6 0 0, .lit (.int .i64 m)] i res)
  (i : Nat) (m : Int) (e : PT) (ts : List TkP) (er : PT) (rest : List TkP) (hf : E.Ans 125 [.ptr 0 6 0 0] i (some (e, ts))) (hm : m ≤ e.level lvO) (hl : AtLoop E n m (some (er, rest)) (e, ts)) : E.Ans 95 [.ptr 0 6 0 0, .lit (.int .i64 m)] i (some (er, rest)) := by
 refine .mk ?_
 obtain ⟨T, u, hT, ⟨fl, hfl, cl⟩, _⟩ := partIs e
 have h13 := E.n13
 have h14 := E.n14
 have h34 := E.n34
 simp only [PEnv.ob, pOb, PEnv.mps, mapsP]
 refine vprocG_start Tryz.func95 (by kernel_rfl) rfl (by simp [Tryz.ntmps95]) ?_; simp only [Tryz.ntmps95, Tryz.results95]; simp [go_sem]
 refine vcall_tell [0] 62 hf (by simp) rfl (fun i _ => rnP E.lo i) ?_ ?_ ?_ ?_
 ·simp [go_sem]
 ·simp [go_sem, PEnv.ob, pOb]
  exact fun i c _ h => tokClosed E.t i c h
 ·exact E.mpsLe []
 ·rintro av mem maps ⟨⟨rfl, rfl⟩, rfl⟩
  simp only [PEnv.ob, pOb, PEnv.mps, mapsP]
  simp [go_sem]
  rw [hT]
  simp [go_sem, hfl]
  refine vcall_pure cl ?_ ?_
  ·simp [go_sem]
  ·rw [← lvlP_eq] at hm
   simp [go_sem, show ¬ lvlP e < m by omega]
   refine vc_loopE (AtLoop E n m (some (er, rest))) (fun x => x.2.length) (atLoopS E m) ⟨(e, ts), hl, ?_⟩ (fun x hx => ?_)
   ·refine ent_ks [0] (by simp) (by simp) (by simp) (by simp) (E.mpsLe _) ?_ ?_
    ·simp [go_sem]
     exact ⟨.fam _ _ _ _ fun i _ => rnP E.lo i, hT.symm⟩
    ·simp [go_sem, PEnv.ob, pOb]
     exact fun i c _ h => tokClosed E.t i c h
   ·obtain ⟨e, ts⟩ := x
    obtain ⟨⟨k, hk, hrun⟩, htk, ⟨d, hfit⟩, hlen⟩ := hx
    have hlt : E.at_ ts < E.t.length := by unfold PEnv.at_; omega
    simp only [atLoopS, PEnv.ob, pOb, PEnv.mps, mapsP]
    simp [go_sem]
    refine vc_drawn [11] (.q 0 <| .q 1 <| .q 2 <| .q 3 <| .q 4 <| .q 5 <| .q 6 <| .q 7 <| .q 8 <| .q 9 <| .or 10 (.or 11 (.done) (.nil)) (.nil)) (by kernel_rfl) ?_
    simp [go_sem, tokCells_at, hlt, PTok.cells]
    cases ts with
    | nil =>
     have hk7 := htk.2
     simp [go_sem, hk7]
     cases k with
     | zero => simp [Ops.loop] at hrun
     | succ k =>
      simp [Ops.loop, Ops.loopF] at hrun
      obtain ⟨rfl, rfl⟩ := hrun
      exact E.fin_ [] rfl rfl
    | cons tk r =>
     obtain ⟨hi, hi1, hi2⟩ := toks_at htk
     obtain ⟨ht1, ht2⟩ := htk
     have hi2' : E.at_ (tk :: r) < E.t.length := hlt
     by_cases hc : tk = .cls
     ·subst hc
      simp only [TokIs] at ht1
      simp [go_sem, ht1]
      cases k with
      | zero => simp [Ops.loop] at hrun
      | succ k =>
       simp [Ops.loop, Ops.loopF] at hrun
       obtain ⟨rfl, rfl⟩ := hrun
       exact E.fin_ [] rfl rfl
     ·obtain ⟨o, hk3, htx, hko, ⟨j, hj, hjo⟩, htk⟩ : ∃ o, (tokAt E.t (E.at_ (tk :: r))).kind = 3 ∧ o.text = (tokAt E.t (E.at_ (tk :: r))).text ∧ o.kind ≠ 1 ∧ (∃ j, j < E.l.length ∧ opAt E.l j = o) ∧ ((tk = .inf o ∧ o.kind = 2) ∨ (tk = .post o ∧ o.kind = 3)) := by
       cases tk with
       | cls => exact absurd rfl hc
       | inf o => exact ⟨o, ht1.1, ht1.2.1, by have := ht1.2.2.1; omega, ht1.2.2.2, .inl ⟨rfl, ht1.2.2.1⟩⟩
       | post o => exact ⟨o, ht1.1, ht1.2.1, by have := ht1.2.2.1; omega, ht1.2.2.2, .inr ⟨rfl, ht1.2.2.1⟩⟩
       | leaf b => exact absurd hfit (by simp [Fit])
       | opn => exact absurd hfit (by simp [Fit])
       | pre o => exact absurd hfit (by simp [Fit])
      have hw : o.wf := by rw [← hjo]; exact E.maps.wf j hj
      have hok : opOk o = true := by rw [← hjo]; exact E.maps.ok j hj
      have hh1 := hole_h1 hok hko
      have cH := c_Hole o hw false
      rw [hh1] at cH
      have cb := c_behind E.l E.b1 E.b2 E.b3 E.b4 E.t (E.at_ (tk :: r)) E.maps.uniq E.esA E.maps.at_ j hj (by rw [hjo]; exact hko) (by rw [hjo]; exact hw)
      rw [hjo, htx] at cb
      simp only [POp.cells, pOb] at cb cH
      simp [go_sem, hk3]
      refine vcall_share [0] cb (by simp) ?_ ?_ ?_ ?_
      ·simp [go_sem]
      ·simp [go_sem]
       exact fun i c _ h => tokClosed E.t i c h
      ·simp [go_sem]
      ·rintro av mem maps ⟨rfl, rfl, rfl⟩
       simp only [pOb]
       simp [go_sem]
       have hrun' : ∃ k', k = k' + 1 ∧ ((o.level < m ∨ e.level lvO < (lvO o).h1) → er = e ∧ rest = tk :: r) := by
        cases k with
        | zero => simp [Ops.loop] at hrun
        | succ k =>
         refine ⟨k, rfl, fun hor => ?_⟩
         rw [Ops.loop] at hrun
         rcases htk with ⟨rfl, _⟩ | ⟨rfl, _⟩ <;>
         ·simp only [Ops.loopF] at hrun
          have hl : (lvO o).lev = o.level := rfl
          rw [hl] at hrun
          by_cases hlm : o.level < m
          ·rw [if_pos hlm] at hrun; simp at hrun; exact ⟨hrun.1.symm, hrun.2.symm⟩
          ·rcases hor with hor | hor
           ·exact absurd hor hlm
           ·rw [if_neg hlm, if_pos hor] at hrun; simp at hrun; exact ⟨hrun.1.symm, hrun.2.symm⟩
       obtain ⟨k, rfl, hstop⟩ := hrun'
       refine ⟨fun hlm => ?_, fun hlm => ?_⟩
       ·obtain ⟨rfl, rfl⟩ := hstop (.inl hlm)
        exact E.fin2 (E.mpsLe1 []) rfl rfl
       ·refine vc_drawn [] (.q 0 <| .q 2 <| .or 1 (.or 3 (.q 4 <| .done) (.nil)) (.nil)) (by kernel_rfl) ?_
        simp [go_sem]
        obtain ⟨T, u, hT, ⟨fl, hfl, cl⟩, _⟩ := partIs e
        rw [hT]
        simp [go_sem, hfl]
        refine vcallV_pure cl ?_ ?_
        ·simp [go_sem]
        ·simp [go_sem]
         refine vcallV_pure cH ?_ ?_
         ·simp [go_sem]
         ·simp [go_sem]
          rw [← hT]
          rw [lvlP_eq]
          refine ⟨fun hlh => ?_, fun hlh => ?_⟩
          ·obtain ⟨rfl, rfl⟩ := hstop (.inr hlh)
           exact E.fin2 (E.mpsLe1 []) rfl rfl
          ·have ew : IntKind.i64.wrap ((E.at_ (tk :: r) : Int) + 1) = ((E.at_ r : Nat) : Int) := by rw [hi1, hi2]; exact wrap_succ (by have := E.len; omega)
           simp [go_sem, ew]
           refine vc_drawn [9] (.q 0 <| .q 1 <| .q 2 <| .q 3 <| .q 4 <| .q 5 <| .q 6 <| .q 7 <| .q 8 <| .or 9 (.q 10 <| .done) (.nil)) (by kernel_rfl) ?_
           simp [go_sem, h13, h14, h34, Ne.symm h13, Ne.symm h14, Ne.symm h34]
           refine vlookK_use keyedString (keyString (E.txt _ hi2')) _ zeroLed ?_
           have hye := highT_yield e
           have hEl := E.len
           simp only [List.length_cons] at hlen
           rcases htk with ⟨rfl, ho2⟩ | ⟨rfl, ho3⟩
           ·have hm2 := E.maps.led2 j hj (by rw [hjo]; exact ho2)
            rw [hjo, htx] at hm2
            rw [hm2]
            simp [go_sem]
            simp only [Fit] at hfit
            have hh2 := hole_h2i hok ho2
            rw [Ops.loop, Ops.loopF, if_neg (show ¬ (lvO o).lev < m by show ¬ o.level < m; omega), if_neg (show ¬ e.level lvO < (lvO o).h1 by omega)] at hrun
            cases hq : Ops.operand lvO k (lvO o).h2 r with
            | none => rw [hq] at hrun; simp at hrun
            | some y =>
             rw [hq] at hrun
             cases y with
             | none => simp at hrun
             | some y =>
              obtain ⟨e2, r2⟩ := y
              simp only at hrun
              have hq' := Ops.operand_le lvO (show k ≤ n by omega) hq
              have hs := ((Ops.sound_all lvO n).1 _ _ _ _ hq').1
              have ht2' : ToksAre E.l E.t (E.at_ r) r := by rw [hi1, ← hi2]; exact ht2
              have ho := hO (E.at_ r) _ d r _ ht2' hfit hq'
              rw [← hh2] at ho
              have hy2 := highT_yield e2
              have hl2 := congrArg List.length hs
              rw [List.length_append] at hl2
              have ha := an_inf E o hw (E.at_ r) e e2 r2 (by omega) (by omega) ho
              refine vcall_tell [0] 62 ha (by simp) rfl (fun i _ => rnP E.lo i) ?_ ?_ ?_ ?_
              ·simp [go_sem, POp.cells, vsP]
              ·simp [go_sem, PEnv.ob, pOb]
               exact fun i c _ h => tokClosed E.t i c h
              ·exact E.mpsLe1 []
              ·rintro av mem maps ⟨⟨rfl, rfl⟩, rfl⟩
               simp only [PEnv.ob, pOb]
               simp [go_sem]
               refine ⟨.inf o e e2, r2, ⟨⟨k, by omega, hrun⟩, ?_, ⟨d, ?_⟩, ?_⟩, ?_, ?_⟩
               ·rw [hs] at ht2'; exact toksAre_rest ht2'
               ·rw [hs] at hfit; exact fit_yield _ _ _ hfit
               ·simp [Tr.yield]; omega
               ·try simp only [List.length_cons]
                omega
               ·refine ent_ks [0] (by simp) (by simp) (by simp) (by simp) (E.mpsLe _) ?_ ?_
                ·simp [go_sem]
                 exact .fam _ _ _ _ fun i _ => rnP E.lo i
                ·simp [go_sem, PEnv.ob, pOb]
                 exact fun i c _ h => tokClosed E.t i c h
           ·have hm3 := E.maps.led3 j hj (by rw [hjo]; exact ho3)
            rw [hjo, htx] at hm3
            rw [hm3]
            simp [go_sem]
            simp only [Fit] at hfit
            rw [Ops.loop, Ops.loopF, if_neg (show ¬ (lvO o).lev < m by show ¬ o.level < m; omega), if_neg (show ¬ e.level lvO < (lvO o).h1 by omega)] at hrun
            have ha := an_post E e o r (by omega)
            have ht2' : ToksAre E.l E.t (E.at_ r) r := by rw [hi1, ← hi2]; exact ht2
            refine vcall_tell [0] 62 ha (by simp) rfl (fun i _ => rnP E.lo i) ?_ ?_ ?_ ?_
            ·simp [go_sem, POp.cells, vsP]
            ·simp [go_sem, PEnv.ob, pOb]
             exact fun i c _ h => tokClosed E.t i c h
            ·exact E.mpsLe1 []
            ·rintro av mem maps ⟨⟨rfl, rfl⟩, rfl⟩
             simp only [PEnv.ob, pOb]
             simp [go_sem]
             refine ⟨.post o e, r, ⟨⟨k, by omega, hrun⟩, ht2', ⟨d, hfit⟩, ?_⟩, ?_, ?_⟩
             ·simp [Tr.yield]; omega
             ·try simp only [List.length_cons]
              omega
             ·refine ent_ks [0] (by simp) (by simp) (by simp) (by simp) (E.mpsLe _) ?_ ?_
              ·simp [go_sem]
               exact .fam _ _ _ _ fun i _ => rnP E.lo i
              ·simp [go_sem, PEnv.ob, pOb]
               exact fun i c _ h => tokClosed E.t i c h
theorem op_none1 (E : PEnv) (i : Nat) (m : Int) (hf : E.Ans 125 [.ptr 0 6 0 0] i none) : E.Ans 95 [.ptr 0 6 0 0, .lit (.int .i64 m)] i none := by
 simp only [PEnv.Ans, PEnv.ob, pOb, PEnv.mps, mapsP] at hf ⊢
 refine vdies_start Tryz.func95 (by kernel_rfl) rfl (by simp [Tryz.ntmps95]) ?_; simp only [Tryz.ntmps95, startG, startP, List.length_cons, List.length_nil, List.length_singleton]
 refine vd_snd ?_
 simp [go_sem]
 refine vd_fst ?_
 refine vd_at 1 ?_
 simp [go_sem]
 refine vdcall_tell [0] 62 hf (by simp) rfl (fun i _ => rnP E.lo i) ?_ ?_ (E.mpsLe []) (E.mpsLe [])
 ·simp [go_sem]
 ·simp [go_sem, PEnv.ob, pOb]
  exact fun i c _ h => tokClosed E.t i c h
theorem op_none2 (E : PEnv) (i : Nat) (m : Int) (e : PT) (ts : List TkP) (hf : E.Ans 125 [.ptr 0 6 0 0] i (some (e, ts))) (hm : e.level lvO < m) : E.Ans 95 [.ptr 0 6 0 0, .lit (.int .i64 m)] i none := by
 obtain ⟨T, u, hT, ⟨fl, hfl, cl⟩, _⟩ := partIs e
 simp only [PEnv.Ans, PEnv.ob, pOb, PEnv.mps, mapsP]
 refine vdies_start Tryz.func95 (by kernel_rfl) rfl (by simp [Tryz.ntmps95]) ?_; simp only [Tryz.ntmps95, startG, startP, List.length_cons, List.length_nil, List.length_singleton]
 refine vd_snd ?_
 simp [go_sem]
 refine vd_snd ?_
 simp [go_sem]
 refine vcall_tell [0] 62 hf (by simp) rfl (fun i _ => rnP E.lo i) ?_ ?_ ?_ ?_
 ·simp [go_sem]
 ·simp [go_sem, PEnv.ob, pOb]
  exact fun i c _ h => tokClosed E.t i c h
 ·exact E.mpsLe []
 ·rintro av mem maps ⟨⟨rfl, rfl⟩, rfl⟩
  simp only [PEnv.ob, pOb, PEnv.mps, mapsP]
  simp [go_sem]
  rw [hT]
  refine vd_fst ?_
  refine vd_snd ?_
  simp [go_sem, hfl]
  refine vcall_pure cl ?_ ?_
  ·simp [go_sem]
  ·rw [← lvlP_eq] at hm
   simp [go_sem, hm]
   refine vd_at 2 ?_
   simp [go_sem, noTreeV, E.n13, E.n14, E.n34]
theorem op_none3 (E : PEnv) (n : Nat) (hO : ∀ i m d ts res, ToksAre E.l E.t i ts → Fit true d ts → Ops.operand lvO n m ts = some res → E.Ans 95 [.ptr 0 6 0 0, .lit (.int .i64 m)] i res)
  (i : Nat) (m : Int) (e : PT) (ts : List TkP) (hf : E.Ans 125 [.ptr 0 6 0 0] i (some (e, ts))) (hm : m ≤ e.level lvO) (hl : AtLoop E n m none (e, ts)) : E.Ans 95 [.ptr 0 6 0 0, .lit (.int .i64 m)] i none := by
 obtain ⟨T, u, hT, ⟨fl, hfl, cl⟩, _⟩ := partIs e
 have h13 := E.n13
 have h14 := E.n14
 have h34 := E.n34
 simp only [PEnv.Ans, PEnv.ob, pOb, PEnv.mps, mapsP]
 refine vdies_start Tryz.func95 (by kernel_rfl) rfl (by simp [Tryz.ntmps95]) ?_; simp only [Tryz.ntmps95, startG, startP, List.length_cons, List.length_nil, List.length_singleton]
 refine vd_snd ?_
 simp [go_sem]
 refine vd_snd ?_
 simp [go_sem]
 refine vcall_tell [0] 62 hf (by simp) rfl (fun i _ => rnP E.lo i) ?_ ?_ ?_ ?_
 ·simp [go_sem]
 ·simp [go_sem, PEnv.ob, pOb]
  exact fun i c _ h => tokClosed E.t i c h
 ·exact E.mpsLe []
 ·rintro av mem maps ⟨⟨rfl, rfl⟩, rfl⟩
  simp only [PEnv.ob, pOb, PEnv.mps, mapsP]
  simp [go_sem]
  rw [hT]
  refine vd_snd ?_
  simp [go_sem, hfl]
  refine vcall_pure cl ?_ ?_
  ·simp [go_sem]
  ·rw [← lvlP_eq] at hm
   simp [go_sem, show ¬ lvlP e < m by omega]
   refine vd_loopE (AtLoop E n m none) (fun x => x.2.length) (atLoopS E m) ⟨(e, ts), hl, ?_⟩ (fun x hx => ?_)
   ·refine ent_ks [0] (by simp) (by simp) (by simp) (by simp) (E.mpsLe _) ?_ ?_
    ·simp [go_sem]
     exact ⟨.fam _ _ _ _ fun i _ => rnP E.lo i, hT.symm⟩
    ·simp [go_sem, PEnv.ob, pOb]
     exact fun i c _ h => tokClosed E.t i c h
   ·obtain ⟨e, ts⟩ := x
    obtain ⟨⟨k, hk, hrun⟩, htk, ⟨d, hfit⟩, hlen⟩ := hx
    have hlt : E.at_ ts < E.t.length := by unfold PEnv.at_; omega
    cases k with
    | zero => simp [Ops.loop] at hrun
    | succ k =>
     rw [Ops.loop] at hrun
     cases ts with
     | nil => simp [Ops.loopF] at hrun
     | cons tk r =>
      obtain ⟨hi, hi1, hi2⟩ := toks_at htk
      obtain ⟨ht1, ht2⟩ := htk
      have hi2' : E.at_ (tk :: r) < E.t.length := hlt
      obtain ⟨o, hk3, htx, hko, ⟨j, hj, hjo⟩, htk⟩ : ∃ o, (tokAt E.t (E.at_ (tk :: r))).kind = 3 ∧ o.text = (tokAt E.t (E.at_ (tk :: r))).text ∧ o.kind ≠ 1 ∧ (∃ j, j < E.l.length ∧ opAt E.l j = o) ∧ ((tk = .inf o ∧ o.kind = 2) ∨ (tk = .post o ∧ o.kind = 3)) := by
       cases tk with
       | cls => simp [Ops.loopF] at hrun
       | inf o => exact ⟨o, ht1.1, ht1.2.1, by have := ht1.2.2.1; omega, ht1.2.2.2, .inl ⟨rfl, ht1.2.2.1⟩⟩
       | post o => exact ⟨o, ht1.1, ht1.2.1, by have := ht1.2.2.1; omega, ht1.2.2.2, .inr ⟨rfl, ht1.2.2.1⟩⟩
       | leaf b => exact absurd hfit (by simp [Fit])
       | opn => exact absurd hfit (by simp [Fit])
       | pre o => exact absurd hfit (by simp [Fit])
      have hlm : ¬ o.level < m := fun hlm => by
       rcases htk with ⟨rfl, _⟩ | ⟨rfl, _⟩ <;>
       ·simp only [Ops.loopF] at hrun
        rw [if_pos (show (lvO o).lev < m from hlm)] at hrun
        simp at hrun
      have hlh : ¬ e.level lvO < (lvO o).h1 := fun hlh => by
       rcases htk with ⟨rfl, _⟩ | ⟨rfl, _⟩ <;>
       ·simp only [Ops.loopF] at hrun
        rw [if_neg (show ¬ (lvO o).lev < m from hlm), if_pos hlh] at hrun
        simp at hrun
      have hw : o.wf := by rw [← hjo]; exact E.maps.wf j hj
      have hok : opOk o = true := by rw [← hjo]; exact E.maps.ok j hj
      have hh1 := hole_h1 hok hko
      have cH := c_Hole o hw false
      rw [hh1] at cH
      have cb := c_behind E.l E.b1 E.b2 E.b3 E.b4 E.t (E.at_ (tk :: r)) E.maps.uniq E.esA E.maps.at_ j hj (by rw [hjo]; exact hko) (by rw [hjo]; exact hw)
      rw [hjo, htx] at cb
      have ew : IntKind.i64.wrap ((E.at_ (tk :: r) : Int) + 1) = ((E.at_ r : Nat) : Int) := by rw [hi1, hi2]; exact wrap_succ (by have := E.len; omega)
      obtain ⟨T, u, hT, ⟨fl, hfl, cl⟩, _⟩ := partIs e
      have hye := highT_yield e
      have hEl := E.len
      simp only [List.length_cons] at hlen
      have ht2' : ToksAre E.l E.t (E.at_ r) r := by rw [hi1, ← hi2]; exact ht2
      simp only [POp.cells, pOb] at cb cH
      -- the walk to the call of the closure, throwing or not
      by_cases hdie : tk = .inf o ∧ Ops.operand lvO k (lvO o).h2 r = some none
      ·refine .inl ?_
       obtain ⟨rfl, hdq⟩ := hdie
       have ho2 : o.kind = 2 := by
        rcases htk with ⟨_, h⟩ | ⟨h, _⟩
        ·exact h
        ·simp at h
       simp only [Fit] at hfit
       have hh2 := hole_h2i hok ho2
       have ho := hO (E.at_ r) _ d r _ ht2' hfit (Ops.operand_le lvO (show k ≤ n by omega) hdq)
       rw [← hh2] at ho
       have ha := an_inf_dies E o hw (E.at_ r) e ho
       have hm2 := E.maps.led2 j hj (by rw [hjo]; exact ho2)
       rw [hjo, htx] at hm2
       simp only [atLoopS, PEnv.ob, pOb, PEnv.mps, mapsP]
       simp [go_sem]
       refine vd_snd ?_
       refine vc_drawn [11] (.q 0 <| .q 1 <| .q 2 <| .q 3 <| .q 4 <| .q 5 <| .q 6 <| .q 7 <| .q 8 <| .q 9 <| .or 10 (.or 11 (.done) (.nil)) (.nil)) (by kernel_rfl) ?_
       simp [go_sem, tokCells_at, hlt, PTok.cells]
       refine vd_snd ?_
       simp [go_sem, hk3]
       refine vd_snd ?_
       simp [go_sem]
       refine vcall_share [0] cb (by simp) ?_ ?_ ?_ ?_
       ·simp [go_sem]
       ·simp [go_sem]
        exact fun i c _ h => tokClosed E.t i c h
       ·simp [go_sem]
       ·rintro av mem maps ⟨rfl, rfl, rfl⟩
        simp only [pOb]
        simp [go_sem]
        refine vd_snd ?_
        simp [go_sem, hlm]
        refine vd_snd ?_
        simp [go_sem]
        refine vc_drawn [] (.q 0 <| .q 2 <| .or 1 (.or 3 (.q 4 <| .done) (.nil)) (.nil)) (by kernel_rfl) ?_
        simp [go_sem]
        rw [hT]
        simp [go_sem, hfl]
        refine vcallV_pure cl ?_ ?_
        ·simp [go_sem]
        ·simp [go_sem]
         refine vcallV_pure cH ?_ ?_
         ·simp [go_sem]
         ·rw [← hT, lvlP_eq]
          simp [go_sem, hlh]
          refine vd_snd ?_
          simp [go_sem, ew]
          refine vd_drawn [9] (.q 0 <| .q 1 <| .q 2 <| .q 3 <| .q 4 <| .q 5 <| .q 6 <| .q 7 <| .q 8 <| .or 9 (.q 10 <| .done) (.nil)) (by kernel_rfl) ?_
          simp [go_sem, h13, h14, h34, Ne.symm h13, Ne.symm h14, Ne.symm h34]
          refine vlookK_use keyedString (keyString (E.txt _ hi2')) _ zeroLed ?_
          rw [hm2]
          simp [go_sem]
          refine vdcall_tell [0] 62 ha (by simp) rfl (fun i _ => rnP E.lo i) ?_ ?_ (E.mpsLe1 []) (E.mpsLe [])
          ·simp [go_sem, POp.cells, vsP]
          ·simp [go_sem, PEnv.ob, pOb]
           exact fun i c _ h => tokClosed E.t i c h
      ·refine .inr ?_
       simp only [atLoopS, PEnv.ob, pOb, PEnv.mps, mapsP]
       simp [go_sem]
       refine vc_drawn [11] (.q 0 <| .q 1 <| .q 2 <| .q 3 <| .q 4 <| .q 5 <| .q 6 <| .q 7 <| .q 8 <| .q 9 <| .or 10 (.or 11 (.done) (.nil)) (.nil)) (by kernel_rfl) ?_
       simp [go_sem, tokCells_at, hlt, PTok.cells]
       simp [go_sem, hk3]
       refine vcall_share [0] cb (by simp) ?_ ?_ ?_ ?_
       ·simp [go_sem]
       ·simp [go_sem]
        exact fun i c _ h => tokClosed E.t i c h
       ·simp [go_sem]
       ·rintro av mem maps ⟨rfl, rfl, rfl⟩
        simp only [pOb]
        simp [go_sem, hlm]
        refine vc_drawn [] (.q 0 <| .q 2 <| .or 1 (.or 3 (.q 4 <| .done) (.nil)) (.nil)) (by kernel_rfl) ?_
        simp [go_sem]
        rw [hT]
        simp [go_sem, hfl]
        refine vcallV_pure cl ?_ ?_
        ·simp [go_sem]
        ·simp [go_sem]
         refine vcallV_pure cH ?_ ?_
         ·simp [go_sem]
         ·rw [← hT, lvlP_eq]
          simp [go_sem, hlh]
          simp [go_sem, ew]
          refine vc_drawn [9] (.q 0 <| .q 1 <| .q 2 <| .q 3 <| .q 4 <| .q 5 <| .q 6 <| .q 7 <| .q 8 <| .or 9 (.q 10 <| .done) (.nil)) (by kernel_rfl) ?_
          simp [go_sem, h13, h14, h34, Ne.symm h13, Ne.symm h14, Ne.symm h34]
          refine vlookK_use keyedString (keyString (E.txt _ hi2')) _ zeroLed ?_
          rcases htk with ⟨rfl, ho2⟩ | ⟨rfl, ho3⟩
          ·have hm2 := E.maps.led2 j hj (by rw [hjo]; exact ho2)
           rw [hjo, htx] at hm2
           rw [hm2]
           simp [go_sem]
           simp only [Fit] at hfit
           have hh2 := hole_h2i hok ho2
           rw [Ops.loopF, if_neg (show ¬ (lvO o).lev < m by show ¬ o.level < m; omega), if_neg (show ¬ e.level lvO < (lvO o).h1 by omega)] at hrun
           cases hq : Ops.operand lvO k (lvO o).h2 r with
           | none => rw [hq] at hrun; simp at hrun
           | some y =>
            rw [hq] at hrun
            cases y with
            | none => exact absurd ⟨rfl, hq⟩ hdie
            | some y =>
             obtain ⟨e2, r2⟩ := y
             simp only at hrun
             have hq' := Ops.operand_le lvO (show k ≤ n by omega) hq
             have hs := ((Ops.sound_all lvO n).1 _ _ _ _ hq').1
             have ht2' : ToksAre E.l E.t (E.at_ r) r := by rw [hi1, ← hi2]; exact ht2
             have ho := hO (E.at_ r) _ d r _ ht2' hfit hq'
             rw [← hh2] at ho
             have hy2 := highT_yield e2
             have hl2 := congrArg List.length hs
             rw [List.length_append] at hl2
             have ha := an_inf E o hw (E.at_ r) e e2 r2 (by omega) (by omega) ho
             refine vcall_tell [0] 62 ha (by simp) rfl (fun i _ => rnP E.lo i) ?_ ?_ ?_ ?_
             ·simp [go_sem, POp.cells, vsP]
             ·simp [go_sem, PEnv.ob, pOb]
              exact fun i c _ h => tokClosed E.t i c h
             ·exact E.mpsLe1 []
             ·rintro av mem maps ⟨⟨rfl, rfl⟩, rfl⟩
              simp only [PEnv.ob, pOb]
              simp [go_sem]
              refine ⟨.inf o e e2, r2, ⟨⟨k, by omega, hrun⟩, ?_, ⟨d, ?_⟩, ?_⟩, ?_, ?_⟩
              ·rw [hs] at ht2'; exact toksAre_rest ht2'
              ·rw [hs] at hfit; exact fit_yield _ _ _ hfit
              ·simp [Tr.yield]; omega
              ·try simp only [List.length_cons]
               omega
              ·refine ent_ks [0] (by simp) (by simp) (by simp) (by simp) (E.mpsLe _) ?_ ?_
               ·simp [go_sem]
                exact .fam _ _ _ _ fun i _ => rnP E.lo i
               ·simp [go_sem, PEnv.ob, pOb]
                exact fun i c _ h => tokClosed E.t i c h
          ·have hm3 := E.maps.led3 j hj (by rw [hjo]; exact ho3)
           rw [hjo, htx] at hm3
           rw [hm3]
           simp [go_sem]
           simp only [Fit] at hfit
           rw [Ops.loopF, if_neg (show ¬ (lvO o).lev < m by show ¬ o.level < m; omega), if_neg (show ¬ e.level lvO < (lvO o).h1 by omega)] at hrun
           have ha := an_post E e o r (by omega)
           have ht2' : ToksAre E.l E.t (E.at_ r) r := by rw [hi1, ← hi2]; exact ht2
           refine vcall_tell [0] 62 ha (by simp) rfl (fun i _ => rnP E.lo i) ?_ ?_ ?_ ?_
           ·simp [go_sem, POp.cells, vsP]
           ·simp [go_sem, PEnv.ob, pOb]
            exact fun i c _ h => tokClosed E.t i c h
           ·exact E.mpsLe1 []
           ·rintro av mem maps ⟨⟨rfl, rfl⟩, rfl⟩
            simp only [PEnv.ob, pOb]
            simp [go_sem]
            refine ⟨.post o e, r, ⟨⟨k, by omega, hrun⟩, ht2', ⟨d, hfit⟩, ?_⟩, ?_, ?_⟩
            ·simp [Tr.yield]; omega
            ·try simp only [List.length_cons]
             omega
            ·refine ent_ks [0] (by simp) (by simp) (by simp) (by simp) (E.mpsLe _) ?_ ?_
             ·simp [go_sem]
              exact .fam _ _ _ _ fun i _ => rnP E.lo i
             ·simp [go_sem, PEnv.ob, pOb]
              exact fun i c _ h => tokClosed E.t i c h
theorem c_operand (E : PEnv) : ∀ (n i : Nat) (m : Int) (d : Nat) (ts : List TkP) (res : Option (PT × List TkP)), ToksAre E.l E.t i ts → Fit true d ts → Ops.operand lvO n m ts = some res → E.Ans 95 [.ptr 0 6 0 0, .lit (.int .i64 m)] i res := by
 intro n
 induction n with
 | zero => intro i m d ts res _ _ h; simp [Ops.operand] at h
 | succ n ih =>
  intro i m d ts res ht hf h
  rw [Ops.operand] at h
  cases hx : Ops.first lvO n ts with
  | none => rw [hx] at h; simp at h
  | some x =>
   rw [hx] at h
   have h1 := Ops.first_le lvO (Nat.le_succ n) hx
   rw [Ops.first] at h1
   have ha := c_first E n ih i d ts x ht hf h1
   cases x with
   | none =>
    simp at h; subst h
    exact op_none1 E i m ha
   | some y =>
    obtain ⟨e, rest⟩ := y
    simp only at h
    by_cases hlm : e.level lvO < m
    ·rw [if_pos hlm] at h
     simp at h; subst h
     exact op_none2 E i m e rest ha hlm
    ·rw [if_neg hlm] at h
     have hs := ((Ops.sound_all lvO n).2.1 _ _ _ hx).1
     have hl : AtLoop E n m res (e, rest) := by
      have hlen := toksAre_len ht
      rw [hs] at ht hf
      rw [hs, List.length_append] at hlen
      exact ⟨⟨n, Nat.le_refl _, h⟩, toksAre_rest ht, ⟨d, fit_yield _ _ _ hf⟩, by simp only; omega⟩
     cases res with
     | none => exact op_none3 E n ih i m e rest ha (by omega) hl
     | some z => exact op_some E n ih i m e rest z.1 z.2 ha (by omega) hl
end Go.Proofs.YtjdmmhcogmepaaaGreatDoor.V
namespace Go.Proofs.YtjdmmhcogmepaaaGreatDoor.V
open Go.RowKit
theorem catch_idle (p q : Addr) (w : World) : CallsD Tryz.prog 98 #[.pointer (some p), .pointer (some q)] .returning w fun e u' w' => e = .returned (.tuple #[]) ∧ u' = .returning ∧ w' = w := by
 refine callsD_of_wpS Tryz.func98 rfl fun c₀ cs hu => ?_
 apply wpS_seq
 apply wpS_region
 simp [wpOpsS, go_sem, recoverD, hu, Tryz.ntmps98, Exit.thenS]
 apply wpS_seq
 apply wpS_region
 simp [wpOpsS, go_sem, recoverD, hu, Exit.thenS]
 refine wpS_cond (t := false) (by simp [Act.eval, Array.replicate]) ?_
 simp only [Bool.false_eq_true, if_false]
 refine wpS_of_wp (wp_skip ?_)
 cases c₀
 simp_all [bodyPostS, results, Tryz.results98]
theorem assert_noTree (w : World) : (Instr.typeAssert (.iface 168 (.agg #[])) 20 168 true).run Tryz.prog w = .ok (.tuple #[.agg #[], .bool true]) w := by
 obtain ⟨d, h4, h5⟩ := ifaceT_run (P := Tryz.prog) (T := 168) (by kernel_rfl)
 unfold Instr.typeAssert
 simp only [Sem.run_bind, und_run h4, Result.andThen_ok]
 cases d <;> first | exact absurd rfl (h5 _) | simp [Sem.run_pure]
theorem catch_dead (p q : Addr) (x y : Value) (u : TypeId) (older : List PanicEntry) (w : World) (hc : w.cell? p = some x) (hz : w.frozen? p = false) (hc2 : w.cell? q = some y) (hz2 : w.frozen? q = false) (hpq : p.block ≠ q.block) :
  CallsD Tryz.prog 98 #[.pointer (some p), .pointer (some q)] (.panicking ({ v := .iface 168 (.agg #[]), recovered := false } :: older)) w fun e u' w' => e = .returned (.tuple #[]) ∧ u' = .panicking ({ v := .iface 168 (.agg #[]), recovered := true } :: older) ∧ w' = ((w.alloc (.cells #[] 168)).setCell p .nilIface).setCell q (.bool false) := by
 refine callsD_of_wpS Tryz.func98 rfl fun c₀ cs hu => ?_
 apply wpS_seq
 apply wpS_region
 simp [wpOpsS, go_sem, recoverD, hu, Tryz.ntmps98, Exit.thenS]
 apply wpS_seq
 apply wpS_region
 simp [wpOpsS, go_sem, recoverD, hu, Exit.thenS]
 refine wpS_cond (t := true) (by simp [Act.eval, Array.replicate]) ?_
 simp only [if_true]
 apply wpS_seq
 apply wpS_seq
 apply wpS_region
 simp [wpOpsS, go_sem, recoverD, hu, Exit.thenS, assert_noTree]
 apply wpS_seq
 apply wpS_region
 simp [wpOpsS, go_sem, recoverD, hu, Exit.thenS]
 refine wpS_cond (t := false) (by simp [Act.eval, Array.replicate]) ?_
 simp only [Bool.false_eq_true, if_false]
 refine wpS_of_wp (wp_skip ?_)
 simp only [Exit.thenS]
 apply wpS_region
 have h1 : (w.alloc (.cells #[] 168)).cell? p = some x := (World.cell?_alloc_lt _ _ _ (World.block_lt_of_cell? w _ hc)).trans hc
 have h2 : (w.alloc (.cells #[] 168)).frozen? p = false := (World.frozen?_alloc_old _ _ _ (by have := World.block_lt_of_cell? w _ hc; omega)).trans hz
 have h3 : ((w.alloc (.cells #[] 168)).setCell p .nilIface).cell? q = some y := by
  rw [World.cell?_setCell_other _ _ _ _ (fun e => hpq (by rw [e]))]
  exact (World.cell?_alloc_lt _ _ _ (World.block_lt_of_cell? w _ hc2)).trans hc2
 have h4 : ((w.alloc (.cells #[] 168)).setCell p .nilIface).frozen? q = false := by
  rw [World.frozen?_setCell]
  exact (World.frozen?_alloc_old _ _ _ (by have := World.block_lt_of_cell? w _ hc2; omega)).trans hz2
 simp [wpOpsS, go_sem, h1, h2, h3, h4, bodyPostS, results, Tryz.results98]
open Go.Maps (Keyed)
open Go.Proofs.YtjdmmhcogmepaaaGreatDoor.Ops (Tr Tk Lv Res Fit)
def wholeS (E : PEnv) (i : Nat) : VS := ⟨[(3, .ptr 2 1 0 0), (2, .ptr 1 1 0 0), (20, .fam (E.lo.length + 1) (vsP E.bp E.bo) (asP E.lo)), (0, .ptr 0 6 0 0)], [E.ob i, some ⟨92, 1, 1, fun _ => [.lit .nilIface]⟩, some ⟨4, 1, 1, fun _ => [.lit (.bool false)]⟩], E.mps, 1⟩
def PEnv.Rw (E : PEnv) (u : Value) (b : Bool) (j : Nat) (av : AV) (mem : List (Option Ob)) (maps : List (Nat × Mp)) : Prop := (av = .tup [.lit u, .lit (.bool b)] ∧ mem = [E.ob j]) ∧ MapsLe maps E.mps
theorem PEnv.finw (E : PEnv) {u v : Value} {b c : Bool} {i j : Nat} {M : List (Nat × Mp)} (hM : MapsLe M E.mps) {r : List (Option Ob)} {tm : List (Nat × AV)} (hv : v = u) (hb : c = b) (hij : i = j) : vendP E.mps (E.Rw u b j) ⟨tm, E.ob i :: r, M, 1⟩ (.tup [.lit v, .lit (.bool c)]) := by
 subst hv; subst hij; subst hb
 refine ⟨rfl, [], [E.ob i], by simp, by simp, by simp [go_sem], ?_, fun b hb => ?_, ⟨⟨rfl, rfl⟩, hM⟩⟩
 ·simp only [PEnv.ob, pOb]
  simp [go_sem]
  exact pOut
 ·cases hq : lkm E.mps b with
  | none => rw [hq] at hb; simp at hb
  | some mp => rw [mapsLe_get hM (b, mp) (lkm_mem hq)]; rfl
theorem c_whole_some (E : PEnv) (i : Nat) (e : PT) (rest : List TkP) (hi : E.at_ rest < E.t.length) (ho : E.Ans 95 [.ptr 0 6 0 0, .lit (.int .i64 0)] i (some (e, rest))) :
  VProcG Tryz.prog 52 [.ptr 0 6 0 0] (E.lo.length + 1) (vsP E.bp E.bo) (asP E.lo) [E.ob i] E.mps (E.Rw (partP e) (decide ((tokAt E.t (E.at_ rest)).kind = 7)) (E.at_ rest)) := by
 refine ⟨⟨_, Tryz.func52, by kernel_rfl, rfl⟩, fun w vs hd0 hlen hrep hfam hm hmp htl => ?_⟩
 have hrel := (startP_rel (P := Tryz.prog) (fn := Tryz.f52) (by simp [Tryz.ntmps52]) hlen hrep hm hmp htl).tell 20 hfam
 suffices hX : ∀ (X : Value → World → Prop), (∀ v w', (Bel (Sh w hd0 [E.ob i] E.mps) w w' ∧ ∃ hd av mem maps, E.Rw (partP e) (decide ((tokAt E.t (E.at_ rest)).kind = 7)) (E.at_ rest) av mem maps ∧ PostOk [E.ob i] E.mps av mem maps ∧ ((∀ k, k < [E.ob i].length → hd k = hd0 k) ∧ TailEq hd0 hd) ∧ MemRel (Sh w hd0 [E.ob i] E.mps) w' hd mem ∧ MapRel Tryz.prog (Sh w hd0 [E.ob i] E.mps) w' maps ∧ Rep w' (okOf mem hd) hd mem.length av v) → X v w') → Calls Tryz.prog 52 vs.toArray w (fun e w' => ∃ v, e = .returned v ∧ X v w') from hX _ fun v w' h => h
 intro X hX
 refine calls_of_wp_defers Tryz.func52 rfl ?_
 refine wp_seq (vc_sound rfl _ hrel (K := fun e s => e = .normal ∧ s = wholeS E i) ?_ fun x hd' s' a' w' h' hk => ?_)
 ·simp only [Tryz.ntmps52, PEnv.ob, pOb, PEnv.mps, mapsP, startP]
  simp [go_sem]
  rfl
 ·obtain ⟨rfl, rfl⟩ := hk
  simp only [VX.out, Exit.then]
  refine wp_seq (wp_region_list ?_)
  have hmf : ∀ (fn : Fn) (first cap : Array Value) (w : World), (Instr.makeFunc fn first cap).run Tryz.prog w = .ok (.func fn first cap) w := fun _ _ _ _ => rfl
  have hsz : a'.tmps.size = 20 := h'.size
  have hds : a'.defers = [] := h'.defers
  obtain ⟨b2, n2, c2, hb2, hp2⟩ := rep_ptr (h'.tm 2)
  obtain ⟨b3, n3, c3, hb3, hp3⟩ := rep_ptr (h'.tm 3)
  simp [hsz] at hp2 hp3
  simp [wpList, Region.wanted, Oper.wp, Oper.upon, go_sem, hmf, hsz, hds, hp2, hp3, Exit.then]
  refine .inl (.inl ?_)
  have h2 : RelH 20 ⟨Tryz.prog, Sh w hd0 [E.ob i] E.mps, hd0, [⟨.fn (.func 98) #[.pointer (some ⟨b2, 0, none⟩), .pointer (some ⟨b3, 0, none⟩)], #[]⟩]⟩ w hd' (wholeS E i) ⟨a'.tmps.setIfInBounds 4 (.func (.func 98) #[] #[.pointer (some ⟨b2, 0, none⟩), .pointer (some ⟨b3, 0, none⟩)]), [⟨.fn (.func 98) #[.pointer (some ⟨b2, 0, none⟩), .pointer (some ⟨b3, 0, none⟩)], #[]⟩]⟩ w' := by
   refine ⟨rfl, by simp [hsz], h'.below, h'.le, h'.fixl, h'.fix, h'.mp, fun t => ?_, h'.me⟩
   by_cases ht : t = 4
   ·subst ht
    exact .undef _
   ·have := h'.tm t
    rwa [show (a'.tmps.setIfInBounds 4 (.func (.func 98) #[] #[.pointer (some ⟨b2, 0, none⟩), .pointer (some ⟨b3, 0, none⟩)])).getD t undef = a'.tmps.getD t undef by
     simp only [Array.getD_eq_getD_getElem?]; rw [Array.getElem?_setIfInBounds_ne (by omega)]]
  refine vc_sound rfl _ h2 (K := KfinP Tryz.prog 1 E.mps Tryz.f52.results.toList (E.Rw (partP e) (decide ((tokAt E.t (E.at_ rest)).kind = 7)) (E.at_ rest))) ?_ fun x hd3 s3 a3 w3 h3 hk => ?_
  ·simp only [wholeS, PEnv.ob, pOb, PEnv.mps, mapsP]
   simp [go_sem]
   refine vcall_tell [0] 20 ho (by simp) rfl (fun i _ => rnP E.lo i) ?_ ?_ ?_ ?_
   ·simp [go_sem]
   ·simp [go_sem, PEnv.ob, pOb]
    exact fun i c _ h => tokClosed E.t i c h
   ·exact E.mpsLe []
   ·rintro av mem maps ⟨⟨rfl, rfl⟩, rfl⟩
    simp only [PEnv.ob, pOb, PEnv.mps, mapsP]
    obtain ⟨T, u, hT⟩ := partP_iface e
    rw [hT]
    simp [go_sem]
    refine vc_drawn [13,14] (.q 0 <| .q 1 <| .q 2 <| .q 3 <| .q 5 <| .q 6 <| .q 7 <| .or 4 (.or 8 (.or 9 (.q 10 <| .or 11 (.or 12 (.or 13 (.or 14 (.done) (.nil)) (.nil)) (.or 13 (.q 12 <| .or 14 (.done) (.nil)) (.nil))) (.or 13 (.q 11 <| .q 12 <| .or 14 (.done) (.nil)) (.nil))) (.or 13 (.q 9 <| .q 10 <| .q 11 <| .q 12 <| .or 14 (.done) (.nil)) (.nil))) (.or 13 (.q 8 <| .q 9 <| .q 10 <| .q 11 <| .q 12 <| .or 14 (.done) (.nil)) (.nil))) (.or 8 (.or 4 (.or 9 (.q 10 <| .or 11 (.or 12 (.or 13 (.or 14 (.done) (.nil)) (.nil)) (.or 13 (.q 12 <| .or 14 (.done) (.nil)) (.nil))) (.or 13 (.q 11 <| .q 12 <| .or 14 (.done) (.nil)) (.nil))) (.or 13 (.q 9 <| .q 10 <| .q 11 <| .q 12 <| .or 14 (.done) (.nil)) (.nil))) (.or 13 (.q 4 <| .q 9 <| .q 10 <| .q 11 <| .q 12 <| .or 14 (.done) (.nil)) (.nil))) (.or 13 (.q 4 <| .q 8 <| .q 9 <| .q 10 <| .q 11 <| .q 12 <| .or 14 (.done) (.nil)) (.nil)))) (by kernel_rfl) ?_
    simp [go_sem, tokCells_at, hi, PTok.cells]
    repeat' first
    |exact E.finw (E.mpsLe _) rfl (int_beq _ _) rfl
    |refine And.intro (E.finw (E.mpsLe _) rfl (int_beq _ _) rfl) ?_
  ·have fin : ∀ (R' : Ending → World → Prop) v, (results Tryz.f52 a3.tmps).run Tryz.prog w3 = .ok v w3 → R' (.returned v) w3 → Leaves Tryz.prog Tryz.f52 a3.tmps R' a3.defers .returning w3 := fun R' v h1 h4 => by
    rw [show a3.defers = _ from h3.defers]
    refine leaves_cons (f := 98) (args := #[.pointer (some ⟨b2, 0, none⟩), .pointer (some ⟨b3, 0, none⟩)]) (by simp) (by simp [go_sem]) ?_
    refine (catch_idle _ _ _).mono ?_
    rintro e u' w'' ⟨rfl, rfl, rfl⟩
    exact ⟨v, h1, h4⟩
   cases x with
   | exit id => exact hk.elim
   | normal =>
    obtain ⟨v, h1, h4⟩ := vretP_sound h3 hk.1 hk.2
    exact fin _ v h1 ⟨v, rfl, hX _ _ h4⟩
   | ret =>
    obtain ⟨v, h1, h4⟩ := vretP_sound h3 hk.1 hk.2
    exact fin _ v h1 ⟨v, rfl, hX _ _ h4⟩
end Go.Proofs.YtjdmmhcogmepaaaGreatDoor.V
namespace Go.Proofs.YtjdmmhcogmepaaaGreatDoor.V
open Go.RowKit
open Go.Maps (Keyed)
open Go.Proofs.YtjdmmhcogmepaaaGreatDoor.Ops (Tr Tk Lv Res Fit)
section
variable {P : Program} {n : Nat} {base : Fr} {w0 w : World} {hd : Nat → Value} {s : VS} {a : Act}
theorem own_one (h : RelH n base w0 hd s a w) {k ty : Nat} {f : Nat → List AV} (hk : s.mem[k]? = some (some ⟨ty, 1, 1, f⟩)) (ht : ty < tagged) : ∃ g cap cur, hd k = .slice (some ⟨g, 0, none⟩) 1 cap ∧ w.heap[g]? = some (.cells cur ty (0, 0)) ∧ 0 < cur.size := by
 obtain ⟨_, vals, ho, hr⟩ := h.me.obs k _ hk
 rcases (ho.row ht).2 with ⟨_, h0⟩ | ⟨g, cap, cur, e, _, hg, h1, _, h2, _⟩
 ·simp at h0
 ·exact ⟨g, cap, cur, e, hg, by have h1' : 1 ≤ cap := h1; have h2' : cur.size = cap * 1 := h2; omega⟩
theorem cells_cell {g : Nat} {cur : Array Value} {t : TypeId} (hg : w.heap[g]? = some (.cells cur t (0, 0))) (hp : 0 < cur.size) : ∃ x, w.cell? ⟨g, 0, none⟩ = some x ∧ w.frozen? ⟨g, 0, none⟩ = false := by
 refine ⟨cur[0], ?_, ?_⟩
 ·simp [World.cell?, hg, hp]
 ·simp [World.frozen?, hg]
theorem dcall_sound (h : RelH n base w0 hd s a w) (hP : base.P = P) {o : Oper} {f : FuncId} {xs : List Operand} (hcall : callD P s o.op = some (f, xs)) {pv : Value} {ks : List Nat} {args' : List AV} {mem0 : List (Option Ob)} {maps0 : List (Nat × Mp)} {t N : Nat} {vs0 : Nat → Value} {as0 as1 : Nat → AV}
  (hnd : ks.Nodup) (hargs : CellsRn (fun j => ks.getD j 0) ks.length (xs.map (ev s)) args') (hgt : lk s.tmps t = .fam N vs0 as0) (hg : ∀ i, i < N → Rn (fun j => ks.getD j 0) ks.length (as0 i) (as1 i)) (hsh : ShMem (fun j => ks.getD j 0) ks.length s.mem ks mem0) (hmaps : MapsLe s.maps maps0) (hd1 : VDies P f pv args' N vs0 as1 mem0 maps0)
  {K : Act → World → Prop} {Q : Exit → Act → World → Prop} (hQ : ∀ w', Bel (Sh w (hdF hd ks s.mem false) mem0 maps0) w w' → MapRel P (Sh w (hdF hd ks s.mem false) mem0 maps0) w' maps0 → Q (.panic [{ v := pv, recovered := false }]) a w') : o.wp P a w K Q := by
 have hrun : (execOp a.eval o).run P w = .ok (.enter f (xs.map a.eval).toArray) w := (call_run h hcall).trans (run_call_of hd1.1 _ w)
 obtain ⟨hlen, _, hrep, hfam, hm0, hmp0, htl0⟩ := callG_pre h hP hnd hargs hgt hg hsh (mapsLe_get hmaps)
 have hcalls := hd1.2 w (xs.map a.eval) (hdF hd ks s.mem false) hlen hrep hfam hm0 hmp0 htl0
 unfold Oper.wp
 rw [hrun]
 simp only [Oper.upon]
 refine hcalls.mono ?_
 rintro e w' ⟨rfl, hb, hm⟩
 exact hQ w' hb hm
end
theorem setCell_bel {may : Nat → Prop} {w w' : World} (h : Bel may w w') {a : Addr} (ha : may a.block) (v : Value) : Bel may w (w'.setCell a v) := by
 refine ⟨h.os, h.tape, h.output, by simpa [World.setCell] using h.size, fun k hk hk2 => ?_⟩
 rw [Below.heap_setCell _ _ _ k (fun e => hk2 (by rw [e]; exact ha))]
 exact h.block k hk hk2
theorem alloc_bel {may : Nat → Prop} {w w' : World} (h : Bel may w w') (o : Obj) : Bel may w (w'.alloc o) := by
 refine ⟨h.os, h.tape, h.output, by rw [World.size_alloc]; have := h.size; omega, fun k hk hk2 => ?_⟩
 have hlt : k < w'.heap.size := Nat.lt_of_lt_of_le hk h.size
 rw [Below.heap_alloc _ _ _ hlt]
 exact h.block k hk hk2
set_option maxRecDepth 20000 in
theorem c_whole_none (E : PEnv) (i : Nat) (ho : E.Ans 95 [.ptr 0 6 0 0, .lit (.int .i64 0)] i none) :
  VProcG Tryz.prog 52 [.ptr 0 6 0 0] (E.lo.length + 1) (vsP E.bp E.bo) (asP E.lo) [E.ob i] E.mps (fun av mem maps => (av = .tup [.lit .nilIface, .lit (.bool false)] ∧ mem = [none]) ∧ maps = E.mps) := by
 refine ⟨⟨_, Tryz.func52, by kernel_rfl, rfl⟩, fun w vs hd0 hlen hrep hfam hm hmp htl => ?_⟩
 have hrel := (startP_rel (P := Tryz.prog) (fn := Tryz.f52) (by simp [Tryz.ntmps52]) hlen hrep hm hmp htl).tell 20 hfam
 suffices hX : ∀ (X : Value → World → Prop), (∀ v w', (Bel (Sh w hd0 [E.ob i] E.mps) w w' ∧ MapRel Tryz.prog (Sh w hd0 [E.ob i] E.mps) w' E.mps ∧ v = .tuple #[.nilIface, .bool false]) → X v w') → Calls Tryz.prog 52 vs.toArray w (fun e w' => ∃ v, e = .returned v ∧ X v w') from hX _ fun v w' ⟨h1, h2, h3⟩ => by
  subst h3
  refine ⟨h1, hd0, _, [none], E.mps, ⟨⟨rfl, rfl⟩, rfl⟩, ⟨Nat.le_refl _, rfl, fun k ob hk => ?_, fun b hb => hb⟩, ⟨fun _ _ => rfl, TailEq.refl _⟩, ⟨fun k ob hk => ?_, fun k ob hk => ?_, fun k hk => hm.hds k hk, fun k k' ob ob' hk => ?_⟩, h2, .tup _ [.nilIface, .bool false] rfl fun j a q g1 g2 => ?_⟩
  ·cases k <;> simp at hk
  ·cases k <;> simp at hk
  ·cases k <;> simp at hk
  ·cases k <;> simp at hk
  ·rcases j with _ | _ | j
   ·simp at g1 g2; subst g1; subst g2; exact .lit _
   ·simp at g1 g2; subst g1; subst g2; exact .lit _
   ·simp at g1
 intro X hX
 refine calls_of_wp_defers Tryz.func52 rfl ?_
 refine wp_seq (vc_sound rfl _ hrel (K := fun e s => e = .normal ∧ s = wholeS E i) ?_ fun x hd' s' a' w' h' hk => ?_)
 ·simp only [Tryz.ntmps52, PEnv.ob, pOb, PEnv.mps, mapsP, startP]
  simp [go_sem]
  rfl
 ·obtain ⟨rfl, rfl⟩ := hk
  simp only [VX.out, Exit.then]
  refine wp_seq (wp_region_list ?_)
  have hmf : ∀ (fn : Fn) (first cap : Array Value) (w : World), (Instr.makeFunc fn first cap).run Tryz.prog w = .ok (.func fn first cap) w := fun _ _ _ _ => rfl
  have hsz : a'.tmps.size = 20 := h'.size
  have hds : a'.defers = [] := h'.defers
  obtain ⟨b2, n2, c2, hb2, hp2⟩ := rep_ptr (h'.tm 2)
  obtain ⟨b3, n3, c3, hb3, hp3⟩ := rep_ptr (h'.tm 3)
  simp [hsz] at hp2 hp3
  simp [wpList, Region.wanted, Oper.wp, Oper.upon, go_sem, hmf, hsz, hds, hp2, hp3, Exit.then]
  refine .inl (.inl ?_)
  have h2 : RelH 20 ⟨Tryz.prog, Sh w hd0 [E.ob i] E.mps, hd0, [⟨.fn (.func 98) #[.pointer (some ⟨b2, 0, none⟩), .pointer (some ⟨b3, 0, none⟩)], #[]⟩]⟩ w hd' (wholeS E i) ⟨a'.tmps.setIfInBounds 4 (.func (.func 98) #[] #[.pointer (some ⟨b2, 0, none⟩), .pointer (some ⟨b3, 0, none⟩)]), [⟨.fn (.func 98) #[.pointer (some ⟨b2, 0, none⟩), .pointer (some ⟨b3, 0, none⟩)], #[]⟩]⟩ w' := by
   refine ⟨rfl, by simp [hsz], h'.below, h'.le, h'.fixl, h'.fix, h'.mp, fun t => ?_, h'.me⟩
   by_cases ht : t = 4
   ·subst ht
    exact .undef _
   ·have := h'.tm t
    rwa [show (a'.tmps.setIfInBounds 4 (.func (.func 98) #[] #[.pointer (some ⟨b2, 0, none⟩), .pointer (some ⟨b3, 0, none⟩)])).getD t undef = a'.tmps.getD t undef by
     simp only [Array.getD_eq_getD_getElem?]; rw [Array.getElem?_setIfInBounds_ne (by omega)]]
  refine wp_seq (wp_region_list ?_)
  unfold wpList
  rw [if_pos (by simp [Region.wanted])]
  refine .inl ?_
  have hmove : ∀ (o : Oper) (a : Act) (w : World) {K : Act → World → Prop} {Q : Exit → Act → World → Prop}, o.op = .move (.tmp 0) → K (a.put o.dst (a.eval (.tmp 0))) w → o.wp Tryz.prog a w K Q := fun o a w K Q ho hK => by
   unfold Oper.wp
   rw [show (execOp a.eval o).run Tryz.prog w = .ok (.value (a.eval (.tmp 0))) w by unfold execOp; simp only [ho]; rfl]
   exact hK
  refine hmove _ _ _ rfl ?_
  have h3 := h2.put (t := 5) (by omega) (h2.ev_ (.tmp 0))
  generalize hw3 : w' = w3 at h3 ⊢
  generalize ha3 : Act.put _ (some 5) _ = a3 at h3 ⊢
  unfold wpList
  rw [if_pos (by simp [Region.wanted])]
  refine .inl ?_
  have ho' : VDies Tryz.prog 95 noTreeV [.ptr 0 6 0 0, .lit (.int .i64 0)] (E.lo.length + 1) (vsP E.bp E.bo) (asP E.lo) [E.ob i] E.mps := ho
  refine dcall_sound (s := { wholeS E i with tmps := (5, .ptr 0 6 0 0) :: (wholeS E i).tmps }) (f := 95) (xs := [.tmp 5, .const (.int .i64 0)]) (ks := [0]) (t := 20) h3 rfl ?_ (by simp) ?_ (N := E.lo.length + 1) (vs0 := vsP E.bp E.bo) (as0 := asP E.lo) (as1 := asP E.lo) ?_ (fun i _ => rnP E.lo i) ?_ ?_ ho' fun w4 hb4 hm4 => ?_
  ·simp [callD, callOf]
  ·simp [go_sem]
  ·rfl
  ·simp [go_sem, wholeS, PEnv.ob, pOb]
   exact fun i c _ h => tokClosed E.t i c h
  ·exact E.mpsLe []
  ·simp only [Exit.then, bodyPostD]
   have hmay : ∀ b, Sh w3 (hdF hd' [0] (wholeS E i).mem false) [E.ob i] E.mps b → Sh w hd0 [E.ob i] E.mps b := by
    rintro b (h1 | ⟨j, ob', h1, h2⟩ | h1)
    ·exact h3.le _ (Nat.le_trans h3.below.size h1)
    ·cases j with
     | zero =>
      rw [hdF_lt (by simp)] at h2
      exact h3.me.alw 0 _ rfl b h2
     | succ j => simp at h1
    ·exact .inr (.inr h1)
   obtain ⟨g2, cap2, cur2, e2, hg2, hq2⟩ := own_one h3 (k := 1) rfl (by decide)
   obtain ⟨g3, cap3, cur3, e3, hg3, hq3⟩ := own_one h3 (k := 2) rfl (by decide)
   have ev2 : g2 = b2 := by rw [hb2] at e2; simp at e2; exact e2.1.symm
   have ev3 : g3 = b3 := by rw [hb3] at e3; simp at e3; exact e3.1.symm
   subst ev2; subst ev3
   have o2 : (hd' 1).ownBlock = some g2 := by rw [e2]; rfl
   have o3 : (hd' 2).ownBlock = some g3 := by rw [e3]; rfl
   have m2 := h3.me.alw 1 _ rfl g2 o2
   have m3 := h3.me.alw 2 _ rfl g3 o3
   have h23 : g2 ≠ g3 := fun e => by
    rcases h3.me.apart 1 2 _ _ rfl rfl (by omega) with h | h
    ·rw [o2] at h; simp at h
    ·exact h (by rw [o2, o3, e])
   have notSh : ∀ (k : Nat) (ob : Ob) (g : Nat), k ≠ 0 → (wholeS E i).mem[k]? = some (some ob) → (hd' k).ownBlock = some g → g < w3.heap.size → ¬ Sh w3 (hdF hd' [0] (wholeS E i).mem false) [E.ob i] E.mps g := by
    intro k ob g hk hm hg hlt
    rintro (h1 | ⟨j, ob', h1, h2⟩ | h1)
    ·omega
    ·cases j with
     | zero =>
      rw [hdF_lt (by simp)] at h2
      rcases h3.me.apart k 0 ob _ hm rfl hk with h | h
      ·rw [hg] at h; simp at h
      ·exact h (by rw [hg]; exact h2.symm)
     | succ j => simp at h1
    ·cases hq : lkm E.mps g with
     | none => rw [hq] at h1; simp at h1
     | some mp => exact (cells_not_map h3 (b := g) (mp := mp) hq).2 k ob hm hg
   have l2 : g2 < w3.heap.size := (Array.getElem?_eq_some_iff.1 hg2).1
   have l3 : g3 < w3.heap.size := (Array.getElem?_eq_some_iff.1 hg3).1
   have k2 : w4.heap[g2]? = some (.cells cur2 92 (0, 0)) := (hb4.block g2 l2 (notSh 1 _ g2 (by omega) rfl o2 l2)).trans hg2
   have k3 : w4.heap[g3]? = some (.cells cur3 4 (0, 0)) := (hb4.block g3 l3 (notSh 2 _ g3 (by omega) rfl o3 l3)).trans hg3
   obtain ⟨x, hx, hfx⟩ := cells_cell k2 hq2
   obtain ⟨y, hy, hfy⟩ := cells_cell k3 hq3
   have hbel : Bel (Sh w hd0 [E.ob i] E.mps) w w4 := ⟨hb4.os.trans h3.below.os, hb4.tape.trans h3.below.tape, hb4.output.trans h3.below.output, Nat.le_trans h3.below.size hb4.size, fun k hk hk2 => (hb4.block k (Nat.lt_of_lt_of_le hk h3.below.size) (fun e => hk2 (hmay k e))).trans (h3.below.block k hk hk2)⟩
   obtain ⟨b2', _, _, hb2', ht2⟩ := rep_ptr (h3.tm 2)
   obtain ⟨b3', _, _, hb3', ht3⟩ := rep_ptr (h3.tm 3)
   have ev2 : b2' = g2 := by rw [hb2'] at e2; simp at e2; exact e2.1
   have ev3 : b3' = g3 := by rw [hb3'] at e3; simp at e3; exact e3.1
   subst ev2; subst ev3
   have hs3 : a3.tmps.size = 20 := h3.size
   rw [show a3.defers = _ from h3.defers]
   refine leaves_cons (f := 98) (args := #[.pointer (some ⟨b2', 0, none⟩), .pointer (some ⟨b3', 0, none⟩)]) (by simp) (by simp [go_sem]) ?_
   refine (catch_dead ⟨b2', 0, none⟩ ⟨b3', 0, none⟩ x y 0 [] w4 hx hfx hy hfy h23).mono ?_
   rintro e u' w'' ⟨rfl, rfl, rfl⟩
   have c2 : (((w4.alloc (.cells #[] 168)).setCell ⟨b2', 0, none⟩ .nilIface).setCell ⟨b3', 0, none⟩ (.bool false)).cell? ⟨b2', 0, none⟩ = some .nilIface := by
    rw [World.cell?_setCell_other _ _ _ _ (fun e => h23 (by simpa using e.symm))]
    exact World.cell?_setCell_same _ _ _ ((World.cell?_alloc_lt _ _ _ (World.block_lt_of_cell? w4 _ hx)).trans hx)
   have c3 : (((w4.alloc (.cells #[] 168)).setCell ⟨b2', 0, none⟩ .nilIface).setCell ⟨b3', 0, none⟩ (.bool false)).cell? ⟨b3', 0, none⟩ = some (.bool false) := by
    refine World.cell?_setCell_same (u := y) _ _ _ ?_
    rw [World.cell?_setCell_other _ _ _ _ (fun e => h23 (by simp at e))]
    exact (World.cell?_alloc_lt _ _ _ (World.block_lt_of_cell? w4 _ hy)).trans hy
   refine ⟨.tuple #[.nilIface, .bool false], ?_, _, rfl, hX _ _ ⟨setCell_bel (setCell_bel (alloc_bel hbel _) m2 _) m3 _, fun b mp hb => ?_, rfl⟩⟩
   ·generalize ((w4.alloc (.cells #[] 168)).setCell ⟨b2', 0, none⟩ .nilIface).setCell ⟨b3', 0, none⟩ (.bool false) = W at c2 c3
    simp [hs3] at ht2 ht3
    simp [results, Tryz.results52, go_sem, hs3, ht2, ht3, c2, c3]
   ·obtain ⟨hb1, es, clock, hh, hmi⟩ := hm4 b mp hb
    refine ⟨hmay b hb1, es, clock, ?_, hmi⟩
    have hlt : b < w4.heap.size := (Array.getElem?_eq_some_iff.1 hh).1
    rw [Below.heap_setCell _ _ _ _ (fun e => by rw [e, k3] at hh; simp at hh), Below.heap_setCell _ _ _ _ (fun e => by rw [e, k2] at hh; simp at hh), Below.heap_alloc _ _ _ hlt]
    exact hh
end Go.Proofs.YtjdmmhcogmepaaaGreatDoor.V
