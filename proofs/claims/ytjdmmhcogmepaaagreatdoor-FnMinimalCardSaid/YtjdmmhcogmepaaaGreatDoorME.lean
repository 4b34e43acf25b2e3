import Derived.Test.YtjdmmhcogmepaaaGreatDoorMD
import Derived.Test.YtjdmmhcogmepaaaGreatDoorMC
import Derived.Test.YtjdmmhcogmepaaaGreatDoorMB
import Derived.Recover
set_option linter.unusedVariables false
set_option linter.unusedSimpArgs false
set_option linter.constructorNameAsVariable false
namespace Go.Proofs.YtjdmmhcogmepaaaGreatDoor.V
open Go.RowKit
def spcW (W : List PWord) : Nat → ByteArray
 | 0 => ByteArray.empty
 | i + 1 => (if 0 < i then spcW W i ++ ⟨#[32]⟩ else spcW W i) ++ (wdAt W i).text
theorem spcW_size {W : List PWord} {B : Nat} (hB : ∀ i, (wdAt W i).text.size ≤ B) : ∀ i, (spcW W i).size ≤ i * (B + 1)
 | 0 => by simp [spcW]
 | i + 1 => by
  have h1 := spcW_size hB i
  have h2 := hB i
  have e : (i + 1) * (B + 1) = i * (B + 1) + (B + 1) := by rw [Nat.add_mul]; omega
  have e1 : (⟨#[32]⟩ : ByteArray).size = 1 := rfl
  simp only [spcW]
  split <;> simp only [ByteArray.size_append] <;> omega
set_option maxRecDepth 100000 in
theorem c_YieldText {l : List POp} (e : ET) (hT : InTab l e) (h1 : (lay e []).length ≤ 30000) (hz : ∀ i, (wdAt (yieldW e) i).text.size ≤ 30000) : VFun Tryz.prog 17 [.agg [.sl 4 (lay e []).length (nodCells (lay e []))]] (fun av obs => obs = [] ∧ av = .lit (.string (spcW (yieldW e) (yieldW e).length))) := by
 have hp := sizeE_pos e
 have hO := lay_len e []
 simp only [List.length_nil, Nat.zero_add] at hO
 have cy := c_l4Yield (l := l) (lay e []) (by omega) e hT [] (fun _ _ => rfl) (Nat.le_refl _) [] (by simp; omega)
 rw [hO] at cy
 rw [hO]
 have clg : ∀ (i : Nat) (c : AV), i < sizeE e → c ∈ nodCells (lay e []) i → Closed c := fun i c _ h => nodClosed _ i c h
 have ew : IntKind.i64.wrap ((sizeE e : Int) - 1) = ((sizeE e - 1 : Nat) : Int) := by rw [wrap_i64 (by omega)]; omega
 have hyl := yieldW_len e
 simp only [List.nil_append] at cy
 generalize yieldW e = W at *
 refine vfun_start Tryz.func17 (by kernel_rfl) rfl (by simp [Tryz.ntmps17]) ?_; simp only [Tryz.ntmps17, Tryz.results17]; simp [go_sem]
 simp [go_sem, ew]
 refine ⟨by omega, ?_⟩
 refine vcall_share [1] cy (by simp) ?_ ?_ trivial ?_
 ·simp [go_sem]
  exact clg
 ·simp [go_sem, ysRow]
 ·rintro av mem maps ⟨rfl, rfl, rfl⟩
  simp [go_sem, ysRow]
  have hsz := spcW_size hz
  refine vc_loopE (fun i : Nat => i ≤ W.length) (fun i => W.length - i) (fun i => .of [(3, .own 0), (4, .own 1), (5, .lit (.int .i64 i))] [ysRow W, some ⟨5, 1, (spcW W i).size, byteCells (spcW W i)⟩]) ⟨0, by omega, ?_⟩ (fun i hi => ?_)
  ·refine ent_ks [2, 3] (by simp) (by simp) (by simp) (by simp) (by simp [go_sem]) ?_ ?_
   ·simp [go_sem]
   ·simp [go_sem, ysRow, spcW]
    exact .inr sh0Y
  ·have hb2 : (spcW W i).size ≤ 41943080000 := Nat.le_trans (hsz i) (by have := Nat.mul_le_mul_right 30001 (show i ≤ 60000 by omega); omega)
   have ht1 := hz i
   have htb : ∀ j, j < (wdAt W i).text.size → (byteCells (wdAt W i).text j).all oneAV = true := fun j _ => byteOne _ j
   by_cases hlt : i < W.length
   ·by_cases hi0 : i = 0
    ·subst hi0
     have hW1 : spcW W 1 = spcW W 0 ++ (wdAt W 0).text := by simp [spcW]
     have hsz1 : (spcW W 1).size = (spcW W 0).size + (wdAt W 0).text.size := by rw [hW1, ByteArray.size_append]
     simp [go_sem, ysRow, ysCells_at, hlt, -List.all_eq_true, byteOne]
     refine ⟨by omega, by omega, by omega, by omega, 1, by omega, by omega, ?_⟩
     refine ent_ks [0, 3] (by simp) (by simp) (by simp) (by simp) (by simp [go_sem]) ?_ ?_
     ·simp [go_sem]
      rfl
     ·simp [go_sem]
      exact ⟨.inr sh0Y, .inr ⟨hsz1.symm, sh1B rfl hW1 rfl⟩⟩
    ·have hpos : 0 < i := by omega
     have hW1 : spcW W (i + 1) = (spcW W i ++ ⟨#[32]⟩) ++ (wdAt W i).text := by simp only [spcW]; rw [if_pos hpos]
     have hsz1 : (spcW W (i + 1)).size = (spcW W i).size + 1 + (wdAt W i).text.size := by rw [hW1, ByteArray.size_append, ByteArray.size_append]; rfl
     simp [go_sem, ysRow, ysCells_at, hlt, hpos, -List.all_eq_true, byteOne]
     refine ⟨by omega, by omega, by omega, by omega, by omega, by omega, i + 1, by omega, by omega, ?_⟩
     refine ent_ks [0, 5] (by simp) (by simp) (by simp) (by simp) (by simp [go_sem]) ?_ ?_
     ·simp [go_sem]
      exact wrap_succ (by omega)
     ·simp [go_sem]
      exact ⟨.inr sh0Y, .inr ⟨hsz1.symm, sh2B rfl rfl rfl hW1 rfl⟩⟩
   ·have e : i = W.length := by omega
    subst e
    simp [go_sem, ysRow, ysCells_at]
    omega
set_option maxRecDepth 100000 in
theorem c_lwSameTree (a b : List PNode) (ha : a.length ≤ 9223372036854775807) (hb : b.length ≤ 9223372036854775807) : VFun Tryz.prog 20 [.agg [.sl 4 a.length (nodCells a)], .agg [.sl 4 b.length (nodCells b)]] (fun av obs => obs = [] ∧ av = .lit (.bool (nodsEq a b))) := by
 have cla : ∀ (i : Nat) (c : AV), i < a.length → c ∈ nodCells a i → Closed c := fun i c _ h => nodClosed a i c h
 have clb : ∀ (i : Nat) (c : AV), i < b.length → c ∈ nodCells b i → Closed c := fun i c _ h => nodClosed b i c h
 refine vfun_start Tryz.func20 (by kernel_rfl) rfl (by simp [Tryz.ntmps20]) ?_; simp only [Tryz.ntmps20, Tryz.results20]; simp [go_sem]
 refine ⟨by omega, by omega, fun h => by simp [nodsEq]; omega, fun h => ?_⟩
 refine vc_loop (fun i : Nat => i ≤ a.length ∧ ∀ j, j < i → nodEq (nodAt a j) (nodAt b j) = true) (fun i => a.length - i) (fun i => .of [(2, .ptr 0 1 0 0), (3, .ptr 1 1 0 0), (5, .lit (.int .i64 i))] [some ⟨37, 1, 1, fun _ => [.sl 4 a.length (nodCells a)]⟩, some ⟨37, 1, 1, fun _ => [.sl 4 b.length (nodCells b)]⟩]) ⟨0, ⟨by omega, by simp⟩, ?_⟩ (fun i hi => ?_)
 ·simp [go_sem]
  exact ⟨cla, clb⟩
 ·by_cases hlt : i < a.length
  ·simp [go_sem, hlt]
   refine ⟨by omega, vc_drawn [] (.q 0 <| .q 1 <| .q 2 <| .q 3 <| .q 4 <| .q 5 <| .q 6 <| .q 7 <| .q 8 <| .q 9 <| .q 10 <| .done) (by kernel_rfl) ?_⟩
   simp [go_sem, nodCells_at, hlt]
   refine ⟨by omega, .bool (!nodEq (nodAt a i) (nodAt b i)), fun w => ?_, ?_⟩
   ·simp only [nodEq, ba_toList]
    by_cases h1 : (nodAt a i).kind = (nodAt b i).kind <;> by_cases h2 : (nodAt a i).text = (nodAt b i).text <;> by_cases h3 : (nodAt a i).a = (nodAt b i).a <;> by_cases h4 : (nodAt a i).b = (nodAt b i).b <;> simp [h1, h2, h3, h4, ba_beq]
   ·cases hq : nodEq (nodAt a i) (nodAt b i) with
    | false =>
     simp [go_sem]
     exact nodsEq_false hlt hq
    | true =>
     simp [go_sem]
     refine ⟨i + 1, ⟨by omega, fun j hj => ?_⟩, by omega, wrap_succ (by omega), cla, clb⟩
     rcases Nat.lt_succ_iff_lt_or_eq.mp hj with hj | rfl
     ·exact hi.2 j hj
     ·exact hq
  ·simp [go_sem, hlt]
   exact ⟨by omega, nodsEq_true (by omega) fun j hj => hi.2 j (by omega)⟩
open Go.Proofs.YtjdmmhcogmepaaaGreatDoor.Ops (Tr Tk Lv Res Fit OF)
def TksOk (l : List POp) : PT → Prop
 | .leaf b => TkOk l (.leaf b)
 | .grp e => TksOk l e
 | .pre o e => TkOk l (.pre o) ∧ TksOk l e
 | .post o e => TkOk l (.post o) ∧ TksOk l e
 | .inf o x y => TkOk l (.inf o) ∧ TksOk l x ∧ TksOk l y
theorem tksOk_all {l : List POp} : ∀ {e : PT}, TksOk l e → ∀ tk, tk ∈ e.yield → TkOk l tk
 | .leaf b, h, tk, hm => by simp only [Tr.yield, List.mem_singleton] at hm; subst hm; exact h
 | .grp e, h, tk, hm => by
  simp only [Tr.yield, List.mem_cons, List.mem_append, List.mem_nil_iff, or_false] at hm
  rcases hm with rfl | hm | rfl
  ·trivial
  ·exact tksOk_all (e := e) h tk hm
  ·trivial
 | .pre o e, h, tk, hm => by
  simp only [Tr.yield, List.mem_cons] at hm
  rcases hm with rfl | hm
  ·exact h.1
  ·exact tksOk_all h.2 tk hm
 | .post o e, h, tk, hm => by
  simp only [Tr.yield, List.mem_append, List.mem_singleton] at hm
  rcases hm with hm | rfl
  ·exact tksOk_all h.2 tk hm
  ·exact h.1
 | .inf o x y, h, tk, hm => by
  simp only [Tr.yield, List.mem_cons, List.mem_append] at hm
  rcases hm with hm | rfl | hm
  ·exact tksOk_all h.2.1 tk hm
  ·exact h.1
  ·exact tksOk_all h.2.2 tk hm
theorem inL_of {l : List POp} {o : POp} {k : Int} (h1 : opHas l o.text k = true) (h2 : opOf l o.text k = o) : InL l o := by
 obtain ⟨i, hi, e, _⟩ := opHas_has h1
 exact ⟨i, hi, by rw [← e, h2]⟩
theorem inTab_facts {l : List POp} : ∀ {e : PT}, InTab l e → LeavesOk e ∧ KindsOk e ∧ ((∀ j, j < l.length → opOk (opAt l j) = true) → e.All lvO (InL l))
 | .leaf b, h => ⟨h, trivial, fun _ => trivial⟩
 | .grp e, h => inTab_facts (e := e) h
 | .pre o e, h => by
  obtain ⟨g1, g2, g3⟩ := inTab_facts h.2.2.2
  exact ⟨g1, ⟨h.1, g2⟩, fun hok => ⟨inL_of h.2.1 h.2.2.1, by simp [lvO, sortN, h.1], g3 hok⟩⟩
 | .post o e, h => by
  obtain ⟨g1, g2, g3⟩ := inTab_facts h.2.2.2
  exact ⟨g1, ⟨h.1, g2⟩, fun hok => ⟨inL_of h.2.1 h.2.2.1, by simp [lvO, sortN, h.1], g3 hok⟩⟩
 | .inf o x y, h => by
  obtain ⟨g1, g2, g3⟩ := inTab_facts h.2.2.2.1
  obtain ⟨q1, q2, q3⟩ := inTab_facts h.2.2.2.2
  exact ⟨⟨g1, q1⟩, ⟨h.1, g2, q2⟩, fun hok => ⟨inL_of h.2.1 h.2.2.1, g3 hok, q3 hok⟩⟩
theorem inTab_of {l : List POp} (hu : Uniq l) : ∀ {e : PT}, LeavesOk e → KindsOk e → e.All lvO (InL l) → InTab l e
 | .leaf b, h1, _, _ => h1
 | .grp e, h1, h2, h3 => inTab_of hu (e := e) h1 h2 h3
 | .pre o e, h1, h2, h3 => by
  obtain ⟨p1, p2⟩ := op_unique hu (z := o.text) rfl h3.1
  rw [h2.1] at p1 p2
  exact ⟨h2.1, p1, p2, inTab_of hu h1 h2.2 h3.2.2⟩
 | .post o e, h1, h2, h3 => by
  obtain ⟨p1, p2⟩ := op_unique hu (z := o.text) rfl h3.1
  rw [h2.1] at p1 p2
  exact ⟨h2.1, p1, p2, inTab_of hu h1 h2.2 h3.2.2⟩
 | .inf o x y, h1, h2, h3 => by
  obtain ⟨p1, p2⟩ := op_unique hu (z := o.text) rfl h3.1
  rw [h2.1] at p1 p2
  exact ⟨h2.1, p1, p2, inTab_of hu h1.1 h2.2.1 h3.2.1, inTab_of hu h1.2 h2.2.2 h3.2.2⟩
theorem lay_inj {l : List POp} {e e' : PT} (h : InTab l e) (h' : InTab l e') (hl : lay e [] = lay e' []) : e = e' := by
 have h1 := (lay_tree (l := l) (t := lay e []) e [] h (fun _ _ => rfl)).2
 have h2 := (lay_tree (l := l) (t := lay e' []) e' [] h' (fun _ _ => rfl)).2
 rw [← hl] at h2
 rw [h1] at h2
 exact h2
theorem nodsEq_eq {a b : List PNode} (h : nodsEq a b = true) : a = b := by
 simp only [nodsEq, Bool.and_eq_true, decide_eq_true_eq, List.all_eq_true, List.mem_range] at h
 obtain ⟨h1, h2⟩ := h
 apply List.ext_getElem h1
 intro i hi hi'
 have := h2 i hi
 simp only [nodEq, Bool.and_eq_true, ba_beq, decide_eq_true_eq, beq_iff_eq] at this
 have ea : nodAt a i = a[i] := by unfold nodAt; rw [List.getD_eq_getElem?_getD, List.getElem?_eq_getElem hi]; rfl
 have eb : nodAt b i = b[i] := by unfold nodAt; rw [List.getD_eq_getElem?_getD, List.getElem?_eq_getElem hi']; rfl
 rw [ea, eb] at this
 obtain ⟨⟨⟨q1, q2⟩, q3⟩, q4⟩ := this
 cases hx : a[i]; cases hy : b[i]
 simp only [hx, hy] at q1 q2 q3 q4
 subst q1; subst q2; subst q3; subst q4; rfl
theorem tks_of {l : List POp} : ∀ (e : PT) (out : List PNode), InTab l e → (∀ n, n ∈ lay e out → txtOk n = true) → TksOk l e
 | .leaf b, out, h, ht => by
  have := ht ⟨b.2, b.1, 0, 0⟩ (by simp [lay])
  simp only [txtOk, Bool.and_eq_true] at this
  have h2 := this.2
  rcases h with h | h
  ·rw [if_pos h] at h2; exact .inl ⟨h, h2⟩
  ·rw [if_neg (by omega), if_pos h] at h2; exact .inr ⟨h, h2⟩
 | .grp e, out, h, ht => tks_of e out h fun n hn => ht n (by simp [lay, hn])
 | .pre o e, out, h, ht => ⟨⟨h.1, inL_of h.2.1 h.2.2.1⟩, tks_of e out h.2.2.2 fun n hn => ht n (by simp [lay, hn])⟩
 | .post o e, out, h, ht => ⟨⟨h.1, inL_of h.2.1 h.2.2.1⟩, tks_of e out h.2.2.2 fun n hn => ht n (by simp [lay, hn])⟩
 | .inf o x y, out, h, ht => by
  have hy : ∀ n, n ∈ lay y (lay x out) → txtOk n = true := fun n hn => ht n (by simp [lay, hn])
  exact ⟨⟨h.1, inL_of h.2.1 h.2.2.1⟩, tks_of x out h.2.2.2.1 fun n hn => hy n (lay_mem y _ n hn), tks_of y _ h.2.2.2.2 hy⟩
theorem fitsN_congr {l : List POp} {T U : List PNode} {i : Nat} (h : nodAt T i = nodAt U i) (ha : kidsN (nodAt U i).kind ≠ 0 → nodAt T (nodAt U i).a.toNat = nodAt U (nodAt U i).a.toNat) (hb : kidsN (nodAt U i).kind = 2 → nodAt T (nodAt U i).b.toNat = nodAt U (nodAt U i).b.toNat) : fitsN l T i = fitsN l U i := by
 unfold fitsN
 rw [h]
 by_cases ho : isOpN (nodAt U i) = true
 ·have ho' := ho
  simp only [isOpN, decide_eq_true_eq] at ho'
  have hk : kidsN (nodAt U i).kind ≠ 0 := by
   unfold kidsN
   split
   ·omega
   ·rw [if_pos (by omega)]; omega
  rw [ha hk]
  by_cases h2 : kidsN (nodAt U i).kind = 2
  ·rw [hb h2]
  ·have h1 : kidsN (nodAt U i).kind = 1 := by rcases kids_012 (nodAt U i).kind with e | e | e <;> omega
   simp [h1]
 ·simp [ho]
theorem fits_adm {l : List POp} (hu : Uniq l) (hok : ∀ j, j < l.length → opOk (opAt l j) = true) : ∀ (e : PT) (out T : List PNode), InTab l e → (∀ j, j < (lay e out).length → nodAt T j = nodAt (lay e out) j) → ((∀ i, out.length ≤ i → i < (lay e out).length → fitsN l T i = true) ↔ e.Adm lvO) := by
 have okL : ∀ {o}, InL l o → opOk o = true := fun ⟨j, hj, e⟩ => e ▸ hok j hj
 have drop : ∀ {A : List PNode} {n : PNode} {T : List PNode}, (∀ j, j < (A ++ [n]).length → nodAt T j = nodAt (A ++ [n]) j) → ∀ j, j < A.length → nodAt T j = nodAt A j := fun {A n T} h j hj => by
  rw [h j (by simp; omega), nodAt_old hj]
 have last : ∀ {A : List PNode} {n : PNode} {T : List PNode}, (∀ j, j < (A ++ [n]).length → nodAt T j = nodAt (A ++ [n]) j) → (kidsN n.kind ≠ 0 → 0 ≤ n.a ∧ n.a < A.length) → (kidsN n.kind = 2 → 0 ≤ n.b ∧ n.b < A.length) → fitsN l T A.length = fitsN l (A ++ [n]) A.length := fun {A n T} h ha hb => by
  have hn : nodAt (A ++ [n]) A.length = n := nodAt_new
  refine fitsN_congr (h _ (by simp)) (fun hk => ?_) (fun hk => ?_)
  ·rw [hn] at hk ⊢
   have := ha hk
   exact h _ (by simp; omega)
  ·rw [hn] at hk ⊢
   have := hb hk
   exact h _ (by simp; omega)
 have split_ : ∀ {A out : List PNode} {n : PNode} {T : List PNode}, out.length ≤ A.length → ((∀ i, out.length ≤ i → i < (A ++ [n]).length → fitsN l T i = true) ↔ (∀ i, out.length ≤ i → i < A.length → fitsN l T i = true) ∧ fitsN l T A.length = true) := fun {A out n T} ho => by
  simp only [List.length_append, List.length_singleton]
  refine ⟨fun h => ⟨fun i h1 h2 => h i h1 (by omega), h _ ho (by omega)⟩, fun h i h1 h2 => ?_⟩
  by_cases e : i < A.length
  ·exact h.1 i h1 e
  ·obtain rfl : i = A.length := by omega
   exact h.2
 intro e
 induction e with
 | leaf b =>
  intro out T h hT
  simp only [lay] at hT ⊢
  refine ⟨fun _ => trivial, fun _ i h1 h2 => ?_⟩
  simp only [List.length_append, List.length_singleton] at h2
  obtain rfl : i = out.length := by omega
  have hn := hT out.length (by simp)
  rw [nodAt_new] at hn
  have h' : b.1 = 1 ∨ b.1 = 2 := h
  simp only [fitsN, hn, isOpN]
  have : decide (3 ≤ b.1 ∧ b.1 ≤ 5) = false := by simp; omega
  simp [this]
 | grp e ih =>
  intro out T h hT
  have hg := lay_grows e out
  simp only [lay] at hT ⊢
  rw [split_ (by omega), ih out T h (drop hT)]
  have hn := hT (lay e out).length (by simp)
  rw [nodAt_new] at hn
  have : fitsN l T (lay e out).length = true := by simp [fitsN, hn, isOpN]
  simp only [this, and_true, Tr.Adm]
 | pre o e ih =>
  intro out T h hT
  have hg := lay_grows e out
  obtain ⟨f1, f2, f3⟩ := inTab_facts h.2.2.2
  have hj := inL_of h.2.1 h.2.2.1
  have hk3 : kidsN (o.kind + 2) = 1 := by rw [h.1]; rfl
  simp only [lay] at hT ⊢
  rw [split_ (by omega), ih out T h.2.2.2 (drop hT), last hT (fun _ => by simp only; omega) (fun hk => by simp only at hk; omega)]
  have := fits_pre hu hj (okL hj) h.1 e out f1 (f3 hok) f2
  rw [h.1] at *
  rw [show (1 : Int) + 2 = 3 from rfl, this, decide_eq_true_eq]
  simp only [Tr.Adm]
  exact And.comm
 | post o e ih =>
  intro out T h hT
  have hg := lay_grows e out
  obtain ⟨f1, f2, f3⟩ := inTab_facts h.2.2.2
  have hj := inL_of h.2.1 h.2.2.1
  have hk3 : kidsN (o.kind + 2) = 1 := by rw [h.1]; rfl
  simp only [lay] at hT ⊢
  rw [split_ (by omega), ih out T h.2.2.2 (drop hT), last hT (fun _ => by simp only; omega) (fun hk => by simp only at hk; omega)]
  have := fits_post hu hj (okL hj) h.1 e out f1 (f3 hok) f2
  rw [h.1] at *
  rw [show (3 : Int) + 2 = 5 from rfl, this, decide_eq_true_eq]
  simp only [Tr.Adm]
  exact And.comm
 | inf o x y ihx ihy =>
  intro out T h hT
  have hg := lay_grows x out
  have hg2 := lay_grows y (lay x out)
  obtain ⟨f1, f2, f3⟩ := inTab_facts h.2.2.2.1
  obtain ⟨q1, q2, q3⟩ := inTab_facts h.2.2.2.2
  have hj := inL_of h.2.1 h.2.2.1
  have hk3 : kidsN (o.kind + 2) = 2 := by rw [h.1]; rfl
  simp only [lay] at hT ⊢
  have hTy := drop hT
  have hTx : ∀ j, j < (lay x out).length → nodAt T j = nodAt (lay x out) j := fun j hj => by rw [hTy j (by omega), lay_old y _ j hj]
  have two : (∀ i, out.length ≤ i → i < (lay y (lay x out)).length → fitsN l T i = true) ↔ x.Adm lvO ∧ y.Adm lvO := by
   rw [← ihx out T h.2.2.2.1 hTx, ← ihy (lay x out) T h.2.2.2.2 hTy]
   refine ⟨fun h => ⟨fun i h1 h2 => h i h1 (by omega), fun i h1 h2 => h i (by omega) h2⟩, fun ⟨ha, hb⟩ i h1 h2 => ?_⟩
   by_cases e : i < (lay x out).length
   ·exact ha i h1 e
   ·exact hb i (by omega) h2
  rw [split_ (by omega), two, last hT (fun _ => by simp only; omega) (fun _ => by simp only; omega)]
  have := fits_inf hu hj (okL hj) h.1 x y out f1 (f3 hok) f2 q1 (q3 hok) q2
  rw [h.1] at *
  rw [show (2 : Int) + 2 = 4 from rfl, this, decide_eq_true_eq]
  simp only [Tr.Adm]
  exact ⟨fun h => ⟨h.2.1, h.2.2, h.1.1, h.1.2⟩, fun h => ⟨⟨h.2.2.1, h.2.2.2⟩, h.1, h.2.1⟩⟩
theorem yield_words : ∀ e : PT, (yieldW e).map (·.text) = e.yield.map tkW
 | .leaf b => rfl
 | .grp e => by simp [yieldW, Tr.yield, yield_words e, tkW, lpar, rpar]
 | .pre o e => by simp [yieldW, Tr.yield, yield_words e, tkW, opWord]
 | .post o e => by simp [yieldW, Tr.yield, yield_words e, tkW, opWord]
 | .inf o x y => by simp [yieldW, Tr.yield, yield_words x, yield_words y, tkW, opWord]
theorem yieldW_at (e : PT) {i : Nat} {tk : TkP} (h : e.yield[i]? = some tk) : (wdAt (yieldW e) i).text = tkW tk := by
 have h1 := congrArg (fun l => l[i]?) (yield_words e)
 simp only [List.getElem?_map, h, Option.map_some] at h1
 unfold wdAt
 rw [List.getD_eq_getElem?_getD]
 cases hw : (yieldW e)[i]? with
 | none => rw [hw] at h1; simp at h1
 | some w => rw [hw] at h1; simpa using h1
theorem yieldW_length (e : PT) : (yieldW e).length = e.yield.length := by
 have := congrArg List.length (yield_words e)
 simpa using this
theorem joinW_snoc : ∀ (r : List (ByteArray × ByteArray)) (x : ByteArray × ByteArray) (g : ByteArray), joinW (r ++ [x]) g = joinW r ByteArray.empty ++ x.1 ++ x.2 ++ g
 | [], x, g => by simp [joinW]
 | y :: r, x, g => by
  simp only [List.cons_append, joinW, joinW_snoc r x g, ByteArray.append_assoc]
theorem joinW_nil_snoc (r : List (ByteArray × ByteArray)) (x : ByteArray × ByteArray) : joinW (r ++ [x]) ByteArray.empty = joinW r ByteArray.empty ++ x.1 ++ x.2 := by
 rw [joinW_snoc, ByteArray.append_empty]
def gapPs (gp : Nat → ByteArray) : Nat → List TkP → List (ByteArray × TkP)
 | _, [] => []
 | i, tk :: r => (gp i, tk) :: gapPs gp (i + 1) r
theorem gapPs_snd (gp : Nat → ByteArray) : ∀ (i : Nat) (ts : List TkP), (gapPs gp i ts).map (·.2) = ts
 | _, [] => rfl
 | i, tk :: r => by simp [gapPs, gapPs_snd gp (i + 1) r]
theorem gapPs_snoc (gp : Nat → ByteArray) : ∀ (i : Nat) (ts : List TkP) (tk : TkP), gapPs gp i (ts ++ [tk]) = gapPs gp i ts ++ [(gp (i + ts.length), tk)]
 | i, [], tk => by simp [gapPs]
 | i, x :: r, tk => by
  simp only [List.cons_append, gapPs, gapPs_snoc gp (i + 1) r tk, List.length_cons]
  rw [show i + 1 + r.length = i + (r.length + 1) by omega]
def txtPs (ps : List (ByteArray × TkP)) : List (ByteArray × ByteArray) := ps.map fun x => (x.1, tkW x.2)
def MeetOk (a b : TkP) : Prop := Apart (tkW a) (byteAt (tkW b) 0)
theorem join_gaps {l : List POp} (hok : ∀ j, j < l.length → opOk (opAt l j) = true) {gp : Nat → ByteArray} (hb : ∀ i, Blanks (gp i)) {g : ByteArray} (hg : Blanks g) : ∀ (ts : List TkP) (i : Nat), (∀ tk, tk ∈ ts → TkOk l tk) → (∀ k a b, ts[k]? = some a → ts[k + 1]? = some b → 0 < (gp (i + k + 1)).size ∨ MeetOk a b) → JoinOk l (txtPs (gapPs gp i ts)) g
 | [], i, _, _ => hg
 | tk :: r, i, hk, hm => by
  have ht := (tk_is hok (hk tk (by simp)) ByteArray.empty).2
  refine ⟨hb i, ht, ?_, join_gaps hok hb hg r (i + 1) (fun t h => hk t (by simp [h])) (fun k a b h1 h2 => by
   have := hm (k + 1) a b (by simpa using h1) (by simpa using h2)
   rwa [show i + (k + 1) + 1 = i + 1 + k + 1 by omega] at this)⟩
  cases r with
  | nil => trivial
  | cons y s => exact hm 0 tk y rfl rfl
theorem blanks_of {g : ByteArray} (h : g = ⟨#[]⟩ ∨ g = ⟨#[32]⟩ ∨ g = ⟨#[10, 9]⟩ ∨ g = ⟨#[32, 32]⟩) : Blanks g := by
 intro i hi
 rcases h with rfl | rfl | rfl | rfl
 ·have : (⟨#[]⟩ : ByteArray).size = 0 := rfl
  omega
 ·obtain rfl : i = 0 := by have : (⟨#[32]⟩ : ByteArray).size = 1 := rfl; omega
  decide
 ·have : (⟨#[10, 9]⟩ : ByteArray).size = 2 := rfl
  rcases (by omega : i = 0 ∨ i = 1) with rfl | rfl <;> decide
 ·have : (⟨#[32, 32]⟩ : ByteArray).size = 2 := rfl
  rcases (by omega : i = 0 ∨ i = 1) with rfl | rfl <;> decide
def gapOne (i : Nat) : ByteArray := if i = 0 then ⟨#[]⟩ else ⟨#[32]⟩
theorem spcW_join (e : PT) : ∀ i, i ≤ e.yield.length → spcW (yieldW e) i = joinW (txtPs (gapPs gapOne 0 (e.yield.take i))) ByteArray.empty
 | 0, _ => by simp [spcW, gapPs, txtPs, joinW]
 | i + 1, h => by
  have hi : i < e.yield.length := by omega
  rw [List.take_add_one, List.getElem?_eq_getElem hi]
  simp only [Option.toList_some]
  rw [gapPs_snoc]
  simp only [txtPs, List.map_append, List.map_cons, List.map_nil]
  rw [joinW_nil_snoc, spcW, spcW_join e i (by omega), yieldW_at e (List.getElem?_eq_getElem hi)]
  simp only [List.length_take, Nat.zero_add, txtPs]
  rw [Nat.min_eq_left (by omega)]
  unfold gapOne
  by_cases h0 : i = 0
  ·rw [if_neg (by omega), if_pos h0]
   rw [show (⟨#[]⟩ : ByteArray) = ByteArray.empty from rfl, ByteArray.append_empty]
  ·rw [if_pos (by omega), if_neg h0]
structure WfTree (l : List POp) (T : List PNode) (e : PT) : Prop where
 tbl : tblOk l = 0
 lay : T = lay e []
 inT : InTab l e
 tks : TksOk l e
 len : 1 ≤ T.length ∧ T.length ≤ 20000
theorem wf_tree {l : List POp} {T : List PNode} (h : wellF l T = true) : WfTree l T (rootE l T) := by
 obtain ⟨g1, g2, g3, g4, _⟩ := bare_facts h
 refine ⟨(wellF_ord h).2, g4, g3, tks_of _ [] g3 fun n hn => ?_, g1, g2⟩
 rw [← g4] at hn
 obtain ⟨i, hi, rfl⟩ := List.getElem_of_mem hn
 have := (nodesOk_of h).txt i hi
 unfold nodAt at this
 rwa [List.getD_eq_getElem?_getD, List.getElem?_eq_getElem hi] at this
theorem WfTree.adm {l : List POp} {T : List PNode} {e : PT} (h : WfTree l T e) : ((List.range T.length).all (fun i => fitsN l T i) = true) ↔ e.Adm lvO := by
 rw [← fits_adm (uniq_of_ok h.tbl) (ok_of_ok h.tbl) e [] T h.inT (fun j _ => by rw [← h.lay]), List.all_eq_true]
 rw [← h.lay]
 simp
theorem WfTree.spaced {l : List POp} {T : List PNode} {e : PT} (h : WfTree l T e) (hz : (spcW (yieldW e) (yieldW e).length).size ≤ 20000) : Reads l e (spcW (yieldW e) (yieldW e).length) := by
 have e1 := spcW_join e e.yield.length (Nat.le_refl _)
 rw [List.take_length] at e1
 rw [yieldW_length] at hz ⊢
 rw [e1] at hz ⊢
 refine reads_join h.tbl (gapPs_snd _ _ _) (tksOk_all h.tks) ?_ hz
 refine join_gaps (ok_of_ok h.tbl) (fun i => ?_) (blanks_of (.inl rfl)) _ 0 (tksOk_all h.tks) fun k a b _ _ => .inl ?_
 ·unfold gapOne; split
  ·exact blanks_of (.inl rfl)
  ·exact blanks_of (.inr (.inl rfl))
 ·unfold gapOne; rw [if_neg (by omega)]; decide
theorem treeOk_cases (l : List POp) (T : List PNode) : treeOk l T = 1 ∨ treeOk l T = 2 ∨ (wellF l T = true ∧ ((treeOk l T = 0 ∧ (rootE l T).Adm lvO) ∨ (treeOk l T = 3 ∧ ¬ (rootE l T).Adm lvO))) := by
 by_cases h0 : tblOk l = 0
 ·cases hw : wellF l T with
  | false => exact .inr (.inl (by simp [treeOk, h0, hw]))
  | true =>
   have ha := (wf_tree hw).adm
   refine .inr (.inr ⟨rfl, ?_⟩)
   cases hf : (List.range T.length).all (fun i => fitsN l T i) with
   | true => exact .inl ⟨by unfold treeOk; rw [if_neg (by omega), if_neg (by rw [hw]; simp), if_pos hf], ha.1 hf⟩
   | false => exact .inr ⟨by unfold treeOk; rw [if_neg (by omega), if_neg (by rw [hw]; simp), if_neg (by rw [hf]; simp)], fun h => by rw [ha.2 h] at hf; cases hf⟩
 ·exact .inl (by simp [treeOk, h0])
def Bare : PT → Prop
 | .leaf _ => True
 | .grp _ => False
 | .pre _ e => Bare e
 | .post _ e => Bare e
 | .inf _ x y => Bare x ∧ Bare y
theorem bare_bare : ∀ e : PT, Bare (bare e)
 | .leaf _ => trivial
 | .grp e => bare_bare e
 | .pre _ e => bare_bare e
 | .post _ e => bare_bare e
 | .inf _ x y => ⟨bare_bare x, bare_bare y⟩
theorem bare_grpd : ∀ {e : PT}, Bare e → ∀ m, bare (grpd e m) = e
 | .leaf b, _, m => by simp only [grpd]; split <;> rfl
 | .pre o e, h, m => by
  have := bare_grpd (e := e) h (hole o false)
  simp only [grpd]; split <;> simp [bare, this]
 | .post o e, h, m => by
  have := bare_grpd (e := e) h (hole o false)
  simp only [grpd]; split <;> simp [bare, this]
 | .inf o x y, h, m => by
  have h1 := bare_grpd h.1 (hole o false)
  have h2 := bare_grpd h.2 (hole o true)
  simp only [grpd]; split <;> simp [bare, h1, h2]
theorem tks_bare {l : List POp} : ∀ {e : PT}, TksOk l e → TksOk l (bare e)
 | .leaf _, h => h
 | .grp e, h => tks_bare (e := e) h
 | .pre _ e, h => ⟨h.1, tks_bare h.2⟩
 | .post _ e, h => ⟨h.1, tks_bare h.2⟩
 | .inf _ x y, h => ⟨h.1, tks_bare h.2.1, tks_bare h.2.2⟩
theorem tks_grpd {l : List POp} : ∀ {e : PT} (m : Int), TksOk l e → TksOk l (grpd e m)
 | .leaf _, m, h => by simp only [grpd]; split <;> exact h
 | .grp e, m, h => by have := tks_grpd (e := e) 0 h; simp only [grpd]; split <;> exact this
 | .pre o e, m, h => by have := tks_grpd (hole o false) h.2; simp only [grpd]; split <;> exact ⟨h.1, this⟩
 | .post o e, m, h => by have := tks_grpd (hole o false) h.2; simp only [grpd]; split <;> exact ⟨h.1, this⟩
 | .inf o x y, m, h => by
  have h1 := tks_grpd (hole o false) h.2.1
  have h2 := tks_grpd (hole o true) h.2.2
  simp only [grpd]; split <;> exact ⟨h.1, h1, h2⟩
theorem high_grpd : ∀ {e : PT}, Bare e → ∀ m, m ≤ 1001 → (∀ o b, hole o b ≤ 1001) → highT (grpd e m) ≤ 2 * highT e
 | .leaf b, _, m, hm, _ => by simp only [grpd]; rw [if_neg (by omega)]; simp [highT]
 | .pre o e, h, m, hm, hh => by
  have := high_grpd (e := e) h (hole o false) (hh _ _) hh
  simp only [grpd]; split <;> simp only [highT] <;> omega
 | .post o e, h, m, hm, hh => by
  have := high_grpd (e := e) h (hole o false) (hh _ _) hh
  simp only [grpd]; split <;> simp only [highT] <;> omega
 | .inf o x y, h, m, hm, hh => by
  have h1 := high_grpd h.1 (hole o false) (hh _ _) hh
  have h2 := high_grpd h.2 (hole o true) (hh _ _) hh
  simp only [grpd]; split <;> simp only [highT] <;> omega
theorem hole_le (o : POp) (b : Bool) : hole o b ≤ 1001 := by
 unfold hole
 by_cases h : opOk o = true
 ·have : o.level ≤ 1000 := by simp [opOk] at h; omega
  split
  ·omega
  ·repeat' split
   all_goals omega
 ·simp [h]
theorem grpd_adm {l : List POp} (hok : ∀ j, j < l.length → opOk (opAt l j) = true) : ∀ {e : PT}, Bare e → InTab l e → ∀ m, m ≤ 1001 → m ≤ (grpd e m).level lvO ∧ (grpd e m).Adm lvO
 | .leaf b, _, _, m, hm => by simp only [grpd]; rw [if_neg (by omega)]; exact ⟨hm, trivial⟩
 | .pre o e, h, ht, m, hm => by
  obtain ⟨j, hj, ej⟩ := inL_of ht.2.1 ht.2.2.1
  have ho : opOk o = true := ej ▸ hok j hj
  have e1 := hole_h2p ho ht.1
  have := grpd_adm hok (e := e) h ht.2.2.2 (hole o false) (hole_le _ _)
  rw [e1] at this
  simp only [grpd]
  rw [e1]
  split
  ·exact ⟨hm, this⟩
  ·exact ⟨by simp only [Tr.level, lvO]; omega, this⟩
 | .post o e, h, ht, m, hm => by
  obtain ⟨j, hj, ej⟩ := inL_of ht.2.1 ht.2.2.1
  have ho : opOk o = true := ej ▸ hok j hj
  have e1 := hole_h1 ho (by have := ht.1; omega)
  have := grpd_adm hok (e := e) h ht.2.2.2 (hole o false) (hole_le _ _)
  rw [e1] at this
  simp only [grpd]
  rw [e1]
  split
  ·exact ⟨hm, this⟩
  ·exact ⟨by simp only [Tr.level, lvO]; omega, this⟩
 | .inf o x y, h, ht, m, hm => by
  obtain ⟨j, hj, ej⟩ := inL_of ht.2.1 ht.2.2.1
  have ho : opOk o = true := ej ▸ hok j hj
  have e1 := hole_h1 ho (by have := ht.1; omega)
  have e2 := hole_h2i ho ht.1
  have h1 := grpd_adm hok h.1 ht.2.2.2.1 (hole o false) (hole_le _ _)
  have h2 := grpd_adm hok h.2 ht.2.2.2.2 (hole o true) (hole_le _ _)
  rw [e1] at h1
  rw [e2] at h2
  simp only [grpd]
  rw [e1, e2]
  split
  ·exact ⟨hm, h1.1, h2.1, h1.2, h2.2⟩
  ·exact ⟨by simp only [Tr.level, lvO]; omega, h1.1, h2.1, h1.2, h2.2⟩
theorem group_facts {l : List POp} {T : List PNode} (h : groupOk l T = true) : tblOk l = 0 ∧ InTab l (groupE l T) ∧ TksOk l (groupE l T) ∧ (groupE l T).Adm lvO ∧ sizeE (groupE l T) ≤ 20000 ∧ bare (groupE l T) = bare (rootE l T) ∧ highT (groupE l T) ≤ 2 * highT (bare (rootE l T)) := by
 simp only [groupOk, Bool.and_eq_true, decide_eq_true_eq] at h
 have W := wf_tree h.1
 have hb := bare_bare (rootE l T)
 have hi := InTab_bare W.inT
 exact ⟨W.tbl, InTab_grpd 0 hi, tks_grpd 0 (tks_bare W.tks), (grpd_adm (ok_of_ok W.tbl) hb hi 0 (by omega)).2, h.2, bare_grpd hb 0, high_grpd hb 0 (by omega) hole_le⟩
theorem lay_wf {l : List POp} {e : PT} (h0 : tblOk l = 0) (hi : InTab l e) (ht : TksOk l e) (hx : ETx 20000 e) (hs : sizeE e ≤ 20000) : wellF l (lay e []) = true := by
 have hl := lay_len e []
 have hp := sizeE_pos e
 simp only [List.length_nil, Nat.zero_add] at hl
 have htx := lay_txN e [] hx (nodTx_nil _)
 have key : ∀ n, n ∈ lay e [] → n.text.size ≤ 20000 → txtOk n = true ∧ (isOpN n = true → opHas l n.text (n.kind - 2) = true) := by
  have okL : ∀ {o}, InL l o → sgOk o.text = true := fun ⟨j, hj, e⟩ => opOk_signs (e ▸ ok_of_ok h0 j hj)
  have gen : ∀ (e : PT) (out : List PNode), InTab l e → TksOk l e → (∀ n, n ∈ out → n.text.size ≤ 20000 → txtOk n = true ∧ (isOpN n = true → opHas l n.text (n.kind - 2) = true)) → ∀ n, n ∈ lay e out → n.text.size ≤ 20000 → txtOk n = true ∧ (isOpN n = true → opHas l n.text (n.kind - 2) = true) := by
   intro e
   induction e with
   | leaf b =>
    intro out hi ht ho n hn hz
    simp only [lay, List.mem_append, List.mem_singleton] at hn
    rcases hn with hn | rfl
    ·exact ho n hn hz
    ·rcases ht with ⟨k, hk⟩ | ⟨k, hk⟩
     ·simp only at hz; simp [txtOk, isOpN, k, hk, hz]
     ·simp only at hz; simp [txtOk, isOpN, k, hk, hz]
   | grp e ih =>
    intro out hi ht ho n hn hz
    simp only [lay, List.mem_append, List.mem_singleton] at hn
    rcases hn with hn | rfl
    ·exact ih out hi ht ho n hn hz
    ·simp only at hz; simp [txtOk, isOpN, hz]
   | pre o e ih =>
    intro out hi ht ho n hn hz
    simp only [lay, List.mem_append, List.mem_singleton] at hn
    rcases hn with hn | rfl
    ·exact ih out hi.2.2.2 ht.2 ho n hn hz
    ·have := okL ht.1.2
     simp only at hz; simp [txtOk, isOpN, hi.1, this, hz, hi.2.1]
   | post o e ih =>
    intro out hi ht ho n hn hz
    simp only [lay, List.mem_append, List.mem_singleton] at hn
    rcases hn with hn | rfl
    ·exact ih out hi.2.2.2 ht.2 ho n hn hz
    ·have := okL ht.1.2
     simp only at hz; simp [txtOk, isOpN, hi.1, this, hz, hi.2.1]
   | inf o x y ih1 ih2 =>
    intro out hi ht ho n hn hz
    simp only [lay, List.mem_append, List.mem_singleton] at hn
    rcases hn with hn | rfl
    ·exact ih2 (lay x out) hi.2.2.2.2 ht.2.2 (ih1 out hi.2.2.2.1 ht.2.1 ho) n hn hz
    ·have := okL ht.1.2
     simp only at hz; simp [txtOk, isOpN, hi.1, this, hz, hi.2.1]
  exact gen e [] hi ht (by simp)
 have hk : ∀ i, i < (lay e []).length → txtOk (nodAt (lay e []) i) = true ∧ (isOpN (nodAt (lay e []) i) = true → opHas l (nodAt (lay e []) i).text ((nodAt (lay e []) i).kind - 2) = true) := fun i hi => by
  refine key _ ?_ (htx i hi)
  unfold nodAt
  rw [List.getD_eq_getElem?_getD, List.getElem?_eq_getElem hi]
  exact List.getElem_mem hi
 obtain ⟨f1, _⟩ := lay_tree (l := l) (t := lay e []) e [] hi (fun _ _ => rfl)
 simp only [wellF, inOrd, opdAll, Bool.and_eq_true, decide_eq_true_eq, List.all_eq_true, List.mem_range]
 refine ⟨⟨h0, ⟨by omega, ?_⟩, fun i hi => (hk i hi).1⟩, fun i hi => ?_⟩
 ·have : ((lay e []).length : Int) - 1 = (((lay e []).length - 1 : Nat) : Int) := by omega
  rw [this]; simpa using f1
 ·have := (hk i hi).2
  cases ho : isOpN (nodAt (lay e []) i) with
  | false => rfl
  | true => simp [this ho]
theorem lay_root {l : List POp} {e : PT} (hi : InTab l e) : rootE l (lay e []) = e := (lay_tree (l := l) (t := lay e []) e [] hi (fun _ _ => rfl)).2
theorem lay_treeOk {l : List POp} {e : PT} (h0 : tblOk l = 0) (hi : InTab l e) (ht : TksOk l e) (hx : ETx 20000 e) (hs : sizeE e ≤ 20000) (ha : e.Adm lvO) : treeOk l (lay e []) = 0 := by
 have hw := lay_wf h0 hi ht hx hs
 rcases treeOk_cases l (lay e []) with h | h | ⟨_, h | h⟩
 ·simp only [treeOk] at h
  rw [if_neg (by omega), hw] at h
  simp at h
  split at h <;> omega
 ·simp only [treeOk] at h
  rw [if_neg (by omega), hw] at h
  simp at h
  split at h <;> omega
 ·exact h.1
 ·rw [lay_root hi] at h
  exact absurd ha h.2
theorem lay_erased {l : List POp} {e : PT} (hw : wellF l (lay e []) = true) (hi : InTab l e) : inOrd (lay e []) = true ∧ erased (lay e []) = lay (bare e) [] := by
 obtain ⟨_, _, _, _, g, _⟩ := bare_facts hw
 rw [lay_root hi] at g
 exact ⟨(wellF_ord hw).1, g⟩
def tkWord : TkP → PWord
 | .leaf b => ⟨b.2, false, false⟩
 | .opn => lpar
 | .cls => rpar
 | .pre o => opWord o
 | .inf o => opWord o
 | .post o => opWord o
theorem yield_tkWord : ∀ e : PT, yieldW e = e.yield.map tkWord
 | .leaf b => rfl
 | .grp e => by simp [yieldW, Tr.yield, yield_tkWord e, tkWord]
 | .pre o e => by simp [yieldW, Tr.yield, yield_tkWord e, tkWord]
 | .post o e => by simp [yieldW, Tr.yield, yield_tkWord e, tkWord]
 | .inf o x y => by simp [yieldW, Tr.yield, yield_tkWord x, yield_tkWord y, tkWord]
theorem tkWord_at (e : PT) {i : Nat} {tk : TkP} (h : e.yield[i]? = some tk) : wdAt (yieldW e) i = tkWord tk := by
 unfold wdAt
 rw [List.getD_eq_getElem?_getD, yield_tkWord, List.getElem?_map, h]
 rfl
theorem fit_tail {b : Bool} {d : Nat} {t : TkP} {r : List TkP} (h : Fit b d (t :: r)) : ∃ b' d', Fit b' d' r := by
 cases b with
 | true =>
  cases t <;> simp only [Fit] at h
  ·exact ⟨_, _, h⟩
  ·exact ⟨_, _, h⟩
  ·exact ⟨_, _, h⟩
 | false =>
  cases t with
  | cls =>
   cases d with
   | zero => simp only [Fit] at h
   | succ d => simp only [Fit] at h; exact ⟨_, _, h⟩
  | inf o => simp only [Fit] at h; exact ⟨_, _, h⟩
  | post o => simp only [Fit] at h; exact ⟨_, _, h⟩
  | leaf b => simp only [Fit] at h
  | pre o => simp only [Fit] at h
  | opn => simp only [Fit] at h
theorem fit_leaves : ∀ (ts : List TkP) (b : Bool) (d : Nat), Fit b d ts → ∀ k x y, ts[k]? = some (.leaf x) → ts[k + 1]? = some (.leaf y) → False
 | [], _, _, _, k, x, y, h1, _ => by simp at h1
 | t :: r, b, d, h, 0, x, y, h1, h2 => by
  simp only [List.getElem?_cons_zero, Option.some.injEq] at h1
  subst h1
  cases r with
  | nil => simp at h2
  | cons u s =>
   simp only [List.getElem?_cons_succ, List.getElem?_cons_zero, Option.some.injEq] at h2
   subst h2
   cases b with
   | true => simp only [Fit] at h
   | false => simp only [Fit] at h
 | t :: r, b, d, h, k + 1, x, y, h1, h2 => by
  obtain ⟨b', d', h'⟩ := fit_tail h
  exact fit_leaves r b' d' h' k x y (by simpa using h1) (by simpa using h2)
theorem yield_fit0 (e : PT) : Fit true 0 e.yield := by
 have := yield_fit e 0 [] (by simp [Fit])
 simpa using this
theorem tk_sg {l : List POp} (hok : ∀ j, j < l.length → opOk (opAt l j) = true) {o : POp} (h : InL l o) : isSg (byteAt o.text 0) = true ∧ alnum (byteAt o.text 0) = false := by
 obtain ⟨j, hj, rfl⟩ := h
 obtain ⟨h1, h2, _⟩ := sg_signs (opOk_signs (hok j hj))
 have h3 := h1 0 h2
 refine ⟨h3, ?_⟩
 obtain ⟨g1, g2, _⟩ := sg_not h3
 simp [alnum, g1, g2]
theorem tk_al {l : List POp} {b : Int × ByteArray} (h : TkOk l (.leaf b)) : alnum (byteAt b.2 0) = true ∧ isSg (byteAt b.2 0) = false := by
 have h3 : alnum (byteAt b.2 0) = true := by
  rcases h with ⟨_, h⟩ | ⟨_, h⟩
  ·exact (num_al h).1 0 (num_al h).2
  ·exact (nam_al h).1 0 (nam_al h).2
 exact ⟨h3, (al_not h3).1⟩
theorem meet_ok {l : List POp} (hok : ∀ j, j < l.length → opOk (opAt l j) = true) {a b : TkP} (ha : TkOk l a) (hb : TkOk l b) (h1 : ¬ ((tkWord a).op = true ∧ (tkWord b).op = true)) (h2 : ∀ x y, a = .leaf x → b = .leaf y → False) : MeetOk a b := by
 have e40 : byteAt (⟨#[40]⟩ : ByteArray) 0 = 40 := rfl
 have e41 : byteAt (⟨#[41]⟩ : ByteArray) 0 = 41 := rfl
 have s40 : isSg 40 = false := by decide
 have s41 : isSg 41 = false := by decide
 have a40 : alnum 40 = false := by decide
 have a41 : alnum 41 = false := by decide
 have first : ∀ {t : TkP}, TkOk l t → (tkWord t).op = false → isSg (byteAt (tkW t) 0) = false := fun {t} ht ho => by
  cases t with
  | leaf x => exact (tk_al ht).2
  | opn => simp only [tkW, e40, s40]
  | cls => simp only [tkW, e41, s41]
  | pre o => simp [tkWord, opWord] at ho
  | inf o => simp [tkWord, opWord] at ho
  | post o => simp [tkWord, opWord] at ho
 have second : ∀ {t : TkP}, TkOk l t → (∀ x, t ≠ .leaf x) → alnum (byteAt (tkW t) 0) = false := fun {t} ht ho => by
  cases t with
  | leaf x => exact absurd rfl (ho x)
  | opn => simp only [tkW, e40, a40]
  | cls => simp only [tkW, e41, a41]
  | pre o => exact (tk_sg hok ht.2).2
  | inf o => exact (tk_sg hok ht.2).2
  | post o => exact (tk_sg hok ht.2).2
 refine ⟨fun hs => ?_, fun hs => ?_⟩
 ·refine first hb ?_
  cases hbo : (tkWord b).op with
  | false => rfl
  | true =>
   cases hao : (tkWord a).op with
   | true => exact absurd ⟨hao, hbo⟩ h1
   | false => rw [first ha hao] at hs; cases hs
 ·refine second hb fun y hy => ?_
  by_cases hx : ∃ x, a = .leaf x
  ·obtain ⟨x, hx⟩ := hx
   exact h2 x y hx hy
  ·rw [second ha fun x hx' => hx ⟨x, hx'⟩] at hs; cases hs
def gapPr (ws : List PWord) (i : Nat) : ByteArray := if 0 < i ∧ gapW (wdAt ws (i - 1)) (wdAt ws i) = true then ⟨#[32]⟩ else ⟨#[]⟩
theorem outW_join (e : PT) : ∀ i, i ≤ e.yield.length → outW (yieldW e) i = joinW (txtPs (gapPs (gapPr (yieldW e)) 0 (e.yield.take i))) ByteArray.empty
 | 0, _ => by simp [outW, gapPs, txtPs, joinW]
 | i + 1, h => by
  have hi : i < e.yield.length := by omega
  rw [List.take_add_one, List.getElem?_eq_getElem hi]
  simp only [Option.toList_some]
  rw [gapPs_snoc]
  simp only [txtPs, List.map_append, List.map_cons, List.map_nil]
  rw [joinW_nil_snoc, outW, outW_join e i (by omega), yieldW_at e (List.getElem?_eq_getElem hi)]
  simp only [List.length_take, Nat.zero_add, txtPs]
  rw [Nat.min_eq_left (by omega)]
  unfold gapPr
  by_cases h0 : 0 < i ∧ gapW (wdAt (yieldW e) (i - 1)) (wdAt (yieldW e) i) = true
  ·rw [if_pos h0, if_pos h0]
  ·rw [if_neg h0, if_neg h0, show (⟨#[]⟩ : ByteArray) = ByteArray.empty from rfl, ByteArray.append_empty]
theorem printed_reads {l : List POp} {e : PT} (h0 : tblOk l = 0) (hk : TksOk l e) (hz : (outW (yieldW e) (yieldW e).length).size ≤ 20000) : Reads l e (outW (yieldW e) (yieldW e).length) := by
 have e1 := outW_join e e.yield.length (Nat.le_refl _)
 rw [List.take_length] at e1
 rw [yieldW_length] at hz ⊢
 rw [e1] at hz ⊢
 refine reads_join h0 (gapPs_snd _ _ _) (tksOk_all hk) ?_ hz
 refine join_gaps (ok_of_ok h0) (fun i => ?_) (blanks_of (.inl rfl)) _ 0 (tksOk_all hk) fun k a b h1 h2 => ?_
 ·unfold gapPr; split
  ·exact blanks_of (.inr (.inl rfl))
  ·exact blanks_of (.inl rfl)
 ·by_cases hg : gapW (wdAt (yieldW e) k) (wdAt (yieldW e) (k + 1)) = true
  ·refine .inl ?_
   unfold gapPr
   rw [if_pos ⟨by omega, by rw [show 0 + k + 1 - 1 = k by omega, show 0 + k + 1 = k + 1 by omega]; exact hg⟩]
   decide
  ·refine .inr (meet_ok (ok_of_ok h0) (tksOk_all hk a (List.mem_of_getElem? h1)) (tksOk_all hk b (List.mem_of_getElem? h2)) (fun ⟨g1, g2⟩ => hg ?_) fun x y hx hy => ?_)
   ·rw [tkWord_at e h1, tkWord_at e h2]
    simp [gapW, g1, g2]
   ·subst hx; subst hy
    exact fit_leaves _ _ _ (yield_fit0 e) k x y h1 h2
theorem word_pos {l : List POp} (hok : ∀ j, j < l.length → opOk (opAt l j) = true) {tk : TkP} (h : TkOk l tk) : 0 < (tkW tk).size := (word_begin (tk_is hok h ByteArray.empty).2).1
theorem out_pos {l : List POp} {e : PT} (h0 : tblOk l = 0) (hk : TksOk l e) : 0 < (outW (yieldW e) (yieldW e).length).size := by
 have hl : 0 < e.yield.length := Ops.yield_pos e
 rw [yieldW_length]
 obtain ⟨n, hn⟩ : ∃ n, e.yield.length = n + 1 := ⟨e.yield.length - 1, by omega⟩
 rw [hn, outW, ByteArray.size_append]
 have hx : e.yield[n]? = some e.yield[n] := List.getElem?_eq_getElem (by omega)
 rw [yieldW_at e hx]
 have := word_pos (ok_of_ok h0) (tksOk_all hk _ (List.mem_of_getElem? hx))
 omega
theorem printed_facts {l : List POp} {T : List PNode} (hx : NodTx 20000 T) (h : groupOk l T = true) : 0 < (printZ l T).size ∧ ((printZ l T).size ≤ 20000 → highT (bare (rootE l T)) ≤ 500 →
  parZ l (printZ l T) = (groupZ l T, 0, 0)) ∧ treeOk l (groupZ l T) = 0 ∧ inOrd (groupZ l T) = true ∧ erased (groupZ l T) = erased T := by
 obtain ⟨g1, g2, g3, g4, g5, g6, g7⟩ := group_facts h
 have hg := groupZ_tx (l := l) hx
 have hw : wellF l T = true := by simp only [groupOk, Bool.and_eq_true] at h; exact h.1
 obtain ⟨_, _, _, _, b5, _⟩ := bare_facts hw
 simp only [printZ, groupZ, if_pos h] at hg ⊢
 generalize groupE l T = e at *
 have hx' := (tx_layN e [] hg).1
 have hwf := lay_wf g1 g2 g3 hx' g5
 obtain ⟨q1, q2⟩ := lay_erased hwf g2
 refine ⟨out_pos g1 g3, fun hz hh => ?_, lay_treeOk g1 g2 g3 hx' g5 g4, q1, by rw [q2, g6, b5]⟩
 exact (printed_reads g1 g3 hz).adm g1 g4 (by omega)
theorem wf_bare {l : List POp} {T : List PNode} (h : wellF l T = true) : WfTree l (erased T) (bare (rootE l T)) := by
 have W := wf_tree h
 obtain ⟨_, _, _, _, b5, _⟩ := bare_facts h
 have hb : sizeE (bare (rootE l T)) ≤ sizeE (rootE l T) := by
  generalize rootE l T = e
  induction e with
  | leaf b => exact Nat.le_refl _
  | grp e ih => simp only [bare, sizeE]; omega
  | pre o e ih => simp only [bare, sizeE]; omega
  | post o e ih => simp only [bare, sizeE]; omega
  | inf o x y ih1 ih2 => simp only [bare, sizeE]; omega
 have h1 := lay_len (bare (rootE l T)) []
 have h2 := lay_len (rootE l T) []
 have h3 := sizeE_pos (bare (rootE l T))
 have h4 := W.len
 rw [← W.lay] at h2
 rw [← b5] at h1
 simp only [List.length_nil] at h1 h2
 exact ⟨W.tbl, b5, InTab_bare W.inT, tks_bare W.tks, by omega, by omega⟩
end Go.Proofs.YtjdmmhcogmepaaaGreatDoor.V
namespace Go.Proofs.YtjdmmhcogmepaaaGreatDoor.V
open Go.RowKit
open Go.Proofs.YtjdmmhcogmepaaaGreatDoor.Ops (Tr Tk Lv Res Fit OF depth)
def isWord : TkP → Bool
 | .opn => false
 | .cls => false
 | _ => true
def nW (ts : List TkP) : Nat := ts.countP isWord
theorem nW_app (a b : List TkP) : nW (a ++ b) = nW a + nW b := List.countP_append ..
theorem nW_yield : ∀ e : PT, nW e.yield = sizeE (bare e)
 | .leaf b => rfl
 | .grp e => by
  have := nW_yield e
  show nW (.opn :: (e.yield ++ [.cls])) = _
  rw [show (Tk.opn :: (e.yield ++ [Tk.cls]) : List TkP) = [.opn] ++ (e.yield ++ [.cls]) from rfl, nW_app, nW_app, this]
  simp [nW, isWord, bare]
 | .pre o e => by
  have := nW_yield e
  show nW (.pre o :: e.yield) = _
  rw [show (Tk.pre o :: e.yield : List TkP) = [.pre o] ++ e.yield from rfl, nW_app, this]
  simp [nW, isWord, bare, sizeE]; omega
 | .post o e => by
  have := nW_yield e
  show nW (e.yield ++ [.post o]) = _
  rw [nW_app, this]
  simp [nW, isWord, bare, sizeE]
 | .inf o x y => by
  have h1 := nW_yield x
  have h2 := nW_yield y
  show nW (x.yield ++ ([.inf o] ++ y.yield)) = _
  rw [nW_app, nW_app, h1, h2]
  simp [nW, isWord, bare, sizeE]; omega
theorem grp_first {x y : PT} {s s' : List TkP} (h : (Tr.grp x : PT).yield ++ s = y.yield ++ s') : sizeE (bare x) ≤ sizeE (bare y) := by
 rcases List.append_eq_append_iff.1 h with ⟨u, h1, h2⟩ | ⟨u, h1, h2⟩
 ·have h3 := congrArg nW h1
  rw [nW_app, nW_yield, nW_yield] at h3
  simp only [bare] at h3
  omega
 ·cases u with
  | nil =>
   rw [List.append_nil] at h1
   have h3 := congrArg nW h1
   rw [nW_yield, nW_yield] at h3
   simp only [bare] at h3
   omega
  | cons t r =>
   exfalso
   have hy : y.yield ≠ [] := fun e => by have := Ops.yield_pos y; rw [e] at this; simp at this
   have hd := Ops.depth_yield y
   cases hyy : y.yield with
   | nil => exact hy hyy
   | cons t0 r0 =>
    rw [hyy] at h1 hd
    simp only [Tr.yield, List.cons_append, List.cons.injEq] at h1
    obtain ⟨rfl, h1⟩ := h1
    -- the last of the bracketed stretch is the bracket
    rcases List.eq_nil_or_concat r with rfl | ⟨r1, q, rfl⟩
    ·have h4 : x.yield = r0 := by
      have := congrArg List.dropLast h1
      simpa using this
     rw [Ops.depth_cons] at hd
     have h5 := Ops.depth_yield x
     rw [h4] at h5
     simp [Tk.turn] at hd
     omega
    ·have h4 : x.yield = r0 ++ (t :: r1) := by
      have := congrArg List.dropLast h1
      rw [List.dropLast_concat] at this
      rw [this]
      rw [List.concat_eq_append, show r0 ++ t :: (r1 ++ [q]) = (r0 ++ t :: r1) ++ [q] by simp, List.dropLast_concat]
     have h5 := Ops.depth_begin x r0 (t :: r1) h4
     rw [Ops.depth_cons] at hd
     simp [Tk.turn] at hd
     omega
theorem bare_yield : ∀ (e e' : PT) (s s' : List TkP), bare e = bare e' → e.yield ++ s = e'.yield ++ s' → e = e' ∧ s = s' := by
 intro e
 induction e with
 | leaf b =>
  intro e' s s' hb hy
  cases e' with
  | leaf b' =>
   simp only [Tr.yield, List.cons_append, List.nil_append, List.cons.injEq, Tk.leaf.injEq] at hy
   exact ⟨by rw [hy.1], hy.2⟩
  | grp y => simp [Tr.yield] at hy
  | pre o y => simp [bare] at hb
  | post o y => simp [bare] at hb
  | inf o x y => simp [bare] at hb
 | grp x ih =>
  intro e' s s' hb hy
  cases e' with
  | leaf b' => simp [Tr.yield] at hy
  | grp y =>
   simp only [Tr.yield, List.cons_append, List.cons.injEq, true_and, List.append_assoc] at hy
   obtain ⟨h1, h2⟩ := ih y _ _ hb hy
   simp only [List.cons_append, List.nil_append, List.cons.injEq, true_and] at h2
   exact ⟨by rw [h1], h2⟩
  | pre o y => simp [Tr.yield] at hy
  | post o y =>
   exfalso
   have h1 := grp_first (y := y) (s' := .post o :: s') (by rw [hy]; simp [Tr.yield])
   simp only [bare] at hb
   rw [hb] at h1
   simp only [sizeE] at h1
   omega
  | inf o l r =>
   exfalso
   have h1 := grp_first (y := l) (s' := .inf o :: (r.yield ++ s')) (by rw [hy]; simp [Tr.yield])
   simp only [bare] at hb
   rw [hb] at h1
   simp only [sizeE] at h1
   omega
 | pre o x ih =>
  intro e' s s' hb hy
  cases e' with
  | leaf b' => simp [Tr.yield] at hy
  | grp y => simp [Tr.yield] at hy
  | pre o' y =>
   simp only [bare, Tr.pre.injEq] at hb
   simp only [Tr.yield, List.cons_append, List.cons.injEq] at hy
   obtain ⟨h1, h2⟩ := ih y _ _ hb.2 hy.2
   exact ⟨by rw [h1, hb.1], h2⟩
  | post o y => simp [bare] at hb
  | inf o l r => simp [bare] at hb
 | post o x ih =>
  intro e' s s' hb hy
  cases e' with
  | leaf b' => simp [bare] at hb
  | grp y =>
   exfalso
   have h1 := grp_first (x := y) (y := x) (s := s') (s' := .post o :: s) (by rw [← hy]; simp [Tr.yield])
   simp only [bare] at hb
   rw [← hb] at h1
   simp only [sizeE] at h1
   omega
  | pre o' y => simp [bare] at hb
  | post o' y =>
   simp only [bare, Tr.post.injEq] at hb
   simp only [Tr.yield, List.append_assoc] at hy
   obtain ⟨h1, h2⟩ := ih y _ _ hb.2 hy
   simp only [List.cons_append, List.nil_append, List.cons.injEq] at h2
   exact ⟨by rw [h1, hb.1], h2.2⟩
  | inf o' l r => simp [bare] at hb
 | inf o l r ih1 ih2 =>
  intro e' s s' hb hy
  cases e' with
  | leaf b' => simp [bare] at hb
  | grp y =>
   exfalso
   have h1 := grp_first (x := y) (y := l) (s := s') (s' := .inf o :: (r.yield ++ s)) (by rw [← hy]; simp [Tr.yield])
   simp only [bare] at hb
   rw [← hb] at h1
   simp only [sizeE] at h1
   omega
  | pre o' y => simp [bare] at hb
  | post o' y => simp [bare] at hb
  | inf o' l' r' =>
   simp only [bare, Tr.inf.injEq] at hb
   simp only [Tr.yield, List.append_assoc] at hy
   obtain ⟨h1, h2⟩ := ih1 l' _ _ hb.2.1 hy
   simp only [List.cons_append, List.cons.injEq] at h2
   obtain ⟨h3, h4⟩ := ih2 r' _ _ hb.2.2 h2.2
   exact ⟨by rw [h1, h3, hb.1], h4⟩
def outE (st : Nat → Bool) : PT → Nat → PT × Nat
 | .leaf b, g => (.leaf b, g)
 | .grp e, g => (if st (outE st e g).2 = true then .grp (outE st e g).1 else (outE st e g).1, (outE st e g).2 + 1)
 | .pre o e, g => (.pre o (outE st e g).1, (outE st e g).2)
 | .post o e, g => (.post o (outE st e g).1, (outE st e g).2)
 | .inf o x y, g => (.inf o (outE st x g).1 (outE st y (outE st x g).2).1, (outE st y (outE st x g).2).2)
theorem out_grp_t {st : Nat → Bool} {e : PT} {g : Nat} (h : st (outE st e g).2 = true) : outE st (.grp e) g = (.grp (outE st e g).1, (outE st e g).2 + 1) := by
 simp only [outE]; rw [if_pos h]
theorem out_grp_f {st : Nat → Bool} {e : PT} {g : Nat} (h : ¬ st (outE st e g).2 = true) : outE st (.grp e) g = ((outE st e g).1, (outE st e g).2 + 1) := by
 simp only [outE]; rw [if_neg h]
theorem out_bare (st : Nat → Bool) : ∀ (e : PT) (g : Nat), bare (outE st e g).1 = bare e
 | .leaf b, g => rfl
 | .grp e, g => by simp only [outE]; split <;> simp [bare, out_bare st e g]
 | .pre o e, g => by simp [outE, bare, out_bare st e g]
 | .post o e, g => by simp [outE, bare, out_bare st e g]
 | .inf o x y, g => by simp [outE, bare, out_bare st x g, out_bare st y]
theorem out_inTab {l : List POp} (st : Nat → Bool) : ∀ (e : PT) (g : Nat), InTab l e → InTab l (outE st e g).1
 | .leaf b, g, h => h
 | .grp e, g, h => by have := out_inTab st e g h; simp only [outE]; split <;> exact this
 | .pre o e, g, h => ⟨h.1, h.2.1, h.2.2.1, out_inTab st e g h.2.2.2⟩
 | .post o e, g, h => ⟨h.1, h.2.1, h.2.2.1, out_inTab st e g h.2.2.2⟩
 | .inf o x y, g, h => ⟨h.1, h.2.1, h.2.2.1, out_inTab st x g h.2.2.2.1, out_inTab st y _ h.2.2.2.2⟩
theorem out_tks {l : List POp} (st : Nat → Bool) : ∀ (e : PT) (g : Nat), TksOk l e → TksOk l (outE st e g).1
 | .leaf b, g, h => h
 | .grp e, g, h => by have := out_tks st e g h; simp only [outE]; split <;> exact this
 | .pre o e, g, h => ⟨h.1, out_tks st e g h.2⟩
 | .post o e, g, h => ⟨h.1, out_tks st e g h.2⟩
 | .inf o x y, g, h => ⟨h.1, out_tks st x g h.2.1, out_tks st y _ h.2.2⟩
theorem out_tx {B : Nat} (st : Nat → Bool) : ∀ (e : PT) (g : Nat), ETx B e → ETx B (outE st e g).1
 | .leaf b, g, h => h
 | .grp e, g, h => by have := out_tx st e g h; simp only [outE]; split <;> exact this
 | .pre o e, g, h => ⟨h.1, out_tx st e g h.2⟩
 | .post o e, g, h => ⟨h.1, out_tx st e g h.2⟩
 | .inf o x y, g, h => ⟨h.1, out_tx st x g h.2.1, out_tx st y _ h.2.2⟩
theorem out_size (st : Nat → Bool) : ∀ (e : PT) (g : Nat), sizeE (outE st e g).1 ≤ sizeE e
 | .leaf b, g => Nat.le_refl _
 | .grp e, g => by have := out_size st e g; simp only [outE]; split <;> simp only [sizeE] <;> omega
 | .pre o e, g => by have := out_size st e g; simp only [outE, sizeE]; omega
 | .post o e, g => by have := out_size st e g; simp only [outE, sizeE]; omega
 | .inf o x y, g => by have := out_size st x g; have := out_size st y (outE st x g).2; simp only [outE, sizeE]; omega
theorem out_min {l : List POp} (hok : ∀ j, j < l.length → opOk (opAt l j) = true) (st : Nat → Bool) : ∀ {b : PT}, Bare b → InTab l b → ∀ (m : Int) (g : Nat), m ≤ 1001 → (outE st (grpd b m) g).1.Adm lvO → m ≤ (outE st (grpd b m) g).1.level lvO → ∀ i, g ≤ i → i < (outE st (grpd b m) g).2 → st i = true
 | .leaf b, _, _, m, g, hm, ha, hl, i, h1, h2 => by
  simp only [grpd] at h2
  rw [if_neg (by omega)] at h2
  simp only [outE] at h2
  omega
 | .pre o e, h, ht, m, g, hm, ha, hl, i, h1, h2 => by
  obtain ⟨j, hj, ej⟩ := inL_of ht.2.1 ht.2.2.1
  have ho : opOk o = true := ej ▸ hok j hj
  have e1 := hole_h2p ho ht.1
  have ih := out_min hok st (b := e) h ht.2.2.2 (hole o false) g (hole_le _ _)
  simp only [grpd] at ha hl h2
  generalize grpd e (hole o false) = X at *
  rw [e1] at ih
  split at h2
  ·rename_i hc
   rw [if_pos hc] at ha hl
   by_cases hs : st (outE st (.pre o X) g).2 = true
   ·rw [out_grp_t hs] at ha h2
    simp only [outE] at ha h2 hs
    by_cases hi : i = (outE st X g).2
    ·rw [hi]; exact hs
    ·exact ih ha.2 ha.1 i h1 (by omega)
   ·rw [out_grp_f hs] at hl
    simp only [outE, Tr.level, lvO] at hl
    omega
  ·rename_i hc
   rw [if_neg hc] at ha
   simp only [outE] at ha h2
   exact ih ha.2 ha.1 i h1 h2
 | .post o e, h, ht, m, g, hm, ha, hl, i, h1, h2 => by
  obtain ⟨j, hj, ej⟩ := inL_of ht.2.1 ht.2.2.1
  have ho : opOk o = true := ej ▸ hok j hj
  have e1 := hole_h1 ho (by have := ht.1; omega)
  have ih := out_min hok st (b := e) h ht.2.2.2 (hole o false) g (hole_le _ _)
  simp only [grpd] at ha hl h2
  generalize grpd e (hole o false) = X at *
  rw [e1] at ih
  split at h2
  ·rename_i hc
   rw [if_pos hc] at ha hl
   by_cases hs : st (outE st (.post o X) g).2 = true
   ·rw [out_grp_t hs] at ha h2
    simp only [outE] at ha h2 hs
    by_cases hi : i = (outE st X g).2
    ·rw [hi]; exact hs
    ·exact ih ha.2 ha.1 i h1 (by omega)
   ·rw [out_grp_f hs] at hl
    simp only [outE, Tr.level, lvO] at hl
    omega
  ·rename_i hc
   rw [if_neg hc] at ha
   simp only [outE] at ha h2
   exact ih ha.2 ha.1 i h1 h2
 | .inf o x y, h, ht, m, g, hm, ha, hl, i, h1, h2 => by
  obtain ⟨j, hj, ej⟩ := inL_of ht.2.1 ht.2.2.1
  have ho : opOk o = true := ej ▸ hok j hj
  have e1 := hole_h1 ho (by have := ht.1; omega)
  have e2 := hole_h2i ho ht.1
  have ih1 := out_min hok st (b := x) h.1 ht.2.2.2.1 (hole o false) g (hole_le _ _)
  have ih2 := out_min hok st (b := y) h.2 ht.2.2.2.2 (hole o true) (outE st (grpd x (hole o false)) g).2 (hole_le _ _)
  simp only [grpd] at ha hl h2
  generalize grpd x (hole o false) = X at *
  generalize grpd y (hole o true) = Y at *
  rw [e1] at ih1
  rw [e2] at ih2
  have both : (Tr.inf o (outE st X g).1 (outE st Y (outE st X g).2).1 : PT).Adm lvO → i < (outE st Y (outE st X g).2).2 → st i = true := fun ha hi => by
   obtain ⟨a1, a2, a3, a4⟩ := ha
   by_cases hx : i < (outE st X g).2
   ·exact ih1 a3 a1 i h1 hx
   ·exact ih2 a4 a2 i (by omega) hi
  split at h2
  ·rename_i hc
   rw [if_pos hc] at ha hl
   by_cases hs : st (outE st (.inf o X Y) g).2 = true
   ·rw [out_grp_t hs] at ha h2
    simp only [outE] at ha h2 hs
    by_cases hi : i = (outE st Y (outE st X g).2).2
    ·rw [hi]; exact hs
    ·exact both ha (by omega)
   ·rw [out_grp_f hs] at hl
    simp only [outE, Tr.level, lvO] at hl
    omega
  ·rename_i hc
   rw [if_neg hc] at ha
   simp only [outE] at ha h2
   exact both ha h2
end Go.Proofs.YtjdmmhcogmepaaaGreatDoor.V
namespace Go.Proofs.YtjdmmhcogmepaaaGreatDoor.V
open Go.RowKit
open Go.Proofs.YtjdmmhcogmepaaaGreatDoor.Ops (Tr Tk)
structure WoS where
 nds : List PNode
 pl : List Int
 g : Nat
def woStep (st : Nat → Bool) (n : PNode) (s : WoS) : WoS :=
 if n.kind = 6 ∧ st s.g = false then ⟨s.nds, s.pl ++ [(s.nds.length : Int) - 1], s.g + 1⟩
 else ⟨s.nds ++ [⟨n.text, n.kind, if 0 < kidsN n.kind then intAt s.pl n.a.toNat else n.a, if 1 < kidsN n.kind then intAt s.pl n.b.toNat else n.b⟩], s.pl ++ [(s.nds.length : Int)], if n.kind = 6 then s.g + 1 else s.g⟩
def woR (st : Nat → Bool) (T : List PNode) : Nat → WoS
 | 0 => ⟨[], [], 0⟩
 | i + 1 => woStep st (nodAt T i) (woR st T i)
theorem wo_pl (st : Nat → Bool) (T : List PNode) : ∀ i, (woR st T i).pl.length = i
 | 0 => rfl
 | i + 1 => by
  have := wo_pl st T i
  simp only [woR, woStep]
  split <;> simp [this]
theorem wo_len (st : Nat → Bool) (T : List PNode) : ∀ i, (woR st T i).nds.length ≤ i ∧ (woR st T i).g ≤ i
 | 0 => ⟨Nat.le_refl _, Nat.le_refl _⟩
 | i + 1 => by
  have := wo_len st T i
  simp only [woR, woStep]
  split
  ·simp only; omega
  ·simp only [List.length_append, List.length_singleton]; split <;> omega
theorem wo_lay {l : List POp} (st : Nat → Bool) (T : List PNode) : ∀ (e : PT) (pre : List PNode), InTab l e → (∀ j, j < (lay e pre).length → nodAt T j = nodAt (lay e pre) j) →
  (woR st T (lay e pre).length).nds = lay (outE st e (woR st T pre.length).g).1 (woR st T pre.length).nds ∧
  (woR st T (lay e pre).length).g = (outE st e (woR st T pre.length).g).2 ∧
  intAt (woR st T (lay e pre).length).pl ((lay e pre).length - 1) = ((woR st T (lay e pre).length).nds.length : Int) - 1 ∧
  ∀ j, j < pre.length → intAt (woR st T (lay e pre).length).pl j = intAt (woR st T pre.length).pl j := by
 have old : ∀ {A : List PNode} {n : PNode}, (∀ j, j < (A ++ [n]).length → nodAt T j = nodAt (A ++ [n]) j) → (∀ j, j < A.length → nodAt T j = nodAt A j) ∧ nodAt T A.length = n := fun {A n} h => by
  refine ⟨fun j hj => ?_, ?_⟩
  ·rw [h j (by simp; omega)]
   simp only [nodAt, List.getD_eq_getElem?_getD]
   rw [List.getElem?_append_left hj]
  ·rw [h _ (by simp), nodAt_end _ _ rfl]
 have step : ∀ (A : List PNode) (n : PNode), woR st T (A ++ [n]).length = woStep st (nodAt T A.length) (woR st T A.length) := fun A n => by
  rw [show (A ++ [n]).length = A.length + 1 by simp]; rfl
 intro e
 induction e with
 | leaf b =>
  intro pre hi hT
  simp only [lay] at hT ⊢
  obtain ⟨h1, h2⟩ := old hT
  have hp := wo_pl st T pre.length
  rw [step, h2]
  generalize woR st T pre.length = s at *
  have hk : kidsN b.1 = 0 := by rcases hi with h | h <;> simp [kidsN, h]
  have h6 : ¬ b.1 = 6 := by rcases hi with h | h <;> omega
  unfold woStep
  rw [if_neg (fun h => h6 h.1)]
  simp only [hk, h6, if_false, outE, lay]
  refine ⟨by simp, trivial, ?_, fun j hj => intAt_old (by omega)⟩
  rw [intAt_new (by simp; omega)]; simp
 | grp e ih =>
  intro pre hi hT
  simp only [lay] at hT ⊢
  obtain ⟨h1, h2⟩ := old hT
  obtain ⟨i1, i2, i3, i4⟩ := ih pre hi h1
  have hp := wo_pl st T (lay e pre).length
  have hle := lay_len e pre
  have hsz := sizeE_pos e
  rw [step, h2]
  generalize woR st T pre.length = s at *
  generalize woR st T (lay e pre).length = s1 at *
  have ha : ((((lay e pre).length : Nat) : Int) - 1).toNat = (lay e pre).length - 1 := by omega
  have hle2 := lay_len (outE st e s.g).1 s.nds
  have hsz2 := sizeE_pos (outE st e s.g).1
  unfold woStep
  by_cases hs : st s1.g = false
  ·rw [if_pos ⟨rfl, hs⟩]
   rw [i2] at hs
   rw [out_grp_f (by rw [hs]; simp)]
   simp only
   refine ⟨i1, by rw [i2], ?_, fun j hj => ?_⟩
   ·rw [intAt_new (by simp; omega)]
   ·rw [intAt_old (by omega)]; exact i4 j hj
  ·rw [if_neg (fun h => hs h.2)]
   rw [i2] at hs
   rw [out_grp_t (by simpa using hs)]
   have hk : kidsN 6 = 1 := rfl
   simp only [hk, lay, ha, i3]
   refine ⟨?_, by rw [if_pos trivial, i2], ?_, fun j hj => ?_⟩
   ·rw [i1]; simp
   ·rw [intAt_new (by simp; omega)]; simp
   ·rw [intAt_old (by omega)]; exact i4 j hj
 | pre o e ih =>
  intro pre hi hT
  simp only [lay] at hT ⊢
  obtain ⟨h1, h2⟩ := old hT
  obtain ⟨i1, i2, i3, i4⟩ := ih pre hi.2.2.2 h1
  have hp := wo_pl st T (lay e pre).length
  have hle := lay_len e pre
  have hsz := sizeE_pos e
  rw [step, h2]
  generalize woR st T pre.length = s at *
  generalize woR st T (lay e pre).length = s1 at *
  have ha : ((((lay e pre).length : Nat) : Int) - 1).toNat = (lay e pre).length - 1 := by omega
  have hk6 : ¬ o.kind + 2 = 6 := by have := hi.1; omega
  have hk : kidsN (o.kind + 2) = 1 := by rw [hi.1]; rfl
  unfold woStep
  rw [if_neg (fun h => hk6 h.1)]
  simp only [hk, hk6, if_false, lay, outE, ha, i3]
  refine ⟨?_, i2, ?_, fun j hj => ?_⟩
  ·rw [i1]; simp
  ·rw [intAt_new (by simp; omega)]; simp
  ·rw [intAt_old (by omega)]; exact i4 j hj
 | post o e ih =>
  intro pre hi hT
  simp only [lay] at hT ⊢
  obtain ⟨h1, h2⟩ := old hT
  obtain ⟨i1, i2, i3, i4⟩ := ih pre hi.2.2.2 h1
  have hp := wo_pl st T (lay e pre).length
  have hle := lay_len e pre
  have hsz := sizeE_pos e
  rw [step, h2]
  generalize woR st T pre.length = s at *
  generalize woR st T (lay e pre).length = s1 at *
  have ha : ((((lay e pre).length : Nat) : Int) - 1).toNat = (lay e pre).length - 1 := by omega
  have hk6 : ¬ o.kind + 2 = 6 := by have := hi.1; omega
  have hk : kidsN (o.kind + 2) = 1 := by rw [hi.1]; rfl
  unfold woStep
  rw [if_neg (fun h => hk6 h.1)]
  simp only [hk, hk6, if_false, lay, outE, ha, i3]
  refine ⟨?_, i2, ?_, fun j hj => ?_⟩
  ·rw [i1]; simp
  ·rw [intAt_new (by simp; omega)]; simp
  ·rw [intAt_old (by omega)]; exact i4 j hj
 | inf o x y ih1 ih2 =>
  intro pre hi hT
  simp only [lay] at hT ⊢
  obtain ⟨h1, h2⟩ := old hT
  have hlx := lay_len x pre
  have hly := lay_len y (lay x pre)
  have hsx := sizeE_pos x
  have hsy := sizeE_pos y
  obtain ⟨i1, i2, i3, i4⟩ := ih1 pre hi.2.2.2.1 fun j hj => by rw [h1 j (by omega), lay_pre y _ j hj]
  obtain ⟨k1, k2, k3, k4⟩ := ih2 (lay x pre) hi.2.2.2.2 h1
  have hp := wo_pl st T (lay y (lay x pre)).length
  have hx := k4 ((lay x pre).length - 1) (by omega)
  rw [i3] at hx
  rw [step, h2]
  generalize woR st T pre.length = s at *
  generalize woR st T (lay x pre).length = s0 at *
  generalize woR st T (lay y (lay x pre)).length = s1 at *
  have ha : ((((lay x pre).length : Nat) : Int) - 1).toNat = (lay x pre).length - 1 := by omega
  have hb : ((((lay y (lay x pre)).length : Nat) : Int) - 1).toNat = (lay y (lay x pre)).length - 1 := by omega
  have hk6 : ¬ o.kind + 2 = 6 := by have := hi.1; omega
  have hk : kidsN (o.kind + 2) = 2 := by rw [hi.1]; rfl
  unfold woStep
  rw [if_neg (fun h => hk6 h.1)]
  simp only [hk, hk6, if_false, lay, outE, ha, hb, hx, k3]
  refine ⟨?_, by rw [k2, i2], ?_, fun j hj => ?_⟩
  ·rw [k1, i1, i2]; simp
  ·rw [intAt_new (by simp; omega)]; simp
  ·rw [intAt_old (by omega), k4 j (by omega)]; exact i4 j hj
theorem wo_all {l : List POp} (st : Nat → Bool) (e : PT) (hi : InTab l e) : (woR st (lay e []) (lay e []).length).nds = lay (outE st e 0).1 [] ∧ (woR st (lay e []) (lay e []).length).g = (outE st e 0).2 := by
 obtain ⟨h1, h2, _⟩ := wo_lay st (lay e []) e [] hi (fun _ _ => rfl)
 exact ⟨h1, h2⟩
end Go.Proofs.YtjdmmhcogmepaaaGreatDoor.V
namespace Go.Proofs.YtjdmmhcogmepaaaGreatDoor.V
open Go.RowKit
structure Rd where
 n : Nat
 f : Nat → Nat
 p : Nat
def Rd.ok (r : Rd) : Prop := r.n ≤ 1200 ∧ r.p ≤ r.n ∧ ∀ i, r.f i < 256
def rdCells (f : Nat → Nat) (i : Nat) : List AV := [.lit (.int .u8 (f i))]
theorem rdCells_at (f : Nat → Nat) (i : Nat) : rdCells f i = [.lit (.int .u8 (f i))] := rfl
theorem rdClosed (f : Nat → Nat) (i : Nat) (c : AV) (h : c ∈ rdCells f i) : Closed c := by
 simp [rdCells] at h
 subst h
 exact .lit _
def rdOb (r : Rd) : Option Ob := some ⟨138, 2, 1, fun _ => [.sl 1 r.n (rdCells r.f), .lit (.int .i64 r.p)]⟩
def Rd.v (r : Rd) : Nat := if r.p < r.n then r.f r.p else 0
def Rd.nx (r : Rd) : Rd := if r.p < r.n then { r with p := r.p + 1 } else r
def Rd.okw (r : Rd) : Prop := r.n ≤ 1200 ∧ r.p ≤ 2400 ∧ ∀ i, r.f i < 256
theorem Rd.ok.w {r : Rd} (h : r.ok) : r.okw := ⟨h.1, by have := h.1; have := h.2.1; omega, h.2.2⟩
theorem Rd.nx_okw {r : Rd} (h : r.okw) : r.nx.okw := by
 unfold Rd.nx
 split
 ·exact ⟨h.1, by have := h.1; simp only; omega, h.2.2⟩
 ·exact h
theorem Rd.v_ltw {r : Rd} (h : r.okw) : r.v < 256 := by
 unfold Rd.v
 split
 ·exact h.2.2 _
 ·omega
theorem Rd.nx_ok {r : Rd} (h : r.ok) : r.nx.ok := by
 unfold Rd.nx
 split
 ·exact ⟨h.1, by simp only; omega, h.2.2⟩
 ·exact h
theorem Rd.v_lt {r : Rd} (h : r.ok) : r.v < 256 := by
 unfold Rd.v
 split
 ·exact h.2.2 _
 ·omega
theorem rdOut {idx : Nat → Nat} {ks : List Nat} {ty n p : Nat} {f : Nat → Nat} : OutAt idx ks ⟨ty, 2, 1, fun _ => [.sl 1 n (rdCells f), .lit (.int .i64 p)]⟩ (some (some ⟨ty, 2, 1, fun _ => [.sl 1 n (rdCells f), .lit (.int .i64 p)]⟩)) :=
 ⟨rfl, rfl, rfl, fun i hi => ⟨rfl, fun c hc => by
  simp at hc
  rcases hc with rfl | rfl
  ·exact .inr ⟨⟨_, _, _, rfl⟩, .sl _ _ _ fun i c _ h => rdClosed f i c h⟩
  ·exact .inl rfl, fun c hc q hq => by
  simp at hc
  rcases hc with rfl | rfl <;> simp [owns1] at hq⟩⟩
theorem c_nextW (r : Rd) (h : r.okw) : VProc Tryz.prog 53 [.ptr 0 2 0 0] [rdOb r] [] (fun av mem maps => av = .lit (.int .i64 r.v) ∧ mem = [rdOb r.nx] ∧ maps = []) := by
 obtain ⟨n, f, p⟩ := r
 obtain ⟨h1, h2, h3⟩ := h
 simp only at h1 h2 h3
 simp only [rdOb, Rd.v, Rd.nx]
 by_cases hp : p < n
 ·simp only [if_pos hp]
  have e1 := h3 p
  have ew : IntKind.i64.wrap (f p : Int) = f p := wrap_i64 (by omega)
  refine vproc_start Tryz.func53 (by kernel_rfl) rfl (by simp [Tryz.ntmps53]) ?_; simp only [Tryz.ntmps53, Tryz.results53]; simp [go_sem]
  refine vc_drawn [] (.q 0 <| .q 1 <| .q 2 <| .q 3 <| .q 4 <| .q 5 <| .q 6 <| .q 7 <| .q 8 <| .q 9 <| .done) (by kernel_rfl) ?_
  simp [go_sem, hp]
  refine ⟨by omega, ?_⟩
  refine vc_drawn [] (.q 0 <| .q 1 <| .q 2 <| .q 3 <| .q 4 <| .q 5 <| .q 6 <| .q 7 <| .q 8 <| .q 9 <| .q 10 <| .q 11 <| .done) (by kernel_rfl) ?_
  have ep : IntKind.i64.wrap ((p : Int) + 1) = ((p + 1 : Nat) : Int) := wrap_succ (by omega)
  simp [go_sem, hp, rdCells_at, ew, ep]
  refine ⟨rfl, [], [rdOb ⟨n, f, p + 1⟩], by simp, by simp, by simp [go_sem], ?_, by simp [go_sem], ?_⟩
  ·simp [go_sem, rdOb]
   exact rdOut (p := p + 1)
  ·simp [go_sem, rdOb]
 ·simp only [if_neg hp]
  refine vproc_start Tryz.func53 (by kernel_rfl) rfl (by simp [Tryz.ntmps53]) ?_; simp only [Tryz.ntmps53, Tryz.results53]; simp [go_sem]
  refine vc_drawn [] (.q 0 <| .q 1 <| .q 2 <| .q 3 <| .q 4 <| .q 5 <| .q 6 <| .q 7 <| .q 8 <| .q 9 <| .done) (by kernel_rfl) ?_
  simp [go_sem, hp]
  refine ⟨by omega, rfl, [], [rdOb ⟨n, f, p⟩], by simp, by simp, by simp [go_sem], ?_, by simp [go_sem], ?_⟩
  ·simp [go_sem, rdOb]
   exact rdOut
  ·simp [go_sem, rdOb]
theorem c_next (r : Rd) (h : r.ok) : VProc Tryz.prog 53 [.ptr 0 2 0 0] [rdOb r] [] (fun av mem maps => av = .lit (.int .i64 r.v) ∧ mem = [rdOb r.nx] ∧ maps = []) := c_nextW r h.w
theorem c_left (r : Rd) (h : r.ok) : VProc Tryz.prog 139 [.ptr 0 2 0 0] [rdOb r] [] (fun av mem maps => av = .lit (.int .i64 (r.n - r.p : Nat)) ∧ mem = [rdOb r] ∧ maps = []) := by
 obtain ⟨n, f, p⟩ := r
 obtain ⟨h1, h2, h3⟩ := h
 simp only at h1 h2 h3
 simp only [rdOb]
 have ew : IntKind.i64.wrap ((n : Int) - p) = ((n - p : Nat) : Int) := by rw [wrap_i64 (by omega)]; omega
 refine vproc_start Tryz.func139 (by kernel_rfl) rfl (by simp [Tryz.ntmps139]) ?_; simp only [Tryz.ntmps139, Tryz.results139]; simp [go_sem]
 refine vc_drawn [] (.q 0 <| .q 1 <| .q 2 <| .q 3 <| .q 4 <| .q 5 <| .q 6 <| .q 7 <| .q 8 <| .q 9 <| .q 10 <| .done) (by kernel_rfl) ?_
 simp [go_sem, ew]
 refine ⟨by omega, rfl, [], [rdOb ⟨n, f, p⟩], by simp, by simp, by simp [go_sem], ?_, by simp [go_sem], ?_⟩
 ·simp [go_sem, rdOb]
  exact rdOut
 ·simp [go_sem, rdOb]
def rdOf (N : Nat) (f : Nat → Nat) : Rd := ⟨if N ≤ 1200 then N else 1200, f, 0⟩
theorem rdOf_ok (N : Nat) (f : Nat → Nat) (h : ∀ i, f i < 256) : (rdOf N f).ok := by
 refine ⟨?_, Nat.zero_le _, h⟩
 simp only [rdOf]
 split <;> omega
theorem c_l1Open (N : Nat) (f : Nat → Nat) (hN : N ≤ 9223372036854775807) : VProc Tryz.prog 38 [.sl 1 N (rdCells f)] [] [] (fun av mem maps => av = .ptr 0 2 0 0 ∧ mem = [rdOb (rdOf N f)] ∧ maps = []) := by
 by_cases hc : N ≤ 1200
 ·have e : rdOf N f = ⟨N, f, 0⟩ := by simp [rdOf, hc]
  rw [e]
  simp only [rdOb]
  refine vproc_start Tryz.func38 (by kernel_rfl) rfl (by simp [Tryz.ntmps38]) ?_; simp only [Tryz.ntmps38, Tryz.results38]; simp [go_sem]
  refine ⟨by omega, fun h => by omega, fun _ => ?_⟩
  refine ⟨rfl, [0], [rdOb ⟨N, f, 0⟩], by simp, by simp, by simp [go_sem], ?_, by simp [go_sem], ?_⟩
  ·simp [go_sem, rdOb]
   exact rdOut (p := 0)
  ·simp [go_sem, rdOb]
 ·have e : rdOf N f = ⟨1200, f, 0⟩ := by simp [rdOf, hc]
  rw [e]
  simp only [rdOb]
  refine vproc_start Tryz.func38 (by kernel_rfl) rfl (by simp [Tryz.ntmps38]) ?_; simp only [Tryz.ntmps38, Tryz.results38]; simp [go_sem]
  refine ⟨by omega, fun h => ⟨by omega, ?_⟩, fun h => by omega⟩
  refine ⟨rfl, [0], [rdOb ⟨1200, f, 0⟩], by simp, by simp, by simp [go_sem], ?_, by simp [go_sem], ?_⟩
  ·simp [go_sem, rdOb]
   exact rdOut (p := 0)
  ·simp [go_sem, rdOb]
def l1T (k : Nat) : ByteArray := match k % 12 with
 | 0 => ⟨#[43]⟩ | 1 => ⟨#[45]⟩ | 2 => ⟨#[43, 43]⟩ | 3 => ⟨#[42]⟩ | 4 => ⟨#[33]⟩ | 5 => ⟨#[61, 61]⟩ | 6 => ⟨#[43, 43, 43]⟩ | 7 => ⟨#[33, 61]⟩ | 8 => ⟨#[45, 45]⟩ | 9 => ⟨#[94]⟩ | 10 => ⟨#[61, 62]⟩ | _ => ⟨#[63, 58]⟩
theorem tmod_nat (k m : Nat) : (k : Int).tmod m = ((k % m : Nat) : Int) := by rw [Int.tmod_eq_emod_of_nonneg (by omega)]; omega
theorem l1T_size (k : Nat) : (l1T k).size ≤ 3 := by
 unfold l1T
 split <;> decide
theorem c_l1Text (k : Nat) : VFun Tryz.prog 128 [.lit (.int .i64 k)] (fun av obs => obs = [] ∧ av = .lit (.string (l1T k))) := by
 have e := tmod_nat k 12
 have hlt : k % 12 < 12 := Nat.mod_lt _ (by decide)
 unfold l1T
 generalize hm : k % 12 = q at *
 rw [show ((12 : Nat) : Int) = 12 from rfl] at e
 refine vfun_start Tryz.func128 (by kernel_rfl) rfl (by simp [Tryz.ntmps128]) ?_; simp only [Tryz.ntmps128, Tryz.results128]; simp [go_sem]
 rw [e]
 rcases (by omega : q = 0 ∨ q = 1 ∨ q = 2 ∨ q = 3 ∨ q = 4 ∨ q = 5 ∨ q = 6 ∨ q = 7 ∨ q = 8 ∨ q = 9 ∨ q = 10 ∨ q = 11) with h | h | h | h | h | h | h | h | h | h | h | h <;> subst h <;> simp
def drawKS (k : Nat) : Int × Int := if k % 8 < 2 then (1, 0) else if k % 8 = 2 then (3, 0) else (2, 1 + (k / 8 % 3 : Nat))
def drawOp0 (k v : Nat) : POp := ⟨l1T v, (drawKS k).1, 1 + (v / 12 % 6 : Nat), (drawKS k).2⟩
def drawOp1 (k v : Nat) (tidy : Bool) : POp := if tidy then { drawOp0 k v with level := 3 * (v / 12 % 4 : Nat) + sortN (drawOp0 k v) } else drawOp0 k v
def drawOp2 (k v : Nat) (tidy : Bool) : POp := if 250 ≤ k then { drawOp1 k v tidy with level := 997 + sortN (drawOp1 k v tidy) } else drawOp1 k v tidy
def drawOp (r : Rd) (tidy : Bool) : POp := drawOp2 r.v r.nx.v tidy
set_option maxRecDepth 100000 in
theorem c_l1DrawOpW (r : Rd) (hr : r.okw) (tidy : Bool) : VProc Tryz.prog 103 [.ptr 0 2 0 0, .lit (.bool tidy)] [rdOb r] [] (fun av mem maps => av = .agg (drawOp r tidy).cells ∧ mem = [rdOb r.nx.nx] ∧ maps = []) := by
 have cr : ∀ (r : Rd) (i : Nat) (c : AV), i < r.n → c ∈ rdCells r.f i → Closed c := fun r i c _ h => rdClosed r.f i c h
 have c1 := c_nextW r hr
 have c2 := c_nextW r.nx (Rd.nx_okw hr)
 have hk := Rd.v_ltw hr
 have hv := Rd.v_ltw (Rd.nx_okw hr)
 unfold drawOp
 generalize hK : r.v = k at *
 generalize hV : r.nx.v = v at *
 simp only [rdOb, POp.cells] at c1 c2 ⊢
 have c3 := c_l1Text v
 have e1 : (k : Int).tmod 8 = ((k % 8 : Nat) : Int) := tmod_nat k 8
 have e2 : (IntKind.i64.wrap ((k : Int) / 8)).tmod 3 = ((k / 8 % 3 : Nat) : Int) := by rw [wrap_i64 (by omega), show (k : Int) / 8 = ((k / 8 : Nat) : Int) by omega]; exact tmod_nat _ 3
 have e3 : (IntKind.i64.wrap ((v : Int) / 12)).tmod 6 = ((v / 12 % 6 : Nat) : Int) := by rw [wrap_i64 (by omega), show (v : Int) / 12 = ((v / 12 : Nat) : Int) by omega]; exact tmod_nat _ 6
 have e4 : (IntKind.i64.wrap ((v : Int) / 12)).tmod 4 = ((v / 12 % 4 : Nat) : Int) := by rw [wrap_i64 (by omega), show (v : Int) / 12 = ((v / 12 : Nat) : Int) by omega]; exact tmod_nat _ 4
 have ha : k % 8 < 8 := Nat.mod_lt _ (by decide)
 have hb : k / 8 % 3 < 3 := Nat.mod_lt _ (by decide)
 have hc : v / 12 % 6 < 6 := Nat.mod_lt _ (by decide)
 have hd : v / 12 % 4 < 4 := Nat.mod_lt _ (by decide)
 simp only [drawOp2, drawOp1, drawOp0, drawKS]
 generalize k % 8 = a at *
 generalize k / 8 % 3 = b at *
 generalize v / 12 % 6 = c at *
 generalize v / 12 % 4 = d at *
 generalize l1T v = z at *
 have w1 : IntKind.i64.wrap (1 + (b : Int)) = 1 + b := wrap_i64 (by omega)
 have w2 : IntKind.i64.wrap (1 + (c : Int)) = 1 + c := wrap_i64 (by omega)
 have w3 : IntKind.i64.wrap (3 * (d : Int)) = 3 * d := wrap_i64 (by omega)
 have s0 := c_l1Sort
 simp only [POp.cells] at s0
 refine vproc_start Tryz.func103 (by kernel_rfl) rfl (by simp [Tryz.ntmps103]) ?_; simp only [Tryz.ntmps103, Tryz.results103]; simp [go_sem]
 refine vcall_share [0] c1 (by simp) ?_ ?_ trivial ?_
 ·simp [go_sem]
 ·simp [go_sem]
  exact cr r
 ·rintro av mem maps ⟨rfl, rfl, rfl⟩
  simp [go_sem]
  refine vcall_share [0] c2 (by simp) ?_ ?_ trivial ?_
  ·simp [go_sem]
  ·simp [go_sem]
   exact cr r.nx
  ·rintro av mem maps ⟨rfl, rfl, rfl⟩
   simp [go_sem]
   refine vcall_pure c3 ?_ ?_
   ·simp [go_sem]
   ·have fin : ∀ (ts : List (Nat × AV)) (x1 x2 : Option Ob) (o : POp), vendP [] (fun av mem maps => av = .agg [.lit (.string o.text), .lit (.int .i64 o.kind), .lit (.int .i64 o.level), .lit (.int .i64 o.side)] ∧ mem = [some ⟨138, 2, 1, fun _ => [.sl 1 r.nx.nx.n (rdCells r.nx.nx.f), .lit (.int .i64 r.nx.nx.p)]⟩] ∧ maps = []) ⟨ts, [some ⟨138, 2, 1, fun _ => [.sl 1 r.nx.nx.n (rdCells r.nx.nx.f), .lit (.int .i64 r.nx.nx.p)]⟩, x1, x2], [], 1⟩ (.agg [.lit (.string o.text), .lit (.int .i64 o.kind), .lit (.int .i64 o.level), .lit (.int .i64 o.side)]) := by
     intro ts x1 x2 o
     refine ⟨rfl, [], [rdOb r.nx.nx], by simp, by simp, by simp [go_sem], ?_, by simp [go_sem], ?_⟩
     ·simp [go_sem, rdOb]
      exact rdOut
     ·simp [go_sem, rdOb]
    have hks : (a < 2 ∧ (if a < 2 then ((1 : Int), (0 : Int)) else if a = 2 then (3, 0) else (2, 1 + (b : Int))) = (1, 0)) ∨ (¬ a < 2 ∧ a = 2 ∧ (if a < 2 then ((1 : Int), (0 : Int)) else if a = 2 then (3, 0) else (2, 1 + (b : Int))) = (3, 0)) ∨ (¬ a < 2 ∧ ¬ a = 2 ∧ (if a < 2 then ((1 : Int), (0 : Int)) else if a = 2 then (3, 0) else (2, 1 + (b : Int))) = (2, 1 + (b : Int))) := by
     by_cases h1 : a < 2
     ·exact .inl ⟨h1, if_pos h1⟩
     ·by_cases h2 : a = 2
      ·exact .inr (.inl ⟨h1, h2, by rw [if_neg h1, if_pos h2]⟩)
      ·exact .inr (.inr ⟨h1, h2, by rw [if_neg h1, if_neg h2]⟩)
    rcases hks with ⟨h1, hk2⟩ | ⟨h1, h2, hk2⟩ | ⟨h1, h2, hk2⟩
    ·rw [hk2]
     have h1' : (a : Int) < 2 := by omega
     have sN : ∀ lv : Int, sortN ⟨z, 1, lv, 0⟩ = 2 := fun _ => by simp [sortN]
     have w4 : IntKind.i64.wrap (3 * (d : Int) + 2) = 3 * d + 2 := wrap_i64 (by omega)
     have w5 : IntKind.i64.wrap (997 + 2) = 997 + 2 := wrap_i64 (by omega)
     by_cases h5 : 250 ≤ k
     ·have h5' : (250 : Int) ≤ k := by omega
      cases tidy with
      | true =>
       simp [go_sem, e1, e2, e3, e4, w1, w2, w3, h1, h1', h5, h5', sN]
       refine vcall_pure (s0 ⟨z, 1, 1 + c, 0⟩) ?_ ?_
       ·simp [go_sem]
       ·simp [go_sem, sN, w4, h5']
        refine vcall_pure (s0 ⟨z, 1, 3 * d + 2, 0⟩) ?_ ?_
        ·simp [go_sem]
        ·simp [go_sem, sN, w5]
         exact fin _ _ _ ⟨z, 1, 997 + 2, 0⟩
      | false =>
       simp [go_sem, e1, e2, e3, e4, w1, w2, w3, h1, h1', h5, h5', sN]
       refine vcall_pure (s0 ⟨z, 1, 1 + c, 0⟩) ?_ ?_
       ·simp [go_sem]
       ·simp [go_sem, sN, w5]
        exact fin _ _ _ ⟨z, 1, 997 + 2, 0⟩
     ·have h5' : ¬ (250 : Int) ≤ k := by omega
      cases tidy with
      | true =>
       simp [go_sem, e1, e2, e3, e4, w1, w2, w3, h1, h1', h5, h5', sN]
       refine vcall_pure (s0 ⟨z, 1, 1 + c, 0⟩) ?_ ?_
       ·simp [go_sem]
       ·simp [go_sem, sN, w4, h5']
        exact fin _ _ _ ⟨z, 1, 3 * d + 2, 0⟩
      | false =>
       simp [go_sem, e1, e2, e3, e4, w1, w2, w3, h1, h1', h5, h5', sN]
       exact fin _ _ _ ⟨z, 1, 1 + c, 0⟩
    ·rw [hk2]
     have h1' : ¬ (a : Int) < 2 := by omega
     have h2' : (a : Int) = 2 := by omega
     have sN : ∀ lv : Int, sortN ⟨z, 3, lv, 0⟩ = 1 := fun _ => by simp [sortN]
     have w4 : IntKind.i64.wrap (3 * (d : Int) + 1) = 3 * d + 1 := wrap_i64 (by omega)
     have w5 : IntKind.i64.wrap (997 + 1) = 997 + 1 := wrap_i64 (by omega)
     by_cases h5 : 250 ≤ k
     ·have h5' : (250 : Int) ≤ k := by omega
      cases tidy with
      | true =>
       simp [go_sem, e1, e2, e3, e4, w1, w2, w3, h1, h1', h2, h2', h5, h5', sN]
       refine vcall_pure (s0 ⟨z, 3, 1 + c, 0⟩) ?_ ?_
       ·simp [go_sem]
       ·simp [go_sem, sN, w4, h5']
        refine vcall_pure (s0 ⟨z, 3, 3 * d + 1, 0⟩) ?_ ?_
        ·simp [go_sem]
        ·simp [go_sem, sN, w5]
         exact fin _ _ _ ⟨z, 3, 997 + 1, 0⟩
      | false =>
       simp [go_sem, e1, e2, e3, e4, w1, w2, w3, h1, h1', h2, h2', h5, h5', sN]
       refine vcall_pure (s0 ⟨z, 3, 1 + c, 0⟩) ?_ ?_
       ·simp [go_sem]
       ·simp [go_sem, sN, w5]
        exact fin _ _ _ ⟨z, 3, 997 + 1, 0⟩
     ·have h5' : ¬ (250 : Int) ≤ k := by omega
      cases tidy with
      | true =>
       simp [go_sem, e1, e2, e3, e4, w1, w2, w3, h1, h1', h2, h2', h5, h5', sN]
       refine vcall_pure (s0 ⟨z, 3, 1 + c, 0⟩) ?_ ?_
       ·simp [go_sem]
       ·simp [go_sem, sN, w4, h5']
        exact fin _ _ _ ⟨z, 3, 3 * d + 1, 0⟩
      | false =>
       simp [go_sem, e1, e2, e3, e4, w1, w2, w3, h1, h1', h2, h2', h5, h5', sN]
       exact fin _ _ _ ⟨z, 3, 1 + c, 0⟩
    ·rw [hk2]
     have h1' : ¬ (a : Int) < 2 := by omega
     have h2' : ¬ (a : Int) = 2 := by omega
     have sN : ∀ lv : Int, sortN ⟨z, 2, lv, (1 + b)⟩ = (1 + b) := fun _ => by simp [sortN]
     have w4 : IntKind.i64.wrap (3 * (d : Int) + (1 + b)) = 3 * d + (1 + b) := wrap_i64 (by omega)
     have w5 : IntKind.i64.wrap (997 + (1 + b)) = 997 + (1 + b) := wrap_i64 (by omega)
     by_cases h5 : 250 ≤ k
     ·have h5' : (250 : Int) ≤ k := by omega
      cases tidy with
      | true =>
       simp [go_sem, e1, e2, e3, e4, w1, w2, w3, h1, h1', h2, h2', h5, h5', sN]
       refine vcall_pure (s0 ⟨z, 2, 1 + c, (1 + b)⟩) ?_ ?_
       ·simp [go_sem]
       ·simp [go_sem, sN, w4, h5']
        refine vcall_pure (s0 ⟨z, 2, 3 * d + (1 + b), (1 + b)⟩) ?_ ?_
        ·simp [go_sem]
        ·simp [go_sem, sN, w5]
         exact fin _ _ _ ⟨z, 2, 997 + (1 + b), (1 + b)⟩
      | false =>
       simp [go_sem, e1, e2, e3, e4, w1, w2, w3, h1, h1', h2, h2', h5, h5', sN]
       refine vcall_pure (s0 ⟨z, 2, 1 + c, (1 + b)⟩) ?_ ?_
       ·simp [go_sem]
       ·simp [go_sem, sN, w5]
        exact fin _ _ _ ⟨z, 2, 997 + (1 + b), (1 + b)⟩
     ·have h5' : ¬ (250 : Int) ≤ k := by omega
      cases tidy with
      | true =>
       simp [go_sem, e1, e2, e3, e4, w1, w2, w3, h1, h1', h2, h2', h5, h5', sN]
       refine vcall_pure (s0 ⟨z, 2, 1 + c, (1 + b)⟩) ?_ ?_
       ·simp [go_sem]
       ·simp [go_sem, sN, w4, h5']
        exact fin _ _ _ ⟨z, 2, 3 * d + (1 + b), (1 + b)⟩
      | false =>
       simp [go_sem, e1, e2, e3, e4, w1, w2, w3, h1, h1', h2, h2', h5, h5', sN]
       exact fin _ _ _ ⟨z, 2, 1 + c, (1 + b)⟩
theorem c_l1DrawOp (r : Rd) (hr : r.ok) (tidy : Bool) : VProc Tryz.prog 103 [.ptr 0 2 0 0, .lit (.bool tidy)] [rdOb r] [] (fun av mem maps => av = .agg (drawOp r tidy).cells ∧ mem = [rdOb r.nx.nx] ∧ maps = []) := c_l1DrawOpW r hr.w tidy
theorem drawOp_wf (r : Rd) (tidy : Bool) : (drawOp r tidy).wf := by
 have h := l1T_size r.nx.v
 have e : (drawOp r tidy).text = l1T r.nx.v := by
  simp only [drawOp, drawOp2, drawOp1, drawOp0]
  split <;> split <;> rfl
 unfold POp.wf
 rw [e]
 simp only [maxLen]
 omega
def tabStep (p : List POp × Rd) : List POp × Rd := (if tblOk (p.1 ++ [drawOp p.2 true]) = 0 then p.1 ++ [drawOp p.2 true] else p.1, p.2.nx.nx)
def tabRun : Nat → List POp × Rd → List POp × Rd
 | 0, p => p
 | i + 1, p => tabStep (tabRun i p)
theorem tabRun_len (p : Rd) : ∀ i, (tabRun i ([], p)).1.length ≤ i
 | 0 => Nat.le_refl _
 | i + 1 => by
  have := tabRun_len p i
  simp only [tabRun, tabStep]
  split <;> simp <;> omega
theorem tabRun_ok {p : Rd} (h : p.ok) : ∀ i, (tabRun i ([], p)).2.ok
 | 0 => h
 | i + 1 => Rd.nx_ok (Rd.nx_ok (tabRun_ok h i))
theorem tabRun_wf (p : Rd) : ∀ i, ∀ o, o ∈ (tabRun i ([], p)).1 → o.wf
 | 0 => fun o h => by simp [tabRun] at h
 | i + 1 => fun o h => by
  simp only [tabRun, tabStep] at h
  split at h
  ·rcases List.mem_append.1 h with h | h
   ·exact tabRun_wf p i o h
   ·simp only [List.mem_singleton] at h
    rw [h]; exact drawOp_wf _ _
  ·exact tabRun_wf p i o h
def drawTab (r : Rd) : List POp × Rd := tabRun (3 + r.v % 8) ([], r.nx)
set_option maxRecDepth 100000 in
theorem c_l1DrawTable (r : Rd) (hr : r.ok) : VProc Tryz.prog 63 [.ptr 0 2 0 0] [rdOb r] [] (fun av mem maps => av = .agg [.own 1] ∧ mem = [rdOb (drawTab r).2, some ⟨133, 4, (drawTab r).1.length, opCells (drawTab r).1⟩] ∧ maps = []) := by
 have cr : ∀ (r : Rd) (i : Nat) (c : AV), i < r.n → c ∈ rdCells r.f i → Closed c := fun r i c _ h => rdClosed r.f i c h
 have c1 := c_next r hr
 have hk := Rd.v_lt hr
 have hn := Rd.nx_ok hr
 unfold drawTab
 generalize hK : r.v = k at *
 have e1 : (k : Int).tmod 8 = ((k % 8 : Nat) : Int) := tmod_nat k 8
 have ha : k % 8 < 8 := Nat.mod_lt _ (by decide)
 generalize k % 8 = a at *
 have w1 : IntKind.i64.wrap (3 + (a : Int)) = ((3 + a : Nat) : Int) := by rw [wrap_i64 (by omega)]; omega
 simp only [rdOb] at c1 ⊢
 refine vproc_start Tryz.func63 (by kernel_rfl) rfl (by simp [Tryz.ntmps63]) ?_; simp only [Tryz.ntmps63, Tryz.results63]; simp [go_sem]
 refine vcall_share [0] c1 (by simp) ?_ ?_ trivial ?_
 ·simp [go_sem]
 ·simp [go_sem]
  exact cr r
 ·rintro av mem maps ⟨rfl, rfl, rfl⟩
  simp [go_sem, e1]
  refine vc_loopE (fun i : Nat => i ≤ 3 + a) (fun i => 3 + a - i) (fun i => ⟨[(0, .ptr 0 2 0 0), (2, .ptr 1 1 0 0), (3, .lit (.int .i64 (3 + a : Nat))), (4, .ptr 2 1 0 0), (5, .lit (.int .i64 i))], [rdOb (tabRun i ([], r.nx)).2, some ⟨30, 1, 1, fun _ => [.lit (.slice none 0 0)]⟩, some ⟨30, 1, 1, fun _ => [.own 3]⟩, some ⟨133, 4, (tabRun i ([], r.nx)).1.length, opCells (tabRun i ([], r.nx)).1⟩], [], 1⟩) ⟨0, by omega, ?_⟩ (fun i hi => ?_)
  ·refine ent_ks [0, 1, 3, 2] (by simp) (by simp) (by simp) (by decide) (by simp [go_sem]) ?_ ?_
   ·simp [go_sem, w1]
   ·simp [go_sem, rdOb, tabRun]
    exact fun i c h1 h2 => rdClosed _ _ _ h2
  ·have hq := tabRun_ok hn i
   have hlen := tabRun_len r.nx i
   have hwf := tabRun_wf r.nx i
   have hst : tabRun (i + 1) ([], r.nx) = tabStep (tabRun i ([], r.nx)) := rfl
   have hfin : i = 3 + a → tabRun i ([], r.nx) = tabRun (3 + a) ([], r.nx) := fun e => by rw [e]
   generalize hT : tabRun i ([], r.nx) = TQ at *
   obtain ⟨T, q⟩ := TQ
   simp only at hq hlen hwf
   have c2 := c_l1DrawOp q hq true
   have howf := drawOp_wf q true
   simp only [tabStep] at hst
   generalize hO : drawOp q true = o at *
   have hw2 : opsWf (T ++ [o]) := by
    intro j hj
    have hm : opAt (T ++ [o]) j ∈ T ++ [o] := by
     unfold opAt
     rw [List.getD_eq_getElem?_getD, List.getElem?_eq_getElem hj]
     exact List.getElem_mem hj
    rcases List.mem_append.1 hm with h | h
    ·exact hwf _ h
    ·simp only [List.mem_singleton] at h
     rw [h]; exact howf
   have c3 := c_specTableOk (T ++ [o]) (by simp; omega) hw2
   simp only [rdOb, POp.cells] at c2 ⊢
   simp [go_sem]
   refine ⟨fun hlt => ⟨by omega, by omega, ?_⟩, fun hge => ?_⟩
   ·refine vcall_share [0] c2 (by simp) ?_ ?_ trivial ?_
    ·simp [go_sem]
    ·simp [go_sem]
     exact cr q
    ·rintro av mem maps ⟨rfl, rfl, rfl⟩
     have eqrow : ∀ (g h : Nat → List AV), h 0 = o.cells → ∀ j, j < T.length + 1 → joinF T.length (joinF 0 g (opCells T)) h j = opCells (T ++ [o]) j := fun g h hh j hj => by
      rw [← opCells_one T o j hj]
      unfold joinF
      by_cases hl : j < T.length
      ·simp [hl]
      ·have e0 : j - T.length = 0 := by omega
       rw [if_neg hl, if_neg hl, e0, hh]
     simp [go_sem]
     refine ⟨by omega, by omega, vcall_pure c3 ?_ ?_⟩
     ·simp [go_sem]
      exact ⟨by omega, _, rfl, fun j hj => ⟨eqrow (fun _ => []) (fun i => [o.cells][i]?.getD []) rfl j (by simpa using hj), fun c hc => opClosed _ _ _ hc⟩⟩
     ·by_cases h0 : tblOk (T ++ [o]) = 0
      ·rw [if_pos h0] at hst
       simp [go_sem, h0]
       refine ⟨i + 1, by omega, by omega, ?_⟩
       refine ent_ks [0, 1, 2, 7] (by simp) (by simp) (by simp) (by decide) (by simp [go_sem]) ?_ ?_
       ·simp [go_sem]
        exact wrap_succ (by omega)
       ·simp [go_sem, hst]
        exact ⟨fun j c h1 h2 => rdClosed _ _ _ h2, .inr fun j hj => by
         show CellsRn _ _ (joinF T.length (joinF 0 (fun _ => []) (opCells T)) (fun i => [o.cells][i]?.getD []) j) _
         rw [eqrow (fun _ => []) (fun i => [o.cells][i]?.getD []) rfl j hj]
         exact cellsRn_lits (opLit _ j)⟩
      ·rw [if_neg h0] at hst
       simp [go_sem, h0]
       refine ⟨i + 1, by omega, by omega, ?_⟩
       refine ent_ks [0, 1, 2, 3] (by simp) (by simp) (by simp) (by decide) (by simp [go_sem]) ?_ ?_
       ·simp [go_sem]
        exact wrap_succ (by omega)
       ·simp [go_sem, hst]
        exact ⟨fun j c h1 h2 => rdClosed _ _ _ h2, .inr fun j hj => cellsRn_lits (opLit _ j)⟩
   ·have ei : i = 3 + a := by omega
    have hR := hfin ei
    rw [← hR]
    refine ⟨rfl, [3], [rdOb q, some ⟨133, 4, T.length, opCells T⟩], by simp, by simp, by simp [go_sem], ?_, by simp [go_sem], ?_⟩
    ·simp [go_sem, rdOb]
     exact ⟨rdOut, outAt_lits (fun _ _ => rfl) (fun j _ => opLit _ j)⟩
    ·simp [go_sem, rdOb]
def leafN (k : Nat) : PNode := if k % 2 = 0 then ⟨(⟨#[97, 98, 99, 100, 95, 57]⟩ : ByteArray).extract (k / 2 % 4) (k / 2 % 4 + 1 + k / 8 % 3), 2, 0, 0⟩ else ⟨(⟨#[48, 49, 55, 50]⟩ : ByteArray).extract (k / 2 % 4) 4, 1, 0, 0⟩
theorem div_small {k a : Nat} (h : k < 1000000) : IntKind.i64.wrap ((k : Int) / (a : Int)) = ((k / a : Nat) : Int) := by
 have h1 : k / a ≤ k := Nat.div_le_self k a
 have h2 : (k : Int) / (a : Int) = ((k / a : Nat) : Int) := by simp
 rw [h2]
 generalize k / a = q at *
 exact wrap_i64 (by omega)
theorem quo_rem (k a m : Nat) (h : k < 1000000) : (IntKind.i64.wrap ((k : Int) / (a : Int))).tmod (m : Int) = ((k / a % m : Nat) : Int) := by
 rw [div_small h]; exact tmod_nat _ _
theorem c_l3Leaf (r : Rd) (hr : r.ok) (out : List PNode) (ho : out.length ≤ 1000000) : VProc Tryz.prog 140 [.ptr 0 2 0 0, .own 1] [rdOb r, nodRow out] [] (fun av mem maps => av = .own 2 ∧ mem = [rdOb r.nx, none, nodRow (out ++ [leafN r.v])] ∧ maps = []) := by
 have cr : ∀ (r : Rd) (i : Nat) (c : AV), i < r.n → c ∈ rdCells r.f i → Closed c := fun r i c _ h => rdClosed r.f i c h
 have c1 := c_next r hr
 have hk := Rd.v_lt hr
 generalize hK : r.v = k at *
 have e2 : (k : Int).tmod 2 = ((k % 2 : Nat) : Int) := tmod_nat k 2
 have m4 : (IntKind.i64.wrap ((k : Int) / 2)).tmod 4 = ((k / 2 % 4 : Nat) : Int) := quo_rem k 2 4 (by omega)
 have m3 : (IntKind.i64.wrap ((k : Int) / 8)).tmod 3 = ((k / 8 % 3 : Nat) : Int) := quo_rem k 8 3 (by omega)
 have b4 : k / 2 % 4 < 4 := Nat.mod_lt _ (by decide)
 have b3 : k / 8 % 3 < 3 := Nat.mod_lt _ (by decide)
 have b2 : k % 2 < 2 := Nat.mod_lt _ (by decide)
 unfold leafN
 generalize k / 2 % 4 = x at *
 generalize k / 8 % 3 = y at *
 generalize k % 2 = u at *
 have w1 : IntKind.i64.wrap ((x : Int) + 1) = ((x + 1 : Nat) : Int) := wrap_succ (by omega)
 have w2 : IntKind.i64.wrap ((x : Int) + 1 + (y : Int)) = ((x + 1 + y : Nat) : Int) := by rw [wrap_i64 (by omega)]; omega
 have eN : ((x : Int) + 1 + (y : Int)).toNat = x + 1 + y := by omega
 simp only [rdOb, nodRow] at c1 ⊢
 refine vproc_start Tryz.func140 (by kernel_rfl) rfl (by simp [Tryz.ntmps140]) ?_; simp only [Tryz.ntmps140, Tryz.results140]; simp [go_sem]
 refine vcall_share [0] c1 (by simp) ?_ ?_ trivial ?_
 ·simp [go_sem]
 ·simp [go_sem]
  exact cr r
 ·rintro av mem maps ⟨rfl, rfl, rfl⟩
  by_cases h2 : u = 0
  ·subst h2
   simp [go_sem, e2, m4, m3, w1, w2, eN]
   refine ⟨by omega, by omega, by omega, by omega, rfl, [3], [rdOb r.nx, none, nodRow (out ++ [⟨(⟨#[97, 98, 99, 100, 95, 57]⟩ : ByteArray).extract x (x + 1 + y), 2, 0, 0⟩])], by simp, by simp, by simp [go_sem], ?_, by simp [go_sem], ?_⟩
   ·simp [go_sem, rdOb, nodRow]
    refine ⟨rdOut, ?_⟩
    exact outAt_lits (fun j hj => nod_app out ⟨(⟨#[97, 98, 99, 100, 95, 57]⟩ : ByteArray).extract x (x + 1 + y), 2, 0, 0⟩ j hj) (fun j _ => nodLit _ j)
   ·simp [go_sem, rdOb, nodRow]
  ·have h2' : ¬ (u : Int) = 0 := by omega
   simp only [if_neg h2]
   simp [go_sem, e2, h2, h2', m4, m3, w1, w2, eN]
   refine ⟨by omega, by omega, by omega, rfl, [3], [rdOb r.nx, none, nodRow (out ++ [⟨(⟨#[48, 49, 55, 50]⟩ : ByteArray).extract x 4, 1, 0, 0⟩])], by simp, by simp, by simp [go_sem], ?_, by simp [go_sem], ?_⟩
   ·simp [go_sem, rdOb, nodRow]
    refine ⟨rdOut, ?_⟩
    exact outAt_lits (fun j hj => nod_app out ⟨(⟨#[48, 49, 55, 50]⟩ : ByteArray).extract x 4, 1, 0, 0⟩ j hj) (fun j _ => nodLit _ j)
   ·simp [go_sem, rdOb, nodRow]
def tab (l : List POp) : Option Ob := some ⟨133, 4, l.length, opCells l⟩
theorem u8cell {b : Nat} (hb : b < 256) : [AV.lit (.int .u8 (IntKind.u8.wrap (b : Int)))] = byteCells ⟨#[UInt8.ofNat b]⟩ 0 := by
 have e : IntKind.u8.wrap (b : Int) = b := by
  have h8 : IntKind.u8.bits = 8 := rfl
  simp only [IntKind.wrap, h8]
  simp [IntKind.signed]
  omega
 have h2 : byteAt ⟨#[UInt8.ofNat b]⟩ 0 = ((UInt8.ofNat b).toNat : Int) := rfl
 rw [e]
 unfold byteCells
 rw [h2]
 simp
 omega
def grpN (n : Nat) : PNode := ⟨⟨#[]⟩, 6, (n : Int) - 1, 0⟩
def opN (o : POp) (a b : Int) : PNode := ⟨o.text, o.kind + 2, a, b⟩
def genN (l : List POp) (g : Bool) : Nat → Rd → List PNode → List PNode × Rd
 | 0, r, out => (out ++ [leafN r.nx.v], r.nx.nx)
 | d + 1, r, out =>
  if r.nx.n ≤ r.nx.p ∨ r.v % 8 = 0 ∨ l.length = 0 then (out ++ [leafN r.nx.v], r.nx.nx)
  else if g = true ∧ r.v % 8 = 1 then ((genN l g d r.nx out).1 ++ [grpN (genN l g d r.nx out).1.length], (genN l g d r.nx out).2)
  else if (opAt l (r.v / 8 % l.length)).kind = 2 then
   ((genN l g d (genN l g d r.nx out).2 (genN l g d r.nx out).1).1 ++ [opN (opAt l (r.v / 8 % l.length)) (((genN l g d r.nx out).1.length : Int) - 1) (((genN l g d (genN l g d r.nx out).2 (genN l g d r.nx out).1).1.length : Int) - 1)], (genN l g d (genN l g d r.nx out).2 (genN l g d r.nx out).1).2)
  else ((genN l g d r.nx out).1 ++ [opN (opAt l (r.v / 8 % l.length)) (((genN l g d r.nx out).1.length : Int) - 1) 0], (genN l g d r.nx out).2)
theorem gen_len (l : List POp) (g : Bool) : ∀ (d : Nat) (r : Rd) (out : List PNode), out.length < (genN l g d r out).1.length ∧ (genN l g d r out).1.length + 1 ≤ out.length + 2 ^ (d + 1)
 | 0, r, out => by simp [genN]
 | d + 1, r, out => by
  have h1 := gen_len l g d r.nx out
  have h2 := gen_len l g d (genN l g d r.nx out).2 (genN l g d r.nx out).1
  have e : 2 ^ (d + 1 + 1) = 2 * 2 ^ (d + 1) := by rw [Nat.pow_succ]; omega
  have p := Nat.one_le_two_pow (n := d)
  have e0 : 2 ^ (d + 1) = 2 * 2 ^ d := by rw [Nat.pow_succ]; omega
  rw [genN]
  split
  ·simp; omega
  ·split
   ·simp; omega
   ·split
    ·simp; omega
    ·simp; omega
theorem gen_ok {l : List POp} {g : Bool} : ∀ (d : Nat) (r : Rd) (out : List PNode), r.ok → (genN l g d r out).2.ok
 | 0, r, out, h => Rd.nx_ok (Rd.nx_ok h)
 | d + 1, r, out, h => by
  have h1 := gen_ok (l := l) (g := g) d r.nx out (Rd.nx_ok h)
  have h2 := gen_ok (l := l) (g := g) d (genN l g d r.nx out).2 (genN l g d r.nx out).1 h1
  rw [genN]
  split
  ·exact Rd.nx_ok (Rd.nx_ok h)
  ·split
   ·exact h1
   ·split
    ·exact h2
    ·exact h1
def KindsSm (l : List POp) : Prop := ∀ i, i < l.length → 0 ≤ (opAt l i).kind ∧ (opAt l i).kind ≤ 100
set_option maxRecDepth 100000 in
theorem c_l3Gen (l : List POp) (hl : l.length ≤ 1000) (hk : KindsSm l) (g : Bool) : ∀ (d : Nat) (r : Rd) (out : List PNode), d ≤ 10 → r.ok → out.length + 2 ^ (d + 1) ≤ 1000000 → VProc Tryz.prog 115 [.ptr 0 2 0 0, .agg [.own 1], .lit (.int .i64 d), .lit (.bool g), .own 2] [rdOb r, tab l, nodRow out] [] (fun av mem maps => av = .own 3 ∧ mem = [rdOb (genN l g d r out).2, tab l, none, nodRow (genN l g d r out).1] ∧ maps = []) := by
 have cr : ∀ (r : Rd) (i : Nat) (c : AV), i < r.n → c ∈ rdCells r.f i → Closed c := fun r i c _ h => rdClosed r.f i c h
 intro d
 induction d with
 | zero =>
  intro r out hd hr ho
  have c1 := c_next r hr
  have c2 := c_l3Leaf r.nx (Rd.nx_ok hr) out (by omega)
  simp only [rdOb, tab, nodRow, genN] at c1 c2 ⊢
  refine vproc_start Tryz.func115 (by kernel_rfl) rfl (by simp [Tryz.ntmps115]) ?_; simp only [Tryz.ntmps115, Tryz.results115]; simp [go_sem]
  refine vcall_share [0] c1 (by simp) ?_ ?_ trivial ?_
  ·simp [go_sem]
  ·simp [go_sem]
   exact cr r
  ·rintro av mem maps ⟨rfl, rfl, rfl⟩
   simp [go_sem]
   refine vcall_share [0, 2] c2 (by simp) ?_ ?_ trivial ?_
   ·simp [go_sem]
   ·simp [go_sem]
    exact ⟨cr r.nx, fun i _ => cellsRn_lits (nodLit _ i)⟩
   ·rintro av mem maps ⟨rfl, rfl, rfl⟩
    simp [go_sem]
    refine ⟨rfl, [4], [rdOb r.nx.nx, tab l, none, nodRow (out ++ [leafN r.nx.v])], by simp, by simp, by simp [go_sem], ?_, by simp [go_sem], ?_⟩
    ·simp [go_sem, rdOb, tab, nodRow]
     exact ⟨rdOut, outAt_lits (fun _ _ => rfl) (fun j _ => opLit _ j), outAt_lits (fun _ _ => rfl) (fun j _ => nodLit _ j)⟩
    ·simp [go_sem, rdOb, tab, nodRow]
 | succ d ih =>
  intro r out hd hr ho
  have hn := Rd.nx_ok hr
  have c1 := c_next r hr
  have p2 := Nat.one_le_two_pow (n := d + 1 + 1)
  have c2 := c_l3Leaf r.nx hn out (by omega)
  have c3 := c_left r.nx hn
  have hv := Rd.v_lt hr
  have e8 := tmod_nat r.v 8
  rw [show ((8 : Nat) : Int) = 8 from rfl] at e8
  have b8 : r.v % 8 < 8 := Nat.mod_lt _ (by decide)
  have hd0 : ¬ ((d : Int) + 1 = 0) := by omega
  obtain ⟨Q, hQ⟩ : ∃ Q, genN l g (d + 1) r out = Q := ⟨_, rfl⟩
  rw [hQ]
  rw [genN] at hQ
  simp only [rdOb, tab, nodRow] at c1 c2 c3 ⊢
  refine vproc_start Tryz.func115 (by kernel_rfl) rfl (by simp [Tryz.ntmps115]) ?_; simp only [Tryz.ntmps115, Tryz.results115]; simp [go_sem]
  refine vcall_share [0] c1 (by simp) ?_ ?_ trivial ?_
  ·simp [go_sem]
  ·simp [go_sem]
   exact cr r
  ·rintro av mem maps ⟨rfl, rfl, rfl⟩
   simp [go_sem, hd0]
   refine vcall_share [0] c3 (by simp) ?_ ?_ trivial ?_
   ·simp [go_sem]
   ·simp [go_sem]
    exact cr r.nx
   ·rintro av mem maps ⟨rfl, rfl, rfl⟩
    by_cases hc1 : r.nx.n ≤ r.nx.p
    ·have e1 : r.nx.n - r.nx.p = 0 := by omega
     rw [if_pos (.inl hc1)] at hQ
     subst hQ
     simp [go_sem, e1]
     refine vcall_share [0, 2] c2 (by simp) ?_ ?_ trivial ?_
     ·simp [go_sem]
     ·simp [go_sem]
      exact ⟨cr r.nx, fun i _ => cellsRn_lits (nodLit _ i)⟩
     ·rintro av mem maps ⟨rfl, rfl, rfl⟩
      simp [go_sem]
      refine ⟨rfl, [4], [rdOb r.nx.nx, tab l, none, nodRow (out ++ [leafN r.nx.v])], by simp, by simp, by simp [go_sem], ?_, by simp [go_sem], ?_⟩
      ·simp [go_sem, rdOb, tab, nodRow]
       exact ⟨rdOut, outAt_lits (fun _ _ => rfl) (fun j _ => opLit _ j), outAt_lits (fun _ _ => rfl) (fun j _ => nodLit _ j)⟩
      ·simp [go_sem, rdOb, tab, nodRow]
    ·have e1 : ¬ (r.nx.n - r.nx.p = 0) := by omega
     by_cases hc2 : r.v % 8 = 0
     ·have h2' : (r.v : Int).tmod 8 = 0 := by rw [e8, hc2]; rfl
      rw [if_pos (.inr (.inl hc2))] at hQ
      subst hQ
      simp [go_sem, e1, h2']
      refine vcall_share [0, 2] c2 (by simp) ?_ ?_ trivial ?_
      ·simp [go_sem]
      ·simp [go_sem]
       exact ⟨cr r.nx, fun i _ => cellsRn_lits (nodLit _ i)⟩
      ·rintro av mem maps ⟨rfl, rfl, rfl⟩
       simp [go_sem]
       refine ⟨rfl, [4], [rdOb r.nx.nx, tab l, none, nodRow (out ++ [leafN r.nx.v])], by simp, by simp, by simp [go_sem], ?_, by simp [go_sem], ?_⟩
       ·simp [go_sem, rdOb, tab, nodRow]
        exact ⟨rdOut, outAt_lits (fun _ _ => rfl) (fun j _ => opLit _ j), outAt_lits (fun _ _ => rfl) (fun j _ => nodLit _ j)⟩
       ·simp [go_sem, rdOb, tab, nodRow]
     ·have h2' : ¬ (r.v : Int).tmod 8 = 0 := by rw [e8]; omega
      by_cases hc3 : l.length = 0
      ·rw [if_pos (.inr (.inr hc3))] at hQ
       subst hQ
       have hc3' : l = [] := List.eq_nil_of_length_eq_zero hc3
       simp [go_sem, e1, h2']
       refine ⟨by omega, fun _ => ?_, fun h => absurd hc3' h⟩
       refine vcall_share [0, 2] c2 (by simp) ?_ ?_ trivial ?_
       ·simp [go_sem]
       ·simp [go_sem]
        exact ⟨cr r.nx, fun i _ => cellsRn_lits (nodLit _ i)⟩
       ·rintro av mem maps ⟨rfl, rfl, rfl⟩
        simp [go_sem]
        refine ⟨rfl, [4], [rdOb r.nx.nx, tab l, none, nodRow (out ++ [leafN r.nx.v])], by simp, by simp, by simp [go_sem], ?_, by simp [go_sem], ?_⟩
        ·simp [go_sem, rdOb, tab, nodRow]
         exact ⟨rdOut, outAt_lits (fun _ _ => rfl) (fun j _ => opLit _ j), outAt_lits (fun _ _ => rfl) (fun j _ => nodLit _ j)⟩
        ·simp [go_sem, rdOb, tab, nodRow]
      ·rw [if_neg (by rintro (h | h | h) <;> omega)] at hQ
       have hc3' : ¬ l = [] := fun e => hc3 (by rw [e]; rfl)
       have hp := gen_len l g d r.nx out
       have hgo := gen_ok (l := l) (g := g) d r.nx out hn
       have e0 : 2 ^ (d + 1 + 1) = 2 * 2 ^ (d + 1) := by rw [Nat.pow_succ]; omega
       have ih1 := ih r.nx out (by omega) hn (by omega)
       have ed : IntKind.i64.wrap (d : Int) = d := wrap_i64 (by omega)
       have cont1 : r.v % 8 = 1 → (r.v : Int).tmod 8 = 1 := fun h => by rw [e8, h]; rfl
       have cont2 : r.v % 8 ≠ 1 → ¬ (r.v : Int).tmod 8 = 1 := fun h => by rw [e8]; omega
       generalize genN l g d r.nx out = q at *
       have wq : IntKind.i64.wrap ((q.1.length : Int) - 1) = (q.1.length : Int) - 1 := wrap_i64 (by omega)
       simp only [rdOb, tab, nodRow] at ih1
       by_cases hc4 : g = true ∧ r.v % 8 = 1
       ·rw [if_pos hc4] at hQ
        subst hQ
        obtain ⟨hg, h1⟩ := hc4
        have h1' := cont1 h1
        simp [go_sem, e1, hc3', hg, h1', ed]
        rw [hg] at ih1
        refine ⟨by omega, ?_⟩
        refine vcall_share [0, 1, 2] ih1 (by simp) ?_ ?_ trivial ?_
        ·simp [go_sem]
        ·simp [go_sem]
         exact ⟨cr r.nx, fun i _ => cellsRn_lits (opLit _ i), fun i _ => cellsRn_lits (nodLit _ i)⟩
        ·rintro av mem maps ⟨rfl, rfl, rfl⟩
         simp [go_sem, wq]
         refine ⟨by omega, by omega, by omega, ?_⟩
         refine ⟨rfl, [6], [rdOb q.2, tab l, none, nodRow (q.1 ++ [grpN q.1.length])], by simp, by simp, by simp [go_sem], ?_, by simp [go_sem], ?_⟩
         ·simp [go_sem, rdOb, tab, nodRow]
          exact ⟨rdOut, outAt_lits (fun _ _ => rfl) (fun j _ => opLit _ j), outAt_lits (fun j hj => nod_app q.1 (grpN q.1.length) j hj) (fun j _ => nodLit _ j)⟩
         ·simp [go_sem, rdOb, tab, nodRow]
       ·rw [if_neg hc4] at hQ
        have ex : (IntKind.i64.wrap ((r.v : Int) / 8)).tmod l.length = ((r.v / 8 % l.length : Nat) : Int) := quo_rem r.v 8 l.length (by omega)
        have hx : r.v / 8 % l.length < l.length := Nat.mod_lt _ (by omega)
        have hkx := hk _ hx
        generalize r.v / 8 % l.length = x at *
        have wk : IntKind.i64.wrap ((opAt l x).kind + 2) = (opAt l x).kind + 2 := wrap_i64 (by omega)
        have hgc : g = false ∨ (g = true ∧ ¬ (r.v : Int).tmod 8 = 1) := by
         cases g with
         | false => exact .inl rfl
         | true => exact .inr ⟨rfl, cont2 fun h => hc4 ⟨rfl, h⟩⟩
        rcases hgc with hg | ⟨hg, h1'⟩
        case' inl => simp [go_sem, e1, h2', hc3', hg]
        case' inr => simp [go_sem, e1, h2', hc3', hg, h1']
        all_goals
         rw [hg] at ih1
         refine ⟨by omega, vc_drawn [11] (.q 0 <| .q 1 <| .q 2 <| .q 3 <| .q 4 <| .q 5 <| .q 6 <| .q 7 <| .q 8 <| .q 9 <| .or 10 (.or 11 (.done) (.nil)) (.nil)) (by kernel_rfl) ?_⟩
         simp [go_sem, hc3', ex, opCells_at, wk, ed]
         refine ⟨by omega, hx, ?_⟩
         refine vcall_share [0, 1, 2] ih1 (by simp) ?_ ?_ trivial ?_
         ·simp [go_sem]
         ·simp [go_sem]
          exact ⟨cr r.nx, fun i _ => cellsRn_lits (opLit _ i), fun i _ => cellsRn_lits (nodLit _ i)⟩
         ·rintro av mem maps ⟨rfl, rfl, rfl⟩
          by_cases h2 : (opAt l x).kind = 2
          ·rw [if_pos h2] at hQ
           have ih2 := ih q.2 q.1 (by omega) hgo (by omega)
           have hp2 := gen_len l g d q.2 q.1
           rw [hg] at ih2 hQ hp2
           generalize genN l _ d q.2 q.1 = q2 at *
           have wq2 : IntKind.i64.wrap ((q2.1.length : Int) - 1) = (q2.1.length : Int) - 1 := wrap_i64 (by omega)
           subst hQ
           simp only [rdOb, tab, nodRow] at ih2
           simp [go_sem, wq, h2, ed]
           refine ⟨by omega, ?_⟩
           refine vcall_share [0, 1, 6] ih2 (by simp) ?_ ?_ trivial ?_
           ·simp [go_sem]
           ·simp [go_sem]
            exact ⟨cr q.2, fun i _ => cellsRn_lits (opLit _ i), fun i _ => cellsRn_lits (nodLit _ i)⟩
           ·rintro av mem maps ⟨rfl, rfl, rfl⟩
            have hoN : opN (opAt l x) ((q.1.length : Int) - 1) ((q2.1.length : Int) - 1) = ⟨(opAt l x).text, 4, (q.1.length : Int) - 1, (q2.1.length : Int) - 1⟩ := by simp [opN, h2]
            simp [go_sem, wq2]
            refine ⟨by omega, by omega, by omega, ?_⟩
            refine ⟨rfl, [9], [rdOb q2.2, tab l, none, nodRow (q2.1 ++ [opN (opAt l x) ((q.1.length : Int) - 1) ((q2.1.length : Int) - 1)])], by simp, by simp, by simp [go_sem], ?_, by simp [go_sem], ?_⟩
            ·simp [go_sem, rdOb, tab, nodRow]
             exact ⟨rdOut, outAt_lits (fun _ _ => rfl) (fun j _ => opLit _ j), outAt_lits (fun j hj => by rw [hoN]; exact nod_app q2.1 ⟨(opAt l x).text, 4, (q.1.length : Int) - 1, (q2.1.length : Int) - 1⟩ j hj) (fun j _ => nodLit _ j)⟩
            ·simp [go_sem, rdOb, tab, nodRow]
          ·rw [if_neg h2] at hQ
           subst hQ
           simp [go_sem, wq, h2]
           refine ⟨by omega, by omega, by omega, ?_⟩
           refine ⟨rfl, [8], [rdOb q.2, tab l, none, nodRow (q.1 ++ [opN (opAt l x) ((q.1.length : Int) - 1) 0])], by simp, by simp, by simp [go_sem], ?_, by simp [go_sem], ?_⟩
           ·simp [go_sem, rdOb, tab, nodRow]
            exact ⟨rdOut, outAt_lits (fun _ _ => rfl) (fun j _ => opLit _ j), outAt_lits (fun j hj => nod_app q.1 (opN (opAt l x) ((q.1.length : Int) - 1) 0) j hj) (fun j _ => nodLit _ j)⟩
           ·simp [go_sem, rdOb, tab, nodRow]
def drawTree (l : List POp) (g : Bool) (r : Rd) : List PNode × Rd := genN l g (2 + r.v % 5) r.nx []
theorem pow_small {d : Nat} (h : d ≤ 6) : 2 ^ (d + 1) ≤ 128 := by
 have := Nat.pow_le_pow_right (n := 2) (by omega) (show d + 1 ≤ 7 by omega)
 omega
theorem drawTree_len (l : List POp) (g : Bool) (r : Rd) : 0 < (drawTree l g r).1.length ∧ (drawTree l g r).1.length ≤ 128 := by
 have := gen_len l g (2 + r.v % 5) r.nx []
 have h : r.v % 5 < 5 := Nat.mod_lt _ (by decide)
 have := pow_small (d := 2 + r.v % 5) (by omega)
 simp only [List.length_nil, Nat.zero_add] at *
 unfold drawTree
 omega
set_option maxRecDepth 100000 in
theorem c_l3DrawTree (l : List POp) (hl : l.length ≤ 1000) (hk : KindsSm l) (g : Bool) (r : Rd) (hr : r.ok) : VProc Tryz.prog 75 [.ptr 0 2 0 0, .agg [.own 1], .lit (.bool g)] [rdOb r, tab l] [] (fun av mem maps => av = .agg [.own 2] ∧ mem = [rdOb (drawTree l g r).2, tab l, nodRow (drawTree l g r).1] ∧ maps = []) := by
 have cr : ∀ (r : Rd) (i : Nat) (c : AV), i < r.n → c ∈ rdCells r.f i → Closed c := fun r i c _ h => rdClosed r.f i c h
 have hn := Rd.nx_ok hr
 have c1 := c_next r hr
 have e5 := tmod_nat r.v 5
 rw [show ((5 : Nat) : Int) = 5 from rfl] at e5
 have b5 : r.v % 5 < 5 := Nat.mod_lt _ (by decide)
 have hp := pow_small (d := 2 + r.v % 5) (by omega)
 have hlen := drawTree_len l g r
 unfold drawTree at hlen ⊢
 generalize r.v % 5 = u at *
 have w : IntKind.i64.wrap (2 + (u : Int)) = ((2 + u : Nat) : Int) := by rw [wrap_i64 (by omega)]; omega
 have c2 := c_l3Gen l hl hk g (2 + u) r.nx [] (by omega) hn (by simp; omega)
 generalize genN l g (2 + u) r.nx [] = q at *
 simp only [rdOb, tab, nodRow, List.length_nil] at c1 c2 ⊢
 refine vproc_start Tryz.func75 (by kernel_rfl) rfl (by simp [Tryz.ntmps75]) ?_; simp only [Tryz.ntmps75, Tryz.results75]; simp [go_sem]
 refine vcall_share [0] c1 (by simp) ?_ ?_ trivial ?_
 ·simp [go_sem]
 ·simp [go_sem]
  exact cr r
 ·rintro av mem maps ⟨rfl, rfl, rfl⟩
  simp [go_sem, e5, w]
  refine vcall_share [0, 1, 4] c2 (by simp) ?_ ?_ trivial ?_
  ·simp [go_sem]
  ·simp [go_sem]
   exact ⟨cr r.nx, fun i _ => cellsRn_lits (opLit _ i)⟩
  ·rintro av mem maps ⟨rfl, rfl, rfl⟩
   simp [go_sem]
   refine ⟨rfl, [5], [rdOb q.2, tab l, nodRow q.1], by simp, by simp, by simp [go_sem], ?_, by simp [go_sem], ?_⟩
   ·simp [go_sem, rdOb, tab, nodRow]
    exact ⟨rdOut, outAt_lits (fun _ _ => rfl) (fun j _ => opLit _ j), outAt_lits (fun _ _ => rfl) (fun j _ => nodLit _ j)⟩
   ·simp [go_sem, rdOb, tab, nodRow]
def minusOp : POp := ⟨⟨#[45]⟩, 1, 9, 0⟩
theorem c_l3Minus : VFun Tryz.prog 66 [] (fun av obs => av = .agg [.own 0] ∧ obs = [⟨133, 4, 1, opCells [minusOp]⟩]) := by
 refine vfun_start Tryz.func66 (by kernel_rfl) rfl (by simp [Tryz.ntmps66]) ?_; simp only [Tryz.ntmps66, Tryz.results66]; simp [go_sem]
 refine obsSame_one.mpr ⟨⟨133, 4, 1, opCells [minusOp]⟩, ⟨rfl, rfl, rfl, fun j hj => ?_⟩, rfl⟩
 obtain rfl : j = 0 := by simp only at hj; omega
 exact ⟨rfl, rfl⟩
def chainN : Nat → List PNode
 | 0 => [⟨⟨#[49]⟩, 1, 0, 0⟩]
 | n + 1 => chainN n ++ [⟨⟨#[45]⟩, 3, n, 0⟩]
theorem chainN_len : ∀ n, (chainN n).length = n + 1
 | 0 => rfl
 | n + 1 => by simp [chainN, chainN_len n]
set_option maxRecDepth 100000 in
theorem c_l3Chain (n : Nat) (hn : n ≤ 100000) : VFun Tryz.prog 77 [.lit (.int .i64 n)] (fun av obs => av = .agg [.own 0] ∧ obs = [⟨77, 4, n + 1, nodCells (chainN n)⟩]) := by
 refine vfun_start Tryz.func77 (by kernel_rfl) rfl (by simp [Tryz.ntmps77]) ?_; simp only [Tryz.ntmps77, Tryz.results77]; simp [go_sem]
 refine vc_loopE (fun i : Nat => i ≤ n) (fun i => n - i) (fun i => .of [(0, .lit (.int .i64 n)), (2, .ptr 0 1 0 0), (3, .own 1), (4, .lit (.int .i64 i))] [some ⟨37, 1, 1, fun _ => [.lit (.slice none 0 0)]⟩, some ⟨77, 4, i + 1, nodCells (chainN i)⟩]) ⟨0, by omega, ?_⟩ (fun i hi => ?_)
 ·refine ent_ks [0, 1] (by simp) (by simp) (by simp) (by simp) trivial ?_ ?_
  ·simp [go_sem]
  ·simp [go_sem]
   refine .inl ⟨?_, fun c hc => nodClosed _ _ c hc⟩
   rfl
 ·have hl := chainN_len i
  simp [go_sem]
  refine ⟨fun h => ⟨by omega, by omega, i + 1, by omega, by omega, ?_⟩, fun h => ?_⟩
  ·refine ent_ks [0, 3] (by simp) (by simp) (by simp) (by simp) trivial ?_ ?_
   ·simp [go_sem]
    exact wrap_succ (by omega)
   ·simp [go_sem]
    refine .inl fun j hj => ⟨?_, fun c hc => nodClosed _ _ c hc⟩
    have := nod_app (chainN i) ⟨⟨#[45]⟩, 3, i, 0⟩ j (by omega)
    rw [hl] at this
    exact this
  ·obtain rfl : i = n := by omega
   exact obsSame_one.mpr ⟨⟨77, 4, i + 1, nodCells (chainN i)⟩, ⟨rfl, rfl, rfl, fun j hj => ⟨rfl, nodLit _ j⟩⟩, rfl⟩
def sgn (i : Nat) : UInt8 := ([43, 45, 42, 47, 60, 62, 61, 33, 38, 124] : List UInt8).getD i 0
theorem sgn_at : ∀ j, j < 10 → byteAt ⟨#[43, 45, 42, 47, 60, 62, 61, 33, 38, 124]⟩ j = ((sgn j).toNat : Int) := by
 intro j hj
 rcases (by omega : j = 0 ∨ j = 1 ∨ j = 2 ∨ j = 3 ∨ j = 4 ∨ j = 5 ∨ j = 6 ∨ j = 7 ∨ j = 8 ∨ j = 9) with h | h | h | h | h | h | h | h | h | h <;> subst h <;> rfl
def bigOp (v i : Nat) : POp := ⟨⟨#[sgn (i % 10), sgn (i / 10 % 10), sgn (i / 100)]⟩, 2, 1 + (i / 3 : Nat), 1 + ((i / 3 + v / 2) % 3 : Nat)⟩
def bigTab (v : Nat) : Nat → List POp
 | 0 => []
 | i + 1 => bigTab v i ++ [bigOp v i]
theorem bigTab_len (v : Nat) : ∀ i, (bigTab v i).length = i
 | 0 => rfl
 | i + 1 => by simp [bigTab, bigTab_len v i]
def spoilOp (o : POp) (k : Nat) (r2 : Rd) : POp :=
 if k % 8 = 0 then { o with text := (⟨#[43, 45, 43, 45, 43, 45, 43, 45, 43, 45, 43, 45, 43, 45, 43, 45, 43]⟩ : ByteArray).extract 0 (16 + k / 8 % 2) }
 else if k % 8 = 1 then { o with text := o.text ++ ⟨#[UInt8.ofNat k]⟩ }
 else if k % 8 = 2 then { o with text := ⟨#[]⟩ }
 else if k % 8 = 3 then { o with level := 1001 * (k / 8 % 2 : Nat) }
 else if k % 8 = 4 then { o with kind := (k / 8 % 5 : Nat) }
 else if k % 8 = 5 then { o with side := (k / 8 % 5 : Nat) - 1 }
 else drawOp r2 false
def spoilBig (l : List POp) (k : Nat) : Bool := decide (k % 8 = 7 ∨ l.length = 0)
def spoilTab (l : List POp) (r : Rd) : List POp := if spoilBig l r.v then bigTab r.nx.v (500 + r.nx.v % 2) else l.set (r.nx.v % l.length) (spoilOp (opAt l (r.nx.v % l.length)) r.v r.nx.nx)
def spoilRd (l : List POp) (r : Rd) : Rd := if spoilBig l r.v then r.nx.nx else if r.v % 8 = 6 then r.nx.nx.nx.nx else r.nx.nx
set_option maxHeartbeats 4000000 in
set_option maxRecDepth 100000 in
theorem c_l1SpoilTableW (l : List POp) (hl : l.length ≤ 1000) (hz : ∀ i, i < l.length → (opAt l i).text.size ≤ 100) (r : Rd) (hr : r.okw) : VProc Tryz.prog 65 [.ptr 0 2 0 0, .agg [.own 1]] [rdOb r, tab l] [] (fun av mem maps => maps = [] ∧ ((spoilBig l r.v = true ∧ av = .agg [.own 2] ∧ mem = [rdOb (spoilRd l r), tab l, tab (spoilTab l r)]) ∨ (spoilBig l r.v = false ∧ av = .agg [.own 1] ∧ mem = [rdOb (spoilRd l r), tab (spoilTab l r)]))) := by
 have cr : ∀ (r : Rd) (i : Nat) (c : AV), i < r.n → c ∈ rdCells r.f i → Closed c := fun r i c _ h => rdClosed r.f i c h
 have c1 := c_nextW r hr
 have c2 := c_nextW r.nx (Rd.nx_okw hr)
 have c3 := c_l1DrawOpW r.nx.nx (Rd.nx_okw (Rd.nx_okw hr)) false
 have hk := Rd.v_ltw hr
 have hv := Rd.v_ltw (Rd.nx_okw hr)
 unfold spoilTab spoilRd
 generalize hK : r.v = k at *
 generalize hV : r.nx.v = v at *
 have e8 := tmod_nat k 8
 rw [show ((8 : Nat) : Int) = 8 from rfl] at e8
 simp only [rdOb, tab, POp.cells] at c1 c2 c3 ⊢
 refine vproc_start Tryz.func65 (by kernel_rfl) rfl (by simp [Tryz.ntmps65]) ?_; simp only [Tryz.ntmps65, Tryz.results65]; simp [go_sem]
 refine vcall_share [0] c1 (by simp) ?_ ?_ trivial ?_
 ·simp [go_sem]
 ·simp [go_sem]
  exact cr r
 ·rintro av mem maps ⟨rfl, rfl, rfl⟩
  simp [go_sem]
  refine vcall_share [0] c2 (by simp) ?_ ?_ trivial ?_
  ·simp [go_sem]
  ·simp [go_sem]
   exact cr r.nx
  ·rintro av mem maps ⟨rfl, rfl, rfl⟩
   cases hB : spoilBig l k with
   | true =>
    have hB' := hB
    simp only [spoilBig, decide_eq_true_eq] at hB'
    have hsp : ((k : Int).tmod 8 = 7) ∨ (¬ (k : Int).tmod 8 = 7 ∧ l = []) := by
     rcases hB' with h | h
     ·exact .inl (by rw [e8]; omega)
     ·by_cases h7 : (k : Int).tmod 8 = 7
      ·exact .inl h7
      ·exact .inr ⟨h7, List.eq_nil_of_length_eq_zero h⟩
    have e2 : (v : Int).tmod 2 = ((v % 2 : Nat) : Int) := tmod_nat v 2
    have hv2 : v % 2 < 2 := Nat.mod_lt _ (by decide)
    generalize v % 2 = c at *
    have w1 : IntKind.i64.wrap (500 + (c : Int)) = ((500 + c : Nat) : Int) := by rw [wrap_i64 (by omega)]; omega
    have hlen0 : ∀ h : l = [], ((l.length : Int) == 0) = true := fun h => by rw [h]; rfl
    rcases hsp with h7 | ⟨h7, hnil⟩
    case' inl => simp [go_sem, h7, e2, w1]
    case' inr =>
     have h0 := hlen0 hnil
     simp [go_sem, h7, h0, e2, w1]
     refine ⟨by omega, ?_⟩
    all_goals
     refine vc_loopE (fun i : Nat => i ≤ 500 + c) (fun i => 500 + c - i) (fun i => ⟨[(4, .ptr 2 1 0 0), (6, .lit (.int .i64 v)), (7, .lit (.int .i64 (500 + c : Nat))), (8, .ptr 3 1 0 0), (9, .lit (.int .i64 i))], [rdOb r.nx.nx, tab l, some ⟨30, 1, 1, fun _ => [.lit (.slice none 0 0)]⟩, some ⟨30, 1, 1, fun _ => [.own 4]⟩, some ⟨133, 4, i, opCells (bigTab v i)⟩], [], 2⟩) ⟨0, by omega, ?_⟩ (fun i hi => ?_)
     ·refine ent_ks [0, 1, 3, 5, 4] (by simp) (by simp) (by simp) (by decide) (by simp [go_sem]) ?_ ?_
      ·simp [go_sem]
      ·simp [go_sem, rdOb, tab]
       exact ⟨cr r.nx.nx, .inl fun i _ c hc => opClosed l i c hc⟩
     ·have i1 : (i : Int).tmod 10 = ((i % 10 : Nat) : Int) := tmod_nat i 10
      have i2 : (IntKind.i64.wrap ((i : Int) / 10)).tmod 10 = ((i / 10 % 10 : Nat) : Int) := by rw [wrap_i64 (by omega), show (i : Int) / 10 = ((i / 10 : Nat) : Int) by omega]; exact tmod_nat _ 10
      have i3 : IntKind.i64.wrap ((i : Int) / 100) = ((i / 100 : Nat) : Int) := by rw [wrap_i64 (by omega)]; omega
      have i4 : IntKind.i64.wrap ((i : Int) / 3) = ((i / 3 : Nat) : Int) := by rw [wrap_i64 (by omega)]; omega
      have i5 : IntKind.i64.wrap ((v : Int) / 2) = ((v / 2 : Nat) : Int) := by rw [wrap_i64 (by omega)]; omega
      have i6 : IntKind.i64.wrap (((i / 3 : Nat) : Int) + ((v / 2 : Nat) : Int)) = ((i / 3 + v / 2 : Nat) : Int) := by rw [wrap_i64 (by omega)]; omega
      have i7 : (((i / 3 + v / 2 : Nat) : Int)).tmod 3 = (((i / 3 + v / 2) % 3 : Nat) : Int) := tmod_nat _ 3
      have i8 : IntKind.i64.wrap (1 + ((i / 3 : Nat) : Int)) = 1 + ((i / 3 : Nat) : Int) := wrap_i64 (by omega)
      have b7 : (i / 3 + v / 2) % 3 < 3 := Nat.mod_lt _ (by decide)
      have i9 : IntKind.i64.wrap (1 + (((i / 3 + v / 2) % 3 : Nat) : Int)) = 1 + (((i / 3 + v / 2) % 3 : Nat) : Int) := wrap_i64 (by omega)
      have b1 : i % 10 < 10 := Nat.mod_lt _ (by decide)
      have b2 : i / 10 % 10 < 10 := Nat.mod_lt _ (by decide)
      have hop : bigTab v (i + 1) = bigTab v i ++ [bigOp v i] := rfl
      simp only [bigOp] at hop
      generalize (i / 3 + v / 2) % 3 = m7 at *
      generalize (i / 3 + v / 2) = m6 at *
      generalize i / 3 = m3 at *
      have b3 : i / 100 < 10 ∨ ¬ i < 500 + c := by omega
      generalize i / 100 = m2 at *
      generalize i / 10 % 10 = m1 at *
      generalize i % 10 = m0 at *
      generalize v / 2 = m5 at *
      simp [go_sem, rdOb, tab]
      refine ⟨fun hlt => ?_, fun hge => ?_⟩
      ·have b3' : m2 < 10 := by omega
       refine vc_drawn [] (.q 0 <| .q 1 <| .q 2 <| .q 3 <| .q 4 <| .q 5 <| .q 6 <| .q 7 <| .q 8 <| .q 9 <| .or 10 (.q 11 <| .q 12 <| .done) (.nil)) (by kernel_rfl) ?_
       simp [go_sem, i1, i2, i3, i4, i5, i6, i7, i8, i9]
       have q0 := sgn_at m0 b1
       have q1 := sgn_at m1 b2
       have q2 := sgn_at m2 b3'
       refine ⟨by omega, by omega, by omega, ⟨#[sgn m0, sgn m1, sgn m2]⟩, rfl, fun j hj => ?_, by omega, by omega, i + 1, by omega, by omega, ?_⟩
       ·rw [q0, q1, q2]
        rcases (by omega : j = 0 ∨ j = 1 ∨ j = 2) with h | h | h <;> subst h <;> rfl
       ·refine ent_ks [0, 1, 2, 3, 7] (by simp) (by simp) (by simp) (by decide) (by simp [go_sem]) ?_ ?_
        ·simp [go_sem]
         exact wrap_succ (by omega)
        ·have hlen := bigTab_len v i
         have eqrow : ∀ (g : Nat → List AV), g 0 = [.lit (.string ⟨#[sgn m0, sgn m1, sgn m2]⟩), .lit (.int .i64 2), .lit (.int .i64 (1 + (m3 : Nat))), .lit (.int .i64 (1 + (m7 : Nat)))] → ∀ j, j < i + 1 → joinF i (opCells (bigTab v i)) g j = opCells (bigTab v (i + 1)) j := fun g hg j hj => by
          rw [hop, ← opCells_one _ _ j (by rw [hlen]; exact hj), hlen]
          unfold joinF
          by_cases hl : j < i
          ·rw [if_pos hl, if_pos hl]
          ·have e0 : j - i = 0 := by omega
           rw [if_neg hl, if_neg hl, e0, hg]
           rfl
         simp [go_sem]
         refine ⟨cr r.nx.nx, .inl fun i _ c hc => opClosed l i c hc, .inr fun j hj => ?_⟩
         rw [eqrow _ rfl j hj]
         exact cellsRn_lits (opLit _ j)
      ·have ei : i = 500 + c := by omega
       refine ⟨rfl, [4], [rdOb r.nx.nx, tab l, tab (bigTab v i)], by simp, by simp, by simp [go_sem], ?_, by simp [go_sem], ?_⟩
       ·simp [go_sem, rdOb, tab, bigTab_len]
        exact ⟨rdOut, outAt_lits (fun _ _ => rfl) (fun j _ => opLit _ j), outAt_lits (fun _ _ => rfl) (fun j _ => opLit _ j)⟩
       ·simp [go_sem, rdOb, tab, ei]
   | false =>
    have hB' := hB
    simp only [spoilBig, decide_eq_false_iff_not, not_or] at hB'
    have h7 : ¬ (k : Int).tmod 8 = 7 := by rw [e8]; omega
    have hne : l ≠ [] := by intro e; rw [e] at hB'; simp at hB'
    have ev : (v : Int).tmod l.length = ((v % l.length : Nat) : Int) := tmod_nat _ _
    have hx := Nat.mod_lt v (show 0 < l.length by omega)
    generalize v % l.length = x at *
    have hxi : ((x : Int)).toNat = x := rfl
    have e82 : (IntKind.i64.wrap ((k : Int) / 8)).tmod 2 = ((k / 8 % 2 : Nat) : Int) := by rw [wrap_i64 (by omega), show (k : Int) / 8 = ((k / 8 : Nat) : Int) by omega]; exact tmod_nat _ 2
    have e85 : (IntKind.i64.wrap ((k : Int) / 8)).tmod 5 = ((k / 8 % 5 : Nat) : Int) := by rw [wrap_i64 (by omega), show (k : Int) / 8 = ((k / 8 : Nat) : Int) by omega]; exact tmod_nat _ 5
    have b2 : k / 8 % 2 < 2 := Nat.mod_lt _ (by decide)
    have b5 : k / 8 % 5 < 5 := Nat.mod_lt _ (by decide)
    have hlt8 : k % 8 < 8 := Nat.mod_lt _ (by decide)
    have fin : ∀ (ts : List (Nat × AV)) (o' : POp) (rr : Rd) (xs : List (Option Ob)), spoilOp (opAt l x) k r.nx.nx = o' → (if k % 8 = 6 then r.nx.nx.nx.nx else r.nx.nx) = rr →
      vendP [] (fun av mem maps => maps = [] ∧ av = AV.agg [AV.own 1] ∧ mem = [some ⟨138, 2, 1, fun _ => [.sl 1 (if k % 8 = 6 then r.nx.nx.nx.nx else r.nx.nx).n (rdCells (if k % 8 = 6 then r.nx.nx.nx.nx else r.nx.nx).f), .lit (.int .i64 (if k % 8 = 6 then r.nx.nx.nx.nx else r.nx.nx).p)]⟩, some ⟨133, 4, l.length, opCells (l.set x (spoilOp (opAt l x) k r.nx.nx))⟩])
      ⟨ts, some ⟨138, 2, 1, fun _ => [.sl 1 rr.n (rdCells rr.f), .lit (.int .i64 rr.p)]⟩ :: some ⟨133, 4, l.length, updF l.length (opCells l) x 0 [.lit (.string o'.text), .lit (.int .i64 o'.kind), .lit (.int .i64 o'.level), .lit (.int .i64 o'.side)]⟩ :: xs, [], 2⟩ (.agg [.own 1]) := by
     intro ts o' rr xs ho hrr
     rw [ho, hrr]
     refine ⟨rfl, [], [rdOb rr, some ⟨133, 4, l.length, opCells (l.set x o')⟩], by simp, by simp, by simp [go_sem], ?_, by simp [go_sem], ?_⟩
     ·simp [go_sem, rdOb]
      refine ⟨rdOut, outAt_lits (fun j hj' => ?_) (fun j _ => opLit _ j)⟩
      have eqr : updF l.length (opCells l) x 0 [.lit (.string o'.text), .lit (.int .i64 o'.kind), .lit (.int .i64 o'.level), .lit (.int .i64 o'.side)] j = opCells (l.set x o') j := by
       rw [updF_at hx hj']
       by_cases hjx : j = x
       ·subst hjx
        have e1 : opAt (l.set j o') j = o' := by
         unfold opAt
         rw [List.getD_eq_getElem?_getD, List.getElem?_set_self hj']
         rfl
        rw [if_pos rfl, opCells_at, opCells_at, e1]
        rfl
       ·have e1 : opAt (l.set x o') j = opAt l j := by
         unfold opAt
         rw [List.getD_eq_getElem?_getD, List.getElem?_set_ne (fun e => hjx e.symm), ← List.getD_eq_getElem?_getD]
        rw [if_neg hjx, opCells_at, opCells_at, e1]
      exact eqr
     ·simp [go_sem, rdOb]
    obtain ⟨so, hso⟩ : ∃ so, so = spoilOp (opAt l x) k r.nx.nx := ⟨_, rfl⟩
    rw [← hso] at fin ⊢
    simp only [spoilOp] at hso
    generalize k / 8 % 2 = y2 at *
    generalize k / 8 % 5 = y5 at *
    by_cases h0 : k % 8 = 0
    ·have h0' : (k : Int).tmod 8 = 0 := by rw [e8]; omega
     have w1 : IntKind.i64.wrap (16 + (y2 : Int)) = ((16 + y2 : Nat) : Int) := by rw [wrap_i64 (by omega)]; omega
     have w2 : ((16 : Int) + (y2 : Int)).toNat = 16 + y2 := by omega
     simp [go_sem, h7, hne, ev, hxi, opCells_at, h0', e82, w1, w2]
     refine ⟨by omega, hx, by omega, by omega, hx, ?_⟩
     exact fin _ _ _ _ (hso.trans (if_pos h0)) (if_neg (by omega))
    ·have h0' : ¬ (k : Int).tmod 8 = 0 := by rw [e8]; omega
     by_cases h1 : k % 8 = 1
     ·have h1' : (k : Int).tmod 8 = 1 := by rw [e8]; omega
      simp [go_sem, h7, hne, ev, hxi, opCells_at, h0', h1']
      have hzx := hz x hx
      have hz1 : (⟨#[UInt8.ofNat k]⟩ : ByteArray).size = 1 := rfl
      refine ⟨by omega, hx, ⟨#[UInt8.ofNat k]⟩, rfl, u8cell hk, _, fun w => if_neg (by omega), ?_⟩
      simp [go_sem, hne, hxi, opCells_at]
      refine ⟨hx, ?_⟩
      exact fin _ _ _ _ (hso.trans ((if_neg h0).trans <| if_pos h1)) (if_neg (by omega))
     ·have h1' : ¬ (k : Int).tmod 8 = 1 := by rw [e8]; omega
      by_cases h2 : k % 8 = 2
      ·have h2' : (k : Int).tmod 8 = 2 := by rw [e8]; omega
       simp [go_sem, h7, hne, ev, hxi, opCells_at, h0', h1', h2']
       refine ⟨by omega, hx, ?_⟩
       exact fin _ _ _ _ (hso.trans ((if_neg h0).trans <| (if_neg h1).trans <| if_pos h2)) (if_neg (by omega))
      ·have h2' : ¬ (k : Int).tmod 8 = 2 := by rw [e8]; omega
       by_cases h3 : k % 8 = 3
       ·have h3' : (k : Int).tmod 8 = 3 := by rw [e8]; omega
        have w1 : IntKind.i64.wrap (1001 * (y2 : Int)) = 1001 * y2 := wrap_i64 (by omega)
        simp [go_sem, h7, hne, ev, hxi, opCells_at, h0', h1', h2', h3', e82, w1]
        refine ⟨by omega, hx, ?_⟩
        exact fin _ _ _ _ (hso.trans ((if_neg h0).trans <| (if_neg h1).trans <| (if_neg h2).trans <| if_pos h3)) (if_neg (by omega))
       ·have h3' : ¬ (k : Int).tmod 8 = 3 := by rw [e8]; omega
        by_cases h4 : k % 8 = 4
        ·have h4' : (k : Int).tmod 8 = 4 := by rw [e8]; omega
         simp [go_sem, h7, hne, ev, hxi, opCells_at, h0', h1', h2', h3', h4', e85]
         refine ⟨by omega, hx, ?_⟩
         exact fin _ _ _ _ (hso.trans ((if_neg h0).trans <| (if_neg h1).trans <| (if_neg h2).trans <| (if_neg h3).trans <| if_pos h4)) (if_neg (by omega))
        ·have h4' : ¬ (k : Int).tmod 8 = 4 := by rw [e8]; omega
         by_cases h5 : k % 8 = 5
         ·have h5' : (k : Int).tmod 8 = 5 := by rw [e8]; omega
          have w1 : IntKind.i64.wrap ((y5 : Int) - 1) = y5 - 1 := wrap_i64 (by omega)
          simp [go_sem, h7, hne, ev, hxi, opCells_at, h0', h1', h2', h3', h4', h5', e85, w1]
          refine ⟨by omega, hx, ?_⟩
          exact fin _ _ _ _ (hso.trans ((if_neg h0).trans <| (if_neg h1).trans <| (if_neg h2).trans <| (if_neg h3).trans <| (if_neg h4).trans <| if_pos h5)) (if_neg (by omega))
         ·have h5' : ¬ (k : Int).tmod 8 = 5 := by rw [e8]; omega
          have h6 : k % 8 = 6 := by omega
          simp [go_sem, h7, hne, ev, hxi, opCells_at, h0', h1', h2', h3', h4', h5']
          refine ⟨by omega, hx, ?_⟩
          refine vcall_share [0] c3 (by simp) ?_ ?_ trivial ?_
          ·simp [go_sem]
          ·simp [go_sem]
           exact cr r.nx.nx
          ·rintro av mem maps ⟨rfl, rfl, rfl⟩
           simp [go_sem, hne, hxi]
           refine ⟨by omega, ?_⟩
           exact fin _ _ _ _ (hso.trans ((if_neg h0).trans <| (if_neg h1).trans <| (if_neg h2).trans <| (if_neg h3).trans <| (if_neg h4).trans <| if_neg h5)) (if_pos h6)
theorem c_l1SpoilTable (l : List POp) (hl : l.length ≤ 1000) (hz : ∀ i, i < l.length → (opAt l i).text.size ≤ 100) (r : Rd) (hr : r.ok) : VProc Tryz.prog 65 [.ptr 0 2 0 0, .agg [.own 1]] [rdOb r, tab l] [] (fun av mem maps => maps = [] ∧ ((spoilBig l r.v = true ∧ av = .agg [.own 2] ∧ mem = [rdOb (spoilRd l r), tab l, tab (spoilTab l r)]) ∨ (spoilBig l r.v = false ∧ av = .agg [.own 1] ∧ mem = [rdOb (spoilRd l r), tab (spoilTab l r)]))) := c_l1SpoilTableW l hl hz r hr.w
@[go_sem] theorem vsV_len {P : Program} {n : Nat} {s : VS} {k : VS → Prop} {d : Option Tmp} {ty : TypeId} {ps : String} {af : Array Edge} {g : Option (Nat × Bool)} {x : Operand} {t : TypeId} : vstepV P n ⟨d, .call { callee := .builtin .len, args := #[x], argTypes := #[t] }, ty, ps, af, g⟩ s k = vstep P n ⟨d, .call { callee := .builtin .len, args := #[x], argTypes := #[t] }, ty, ps, af, g⟩ s k := by simp [vstepV, vstep, callD, dynOf, callOf, quiet4]
def bigN : Nat → List PNode
 | 0 => [⟨⟨#[97]⟩, 2, 0, 0⟩]
 | n + 1 => bigN n ++ [⟨⟨#[]⟩, 6, n, 0⟩]
theorem bigN_len : ∀ n, (bigN n).length = n + 1
 | 0 => rfl
 | n + 1 => by simp [bigN, bigN_len n]
def spoilN (n : PNode) (k : Nat) : PNode :=
 if k % 8 = 0 then { n with kind := (k / 8 % 8 : Nat) }
 else if k % 8 = 1 then { n with text := (⟨#[43, 45, 49, 97, 40]⟩ : ByteArray).extract (k / 8 % 5) (k / 8 % 5 + 1) }
 else if k % 8 = 2 then { n with a := ((k / 8 % 9 : Nat) : Int) - 1 }
 else if k % 8 = 3 then { n with b := ((k / 8 % 9 : Nat) : Int) - 1 }
 else if k % 8 = 5 then { n with text := n.text ++ ⟨#[95]⟩ }
 else { n with text := ⟨#[]⟩ }
theorem nod_set {T : List PNode} {i : Nat} (n' : PNode) (hi : i < T.length) (j : Nat) (hj : j < T.length) : updF T.length (nodCells T) i 0 n'.cells j = nodCells (T.set i n') j := by
 rw [updF_at hi hj]
 unfold nodCells
 by_cases e : j = i
 ·subst e
  rw [if_pos rfl, List.getD_eq_getElem?_getD, List.getD_eq_getElem?_getD, List.getElem?_set_self hj]
  rfl
 ·rw [if_neg e, List.getD_eq_getElem?_getD, List.getD_eq_getElem?_getD, List.getElem?_set_ne (fun h => e h.symm)]
set_option maxHeartbeats 4000000 in
set_option maxRecDepth 100000 in
theorem c_l3SpoilTree (T : List PNode) (hT : 0 < T.length ∧ T.length ≤ 1000) (hz : ∀ i, i < T.length → (nodAt T i).text.size ≤ 100) (r : Rd) (hr : r.okw) : VProc Tryz.prog 76 [.ptr 0 2 0 0, .agg [.own 1]] [rdOb r, nodRow T] [] (fun av mem maps => maps = [] ∧
  ((r.v % 8 = 4 ∧ av = .agg [.sub 1 4 0 (r.nx.v % T.length)] ∧ mem = [rdOb r.nx.nx, nodRow T]) ∨ (r.v % 8 = 6 ∧ av = .agg [.own 2] ∧ mem = [rdOb r.nx.nx, nodRow T, nodRow (bigN (19998 + r.v / 8 % 3))]) ∨
  ((r.v % 8 ≠ 4 ∧ r.v % 8 ≠ 6) ∧ av = .agg [.own 1] ∧ mem = [rdOb r.nx.nx, nodRow (T.set (r.nx.v % T.length) (spoilN (nodAt T (r.nx.v % T.length)) r.v))]))) := by
 have cr : ∀ (r : Rd) (i : Nat) (c : AV), i < r.n → c ∈ rdCells r.f i → Closed c := fun r i c _ h => rdClosed r.f i c h
 have c1 := c_nextW r hr
 have c2 := c_nextW r.nx (Rd.nx_okw hr)
 have hk := Rd.v_ltw hr
 have hv := Rd.v_ltw (Rd.nx_okw hr)
 generalize hK : r.v = k at *
 generalize hV : r.nx.v = v at *
 have e8 := tmod_nat k 8
 rw [show ((8 : Nat) : Int) = 8 from rfl] at e8
 have b8 : k % 8 < 8 := Nat.mod_lt _ (by decide)
 have m8 : (IntKind.i64.wrap ((k : Int) / 8)).tmod 8 = ((k / 8 % 8 : Nat) : Int) := quo_rem k 8 8 (by omega)
 have m5 : (IntKind.i64.wrap ((k : Int) / 8)).tmod 5 = ((k / 8 % 5 : Nat) : Int) := quo_rem k 8 5 (by omega)
 have m9 : (IntKind.i64.wrap ((k : Int) / 8)).tmod 9 = ((k / 8 % 9 : Nat) : Int) := quo_rem k 8 9 (by omega)
 have m3 : (IntKind.i64.wrap ((k : Int) / 8)).tmod 3 = ((k / 8 % 3 : Nat) : Int) := quo_rem k 8 3 (by omega)
 have q8 : k / 8 % 8 < 8 := Nat.mod_lt _ (by decide)
 have q5 : k / 8 % 5 < 5 := Nat.mod_lt _ (by decide)
 have q9 : k / 8 % 9 < 9 := Nat.mod_lt _ (by decide)
 have q3 : k / 8 % 3 < 3 := Nat.mod_lt _ (by decide)
 have ei : (v : Int).tmod T.length = ((v % T.length : Nat) : Int) := tmod_nat v T.length
 have hi := Nat.mod_lt v hT.1
 have hne : ¬ T = [] := fun e => by rw [e] at hT; simp at hT
 have hzi := hz _ hi
 unfold spoilN
 generalize v % T.length = i at *
 generalize k / 8 % 8 = x8 at *
 generalize k / 8 % 5 = x5 at *
 generalize k / 8 % 9 = x9 at *
 generalize k / 8 % 3 = x3 at *
 generalize k % 8 = u at *
 simp only [rdOb, nodRow] at c1 c2 ⊢
 refine vproc_start Tryz.func76 (by kernel_rfl) rfl (by simp [Tryz.ntmps76]) ?_; simp only [Tryz.ntmps76, Tryz.results76]; simp [go_sem]
 refine vcall_share [0] c1 (by simp) ?_ ?_ trivial ?_
 ·simp [go_sem]
 ·simp [go_sem]
  exact cr r
 ·rintro av mem maps ⟨rfl, rfl, rfl⟩
  simp [go_sem]
  refine vc_drawnE (⟨[(0, .ptr 0 2 0 0), (3, .ptr 2 1 0 0), (4, .ptr 3 1 0 0), (5, .lit (.int .i64 k)), (6, .lit (.int .i64 i))], [rdOb r.nx.nx, nodRow T, some ⟨37, 1, 1, fun _ => [.own 1]⟩, some ⟨37, 1, 1, fun _ => [.lit (.slice none 0 0)]⟩], [], 2⟩) [1] (.q 0 <| .q 2 <| .or 1 (.q 3 <| .q 4 <| .q 5 <| .q 6 <| .done) (.or 3 (.or 1 (.q 4 <| .q 5 <| .q 6 <| .done) (.or 4 (.or 1 (.q 5 <| .q 6 <| .done) (.nil)) (.nil))) (.nil))) (by kernel_rfl) ?_ ?_
  ·simp [go_sem]
   refine ⟨?_, ?_, by omega, ?_⟩
   all_goals
    refine vcall_share [0] c2 (by simp) ?_ ?_ trivial ?_
    ·simp [go_sem]
    ·simp [go_sem]
     exact cr r.nx
    ·rintro av mem maps ⟨rfl, rfl, rfl⟩
     simp [go_sem, hne, ei]
     try refine ⟨by omega, ?_⟩
     refine ent_ks [0, 1, 2, 3] (by simp) (by simp) (by simp) (by decide) (by simp [go_sem]) ?_ ?_
     ·simp [go_sem]
     ·simp [go_sem, rdOb, nodRow]
      exact ⟨cr r.nx.nx, .inr fun j _ => cellsRn_lits (nodLit _ j)⟩
  ·simp only [rdOb, nodRow]
   have next : u = 0 ∨ u = 1 ∨ u = 2 ∨ u = 3 ∨ u = 4 ∨ u = 5 ∨ u = 6 ∨ u = 7 := by omega
   rcases next with rfl | rfl | rfl | rfl | rfl | rfl | rfl | rfl
   ·simp [go_sem, nodCells_at, e8, m8]
    refine ⟨hi, ?_⟩
    refine ⟨rfl, [], [rdOb r.nx.nx, nodRow (T.set i { nodAt T i with kind := x8 })], by simp, by simp, by simp [go_sem], ?_, by simp [go_sem], ?_⟩
    ·simp [go_sem, rdOb, nodRow]
     exact ⟨rdOut, outAt_lits (fun j hj => nod_set { nodAt T i with kind := x8 } hi j hj) (fun j _ => nodLit _ j)⟩
    ·simp [go_sem, rdOb, nodRow]
   ·have w5 : IntKind.i64.wrap ((x5 : Int) + 1) = ((x5 + 1 : Nat) : Int) := wrap_succ (by omega)
    simp [go_sem, nodCells_at, e8, m5, w5]
    refine ⟨hi, by omega, by omega, hi, ?_⟩
    refine ⟨rfl, [], [rdOb r.nx.nx, nodRow (T.set i { nodAt T i with text := (⟨#[43, 45, 49, 97, 40]⟩ : ByteArray).extract x5 (x5 + 1) })], by simp, by simp, by simp [go_sem], ?_, by simp [go_sem], ?_⟩
    ·simp [go_sem, rdOb, nodRow]
     exact ⟨rdOut, outAt_lits (fun j hj => nod_set { nodAt T i with text := (⟨#[43, 45, 49, 97, 40]⟩ : ByteArray).extract x5 (x5 + 1) } hi j hj) (fun j _ => nodLit _ j)⟩
    ·simp [go_sem, rdOb, nodRow]
   ·have w9 : IntKind.i64.wrap ((x9 : Int) - 1) = (x9 : Int) - 1 := wrap_i64 (by omega)
    simp [go_sem, nodCells_at, e8, m9, w9]
    refine ⟨hi, ?_⟩
    refine ⟨rfl, [], [rdOb r.nx.nx, nodRow (T.set i { nodAt T i with a := (x9 : Int) - 1 })], by simp, by simp, by simp [go_sem], ?_, by simp [go_sem], ?_⟩
    ·simp [go_sem, rdOb, nodRow]
     exact ⟨rdOut, outAt_lits (fun j hj => nod_set { nodAt T i with a := (x9 : Int) - 1 } hi j hj) (fun j _ => nodLit _ j)⟩
    ·simp [go_sem, rdOb, nodRow]
   ·have w9 : IntKind.i64.wrap ((x9 : Int) - 1) = (x9 : Int) - 1 := wrap_i64 (by omega)
    simp [go_sem, nodCells_at, e8, m9, w9]
    refine ⟨hi, ?_⟩
    refine ⟨rfl, [], [rdOb r.nx.nx, nodRow (T.set i { nodAt T i with b := (x9 : Int) - 1 })], by simp, by simp, by simp [go_sem], ?_, by simp [go_sem], ?_⟩
    ·simp [go_sem, rdOb, nodRow]
     exact ⟨rdOut, outAt_lits (fun j hj => nod_set { nodAt T i with b := (x9 : Int) - 1 } hi j hj) (fun j _ => nodLit _ j)⟩
    ·simp [go_sem, rdOb, nodRow]
   ·simp [go_sem, nodCells_at, e8]
    refine ⟨hi, by omega, ?_⟩
    refine ⟨rfl, [], [rdOb r.nx.nx, nodRow T], by simp, by simp, by simp [go_sem], ?_, by simp [go_sem], ?_⟩
    ·simp [go_sem, rdOb, nodRow]
     exact ⟨rdOut, outAt_lits (fun _ _ => rfl) (fun j _ => nodLit _ j)⟩
    ·simp [go_sem, rdOb, nodRow]
   ·have hcat : ¬ 9223372036854775807 < (nodAt T i).text.size + 1 := by omega
    simp [go_sem, nodCells_at, e8, hcat]
    refine ⟨hi, ?_⟩
    refine ⟨rfl, [], [rdOb r.nx.nx, nodRow (T.set i { nodAt T i with text := (nodAt T i).text ++ ⟨#[95]⟩ })], by simp, by simp, by simp [go_sem], ?_, by simp [go_sem], ?_⟩
    ·simp [go_sem, rdOb, nodRow]
     exact ⟨rdOut, outAt_lits (fun j hj => nod_set { nodAt T i with text := (nodAt T i).text ++ ⟨#[95]⟩ } hi j hj) (fun j _ => nodLit _ j)⟩
    ·simp [go_sem, rdOb, nodRow]
   ·simp [go_sem, nodCells_at, e8]
    refine ⟨hi, ?_⟩
    refine vc_loopE (fun j : Nat => j ≤ 19998 + x3) (fun j => 19998 + x3 - j) (fun j => ⟨[(4, .ptr 2 1 0 0), (5, .lit (.int .i64 k)), (8, .own 3)], [rdOb r.nx.nx, nodRow T, some ⟨37, 1, 1, fun _ => [.lit (.slice none 0 0)]⟩, some ⟨77, 4, j + 1, nodCells (bigN j)⟩], [], 2⟩) ⟨0, by omega, ?_⟩ (fun j hj => ?_)
    ·refine ent_ks [0, 1, 3, 5] (by simp) (by simp) (by simp) (by decide) (by simp [go_sem]) ?_ ?_
     ·simp [go_sem]
     ·simp [go_sem, rdOb, nodRow]
      exact ⟨cr r.nx.nx, .inl fun i _ c hc => nodClosed T i c hc, .inl ⟨rfl, fun c hc => nodClosed _ _ c hc⟩⟩
    ·have w3 : IntKind.i64.wrap (19999 + (x3 : Int)) = ((19999 + x3 : Nat) : Int) := by rw [wrap_i64 (by omega)]; omega
     have hl := bigN_len j
     have wj : IntKind.i64.wrap (j : Int) = j := wrap_i64 (by omega)
     simp only [rdOb, nodRow]
     simp [go_sem, m3, w3, wj]
     refine ⟨by omega, fun h => ⟨by omega, by omega, by omega, j + 1, by omega, by omega, ?_⟩, fun h => ?_⟩
     ·refine ent_ks [0, 1, 2, 5] (by simp) (by simp) (by simp) (by decide) (by simp [go_sem]) ?_ ?_
      ·simp [go_sem]
      ·simp [go_sem]
       refine ⟨cr r.nx.nx, .inl fun i _ c hc => nodClosed T i c hc, .inl fun q hq => ⟨?_, fun c hc => nodClosed _ _ c hc⟩⟩
       have := nod_app (bigN j) ⟨⟨#[]⟩, 6, j, 0⟩ q (by omega)
       rw [hl] at this
       exact this
     ·obtain rfl : j = 19998 + x3 := by omega
      refine ⟨rfl, [3], [rdOb r.nx.nx, nodRow T, nodRow (bigN (19998 + x3))], by simp, by simp, by simp [go_sem], ?_, by simp [go_sem], ?_⟩
      ·simp [go_sem, rdOb, nodRow, hl]
       exact ⟨rdOut, outAt_lits (fun _ _ => rfl) (fun j _ => nodLit _ j), outAt_lits (fun _ _ => rfl) (fun j _ => nodLit _ j)⟩
      ·simp [go_sem, rdOb, nodRow]
   ·simp [go_sem, nodCells_at, e8]
    refine ⟨hi, ?_⟩
    refine ⟨rfl, [], [rdOb r.nx.nx, nodRow (T.set i { nodAt T i with text := ⟨#[]⟩ })], by simp, by simp, by simp [go_sem], ?_, by simp [go_sem], ?_⟩
    ·simp [go_sem, rdOb, nodRow]
     exact ⟨rdOut, outAt_lits (fun j hj => nod_set { nodAt T i with text := ⟨#[]⟩ } hi j hj) (fun j _ => nodLit _ j)⟩
    ·simp [go_sem, rdOb, nodRow]
theorem ext_size_le (z : ByteArray) (a b : Nat) : (z.extract a b).size ≤ z.size := by
 rw [ByteArray.size_extract]; omega
theorem drawOp_txt (r : Rd) (tidy : Bool) : (drawOp r tidy).text.size ≤ 3 := by
 have h := l1T_size r.nx.v
 have e : (drawOp r tidy).text = l1T r.nx.v := by
  simp only [drawOp, drawOp2, drawOp1, drawOp0]
  split <;> split <;> rfl
 rw [e]; exact h
theorem tabRun_txt (p : Rd) : ∀ i, ∀ o, o ∈ (tabRun i ([], p)).1 → o.text.size ≤ 3
 | 0 => fun o h => by simp [tabRun] at h
 | i + 1 => fun o h => by
  simp only [tabRun, tabStep] at h
  split at h
  ·rcases List.mem_append.1 h with h | h
   ·exact tabRun_txt p i o h
   ·simp only [List.mem_singleton] at h
    rw [h]; exact drawOp_txt _ _
  ·exact tabRun_txt p i o h
theorem drawTab_txt (r : Rd) : ∀ o, o ∈ (drawTab r).1 → o.text.size ≤ 3 := tabRun_txt r.nx _
theorem drawTab_len (r : Rd) : (drawTab r).1.length ≤ 10 := by
 have h := tabRun_len r.nx (3 + r.v % 8)
 have : r.v % 8 < 8 := Nat.mod_lt _ (by decide)
 unfold drawTab
 omega
theorem drawTab_ok {r : Rd} (h : r.ok) : (drawTab r).2.ok := tabRun_ok (Rd.nx_ok h) _
theorem opAt_mem {l : List POp} {i : Nat} (h : i < l.length) : opAt l i ∈ l := by
 unfold opAt
 rw [List.getD_eq_getElem?_getD, List.getElem?_eq_getElem h]
 exact List.getElem_mem h
theorem spoilRd_ok {l : List POp} {r : Rd} (h : r.ok) : (spoilRd l r).ok := by
 unfold spoilRd
 split
 ·exact Rd.nx_ok (Rd.nx_ok h)
 ·split
  ·exact Rd.nx_ok (Rd.nx_ok (Rd.nx_ok (Rd.nx_ok h)))
  ·exact Rd.nx_ok (Rd.nx_ok h)
theorem bigTab_txt (v : Nat) : ∀ i o, o ∈ bigTab v i → o.text.size = 3
 | 0, o, h => by simp [bigTab] at h
 | i + 1, o, h => by
  rcases List.mem_append.1 h with h | h
  ·exact bigTab_txt v i o h
  ·simp only [List.mem_singleton] at h
   rw [h]; rfl
theorem spoilOp_txt {o : POp} (ho : o.text.size ≤ 3) (k : Nat) (r : Rd) : (spoilOp o k r).text.size ≤ 17 := by
 have h1 := ext_size_le ⟨#[43, 45, 43, 45, 43, 45, 43, 45, 43, 45, 43, 45, 43, 45, 43, 45, 43]⟩ 0 (16 + k / 8 % 2)
 have e1 : (⟨#[43, 45, 43, 45, 43, 45, 43, 45, 43, 45, 43, 45, 43, 45, 43, 45, 43]⟩ : ByteArray).size = 17 := rfl
 have e2 : (⟨#[]⟩ : ByteArray).size = 0 := rfl
 have e3 : (⟨#[UInt8.ofNat k]⟩ : ByteArray).size = 1 := rfl
 have h2 := drawOp_txt r false
 unfold spoilOp
 repeat' split
 all_goals try simp only [ByteArray.size_append]
 all_goals omega
theorem spoilTab_txt {l : List POp} (hl : ∀ o, o ∈ l → o.text.size ≤ 3) (r : Rd) : ∀ o, o ∈ spoilTab l r → o.text.size ≤ 17 := by
 intro o ho
 unfold spoilTab at ho
 split at ho
 ·have := bigTab_txt _ _ o ho; omega
 ·rename_i hb
  have hne : 0 < l.length := by
   simp only [spoilBig, decide_eq_true_eq, not_or] at hb
   omega
  rcases List.mem_or_eq_of_mem_set ho with h | h
  ·have := hl o h; omega
  ·rw [h]
   exact spoilOp_txt (hl _ (opAt_mem (Nat.mod_lt _ hne))) _ _
theorem spoilTab_len {l : List POp} (hl : l.length ≤ 10) (r : Rd) : (spoilTab l r).length ≤ 501 := by
 unfold spoilTab
 split
 ·rw [bigTab_len]
  have : r.nx.v % 2 < 2 := Nat.mod_lt _ (by decide)
  omega
 ·simp; omega
structure Over where
 tab : List POp
 row : List PNode
 cut : Option Nat
 rd : Rd
def Over.tree (o : Over) : List PNode := match o.cut with
 | none => o.row
 | some n => o.row.take n
def overT (l : List POp) (T : List PNode) (r : Rd) : Over :=
 if r.v % 8 = 4 then ⟨l, T, some (r.nx.v % T.length), r.nx.nx⟩
 else if r.v % 8 = 6 then ⟨l, bigN (19998 + r.v / 8 % 3), none, r.nx.nx⟩
 else ⟨l, T.set (r.nx.v % T.length) (spoilN (nodAt T (r.nx.v % T.length)) r.v), none, r.nx.nx⟩
def over0 (k : Nat) (l : List POp) (T : List PNode) (r : Rd) : Over :=
 if k % 5 = 4 then overT l T { r with p := 1 + k % 7 }
 else if k % 20 = 3 then ⟨spoilTab l r, T, none, spoilRd l r⟩
 else ⟨l, T, none, r⟩
def over1 (k : Nat) (o : Over) : Over :=
 if k % 32 = 21 then ⟨[minusOp], chainN (997 + o.rd.v % 5), none, o.rd.nx⟩
 else if k % 4 = 2 ∧ groupOk o.tab o.tree = true then { o with row := groupZ o.tab o.tree, cut := none }
 else o
def overAt (r : Rd) : Over := over1 r.v (over0 r.v (drawTab r.nx).1 (drawTree (drawTab r.nx).1 (decide (r.v % 2 = 1)) (drawTab r.nx).2).1 (drawTree (drawTab r.nx).1 (decide (r.v % 2 = 1)) (drawTab r.nx).2).2)
def Over.treeA (o : Over) (k : Nat) : AV := match o.cut with
 | none => .own k
 | some n => .sub k 4 0 n
theorem gen_tx {l : List POp} {g : Bool} (hl : ∀ o, o ∈ l → o.text.size ≤ 6) : ∀ (d : Nat) (r : Rd) (out : List PNode), NodTx 6 out → NodTx 6 (genN l g d r out).1 := by
 have hleaf : ∀ k, (leafN k).text.size ≤ 6 := fun k => by
  unfold leafN
  split
  ·simp only [ByteArray.size_extract]
   have : (⟨#[97, 98, 99, 100, 95, 57]⟩ : ByteArray).size = 6 := rfl
   omega
  ·simp only [ByteArray.size_extract]
   have : (⟨#[48, 49, 55, 50]⟩ : ByteArray).size = 4 := rfl
   omega
 intro d
 induction d with
 | zero => intro r out h; exact nodTx_app h (hleaf _)
 | succ d ih =>
  intro r out h
  rw [genN]
  split
  ·exact nodTx_app h (hleaf _)
  ·rename_i hc
   have hlen : l.length ≠ 0 := fun e => hc (.inr (.inr e))
   have hx : r.v / 8 % l.length < l.length := Nat.mod_lt _ (by omega)
   have ho : (opAt l (r.v / 8 % l.length)).text.size ≤ 6 := hl _ (opAt_mem hx)
   split
   ·exact nodTx_app (ih _ _ h) (Nat.zero_le _)
   ·split
    ·exact nodTx_app (ih _ _ (ih _ _ h)) ho
    ·exact nodTx_app (ih _ _ h) ho
theorem tabRun_tbl (p : Rd) : ∀ i, tblOk (tabRun i ([], p)).1 = 0
 | 0 => by show tblOk ([] : List POp) = 0; decide
 | i + 1 => by
  simp only [tabRun, tabStep]
  split
  ·rename_i h; exact h
  ·exact tabRun_tbl p i
theorem drawTab_tbl (r : Rd) : tblOk (drawTab r).1 = 0 := tabRun_tbl r.nx _
theorem kinds_of {l : List POp} (h : tblOk l = 0) : KindsSm l := fun i hi => by
 have := ok_of_ok h i hi
 simp [opOk] at this
 omega
theorem drawTree_tx (r : Rd) (g : Bool) (q : Rd) : NodTx 6 (drawTree (drawTab r).1 g q).1 := gen_tx (fun o ho => by have := drawTab_txt r o ho; omega) _ _ _ (nodTx_nil 6)
theorem spoilN_tx {n : PNode} {k : Nat} (h : n.text.size ≤ 6) : (spoilN n k).text.size ≤ 7 := by
 unfold spoilN
 have e5 : (⟨#[43, 45, 49, 97, 40]⟩ : ByteArray).size = 5 := rfl
 have e1 : (⟨#[95]⟩ : ByteArray).size = 1 := rfl
 split
 ·simp only; omega
 ·split
  ·simp only [ByteArray.size_extract]; omega
  ·split
   ·simp only; omega
   ·split
    ·simp only; omega
    ·split
     ·simp only [ByteArray.size_append]; omega
     ·exact Nat.zero_le _
theorem bigN_tx : ∀ n, NodTx 7 (bigN n)
 | 0 => nodTx_mem.2 fun n hn => by simp [bigN] at hn; subst hn; decide
 | n + 1 => nodTx_app (bigN_tx n) (Nat.zero_le _)
theorem chainN_tx : ∀ n, NodTx 7 (chainN n)
 | 0 => nodTx_mem.2 fun n hn => by simp [chainN] at hn; subst hn; decide
 | n + 1 => nodTx_app (chainN_tx n) (show (⟨#[45]⟩ : ByteArray).size ≤ 7 by decide)
theorem nodTx_set {B : Nat} {T : List PNode} {i : Nat} {n : PNode} (h : NodTx B T) (hn : n.text.size ≤ B) : NodTx B (T.set i n) := nodTx_mem.2 fun m hm => by
 rcases List.mem_or_eq_of_mem_set hm with h1 | h1
 ·exact nodTx_mem.1 h m h1
 ·rw [h1]; exact hn
theorem nodCells_take {T : List PNode} {n i : Nat} (h : i < n) : nodCells (T.take n) i = nodCells T i := by
 simp [nodCells, List.getD_eq_getElem?_getD, h]
structure Over.ok (o : Over) : Prop where
 tab : o.tab.length ≤ 501
 txt : ∀ p, p ∈ o.tab → p.text.size ≤ 17
 row : 0 < o.row.length ∧ o.row.length ≤ 30000
 tx : NodTx 7 o.row
 cut : ∀ n, o.cut = some n → n ≤ o.row.length
 rd : o.rd.okw
theorem over0_ok {k : Nat} {r : Rd} {g : Bool} (hr : r.ok) (hk : k < 256) : (over0 k (drawTab r).1 (drawTree (drawTab r).1 g (drawTab r).2).1 (drawTree (drawTab r).1 g (drawTab r).2).2).ok := by
 have h1 := drawTab_len r
 have h2 := drawTab_txt r
 have h3 := drawTab_ok hr
 have h4 := drawTree_len (drawTab r).1 g (drawTab r).2
 have h5 := drawTree_tx r g (drawTab r).2
 have h6 : (drawTree (drawTab r).1 g (drawTab r).2).2.ok := gen_ok _ _ _ (Rd.nx_ok h3)
 have h7 := spoilTab_txt h2 (drawTree (drawTab r).1 g (drawTab r).2).2
 have h8 := spoilTab_len h1 (drawTree (drawTab r).1 g (drawTab r).2).2
 have h9 := spoilRd_ok (l := (drawTab r).1) h6
 generalize drawTree (drawTab r).1 g (drawTab r).2 = d at *
 generalize drawTab r = q at *
 have hrd : ({ d.2 with p := 1 + k % 7 } : Rd).okw := ⟨h6.1, by simp only; omega, h6.2.2⟩
 unfold over0
 split
 ·unfold overT
  have hi : ({ d.2 with p := 1 + k % 7 } : Rd).nx.v % d.1.length < d.1.length := Nat.mod_lt _ h4.1
  split
  ·exact ⟨by simp only; omega, fun p hp => by have := h2 p hp; omega, by simp only; omega, nodTx_le h5 (by omega), fun n hn => (by have := Option.some.inj hn; rw [← this]; exact Nat.le_of_lt hi), Rd.nx_okw (Rd.nx_okw hrd)⟩
  ·split
   ·refine ⟨by simp only; omega, fun p hp => by have := h2 p hp; omega, ?_, bigN_tx _, fun n hn => (by cases hn), Rd.nx_okw (Rd.nx_okw hrd)⟩
    simp only [bigN_len]
    omega
   ·exact ⟨by simp only; omega, fun p hp => by have := h2 p hp; omega, by simp only [List.length_set]; omega, nodTx_set (nodTx_le h5 (by omega)) (spoilN_tx (h5 _ hi)), fun n hn => (by cases hn), Rd.nx_okw (Rd.nx_okw hrd)⟩
 ·split
  ·exact ⟨h8, h7, by simp only; omega, nodTx_le h5 (by omega), fun n hn => (by cases hn), h9.w⟩
  ·exact ⟨by simp only; omega, fun p hp => by have := h2 p hp; omega, by simp only; omega, nodTx_le h5 (by omega), fun n hn => (by cases hn), h6.w⟩
theorem take_tx {B n : Nat} {T : List PNode} (h : NodTx B T) : NodTx B (T.take n) := nodTx_mem.2 fun m hm => nodTx_mem.1 h m (List.mem_of_mem_take hm)
theorem Over.ok.treeTx {o : Over} (h : o.ok) : NodTx 7 o.tree := by
 unfold Over.tree
 split
 ·exact h.tx
 ·exact take_tx h.tx
theorem groupZ_len2 (l : List POp) (t : List PNode) : (groupZ l t).length ≤ 20000 ∧ (groupOk l t = true → 0 < (groupZ l t).length) := by
 unfold groupZ
 split
 ·rename_i hg
  simp only [groupOk, Bool.and_eq_true, decide_eq_true_eq] at hg
  have hl := lay_len (groupE l t) []
  have hp := sizeE_pos (groupE l t)
  simp only [List.length_nil] at hl
  omega
 ·rename_i hg
  exact ⟨by simp, fun h => absurd h hg⟩
theorem over1_ok {k : Nat} {o : Over} (h : o.ok) : (over1 k o).ok := by
 unfold over1
 split
 ·refine ⟨by simp, fun p hp => ?_, ?_, chainN_tx _, fun n hn => (by cases hn), Rd.nx_okw h.rd⟩
  ·simp only [List.mem_singleton] at hp; subst hp; decide
  ·simp only [chainN_len]
   have : o.rd.v % 5 < 5 := Nat.mod_lt _ (by decide)
   omega
 ·split
  ·rename_i hg
   have := groupZ_len2 o.tab o.tree
   exact ⟨h.tab, h.txt, ⟨this.2 hg.2, by simp only; omega⟩, groupZ_tx h.treeTx, fun n hn => (by cases hn), h.rd⟩
  ·exact h
set_option maxHeartbeats 4000000 in
set_option maxRecDepth 100000 in
theorem c_l3DrawTreeOver (r : Rd) (hr : r.ok) : VProc Tryz.prog 37 [.ptr 0 2 0 0] [rdOb r] [] (fun av mem maps => av = .tup [.agg [.own 1], .agg [(overAt r).treeA 2]] ∧ mem = [rdOb (overAt r).rd, tab (overAt r).tab, nodRow (overAt r).row] ∧ maps = []) := by
 have cr : ∀ (r : Rd) (i : Nat) (c : AV), i < r.n → c ∈ rdCells r.f i → Closed c := fun r i c _ h => rdClosed r.f i c h
 have c1 := c_next r hr
 have hn := Rd.nx_ok hr
 have hk := Rd.v_lt hr
 have c2 := c_l1DrawTable r.nx hn
 have h1 := drawTab_len r.nx
 have h2 := drawTab_txt r.nx
 have h3 := drawTab_ok hn
 have h0 := drawTab_tbl r.nx
 have hks := kinds_of h0
 have h4 := drawTree_len (drawTab r.nx).1 (decide (r.v % 2 = 1)) (drawTab r.nx).2
 have h5 := drawTree_tx r.nx (decide (r.v % 2 = 1)) (drawTab r.nx).2
 have h6 : (drawTree (drawTab r.nx).1 (decide (r.v % 2 = 1)) (drawTab r.nx).2).2.ok := gen_ok _ _ _ (Rd.nx_ok h3)
 have hO := over0_ok (k := r.v) (g := decide (r.v % 2 = 1)) hn hk
 have c3 := c_l3DrawTree (drawTab r.nx).1 (by omega) hks (decide (r.v % 2 = 1)) (drawTab r.nx).2 h3
 unfold overAt
 have hval : ∀ o : Over, o.ok → True := fun _ _ => trivial
 generalize drawTree (drawTab r.nx).1 (decide (r.v % 2 = 1)) (drawTab r.nx).2 = d at *
 generalize drawTab r.nx = q at *
 generalize hK : r.v = k at *
 have e2 : (k : Int).tmod 2 = ((k % 2 : Nat) : Int) := tmod_nat k 2
 have e5 : (k : Int).tmod 5 = ((k % 5 : Nat) : Int) := tmod_nat k 5
 have e7 : (k : Int).tmod 7 = ((k % 7 : Nat) : Int) := tmod_nat k 7
 have e20 : (k : Int).tmod 20 = ((k % 20 : Nat) : Int) := tmod_nat k 20
 have e32 : (k : Int).tmod 32 = ((k % 32 : Nat) : Int) := tmod_nat k 32
 have e4 : (k : Int).tmod 4 = ((k % 4 : Nat) : Int) := tmod_nat k 4
 have b2 : k % 2 < 2 := Nat.mod_lt _ (by decide)
 have b7 : k % 7 < 7 := Nat.mod_lt _ (by decide)
 have w7 : IntKind.i64.wrap (1 + ((k % 7 : Nat) : Int)) = ((1 + k % 7 : Nat) : Int) := by rw [wrap_i64 (by omega)]; omega
 have eg : ((k : Int).tmod 2 == 1) = decide (k % 2 = 1) := by
  rw [e2, Bool.eq_iff_iff]; simp; omega
 simp only [rdOb, tab, nodRow] at c1 c2 c3 ⊢
 refine vproc_start Tryz.func37 (by kernel_rfl) rfl (by simp [Tryz.ntmps37]) ?_; simp only [Tryz.ntmps37, Tryz.results37]; simp [go_sem]
 refine vcall_share [0] c1 (by simp) ?_ ?_ trivial ?_
 ·simp [go_sem]
 ·simp [go_sem]
  exact cr r
 ·rintro av mem maps ⟨rfl, rfl, rfl⟩
  simp [go_sem]
  refine vcall_share [0] c2 (by simp) ?_ ?_ trivial ?_
  ·simp [go_sem]
  ·simp [go_sem]
   exact cr r.nx
  ·rintro av mem maps ⟨rfl, rfl, rfl⟩
   simp [go_sem, eg]
   refine vcall_share [0, 3] c3 (by simp) ?_ ?_ trivial ?_
   ·simp [go_sem]
   ·simp [go_sem]
    exact ⟨cr q.2, fun i _ => cellsRn_lits (opLit _ i)⟩
   ·rintro av mem maps ⟨rfl, rfl, rfl⟩
    have hwk : IntKind.i64.wrap (1 + ((k % 7 : Nat) : Int)) = ((1 + k % 7 : Nat) : Int) := w7
    have hwk : IntKind.i64.wrap (1 + ((k % 7 : Nat) : Int)) = ((1 + k % 7 : Nat) : Int) := w7
    by_cases hA : k % 5 = 4
    ·have hA' : (k : Int).tmod 5 = 4 := by rw [e5, hA]; rfl
     have hB' : ¬ (k : Int).tmod 20 = 3 := by rw [e20]; omega
     have c4 := c_l3SpoilTree d.1 (by omega) (fun i hi => by have := h5 i hi; omega) { d.2 with p := 1 + k % 7 } ⟨h6.1, by simp only; omega, h6.2.2⟩
     have hov : over0 k q.1 d.1 d.2 = overT q.1 d.1 { d.2 with p := 1 + k % 7 } := by rw [over0, if_pos hA]
     rw [hov] at hO ⊢
     unfold overT at hO ⊢
     have hrs : ({ d.2 with p := 1 + k % 7 } : Rd).n = d.2.n ∧ ({ d.2 with p := 1 + k % 7 } : Rd).f = d.2.f ∧ ({ d.2 with p := 1 + k % 7 } : Rd).p = 1 + k % 7 := ⟨rfl, rfl, rfl⟩
     generalize ({ d.2 with p := 1 + k % 7 } : Rd) = rs at *
     have hi := Nat.mod_lt rs.nx.v h4.1
     simp only [rdOb, nodRow, hrs.1, hrs.2.1, hrs.2.2] at c4
     generalize k % 7 = m7 at *
     simp only [go_sem, hA', e7, w7]
     simp [go_sem, hA', e7, w7]
     refine vcall_share [0, 5] c4 (by simp) ?_ ?_ trivial ?_
     ·simp [go_sem]
     ·simp [go_sem]
      exact ⟨cr d.2, fun i _ => cellsRn_lits (nodLit _ i)⟩
     ·rintro av mem maps ⟨rfl, ⟨hc, rfl, rfl⟩ | ⟨hc, rfl, rfl⟩ | ⟨⟨hc, hc'⟩, rfl, rfl⟩⟩
      ·rw [if_pos hc] at hO ⊢
       generalize q.1 = L at *
       generalize d.1 = R at *
       generalize rs.nx.v % R.length = n at *
       generalize rs.nx.nx = rx at *
       have clL : ∀ (i : Nat) (c : AV), i < L.length → c ∈ opCells L i → Closed c := fun i c _ h => opClosed L i c h
       have htx := hO.treeTx
       have hrow := hO.row
       have htab := hO.tab
       have htxt : ∀ p, p ∈ L → p.text.size ≤ 17 := hO.txt
       simp only [Over.tree] at htx hrow htab
       by_cases h21 : k % 32 = 21
       ·have h21' : (k : Int).tmod 32 = 21 := by rw [e32, h21]; rfl
        have c5 := c_nextW rx hO.rd
        have v5 : (rx.v : Int).tmod 5 = ((rx.v % 5 : Nat) : Int) := tmod_nat rx.v 5
        have w5 : rx.v % 5 < 5 := Nat.mod_lt _ (by decide)
        have ho : over1 k ⟨L, R, some n, rx⟩ = ⟨[minusOp], chainN (997 + rx.v % 5), none, rx.nx⟩ := by rw [over1, if_pos h21]
        rw [ho]
        generalize rx.v % 5 = y at *
        have wy : IntKind.i64.wrap (1000 + (y : Int)) = 1000 + (y : Int) := wrap_i64 (by omega)
        have wz : IntKind.i64.wrap (1000 + (y : Int) - 3) = ((997 + y : Nat) : Int) := by rw [wrap_i64 (by omega)]; omega
        have c6 := c_l3Chain (997 + y) (by omega)
        simp only [rdOb] at c5
        simp [go_sem, hA', hB', h21']
        refine vcall_use c_l3Minus (by simp [go_sem]) ?_
        rintro av obs ⟨rfl, rfl⟩
        simp [go_sem]
        refine vcall_share [0] c5 (by simp) ?_ ?_ trivial ?_
        ·simp [go_sem]
        ·simp [go_sem]
         exact cr rx
        ·rintro av mem maps ⟨rfl, rfl, rfl⟩
         simp only [go_sem, v5, wy, wz]
         simp [go_sem, v5, wy, wz]
         refine vcall_use c6 (by simp [go_sem]) ?_
         rintro av obs ⟨rfl, rfl⟩
         simp [go_sem, Over.treeA]
         refine ⟨rfl, [7, 8], [rdOb rx.nx, tab [minusOp], nodRow (chainN (997 + y))], by simp, by simp, by simp [go_sem], ?_, by simp [go_sem], ?_⟩
         ·simp [go_sem, rdOb, tab, nodRow, chainN_len]
          exact ⟨rdOut, outAt_lits (fun _ _ => rfl) (fun j _ => opLit _ j), outAt_lits (fun _ _ => rfl) (fun j _ => nodLit _ j)⟩
         ·simp [go_sem, rdOb, tab, nodRow, chainN_len]
          try rfl
       ·have h21' : ¬ (k : Int).tmod 32 = 21 := by rw [e32]; omega
        by_cases h4' : k % 4 = 2
        ·have h4'' : (k : Int).tmod 4 = 2 := by rw [e4, h4']; rfl
         have hTL : (R.take n).length = n := by simp; omega
         have cg := c_specGroup L (by omega) (fun i hi => by show (opAt L i).wf; have := htxt _ (opAt_mem hi); simp only [POp.wf, maxLen]; omega) (R.take n) (by omega) (fun i hi => by have := htx i hi; simp only [PNode.wf, maxLen]; omega)
         rw [hTL] at cg
         have hgl := groupZ_len2 L (R.take n)
         have ho : over1 k ⟨L, R, some n, rx⟩ = if groupOk L (R.take n) = true then ⟨L, groupZ L (R.take n), none, rx⟩ else ⟨L, R, some n, rx⟩ := by
          cases hg : groupOk L (R.take n) with
          | true => rw [if_pos rfl, over1, if_neg h21, if_pos ⟨h4', hg⟩]; rfl
          | false => rw [if_neg (by simp), over1, if_neg h21, if_neg (fun h => by rw [show (Over.mk L R (some n) rx).tree = (R.take n) from rfl] at h; simp [hg] at h)]
         rw [ho]
         generalize groupZ L (R.take n) = G at *
         simp [go_sem, hA', hB', h21', h4'']
         refine vcall_use cg ?_ ?_
         ·simp [go_sem]
          exact ⟨argSl_own rfl (by omega) clL, argSl_sub rfl (by omega) (by omega) fun i hi => ⟨by rw [Nat.zero_add, nodCells_take hi], fun c hc => nodClosed _ i c hc⟩⟩
         ·rintro av obs ⟨rfl, rfl⟩
          cases hg : groupOk L (R.take n) with
          | true =>
           simp [go_sem, Over.treeA]
           refine vc_drawn [2,3] (.q 0 <| .or 1 (.or 2 (.or 3 (.done) (.nil)) (.nil)) (.or 2 (.q 1 <| .or 3 (.done) (.nil)) (.nil))) (by kernel_rfl) ?_
           simp [go_sem]
           refine ⟨rfl, [3, 7], [rdOb rx, tab L, nodRow G], by simp, by simp, by simp [go_sem], ?_, by simp [go_sem], ?_⟩
           ·simp [go_sem, rdOb, tab, nodRow]
            exact ⟨rdOut, outAt_lits (fun _ _ => rfl) (fun j _ => opLit _ j), outAt_lits (fun _ _ => rfl) (fun j _ => nodLit _ j)⟩
           ·simp [go_sem, rdOb, tab, nodRow]
            try rfl
          | false =>
           simp [go_sem, Over.treeA]
           refine vc_drawn [2,3] (.q 0 <| .or 1 (.or 2 (.or 3 (.done) (.nil)) (.nil)) (.or 2 (.q 1 <| .or 3 (.done) (.nil)) (.nil))) (by kernel_rfl) ?_
           simp [go_sem]
           refine ⟨rfl, [3, 5], [rdOb rx, tab L, nodRow R], by simp, by simp, by simp [go_sem], ?_, by simp [go_sem], ?_⟩
           ·simp [go_sem, rdOb, tab, nodRow]
            exact ⟨rdOut, outAt_lits (fun _ _ => rfl) (fun j _ => opLit _ j), outAt_lits (fun _ _ => rfl) (fun j _ => nodLit _ j)⟩
           ·simp [go_sem, rdOb, tab, nodRow]
            try rfl
        ·have h4'' : ¬ (k : Int).tmod 4 = 2 := by rw [e4]; omega
         have ho : over1 k ⟨L, R, some n, rx⟩ = ⟨L, R, some n, rx⟩ := by rw [over1, if_neg h21, if_neg (fun h => h4' h.1)]
         rw [ho]
         simp [go_sem, hA', hB', h21', h4'', Over.treeA]
         refine vc_drawn [2,3] (.q 0 <| .or 1 (.or 2 (.or 3 (.done) (.nil)) (.nil)) (.or 2 (.q 1 <| .or 3 (.done) (.nil)) (.nil))) (by kernel_rfl) ?_
         simp [go_sem]
         refine ⟨rfl, [3, 5], [rdOb rx, tab L, nodRow R], by simp, by simp, by simp [go_sem], ?_, by simp [go_sem], ?_⟩
         ·simp [go_sem, rdOb, tab, nodRow]
          exact ⟨rdOut, outAt_lits (fun _ _ => rfl) (fun j _ => opLit _ j), outAt_lits (fun _ _ => rfl) (fun j _ => nodLit _ j)⟩
         ·simp [go_sem, rdOb, tab, nodRow]
          try rfl
      ·rw [if_neg (by omega), if_pos hc] at hO ⊢
       generalize q.1 = L at *
       generalize bigN (19998 + rs.v / 8 % 3) = R at *
       generalize rs.nx.nx = rx at *
       have clL : ∀ (i : Nat) (c : AV), i < L.length → c ∈ opCells L i → Closed c := fun i c _ h => opClosed L i c h
       have htx := hO.treeTx
       have hrow := hO.row
       have htab := hO.tab
       have htxt : ∀ p, p ∈ L → p.text.size ≤ 17 := hO.txt
       simp only [Over.tree] at htx hrow htab
       by_cases h21 : k % 32 = 21
       ·have h21' : (k : Int).tmod 32 = 21 := by rw [e32, h21]; rfl
        have c5 := c_nextW rx hO.rd
        have v5 : (rx.v : Int).tmod 5 = ((rx.v % 5 : Nat) : Int) := tmod_nat rx.v 5
        have w5 : rx.v % 5 < 5 := Nat.mod_lt _ (by decide)
        have ho : over1 k ⟨L, R, none, rx⟩ = ⟨[minusOp], chainN (997 + rx.v % 5), none, rx.nx⟩ := by rw [over1, if_pos h21]
        rw [ho]
        generalize rx.v % 5 = y at *
        have wy : IntKind.i64.wrap (1000 + (y : Int)) = 1000 + (y : Int) := wrap_i64 (by omega)
        have wz : IntKind.i64.wrap (1000 + (y : Int) - 3) = ((997 + y : Nat) : Int) := by rw [wrap_i64 (by omega)]; omega
        have c6 := c_l3Chain (997 + y) (by omega)
        simp only [rdOb] at c5
        simp [go_sem, hA', hB', h21']
        refine vcall_use c_l3Minus (by simp [go_sem]) ?_
        rintro av obs ⟨rfl, rfl⟩
        simp [go_sem]
        refine vcall_share [0] c5 (by simp) ?_ ?_ trivial ?_
        ·simp [go_sem]
        ·simp [go_sem]
         exact cr rx
        ·rintro av mem maps ⟨rfl, rfl, rfl⟩
         simp only [go_sem, v5, wy, wz]
         simp [go_sem, v5, wy, wz]
         refine vcall_use c6 (by simp [go_sem]) ?_
         rintro av obs ⟨rfl, rfl⟩
         simp [go_sem, Over.treeA]
         refine ⟨rfl, [8, 9], [rdOb rx.nx, tab [minusOp], nodRow (chainN (997 + y))], by simp, by simp, by simp [go_sem], ?_, by simp [go_sem], ?_⟩
         ·simp [go_sem, rdOb, tab, nodRow, chainN_len]
          exact ⟨rdOut, outAt_lits (fun _ _ => rfl) (fun j _ => opLit _ j), outAt_lits (fun _ _ => rfl) (fun j _ => nodLit _ j)⟩
         ·simp [go_sem, rdOb, tab, nodRow, chainN_len]
          try rfl
       ·have h21' : ¬ (k : Int).tmod 32 = 21 := by rw [e32]; omega
        by_cases h4' : k % 4 = 2
        ·have h4'' : (k : Int).tmod 4 = 2 := by rw [e4, h4']; rfl
         have hTL : R.length = R.length := rfl
         have cg := c_specGroup L (by omega) (fun i hi => by show (opAt L i).wf; have := htxt _ (opAt_mem hi); simp only [POp.wf, maxLen]; omega) R (by omega) (fun i hi => by have := htx i hi; simp only [PNode.wf, maxLen]; omega)
         rw [hTL] at cg
         have hgl := groupZ_len2 L R
         have ho : over1 k ⟨L, R, none, rx⟩ = if groupOk L R = true then ⟨L, groupZ L R, none, rx⟩ else ⟨L, R, none, rx⟩ := by
          cases hg : groupOk L R with
          | true => rw [if_pos rfl, over1, if_neg h21, if_pos ⟨h4', hg⟩]; rfl
          | false => rw [if_neg (by simp), over1, if_neg h21, if_neg (fun h => by rw [show (Over.mk L R none rx).tree = R from rfl] at h; simp [hg] at h)]
         rw [ho]
         generalize groupZ L R = G at *
         simp [go_sem, hA', hB', h21', h4'']
         refine vcall_use cg ?_ ?_
         ·simp [go_sem]
          exact ⟨argSl_own rfl (by omega) clL, argSl_own rfl (by omega) (fun i c _ hc => nodClosed _ i c hc)⟩
         ·rintro av obs ⟨rfl, rfl⟩
          cases hg : groupOk L R with
          | true =>
           simp [go_sem, Over.treeA]
           refine vc_drawn [2,3] (.q 0 <| .or 1 (.or 2 (.or 3 (.done) (.nil)) (.nil)) (.or 2 (.q 1 <| .or 3 (.done) (.nil)) (.nil))) (by kernel_rfl) ?_
           simp [go_sem]
           refine ⟨rfl, [3, 8], [rdOb rx, tab L, nodRow G], by simp, by simp, by simp [go_sem], ?_, by simp [go_sem], ?_⟩
           ·simp [go_sem, rdOb, tab, nodRow]
            exact ⟨rdOut, outAt_lits (fun _ _ => rfl) (fun j _ => opLit _ j), outAt_lits (fun _ _ => rfl) (fun j _ => nodLit _ j)⟩
           ·simp [go_sem, rdOb, tab, nodRow]
            try rfl
          | false =>
           simp [go_sem, Over.treeA]
           refine vc_drawn [2,3] (.q 0 <| .or 1 (.or 2 (.or 3 (.done) (.nil)) (.nil)) (.or 2 (.q 1 <| .or 3 (.done) (.nil)) (.nil))) (by kernel_rfl) ?_
           simp [go_sem]
           refine ⟨rfl, [3, 7], [rdOb rx, tab L, nodRow R], by simp, by simp, by simp [go_sem], ?_, by simp [go_sem], ?_⟩
           ·simp [go_sem, rdOb, tab, nodRow]
            exact ⟨rdOut, outAt_lits (fun _ _ => rfl) (fun j _ => opLit _ j), outAt_lits (fun _ _ => rfl) (fun j _ => nodLit _ j)⟩
           ·simp [go_sem, rdOb, tab, nodRow]
            try rfl
        ·have h4'' : ¬ (k : Int).tmod 4 = 2 := by rw [e4]; omega
         have ho : over1 k ⟨L, R, none, rx⟩ = ⟨L, R, none, rx⟩ := by rw [over1, if_neg h21, if_neg (fun h => h4' h.1)]
         rw [ho]
         simp [go_sem, hA', hB', h21', h4'', Over.treeA]
         refine vc_drawn [2,3] (.q 0 <| .or 1 (.or 2 (.or 3 (.done) (.nil)) (.nil)) (.or 2 (.q 1 <| .or 3 (.done) (.nil)) (.nil))) (by kernel_rfl) ?_
         simp [go_sem]
         refine ⟨rfl, [3, 7], [rdOb rx, tab L, nodRow R], by simp, by simp, by simp [go_sem], ?_, by simp [go_sem], ?_⟩
         ·simp [go_sem, rdOb, tab, nodRow]
          exact ⟨rdOut, outAt_lits (fun _ _ => rfl) (fun j _ => opLit _ j), outAt_lits (fun _ _ => rfl) (fun j _ => nodLit _ j)⟩
         ·simp [go_sem, rdOb, tab, nodRow]
          try rfl
      ·rw [if_neg hc, if_neg hc'] at hO ⊢
       generalize q.1 = L at *
       generalize d.1.set (rs.nx.v % d.1.length) (spoilN (nodAt d.1 (rs.nx.v % d.1.length)) rs.v) = R at *
       generalize rs.nx.nx = rx at *
       have clL : ∀ (i : Nat) (c : AV), i < L.length → c ∈ opCells L i → Closed c := fun i c _ h => opClosed L i c h
       have htx := hO.treeTx
       have hrow := hO.row
       have htab := hO.tab
       have htxt : ∀ p, p ∈ L → p.text.size ≤ 17 := hO.txt
       simp only [Over.tree] at htx hrow htab
       by_cases h21 : k % 32 = 21
       ·have h21' : (k : Int).tmod 32 = 21 := by rw [e32, h21]; rfl
        have c5 := c_nextW rx hO.rd
        have v5 : (rx.v : Int).tmod 5 = ((rx.v % 5 : Nat) : Int) := tmod_nat rx.v 5
        have w5 : rx.v % 5 < 5 := Nat.mod_lt _ (by decide)
        have ho : over1 k ⟨L, R, none, rx⟩ = ⟨[minusOp], chainN (997 + rx.v % 5), none, rx.nx⟩ := by rw [over1, if_pos h21]
        rw [ho]
        generalize rx.v % 5 = y at *
        have wy : IntKind.i64.wrap (1000 + (y : Int)) = 1000 + (y : Int) := wrap_i64 (by omega)
        have wz : IntKind.i64.wrap (1000 + (y : Int) - 3) = ((997 + y : Nat) : Int) := by rw [wrap_i64 (by omega)]; omega
        have c6 := c_l3Chain (997 + y) (by omega)
        simp only [rdOb] at c5
        simp [go_sem, hA', hB', h21']
        refine vcall_use c_l3Minus (by simp [go_sem]) ?_
        rintro av obs ⟨rfl, rfl⟩
        simp [go_sem]
        refine vcall_share [0] c5 (by simp) ?_ ?_ trivial ?_
        ·simp [go_sem]
        ·simp [go_sem]
         exact cr rx
        ·rintro av mem maps ⟨rfl, rfl, rfl⟩
         simp only [go_sem, v5, wy, wz]
         simp [go_sem, v5, wy, wz]
         refine vcall_use c6 (by simp [go_sem]) ?_
         rintro av obs ⟨rfl, rfl⟩
         simp [go_sem, Over.treeA]
         refine ⟨rfl, [7, 8], [rdOb rx.nx, tab [minusOp], nodRow (chainN (997 + y))], by simp, by simp, by simp [go_sem], ?_, by simp [go_sem], ?_⟩
         ·simp [go_sem, rdOb, tab, nodRow, chainN_len]
          exact ⟨rdOut, outAt_lits (fun _ _ => rfl) (fun j _ => opLit _ j), outAt_lits (fun _ _ => rfl) (fun j _ => nodLit _ j)⟩
         ·simp [go_sem, rdOb, tab, nodRow, chainN_len]
          try rfl
       ·have h21' : ¬ (k : Int).tmod 32 = 21 := by rw [e32]; omega
        by_cases h4' : k % 4 = 2
        ·have h4'' : (k : Int).tmod 4 = 2 := by rw [e4, h4']; rfl
         have hTL : R.length = R.length := rfl
         have cg := c_specGroup L (by omega) (fun i hi => by show (opAt L i).wf; have := htxt _ (opAt_mem hi); simp only [POp.wf, maxLen]; omega) R (by omega) (fun i hi => by have := htx i hi; simp only [PNode.wf, maxLen]; omega)
         rw [hTL] at cg
         have hgl := groupZ_len2 L R
         have ho : over1 k ⟨L, R, none, rx⟩ = if groupOk L R = true then ⟨L, groupZ L R, none, rx⟩ else ⟨L, R, none, rx⟩ := by
          cases hg : groupOk L R with
          | true => rw [if_pos rfl, over1, if_neg h21, if_pos ⟨h4', hg⟩]; rfl
          | false => rw [if_neg (by simp), over1, if_neg h21, if_neg (fun h => by rw [show (Over.mk L R none rx).tree = R from rfl] at h; simp [hg] at h)]
         rw [ho]
         generalize groupZ L R = G at *
         simp [go_sem, hA', hB', h21', h4'']
         refine vcall_use cg ?_ ?_
         ·simp [go_sem]
          exact ⟨argSl_own rfl (by omega) clL, argSl_own rfl (by omega) (fun i c _ hc => nodClosed _ i c hc)⟩
         ·rintro av obs ⟨rfl, rfl⟩
          cases hg : groupOk L R with
          | true =>
           simp [go_sem, Over.treeA]
           refine vc_drawn [2,3] (.q 0 <| .or 1 (.or 2 (.or 3 (.done) (.nil)) (.nil)) (.or 2 (.q 1 <| .or 3 (.done) (.nil)) (.nil))) (by kernel_rfl) ?_
           simp [go_sem]
           refine ⟨rfl, [3, 7], [rdOb rx, tab L, nodRow G], by simp, by simp, by simp [go_sem], ?_, by simp [go_sem], ?_⟩
           ·simp [go_sem, rdOb, tab, nodRow]
            exact ⟨rdOut, outAt_lits (fun _ _ => rfl) (fun j _ => opLit _ j), outAt_lits (fun _ _ => rfl) (fun j _ => nodLit _ j)⟩
           ·simp [go_sem, rdOb, tab, nodRow]
            try rfl
          | false =>
           simp [go_sem, Over.treeA]
           refine vc_drawn [2,3] (.q 0 <| .or 1 (.or 2 (.or 3 (.done) (.nil)) (.nil)) (.or 2 (.q 1 <| .or 3 (.done) (.nil)) (.nil))) (by kernel_rfl) ?_
           simp [go_sem]
           refine ⟨rfl, [3, 5], [rdOb rx, tab L, nodRow R], by simp, by simp, by simp [go_sem], ?_, by simp [go_sem], ?_⟩
           ·simp [go_sem, rdOb, tab, nodRow]
            exact ⟨rdOut, outAt_lits (fun _ _ => rfl) (fun j _ => opLit _ j), outAt_lits (fun _ _ => rfl) (fun j _ => nodLit _ j)⟩
           ·simp [go_sem, rdOb, tab, nodRow]
            try rfl
        ·have h4'' : ¬ (k : Int).tmod 4 = 2 := by rw [e4]; omega
         have ho : over1 k ⟨L, R, none, rx⟩ = ⟨L, R, none, rx⟩ := by rw [over1, if_neg h21, if_neg (fun h => h4' h.1)]
         rw [ho]
         simp [go_sem, hA', hB', h21', h4'', Over.treeA]
         refine vc_drawn [2,3] (.q 0 <| .or 1 (.or 2 (.or 3 (.done) (.nil)) (.nil)) (.or 2 (.q 1 <| .or 3 (.done) (.nil)) (.nil))) (by kernel_rfl) ?_
         simp [go_sem]
         refine ⟨rfl, [3, 5], [rdOb rx, tab L, nodRow R], by simp, by simp, by simp [go_sem], ?_, by simp [go_sem], ?_⟩
         ·simp [go_sem, rdOb, tab, nodRow]
          exact ⟨rdOut, outAt_lits (fun _ _ => rfl) (fun j _ => opLit _ j), outAt_lits (fun _ _ => rfl) (fun j _ => nodLit _ j)⟩
         ·simp [go_sem, rdOb, tab, nodRow]
          try rfl
    ·have hA' : ¬ (k : Int).tmod 5 = 4 := by rw [e5]; omega
     by_cases hB : k % 20 = 3
     ·have hB' : (k : Int).tmod 20 = 3 := by rw [e20, hB]; rfl
      have c4 := c_l1SpoilTable q.1 (by omega) (fun i hi => by have := h2 _ (opAt_mem hi); omega) d.2 h6
      have hov : over0 k q.1 d.1 d.2 = ⟨spoilTab q.1 d.2, d.1, none, spoilRd q.1 d.2⟩ := by rw [over0, if_neg hA, if_pos hB]
      rw [hov] at hO ⊢
      simp only [rdOb, tab] at c4
      simp [go_sem, hA', hB']
      refine vcall_share [0, 3] c4 (by simp) ?_ ?_ trivial ?_
      ·simp [go_sem]
      ·simp [go_sem]
       exact ⟨cr d.2, fun i _ => cellsRn_lits (opLit _ i)⟩
      ·rintro av mem maps ⟨rfl, ⟨hc, rfl, rfl⟩ | ⟨hc, rfl, rfl⟩⟩
       ·generalize spoilTab q.1 d.2 = L at *
        generalize d.1 = R at *
        generalize spoilRd q.1 d.2 = rx at *
        have clL : ∀ (i : Nat) (c : AV), i < L.length → c ∈ opCells L i → Closed c := fun i c _ h => opClosed L i c h
        have htx := hO.treeTx
        have hrow := hO.row
        have htab := hO.tab
        have htxt : ∀ p, p ∈ L → p.text.size ≤ 17 := hO.txt
        simp only [Over.tree] at htx hrow htab
        by_cases h21 : k % 32 = 21
        ·have h21' : (k : Int).tmod 32 = 21 := by rw [e32, h21]; rfl
         have c5 := c_nextW rx hO.rd
         have v5 : (rx.v : Int).tmod 5 = ((rx.v % 5 : Nat) : Int) := tmod_nat rx.v 5
         have w5 : rx.v % 5 < 5 := Nat.mod_lt _ (by decide)
         have ho : over1 k ⟨L, R, none, rx⟩ = ⟨[minusOp], chainN (997 + rx.v % 5), none, rx.nx⟩ := by rw [over1, if_pos h21]
         rw [ho]
         generalize rx.v % 5 = y at *
         have wy : IntKind.i64.wrap (1000 + (y : Int)) = 1000 + (y : Int) := wrap_i64 (by omega)
         have wz : IntKind.i64.wrap (1000 + (y : Int) - 3) = ((997 + y : Nat) : Int) := by rw [wrap_i64 (by omega)]; omega
         have c6 := c_l3Chain (997 + y) (by omega)
         simp only [rdOb] at c5
         simp [go_sem, hA', hB', h21']
         refine vcall_use c_l3Minus (by simp [go_sem]) ?_
         rintro av obs ⟨rfl, rfl⟩
         simp [go_sem]
         refine vcall_share [0] c5 (by simp) ?_ ?_ trivial ?_
         ·simp [go_sem]
         ·simp [go_sem]
          exact cr rx
         ·rintro av mem maps ⟨rfl, rfl, rfl⟩
          simp only [go_sem, v5, wy, wz]
          simp [go_sem, v5, wy, wz]
          refine vcall_use c6 (by simp [go_sem]) ?_
          rintro av obs ⟨rfl, rfl⟩
          simp [go_sem, Over.treeA]
          refine ⟨rfl, [8, 9], [rdOb rx.nx, tab [minusOp], nodRow (chainN (997 + y))], by simp, by simp, by simp [go_sem], ?_, by simp [go_sem], ?_⟩
          ·simp [go_sem, rdOb, tab, nodRow, chainN_len]
           exact ⟨rdOut, outAt_lits (fun _ _ => rfl) (fun j _ => opLit _ j), outAt_lits (fun _ _ => rfl) (fun j _ => nodLit _ j)⟩
          ·simp [go_sem, rdOb, tab, nodRow, chainN_len]
           try rfl
        ·have h21' : ¬ (k : Int).tmod 32 = 21 := by rw [e32]; omega
         by_cases h4' : k % 4 = 2
         ·have h4'' : (k : Int).tmod 4 = 2 := by rw [e4, h4']; rfl
          have hTL : R.length = R.length := rfl
          have cg := c_specGroup L (by omega) (fun i hi => by show (opAt L i).wf; have := htxt _ (opAt_mem hi); simp only [POp.wf, maxLen]; omega) R (by omega) (fun i hi => by have := htx i hi; simp only [PNode.wf, maxLen]; omega)
          rw [hTL] at cg
          have hgl := groupZ_len2 L R
          have ho : over1 k ⟨L, R, none, rx⟩ = if groupOk L R = true then ⟨L, groupZ L R, none, rx⟩ else ⟨L, R, none, rx⟩ := by
           cases hg : groupOk L R with
           | true => rw [if_pos rfl, over1, if_neg h21, if_pos ⟨h4', hg⟩]; rfl
           | false => rw [if_neg (by simp), over1, if_neg h21, if_neg (fun h => by rw [show (Over.mk L R none rx).tree = R from rfl] at h; simp [hg] at h)]
          rw [ho]
          generalize groupZ L R = G at *
          simp [go_sem, hA', hB', h21', h4'']
          refine vcall_use cg ?_ ?_
          ·simp [go_sem]
           exact ⟨argSl_own rfl (by omega) clL, argSl_own rfl (by omega) (fun i c _ hc => nodClosed _ i c hc)⟩
          ·rintro av obs ⟨rfl, rfl⟩
           cases hg : groupOk L R with
           | true =>
            simp [go_sem, Over.treeA]
            refine vc_drawn [2,3] (.q 0 <| .or 1 (.or 2 (.or 3 (.done) (.nil)) (.nil)) (.or 2 (.q 1 <| .or 3 (.done) (.nil)) (.nil))) (by kernel_rfl) ?_
            simp [go_sem]
            refine ⟨rfl, [7, 8], [rdOb rx, tab L, nodRow G], by simp, by simp, by simp [go_sem], ?_, by simp [go_sem], ?_⟩
            ·simp [go_sem, rdOb, tab, nodRow]
             exact ⟨rdOut, outAt_lits (fun _ _ => rfl) (fun j _ => opLit _ j), outAt_lits (fun _ _ => rfl) (fun j _ => nodLit _ j)⟩
            ·simp [go_sem, rdOb, tab, nodRow]
             try rfl
           | false =>
            simp [go_sem, Over.treeA]
            refine vc_drawn [2,3] (.q 0 <| .or 1 (.or 2 (.or 3 (.done) (.nil)) (.nil)) (.or 2 (.q 1 <| .or 3 (.done) (.nil)) (.nil))) (by kernel_rfl) ?_
            simp [go_sem]
            refine ⟨rfl, [7, 5], [rdOb rx, tab L, nodRow R], by simp, by simp, by simp [go_sem], ?_, by simp [go_sem], ?_⟩
            ·simp [go_sem, rdOb, tab, nodRow]
             exact ⟨rdOut, outAt_lits (fun _ _ => rfl) (fun j _ => opLit _ j), outAt_lits (fun _ _ => rfl) (fun j _ => nodLit _ j)⟩
            ·simp [go_sem, rdOb, tab, nodRow]
             try rfl
         ·have h4'' : ¬ (k : Int).tmod 4 = 2 := by rw [e4]; omega
          have ho : over1 k ⟨L, R, none, rx⟩ = ⟨L, R, none, rx⟩ := by rw [over1, if_neg h21, if_neg (fun h => h4' h.1)]
          rw [ho]
          simp [go_sem, hA', hB', h21', h4'', Over.treeA]
          refine vc_drawn [2,3] (.q 0 <| .or 1 (.or 2 (.or 3 (.done) (.nil)) (.nil)) (.or 2 (.q 1 <| .or 3 (.done) (.nil)) (.nil))) (by kernel_rfl) ?_
          simp [go_sem]
          refine ⟨rfl, [7, 5], [rdOb rx, tab L, nodRow R], by simp, by simp, by simp [go_sem], ?_, by simp [go_sem], ?_⟩
          ·simp [go_sem, rdOb, tab, nodRow]
           exact ⟨rdOut, outAt_lits (fun _ _ => rfl) (fun j _ => opLit _ j), outAt_lits (fun _ _ => rfl) (fun j _ => nodLit _ j)⟩
          ·simp [go_sem, rdOb, tab, nodRow]
           try rfl
       ·generalize spoilTab q.1 d.2 = L at *
        generalize d.1 = R at *
        generalize spoilRd q.1 d.2 = rx at *
        have clL : ∀ (i : Nat) (c : AV), i < L.length → c ∈ opCells L i → Closed c := fun i c _ h => opClosed L i c h
        have htx := hO.treeTx
        have hrow := hO.row
        have htab := hO.tab
        have htxt : ∀ p, p ∈ L → p.text.size ≤ 17 := hO.txt
        simp only [Over.tree] at htx hrow htab
        by_cases h21 : k % 32 = 21
        ·have h21' : (k : Int).tmod 32 = 21 := by rw [e32, h21]; rfl
         have c5 := c_nextW rx hO.rd
         have v5 : (rx.v : Int).tmod 5 = ((rx.v % 5 : Nat) : Int) := tmod_nat rx.v 5
         have w5 : rx.v % 5 < 5 := Nat.mod_lt _ (by decide)
         have ho : over1 k ⟨L, R, none, rx⟩ = ⟨[minusOp], chainN (997 + rx.v % 5), none, rx.nx⟩ := by rw [over1, if_pos h21]
         rw [ho]
         generalize rx.v % 5 = y at *
         have wy : IntKind.i64.wrap (1000 + (y : Int)) = 1000 + (y : Int) := wrap_i64 (by omega)
         have wz : IntKind.i64.wrap (1000 + (y : Int) - 3) = ((997 + y : Nat) : Int) := by rw [wrap_i64 (by omega)]; omega
         have c6 := c_l3Chain (997 + y) (by omega)
         simp only [rdOb] at c5
         simp [go_sem, hA', hB', h21']
         refine vcall_use c_l3Minus (by simp [go_sem]) ?_
         rintro av obs ⟨rfl, rfl⟩
         simp [go_sem]
         refine vcall_share [0] c5 (by simp) ?_ ?_ trivial ?_
         ·simp [go_sem]
         ·simp [go_sem]
          exact cr rx
         ·rintro av mem maps ⟨rfl, rfl, rfl⟩
          simp only [go_sem, v5, wy, wz]
          simp [go_sem, v5, wy, wz]
          refine vcall_use c6 (by simp [go_sem]) ?_
          rintro av obs ⟨rfl, rfl⟩
          simp [go_sem, Over.treeA]
          refine ⟨rfl, [7, 8], [rdOb rx.nx, tab [minusOp], nodRow (chainN (997 + y))], by simp, by simp, by simp [go_sem], ?_, by simp [go_sem], ?_⟩
          ·simp [go_sem, rdOb, tab, nodRow, chainN_len]
           exact ⟨rdOut, outAt_lits (fun _ _ => rfl) (fun j _ => opLit _ j), outAt_lits (fun _ _ => rfl) (fun j _ => nodLit _ j)⟩
          ·simp [go_sem, rdOb, tab, nodRow, chainN_len]
           try rfl
        ·have h21' : ¬ (k : Int).tmod 32 = 21 := by rw [e32]; omega
         by_cases h4' : k % 4 = 2
         ·have h4'' : (k : Int).tmod 4 = 2 := by rw [e4, h4']; rfl
          have hTL : R.length = R.length := rfl
          have cg := c_specGroup L (by omega) (fun i hi => by show (opAt L i).wf; have := htxt _ (opAt_mem hi); simp only [POp.wf, maxLen]; omega) R (by omega) (fun i hi => by have := htx i hi; simp only [PNode.wf, maxLen]; omega)
          rw [hTL] at cg
          have hgl := groupZ_len2 L R
          have ho : over1 k ⟨L, R, none, rx⟩ = if groupOk L R = true then ⟨L, groupZ L R, none, rx⟩ else ⟨L, R, none, rx⟩ := by
           cases hg : groupOk L R with
           | true => rw [if_pos rfl, over1, if_neg h21, if_pos ⟨h4', hg⟩]; rfl
           | false => rw [if_neg (by simp), over1, if_neg h21, if_neg (fun h => by rw [show (Over.mk L R none rx).tree = R from rfl] at h; simp [hg] at h)]
          rw [ho]
          generalize groupZ L R = G at *
          simp [go_sem, hA', hB', h21', h4'']
          refine vcall_use cg ?_ ?_
          ·simp [go_sem]
           exact ⟨argSl_own rfl (by omega) clL, argSl_own rfl (by omega) (fun i c _ hc => nodClosed _ i c hc)⟩
          ·rintro av obs ⟨rfl, rfl⟩
           cases hg : groupOk L R with
           | true =>
            simp [go_sem, Over.treeA]
            refine vc_drawn [2,3] (.q 0 <| .or 1 (.or 2 (.or 3 (.done) (.nil)) (.nil)) (.or 2 (.q 1 <| .or 3 (.done) (.nil)) (.nil))) (by kernel_rfl) ?_
            simp [go_sem]
            refine ⟨rfl, [3, 7], [rdOb rx, tab L, nodRow G], by simp, by simp, by simp [go_sem], ?_, by simp [go_sem], ?_⟩
            ·simp [go_sem, rdOb, tab, nodRow]
             exact ⟨rdOut, outAt_lits (fun _ _ => rfl) (fun j _ => opLit _ j), outAt_lits (fun _ _ => rfl) (fun j _ => nodLit _ j)⟩
            ·simp [go_sem, rdOb, tab, nodRow]
             try rfl
           | false =>
            simp [go_sem, Over.treeA]
            refine vc_drawn [2,3] (.q 0 <| .or 1 (.or 2 (.or 3 (.done) (.nil)) (.nil)) (.or 2 (.q 1 <| .or 3 (.done) (.nil)) (.nil))) (by kernel_rfl) ?_
            simp [go_sem]
            refine ⟨rfl, [3, 5], [rdOb rx, tab L, nodRow R], by simp, by simp, by simp [go_sem], ?_, by simp [go_sem], ?_⟩
            ·simp [go_sem, rdOb, tab, nodRow]
             exact ⟨rdOut, outAt_lits (fun _ _ => rfl) (fun j _ => opLit _ j), outAt_lits (fun _ _ => rfl) (fun j _ => nodLit _ j)⟩
            ·simp [go_sem, rdOb, tab, nodRow]
             try rfl
         ·have h4'' : ¬ (k : Int).tmod 4 = 2 := by rw [e4]; omega
          have ho : over1 k ⟨L, R, none, rx⟩ = ⟨L, R, none, rx⟩ := by rw [over1, if_neg h21, if_neg (fun h => h4' h.1)]
          rw [ho]
          simp [go_sem, hA', hB', h21', h4'', Over.treeA]
          refine vc_drawn [2,3] (.q 0 <| .or 1 (.or 2 (.or 3 (.done) (.nil)) (.nil)) (.or 2 (.q 1 <| .or 3 (.done) (.nil)) (.nil))) (by kernel_rfl) ?_
          simp [go_sem]
          refine ⟨rfl, [3, 5], [rdOb rx, tab L, nodRow R], by simp, by simp, by simp [go_sem], ?_, by simp [go_sem], ?_⟩
          ·simp [go_sem, rdOb, tab, nodRow]
           exact ⟨rdOut, outAt_lits (fun _ _ => rfl) (fun j _ => opLit _ j), outAt_lits (fun _ _ => rfl) (fun j _ => nodLit _ j)⟩
          ·simp [go_sem, rdOb, tab, nodRow]
           try rfl
     ·have hB' : ¬ (k : Int).tmod 20 = 3 := by rw [e20]; omega
      have hov : over0 k q.1 d.1 d.2 = ⟨q.1, d.1, none, d.2⟩ := by rw [over0, if_neg hA, if_neg hB]
      rw [hov] at hO ⊢
      generalize q.1 = L at *
      generalize d.1 = R at *
      generalize d.2 = rx at *
      have clL : ∀ (i : Nat) (c : AV), i < L.length → c ∈ opCells L i → Closed c := fun i c _ h => opClosed L i c h
      have htx := hO.treeTx
      have hrow := hO.row
      have htab := hO.tab
      have htxt : ∀ p, p ∈ L → p.text.size ≤ 17 := hO.txt
      simp only [Over.tree] at htx hrow htab
      by_cases h21 : k % 32 = 21
      ·have h21' : (k : Int).tmod 32 = 21 := by rw [e32, h21]; rfl
       have c5 := c_nextW rx hO.rd
       have v5 : (rx.v : Int).tmod 5 = ((rx.v % 5 : Nat) : Int) := tmod_nat rx.v 5
       have w5 : rx.v % 5 < 5 := Nat.mod_lt _ (by decide)
       have ho : over1 k ⟨L, R, none, rx⟩ = ⟨[minusOp], chainN (997 + rx.v % 5), none, rx.nx⟩ := by rw [over1, if_pos h21]
       rw [ho]
       generalize rx.v % 5 = y at *
       have wy : IntKind.i64.wrap (1000 + (y : Int)) = 1000 + (y : Int) := wrap_i64 (by omega)
       have wz : IntKind.i64.wrap (1000 + (y : Int) - 3) = ((997 + y : Nat) : Int) := by rw [wrap_i64 (by omega)]; omega
       have c6 := c_l3Chain (997 + y) (by omega)
       simp only [rdOb] at c5
       simp [go_sem, hA', hB', h21']
       refine vcall_use c_l3Minus (by simp [go_sem]) ?_
       rintro av obs ⟨rfl, rfl⟩
       simp [go_sem]
       refine vcall_share [0] c5 (by simp) ?_ ?_ trivial ?_
       ·simp [go_sem]
       ·simp [go_sem]
        exact cr rx
       ·rintro av mem maps ⟨rfl, rfl, rfl⟩
        simp only [go_sem, v5, wy, wz]
        simp [go_sem, v5, wy, wz]
        refine vcall_use c6 (by simp [go_sem]) ?_
        rintro av obs ⟨rfl, rfl⟩
        simp [go_sem, Over.treeA]
        refine ⟨rfl, [7, 8], [rdOb rx.nx, tab [minusOp], nodRow (chainN (997 + y))], by simp, by simp, by simp [go_sem], ?_, by simp [go_sem], ?_⟩
        ·simp [go_sem, rdOb, tab, nodRow, chainN_len]
         exact ⟨rdOut, outAt_lits (fun _ _ => rfl) (fun j _ => opLit _ j), outAt_lits (fun _ _ => rfl) (fun j _ => nodLit _ j)⟩
        ·simp [go_sem, rdOb, tab, nodRow, chainN_len]
         try rfl
      ·have h21' : ¬ (k : Int).tmod 32 = 21 := by rw [e32]; omega
       by_cases h4' : k % 4 = 2
       ·have h4'' : (k : Int).tmod 4 = 2 := by rw [e4, h4']; rfl
        have hTL : R.length = R.length := rfl
        have cg := c_specGroup L (by omega) (fun i hi => by show (opAt L i).wf; have := htxt _ (opAt_mem hi); simp only [POp.wf, maxLen]; omega) R (by omega) (fun i hi => by have := htx i hi; simp only [PNode.wf, maxLen]; omega)
        rw [hTL] at cg
        have hgl := groupZ_len2 L R
        have ho : over1 k ⟨L, R, none, rx⟩ = if groupOk L R = true then ⟨L, groupZ L R, none, rx⟩ else ⟨L, R, none, rx⟩ := by
         cases hg : groupOk L R with
         | true => rw [if_pos rfl, over1, if_neg h21, if_pos ⟨h4', hg⟩]; rfl
         | false => rw [if_neg (by simp), over1, if_neg h21, if_neg (fun h => by rw [show (Over.mk L R none rx).tree = R from rfl] at h; simp [hg] at h)]
        rw [ho]
        generalize groupZ L R = G at *
        simp [go_sem, hA', hB', h21', h4'']
        refine vcall_use cg ?_ ?_
        ·simp [go_sem]
         exact ⟨argSl_own rfl (by omega) clL, argSl_own rfl (by omega) (fun i c _ hc => nodClosed _ i c hc)⟩
        ·rintro av obs ⟨rfl, rfl⟩
         cases hg : groupOk L R with
         | true =>
          simp [go_sem, Over.treeA]
          refine vc_drawn [2,3] (.q 0 <| .or 1 (.or 2 (.or 3 (.done) (.nil)) (.nil)) (.or 2 (.q 1 <| .or 3 (.done) (.nil)) (.nil))) (by kernel_rfl) ?_
          simp [go_sem]
          refine ⟨rfl, [3, 7], [rdOb rx, tab L, nodRow G], by simp, by simp, by simp [go_sem], ?_, by simp [go_sem], ?_⟩
          ·simp [go_sem, rdOb, tab, nodRow]
           exact ⟨rdOut, outAt_lits (fun _ _ => rfl) (fun j _ => opLit _ j), outAt_lits (fun _ _ => rfl) (fun j _ => nodLit _ j)⟩
          ·simp [go_sem, rdOb, tab, nodRow]
           try rfl
         | false =>
          simp [go_sem, Over.treeA]
          refine vc_drawn [2,3] (.q 0 <| .or 1 (.or 2 (.or 3 (.done) (.nil)) (.nil)) (.or 2 (.q 1 <| .or 3 (.done) (.nil)) (.nil))) (by kernel_rfl) ?_
          simp [go_sem]
          refine ⟨rfl, [3, 5], [rdOb rx, tab L, nodRow R], by simp, by simp, by simp [go_sem], ?_, by simp [go_sem], ?_⟩
          ·simp [go_sem, rdOb, tab, nodRow]
           exact ⟨rdOut, outAt_lits (fun _ _ => rfl) (fun j _ => opLit _ j), outAt_lits (fun _ _ => rfl) (fun j _ => nodLit _ j)⟩
          ·simp [go_sem, rdOb, tab, nodRow]
           try rfl
       ·have h4'' : ¬ (k : Int).tmod 4 = 2 := by rw [e4]; omega
        have ho : over1 k ⟨L, R, none, rx⟩ = ⟨L, R, none, rx⟩ := by rw [over1, if_neg h21, if_neg (fun h => h4' h.1)]
        rw [ho]
        simp [go_sem, hA', hB', h21', h4'', Over.treeA]
        refine vc_drawn [2,3] (.q 0 <| .or 1 (.or 2 (.or 3 (.done) (.nil)) (.nil)) (.or 2 (.q 1 <| .or 3 (.done) (.nil)) (.nil))) (by kernel_rfl) ?_
        simp [go_sem]
        refine ⟨rfl, [3, 5], [rdOb rx, tab L, nodRow R], by simp, by simp, by simp [go_sem], ?_, by simp [go_sem], ?_⟩
        ·simp [go_sem, rdOb, tab, nodRow]
         exact ⟨rdOut, outAt_lits (fun _ _ => rfl) (fun j _ => opLit _ j), outAt_lits (fun _ _ => rfl) (fun j _ => nodLit _ j)⟩
        ·simp [go_sem, rdOb, tab, nodRow]
         try rfl
theorem overAt_ok {r : Rd} (hr : r.ok) : (overAt r).ok := over1_ok (over0_ok (Rd.nx_ok hr) (Rd.v_lt hr))
def opsStep (o : POp) (T : List PNode) : List PNode :=
 if o.kind = 2 then (T ++ [⟨⟨#[49]⟩, 1, 0, 0⟩]) ++ [⟨o.text, IntKind.i64.wrap (o.kind + 2), (T.length : Int) - 1, T.length⟩]
 else T ++ [⟨o.text, IntKind.i64.wrap (o.kind + 2), (T.length : Int) - 1, 0⟩]
def opsRun (l : List POp) (n : Nat) : Nat → List PNode
 | 0 => [⟨⟨#[97]⟩, 2, 0, 0⟩]
 | i + 1 => if (opsRun l n i).length < n ∧ 0 < l.length then opsStep (opAt l (i % l.length)) (opsRun l n i) else opsRun l n i
theorem opsRun_len (l : List POp) (n : Nat) (hn : 1 ≤ n) : ∀ i, 1 ≤ (opsRun l n i).length ∧ (opsRun l n i).length ≤ n + 1
 | 0 => by simp [opsRun]
 | i + 1 => by
  have := opsRun_len l n hn i
  simp only [opsRun]
  split
  ·unfold opsStep
   split <;> simp <;> omega
  ·exact this
theorem opsRun_stop {l : List POp} {n i : Nat} (h : ¬ ((opsRun l n i).length < n ∧ 0 < l.length)) : ∀ k, opsRun l n (i + k) = opsRun l n i
 | 0 => rfl
 | k + 1 => by
  rw [← Nat.add_assoc, opsRun, opsRun_stop h k, if_neg h]
theorem opsRun_tx {B : Nat} (hB : 1 ≤ B) {l : List POp} (hl : ∀ p, p ∈ l → p.text.size ≤ B) (n : Nat) : ∀ i, NodTx B (opsRun l n i)
 | 0 => nodTx_mem.2 fun m hm => by simp [opsRun] at hm; subst hm; exact hB
 | i + 1 => by
  have := opsRun_tx hB hl n i
  simp only [opsRun]
  split
  ·rename_i h
   have ho : (opAt l (i % l.length)).text.size ≤ B := hl _ (opAt_mem (Nat.mod_lt _ h.2))
   unfold opsStep
   split
   ·exact nodTx_app (nodTx_app this hB) ho
   ·exact nodTx_app this ho
  ·exact this
set_option maxRecDepth 100000 in
theorem c_l4ChainTree (l : List POp) (hl : l.length ≤ 1000) (n : Nat) (h1 : 1 ≤ n) (hn : n ≤ 100000) : VFun Tryz.prog 54 [.agg [.sl 4 l.length (opCells l)], .lit (.int .i64 n)] (fun av obs => av = .agg [.own 0] ∧ obs = [⟨77, 4, (opsRun l n n).length, nodCells (opsRun l n n)⟩]) := by
 have cl : ∀ (i : Nat) (c : AV), i < l.length → c ∈ opCells l i → Closed c := fun i c _ h => opClosed l i c h
 refine vfun_start Tryz.func54 (by kernel_rfl) rfl (by simp [Tryz.ntmps54]) ?_; simp only [Tryz.ntmps54, Tryz.results54]; simp [go_sem]
 refine vc_loopE (fun i : Nat => i ≤ n ∧ i + 1 ≤ (opsRun l n i).length) (fun i => n - i) (fun i => .of [(1, .lit (.int .i64 n)), (2, .ptr 0 1 0 0), (4, .ptr 1 1 0 0), (5, .own 2), (6, .lit (.int .i64 i))] [some ⟨30, 1, 1, fun _ => [.sl 4 l.length (opCells l)]⟩, some ⟨37, 1, 1, fun _ => [.lit (.slice none 0 0)]⟩, some ⟨77, 4, (opsRun l n i).length, nodCells (opsRun l n i)⟩]) ⟨0, ⟨by omega, by simp [opsRun]⟩, ?_⟩ (fun i hi => ?_)
 ·refine ent_ks [0, 1, 2] (by simp) (by simp) (by simp) (by simp) trivial ?_ ?_
  ·simp [go_sem]
  ·simp [go_sem, opsRun]
   exact ⟨cl, .inl ⟨rfl, fun c hc => nodClosed _ _ c hc⟩⟩
 ·obtain ⟨hi1, hi2⟩ := hi
  have hle := opsRun_len l n h1 i
  have hst : opsRun l n (i + 1) = if (opsRun l n i).length < n ∧ 0 < l.length then opsStep (opAt l (i % l.length)) (opsRun l n i) else opsRun l n i := rfl
  have hfin := opsRun_stop (l := l) (n := n) (i := i)
  have em : (i : Int).tmod (l.length : Int) = ((i % l.length : Nat) : Int) := tmod_nat i l.length
  have hend : ¬ ((opsRun l n i).length < n ∧ 0 < l.length) → opsRun l n n = opsRun l n i := fun h => by
   have := hfin h (n - i)
   rwa [show i + (n - i) = n by omega] at this
  clear hfin
  generalize hT : opsRun l n i = T at *
  simp [go_sem]
  refine ⟨by omega, fun hlt => ⟨by omega, fun hl0 => ?_, fun hnil => ?_⟩, fun hge => ?_⟩
  ·rw [if_pos ⟨hlt, hl0⟩] at hst
   have hm : i % l.length < l.length := Nat.mod_lt _ hl0
   have hne : l ≠ [] := by intro e; rw [e] at hl0; simp at hl0
   have em2 : (i : Int) % (l.length : Int) = ((i % l.length : Nat) : Int) := (Int.natCast_emod _ _).symm
   generalize i % l.length = x at *
   have hxi : ((x : Int)).toNat = x := rfl
   refine vc_drawn [10] (.q 0 <| .q 1 <| .q 2 <| .q 3 <| .q 4 <| .q 5 <| .q 6 <| .q 7 <| .q 8 <| .or 9 (.or 10 (.done) (.nil)) (.nil)) (by kernel_rfl) ?_
   simp [go_sem, em, em2, hne, opCells_at]
   have w1 : IntKind.i64.wrap ((T.length : Int) - 1) = (T.length : Int) - 1 := wrap_i64 (by omega)
   have w2 : IntKind.i64.wrap (T.length : Int) = (T.length : Int) := wrap_i64 (by omega)
   have w3 : IntKind.i64.wrap ((i : Int) + 1) = ((i + 1 : Nat) : Int) := by rw [wrap_i64 (by omega)]; omega
   have r1 : ∀ j, j < T.length + 1 → joinF T.length (nodCells T) (fun q => [[AV.lit (Value.int IntKind.i64 1), AV.lit (Value.string ⟨#[49]⟩), AV.lit (Value.int IntKind.i64 0), AV.lit (Value.int IntKind.i64 0)]][q]?.getD []) j = nodCells (T ++ [⟨⟨#[49]⟩, 1, 0, 0⟩]) j := fun j hj => nod_app T ⟨⟨#[49]⟩, 1, 0, 0⟩ j hj
   refine ⟨by omega, hm, by omega, fun hk => ⟨by omega, by omega, by omega, by omega, by omega, i + 1, ⟨by omega, ?_⟩, by omega, ?_⟩, fun hk => ⟨by omega, by omega, i + 1, ⟨by omega, ?_⟩, by omega, ?_⟩⟩
   ·rw [hst]; unfold opsStep; rw [if_pos hk]; simp; omega
   ·have hst2 : opsRun l n (i + 1) = (T ++ [⟨⟨#[49]⟩, 1, 0, 0⟩]) ++ [⟨(opAt l x).text, IntKind.i64.wrap ((opAt l x).kind + 2), (T.length : Int) - 1, T.length⟩] := by rw [hst]; unfold opsStep; rw [if_pos hk]
    rw [hst2]
    refine ent_ks [0, 1, 8] (by simp) (by simp) (by simp) (by simp) trivial ?_ ?_
    ·simp [go_sem, w3]
    ·simp [go_sem, w1, w2]
     refine ⟨cl, .inl fun j hj => ⟨?_, fun c hc => nodClosed _ _ c hc⟩⟩
     exact (nod_appF (T := T ++ [⟨⟨#[49]⟩, 1, 0, 0⟩]) (o := ⟨(opAt l x).text, IntKind.i64.wrap ((opAt l x).kind + 2), (T.length : Int) - 1, T.length⟩) (by simp) r1 j hj).trans (by rw [List.append_assoc]; rfl)
   ·rw [hst]; unfold opsStep; rw [if_neg hk]; simp; omega
   ·have hst2 : opsRun l n (i + 1) = T ++ [⟨(opAt l x).text, IntKind.i64.wrap ((opAt l x).kind + 2), (T.length : Int) - 1, 0⟩] := by rw [hst]; unfold opsStep; rw [if_neg hk]
    rw [hst2]
    refine ent_ks [0, 1, 6] (by simp) (by simp) (by simp) (by simp) trivial ?_ ?_
    ·simp [go_sem, w3]
    ·simp [go_sem, w1, w2]
     refine ⟨cl, .inl fun j hj => ⟨?_, fun c hc => nodClosed _ _ c hc⟩⟩
     exact nod_app T ⟨(opAt l x).text, IntKind.i64.wrap ((opAt l x).kind + 2), (T.length : Int) - 1, 0⟩ j (by omega)
  ·rw [hend (by rw [hnil]; simp)]
   exact obsSame_one.mpr ⟨⟨77, 4, T.length, nodCells T⟩, ⟨rfl, rfl, rfl, fun j hj => ⟨rfl, nodLit _ j⟩⟩, rfl⟩
  ·rw [hend (by omega)]
   exact obsSame_one.mpr ⟨⟨77, 4, T.length, nodCells T⟩, ⟨rfl, rfl, rfl, fun j hj => ⟨rfl, nodLit _ j⟩⟩, rfl⟩
@[irreducible] def opsTree (l : List POp) (n : Nat) : List PNode := opsRun l n n
theorem c_opsTree (l : List POp) (hl : l.length ≤ 1000) (n : Nat) (h1 : 1 ≤ n) (hn : n ≤ 100000) : VFun Tryz.prog 54 [.agg [.sl 4 l.length (opCells l)], .lit (.int .i64 n)] (fun av obs => av = .agg [.own 0] ∧ obs = [⟨77, 4, (opsTree l n).length, nodCells (opsTree l n)⟩]) := by
 unfold opsTree
 exact c_l4ChainTree l hl n h1 hn
theorem opsTree_ok {l : List POp} {n B : Nat} (h1 : 1 ≤ n) (hB : 1 ≤ B) (hl : ∀ p, p ∈ l → p.text.size ≤ B) : 0 < (opsTree l n).length ∧ (opsTree l n).length ≤ n + 1 ∧ NodTx B (opsTree l n) := by
 have := opsRun_len l n h1 n
 unfold opsTree
 exact ⟨by omega, this.2, opsRun_tx hB hl _ _⟩
def drGrp (N : Nat) (f : Nat → Nat) : Over :=
 if (rdOf N f).v % 64 = 63 then { overAt (rdOf N f).nx with row := opsTree (overAt (rdOf N f).nx).tab (19998 + (rdOf N f).v / 64), cut := none }
 else if (rdOf N f).v % 64 = 62 then { overAt (rdOf N f).nx with row := opsTree (overAt (rdOf N f).nx).tab 1000, cut := none }
 else overAt (rdOf N f).nx
structure Over.okg (o : Over) : Prop where
 tab : o.tab.length ≤ 501
 txt : ∀ p, p ∈ o.tab → p.text.size ≤ 17
 row : 0 < o.row.length ∧ o.row.length ≤ 30000
 tx : NodTx 17 o.tree
 cut : ∀ n, o.cut = some n → n ≤ o.row.length
theorem drGrp_ok {N : Nat} {f : Nat → Nat} (hf : ∀ i, f i < 256) : (drGrp N f).okg := by
 have hr := rdOf_ok N f hf
 have hv := Rd.v_lt hr
 have h := overAt_ok (Rd.nx_ok hr)
 unfold drGrp
 generalize rdOf N f = r at *
 generalize overAt r.nx = o at *
 have key : ∀ n, 1 ≤ n → n ≤ 20002 → ({ o with row := opsTree o.tab n, cut := none } : Over).okg := fun n h1 h2 => by
  have g := opsTree_ok (l := o.tab) (B := 17) h1 (by omega) h.txt
  exact ⟨h.tab, h.txt, ⟨g.1, by have := g.2.1; simp only; omega⟩, g.2.2, fun n hn => (by cases hn)⟩
 split
 ·exact key _ (by omega) (by omega)
 ·split
  ·exact key _ (by omega) (by omega)
  ·exact ⟨h.tab, h.txt, h.row, nodTx_le h.treeTx (by omega), h.cut⟩
def grpR (o : Over) (av : AV) (obs : List Ob) : Prop := av = .tup [.agg [.own 0], .agg [o.treeA 1]] ∧ obs = [⟨133, 4, o.tab.length, opCells o.tab⟩, ⟨77, 4, o.row.length, nodCells o.row⟩]
set_option maxRecDepth 100000 in
theorem c_DrawGroup (N : Nat) (f : Nat → Nat) (hN : N ≤ 9223372036854775807) (hf : ∀ i, f i < 256) : VFun Tryz.prog 21 [.sl 1 N (rdCells f)] (grpR (drGrp N f)) := by
 have clf : ∀ (i : Nat) (c : AV), i < N → c ∈ rdCells f i → Closed c := fun i c _ h => rdClosed f i c h
 have hr := rdOf_ok N f hf
 have hv := Rd.v_lt hr
 have c1 := c_l1Open N f hN
 have cn := c_next (rdOf N f) hr
 have c2 := c_l3DrawTreeOver (rdOf N f).nx (Rd.nx_ok hr)
 have ho := overAt_ok (Rd.nx_ok hr)
 unfold drGrp
 generalize rdOf N f = r at *
 have cr : ∀ (r : Rd) (i : Nat) (c : AV), i < r.n → c ∈ rdCells r.f i → Closed c := fun r i c _ h => rdClosed r.f i c h
 simp only [rdOb, tab, nodRow] at c1 c2 cn
 generalize overAt r.nx = o at *
 obtain ⟨L, R, cut, rd⟩ := o
 have hL : L.length ≤ 501 := ho.tab
 have clL : ∀ (i : Nat) (c : AV), i < L.length → c ∈ opCells L i → Closed c := fun i c _ h => opClosed L i c h
 have e64 : (r.v : Int).tmod 64 = ((r.v % 64 : Nat) : Int) := tmod_nat r.v 64
 have wd : IntKind.i64.wrap ((r.v : Int) / 64) = ((r.v / 64 : Nat) : Int) := by rw [wrap_i64 (by omega)]; omega
 have wn : IntKind.i64.wrap (19998 + (r.v : Int) / 64) = 19998 + (r.v : Int) / 64 := wrap_i64 (by omega)
 have c63 := c_opsTree L (by omega) (19998 + r.v / 64) (by omega) (by omega)
 have c62 := c_opsTree L (by omega) 1000 (by omega) (by omega)
 refine vfun_start Tryz.func21 (by kernel_rfl) rfl (by simp [Tryz.ntmps21]) ?_; simp only [Tryz.ntmps21, Tryz.results21]; simp [go_sem]
 refine vcall_share [] c1 (by simp) ?_ ?_ trivial ?_
 ·simp [go_sem]
  exact clf
 ·simp [go_sem]
 rintro av mem maps ⟨rfl, rfl, rfl⟩
 simp [go_sem]
 refine vcall_share [2] cn (by simp) ?_ ?_ trivial ?_
 ·simp [go_sem]
 ·simp [go_sem]
  exact cr r
 rintro av mem maps ⟨rfl, rfl, rfl⟩
 simp [go_sem]
 refine vcall_share [2] c2 (by simp) ?_ ?_ trivial ?_
 ·simp [go_sem]
 ·simp [go_sem]
  exact cr r.nx
 rintro av mem maps ⟨rfl, rfl, rfl⟩
 cases cut with
 | none =>
  simp [go_sem, Over.treeA, e64, wd]
  refine ⟨fun h => ?_, fun h1 => ⟨fun h => ?_, fun h2 => ?_⟩⟩
  ·have h' : r.v % 64 = 63 := by omega
   rw [if_pos h']
   refine vc_drawn [6,7] (.q 0 <| .q 1 <| .q 2 <| .q 3 <| .q 4 <| .or 5 (.or 6 (.or 7 (.done) (.nil)) (.nil)) (.nil)) (by kernel_rfl) ?_
   simp [go_sem, wd, wn]
   refine vcallV_use c63 ?_ ?_
   ·simp [go_sem]
    exact argSl_own rfl (by omega) clL
   rintro av obs ⟨rfl, rfl⟩
   simp [go_sem, grpR, Over.treeA]
   exact ⟨⟨⟨rfl, rfl, rfl, fun j _ => ⟨rfl, opLit _ j⟩⟩, ⟨rfl, rfl, rfl, fun j _ => ⟨rfl, nodLit _ j⟩⟩, trivial⟩, rfl⟩
  ·have h' : ¬ r.v % 64 = 63 := by omega
   have h2' : r.v % 64 = 62 := by omega
   rw [if_neg h', if_pos h2']
   refine vc_drawn [3,4] (.q 0 <| .q 1 <| .or 2 (.or 3 (.or 4 (.done) (.nil)) (.nil)) (.nil)) (by kernel_rfl) ?_
   simp [go_sem, wd, wn]
   refine vcallV_use c62 ?_ ?_
   ·simp [go_sem]
    exact argSl_own rfl (by omega) clL
   rintro av obs ⟨rfl, rfl⟩
   simp [go_sem, grpR, Over.treeA]
   exact ⟨⟨⟨rfl, rfl, rfl, fun j _ => ⟨rfl, opLit _ j⟩⟩, ⟨rfl, rfl, rfl, fun j _ => ⟨rfl, nodLit _ j⟩⟩, trivial⟩, rfl⟩
  ·have h' : ¬ r.v % 64 = 63 := by omega
   have h2' : ¬ r.v % 64 = 62 := by omega
   rw [if_neg h', if_neg h2']
   refine vc_drawn [2,3] (.q 0 <| .or 1 (.or 2 (.or 3 (.done) (.nil)) (.nil)) (.or 2 (.q 1 <| .or 3 (.done) (.nil)) (.nil))) (by kernel_rfl) ?_
   simp [go_sem, grpR, Over.treeA]
   exact ⟨⟨⟨rfl, rfl, rfl, fun j _ => ⟨rfl, opLit _ j⟩⟩, ⟨rfl, rfl, rfl, fun j _ => ⟨rfl, nodLit _ j⟩⟩, trivial⟩, rfl⟩
 | some n =>
  simp [go_sem, Over.treeA, e64, wd]
  refine ⟨fun h => ?_, fun h1 => ⟨fun h => ?_, fun h2 => ?_⟩⟩
  ·have h' : r.v % 64 = 63 := by omega
   rw [if_pos h']
   refine vc_drawn [6,7] (.q 0 <| .q 1 <| .q 2 <| .q 3 <| .q 4 <| .or 5 (.or 6 (.or 7 (.done) (.nil)) (.nil)) (.nil)) (by kernel_rfl) ?_
   simp [go_sem, wd, wn]
   refine vcallV_use c63 ?_ ?_
   ·simp [go_sem]
    exact argSl_own rfl (by omega) clL
   rintro av obs ⟨rfl, rfl⟩
   simp [go_sem, grpR, Over.treeA]
   exact ⟨⟨⟨rfl, rfl, rfl, fun j _ => ⟨rfl, opLit _ j⟩⟩, ⟨rfl, rfl, rfl, fun j _ => ⟨rfl, nodLit _ j⟩⟩, trivial⟩, rfl⟩
  ·have h' : ¬ r.v % 64 = 63 := by omega
   have h2' : r.v % 64 = 62 := by omega
   rw [if_neg h', if_pos h2']
   refine vc_drawn [3,4] (.q 0 <| .q 1 <| .or 2 (.or 3 (.or 4 (.done) (.nil)) (.nil)) (.nil)) (by kernel_rfl) ?_
   simp [go_sem, wd, wn]
   refine vcallV_use c62 ?_ ?_
   ·simp [go_sem]
    exact argSl_own rfl (by omega) clL
   rintro av obs ⟨rfl, rfl⟩
   simp [go_sem, grpR, Over.treeA]
   exact ⟨⟨⟨rfl, rfl, rfl, fun j _ => ⟨rfl, opLit _ j⟩⟩, ⟨rfl, rfl, rfl, fun j _ => ⟨rfl, nodLit _ j⟩⟩, trivial⟩, rfl⟩
  ·have h' : ¬ r.v % 64 = 63 := by omega
   have h2' : ¬ r.v % 64 = 62 := by omega
   rw [if_neg h', if_neg h2']
   refine vc_drawn [2,3] (.q 0 <| .or 1 (.or 2 (.or 3 (.done) (.nil)) (.nil)) (.or 2 (.q 1 <| .or 3 (.done) (.nil)) (.nil))) (by kernel_rfl) ?_
   simp [go_sem, grpR, Over.treeA]
   exact ⟨⟨⟨rfl, rfl, rfl, fun j _ => ⟨rfl, opLit _ j⟩⟩, ⟨rfl, rfl, rfl, fun j _ => ⟨rfl, nodLit _ j⟩⟩, trivial⟩, rfl⟩
theorem c_lwBare (t : List PNode) (ht : t.length ≤ 1048576) (hwt : nodsWf t) : VFun Tryz.prog 24 [.agg [.sl 4 t.length (nodCells t)]] (fun av obs => av = .agg [.own 0] ∧ obs = [⟨77, 4, (erased t).length, nodCells (erased t)⟩]) := by
 have clt : ∀ (i : Nat) (c : AV), i < t.length → c ∈ nodCells t i → Closed c := fun i c _ h => nodClosed t i c h
 refine vfun_start Tryz.func24 (by kernel_rfl) rfl (by simp [Tryz.ntmps24]) ?_; simp only [Tryz.ntmps24, Tryz.results24]; simp [go_sem]
 refine vcall_use (c_specErase t ht hwt) ?_ ?_
 ·simp [go_sem]
  exact argSl_refl (by omega) clt
 rintro av obs ⟨rfl, rfl⟩
 simp [go_sem]
 exact obsSame_one.mpr ⟨_, ⟨rfl, rfl, rfl, fun j hj => ⟨rfl, nodLit _ j⟩⟩, rfl⟩
def blAt (l : List Bool) (i : Nat) : Bool := l.getD i false
def blCells (l : List Bool) (i : Nat) : List AV := [.lit (.bool (blAt l i))]
theorem blClosed (l : List Bool) (i : Nat) (c : AV) (h : c ∈ blCells l i) : Closed c := by
 simp [blCells] at h; subst h; exact .lit _
@[go_sem] theorem blCells_ren (f : Nat → Nat) (l : List Bool) (i : Nat) : (blCells l i).map (ren1 f) = blCells l i := rfl
@[go_sem] theorem blCells_one (l : List Bool) (i : Nat) : (blCells l i).all oneAV = true := rfl
theorem bl_app1 (a : List Bool) (x : Bool) (i : Nat) (hi : i < a.length + 1) : joinF a.length (blCells a) (fun q => [[AV.lit (.bool x)]][q]?.getD []) i = blCells (a ++ [x]) i := by
 unfold joinF blCells blAt
 by_cases h : i < a.length
 ·rw [if_pos h, List.getD_eq_getElem?_getD, List.getD_eq_getElem?_getD, List.getElem?_append_left h]
 ·have : i = a.length := by omega
  subst this
  rw [if_neg (by omega), List.getD_eq_getElem?_getD, List.getElem?_append_right (by omega)]
  simp
def bitOf (N : Nat) (f : Nat → Nat) (g : Nat) : Bool := decide (g / 8 < N) && decide (f (g / 8) / 2 ^ (g % 8) % 2 = 1)
def stR (T : List PNode) (b : Nat → Bool) : Nat → List Bool
 | 0 => []
 | i + 1 => if (nodAt T i).kind = 6 then stR T b i ++ [b (stR T b i).length] else stR T b i
def ouN (l : List Bool) : Nat := l.countP (· = false)
theorem stR_len (T : List PNode) (b : Nat → Bool) : ∀ i, (stR T b i).length ≤ i
 | 0 => Nat.le_refl _
 | i + 1 => by
  have := stR_len T b i
  simp only [stR]; split
  ·simp; omega
  ·omega
theorem ouN_le (l : List Bool) : ouN l ≤ l.length := List.countP_le_length
def stF (T : List PNode) (b : Nat → Bool) : List Bool := if ouN (stR T b T.length) = 0 ∧ 0 < (stR T b T.length).length then (stR T b T.length).set ((stR T b T.length).length - 1) false else stR T b T.length
theorem stR_mono (T : List PNode) (b : Nat → Bool) {i j : Nat} (h : i ≤ j) : (stR T b i).length ≤ (stR T b j).length := by
 obtain ⟨k, rfl⟩ := Nat.exists_eq_add_of_le h
 clear h
 induction k with
 | zero => exact Nat.le_refl _
 | succ k ih =>
  rw [← Nat.add_assoc]
  simp only [stR]
  split
  ·simp; omega
  ·exact ih
theorem wo_g (st : Nat → Bool) (T : List PNode) (b : Nat → Bool) : ∀ i, (woR st T i).g = (stR T b i).length
 | 0 => rfl
 | i + 1 => by
  have := wo_g st T b i
  simp only [woR, woStep, stR]
  by_cases h6 : (nodAt T i).kind = 6
  ·by_cases hs : st (woR st T i).g = false
   ·rw [if_pos ⟨h6, hs⟩, if_pos h6]; simp [this]
   ·rw [if_neg (fun h => hs h.2), if_pos h6]; simp [this, h6]
  ·rw [if_neg (fun h => h6 h.1), if_neg h6]; simp [this, h6]
theorem wo_gi {st : Nat → Bool} {T : List PNode} (b : Nat → Bool) {i : Nat} (hi : i < T.length) (h6 : (nodAt T i).kind = 6) : (woR st T i).g < (stR T b T.length).length := by
 have h1 := stR_mono T b (show i + 1 ≤ T.length by omega)
 simp only [stR] at h1
 rw [if_pos h6] at h1
 rw [wo_g st T b i]
 simp at h1
 omega
theorem stF_len (T : List PNode) (b : Nat → Bool) : (stF T b).length = (stR T b T.length).length := by
 unfold stF; split <;> simp
set_option maxHeartbeats 4000000 in
set_option maxRecDepth 100000 in
theorem c_Without (T : List PNode) (hT : T.length ≤ 1000000) (hk : ∀ i, i < T.length → (kidsN (nodAt T i).kind ≠ 0 → 0 ≤ (nodAt T i).a ∧ (nodAt T i).a < i) ∧ (kidsN (nodAt T i).kind = 2 → 0 ≤ (nodAt T i).b ∧ (nodAt T i).b < i)) (N : Nat) (f : Nat → Nat) (hN : N ≤ 9223372036854775807) (hf : ∀ i, f i < 256) : VFun Tryz.prog 25 [.agg [.sl 4 T.length (nodCells T)], .sl 1 N (rdCells f)] (fun av obs => av = .agg [.own 0] ∧ obs = [⟨77, 4, (woR (fun g => blAt (stF T (bitOf N f)) g) T T.length).nds.length, nodCells (woR (fun g => blAt (stF T (bitOf N f)) g) T T.length).nds⟩]) := by
 have clT : ∀ (i : Nat) (c : AV), i < T.length → c ∈ nodCells T i → Closed c := fun i c _ h => nodClosed T i c h
 have clf : ∀ (i : Nat) (c : AV), i < N → c ∈ rdCells f i → Closed c := fun i c _ h => rdClosed f i c h
 refine vfun_start Tryz.func25 (by kernel_rfl) rfl (by simp [Tryz.ntmps25]) ?_; simp only [Tryz.ntmps25, Tryz.results25]; simp [go_sem]
 refine vc_loopE (fun i : Nat => i ≤ T.length) (fun i => T.length - i) (fun i => .of [(1, .sl 1 N (rdCells f)), (2, .ptr 0 1 0 0), (4, .ptr 1 1 0 0), (5, .own 2), (6, .lit (.int .i64 (ouN (stR T (bitOf N f) i)))), (7, .lit (.int .i64 i))] [some ⟨37, 1, 1, fun _ => [.sl 4 T.length (nodCells T)]⟩, some ⟨37, 1, 1, fun _ => [.lit (.slice none 0 0)]⟩, some ⟨4, 1, (stR T (bitOf N f) i).length, blCells (stR T (bitOf N f) i)⟩]) ⟨0, by omega, ?_⟩ (fun i hi => ?_)
 ·refine ent_ks [0, 1, 2] (by simp) (by simp) (by simp) (by simp) trivial ?_ ?_
  ·simp [go_sem, stR, ouN]
   exact clf
  ·simp [go_sem, stR]
   exact clT
 ·have hs := stR_len T (bitOf N f) i
  have ho := ouN_le (stR T (bitOf N f) i)
  generalize hS : stR T (bitOf N f) i = S at *
  have hd8 : IntKind.i64.wrap ((S.length : Int) / 8) = (S.length : Int) / 8 := wrap_i64 (by omega)
  have e8 : (S.length : Int).tmod 8 = ((S.length % 8 : Nat) : Int) := tmod_nat S.length 8
  have hx : ((S.length : Int) / 8).toNat = S.length / 8 := by omega
  have hy : ((S.length : Int) % 8).toNat = S.length % 8 := by omega
  have ew : IntKind.i64.wrap ((i : Int) + 1) = ((i + 1 : Nat) : Int) := by rw [wrap_i64 (by omega)]; omega
  have ow : IntKind.i64.wrap ((ouN S : Int) + 1) = ((ouN S + 1 : Nat) : Int) := by rw [wrap_i64 (by omega)]; omega
  have hnext : stR T (bitOf N f) (i + 1) = if (nodAt T i).kind = 6 then S ++ [bitOf N f S.length] else S := by rw [← hS]; rfl
  have hon : ∀ b, ouN (S ++ [b]) = if b = false then ouN S + 1 else ouN S := fun b => by
   simp only [ouN, List.countP_append, List.countP_singleton]
   cases b <;> simp
  simp [go_sem, nodCells_at]
  refine ⟨by omega, fun hlt => ⟨hlt, fun h6 => ⟨by omega, ?_⟩, fun h6 => ?_⟩, fun hge => ?_⟩
  ·rw [if_pos h6] at hnext
   have fin : ∀ (b : Bool) (M : List (Option Ob)), True := fun _ _ => trivial
   have hb0 : (f (S.length / 8) : Int) / 2 ^ (S.length % 8) = ((f (S.length / 8) / 2 ^ (S.length % 8) : Nat) : Int) := by simp
   have hb1 : ((f (S.length / 8) / 2 ^ (S.length % 8) : Nat) : Int).tmod 2 = ((f (S.length / 8) / 2 ^ (S.length % 8) % 2 : Nat) : Int) := tmod_nat _ 2
   have hbd : bitOf N f S.length = (decide (S.length / 8 < N) && decide (f (S.length / 8) / 2 ^ (S.length % 8) % 2 = 1)) := rfl
   simp [go_sem, hd8, e8, rdCells_at]
   rw [hx, hy]
   generalize f (S.length / 8) / 2 ^ (S.length % 8) = u at *
   simp only [hb0, hb1]
   generalize S.length / 8 = x at *
   refine ⟨by omega, fun hl => ⟨by omega, by omega, by omega, by omega, fun hu => ⟨i + 1, by omega, by omega, ?_⟩, fun hu => ⟨i + 1, by omega, by omega, ?_⟩⟩, fun hl => ⟨by omega, by omega, i + 1, by omega, by omega, ?_⟩⟩
   ·have hb : bitOf N f S.length = false := by rw [hbd, decide_eq_false (p := u % 2 = 1) (by omega), Bool.and_false]
    rw [hb] at hnext
    have ho2 := hon false
    rw [if_pos rfl] at ho2
    rw [hnext]
    refine ent_ks [0, 1, 4] (by simp) (by simp) (by simp) (by simp) trivial ?_ ?_
    ·simp [go_sem, ew, ow, ho2]
     exact clf
    ·have hub : ((u : Int) % 2 == 1) = false := beq_eq_false_iff_ne.2 (by omega)
     simp [go_sem, hub]
     exact ⟨clT, .inl fun j hj => ⟨bl_app1 S false j hj, fun c hc => blClosed _ _ c hc⟩⟩
   ·have hb : bitOf N f S.length = true := by rw [hbd, decide_eq_true (p := u % 2 = 1) (by omega), decide_eq_true (p := x < N) (by omega)]; rfl
    rw [hb] at hnext
    have ho2 := hon true
    rw [if_neg (by simp)] at ho2
    rw [hnext]
    refine ent_ks [0, 1, 4] (by simp) (by simp) (by simp) (by simp) trivial ?_ ?_
    ·simp [go_sem, ew, ow, ho2]
     exact clf
    ·simp [go_sem, hu]
     exact ⟨clT, .inl fun j hj => ⟨bl_app1 S true j hj, fun c hc => blClosed _ _ c hc⟩⟩
   ·have hb : bitOf N f S.length = false := by rw [hbd, decide_eq_false (p := x < N) (by omega), Bool.false_and]
    rw [hb] at hnext
    have ho2 := hon false
    rw [if_pos rfl] at ho2
    rw [hnext]
    refine ent_ks [0, 1, 4] (by simp) (by simp) (by simp) (by simp) trivial ?_ ?_
    ·simp [go_sem, ew, ow, ho2]
     exact clf
    ·simp [go_sem]
     exact ⟨clT, .inl fun j hj => ⟨bl_app1 S false j hj, fun c hc => blClosed _ _ c hc⟩⟩
  ·rw [if_neg h6] at hnext
   refine ⟨i + 1, by omega, by omega, ?_⟩
   rw [hnext]
   refine ent_ks [0, 1, 2] (by simp) (by simp) (by simp) (by simp) trivial ?_ ?_
   ·simp [go_sem, ew]
    exact clf
   ·simp [go_sem]
    exact ⟨clT, .inl fun j hj c hc => blClosed _ _ c hc⟩
  ·obtain rfl : i = T.length := by omega
   have wS : IntKind.i64.wrap ((S.length : Int) - 1) = (S.length : Int) - 1 := wrap_i64 (by omega)
   simp [wS]
   have hQl := stF_len T (bitOf N f)
   have hQd : stF T (bitOf N f) = if ouN S = 0 ∧ 0 < S.length then S.set (S.length - 1) false else S := by unfold stF; rw [hS]
   rw [hS] at hQl
   have hgen : (fun g => blAt (stF T (bitOf N f)) g) = blAt (stF T (bitOf N f)) := rfl
   rw [hgen]
   generalize stF T (bitOf N f) = Q at *
   refine ⟨fun h0 => ⟨by omega, fun hp => ⟨by omega, by omega, by omega, by omega, ?_⟩, fun hnil => ?_⟩, fun h0 => ?_⟩
   ·rw [if_pos ⟨h0, hp⟩] at hQd
    have hrow : ∀ j, j < S.length → updF S.length (blCells S) (S.length - 1) 0 [AV.lit (.bool false)] j = blCells Q j := fun j hj => by
     rw [updF_at (by omega) hj, hQd]
     by_cases e : j = S.length - 1
     ·subst e
      rw [if_pos rfl]
      simp [blCells, blAt, splice, List.getD_eq_getElem?_getD, List.getElem?_set, show S.length - 1 < S.length by omega]
     ·rw [if_neg e]
      simp [blCells, blAt, List.getD_eq_getElem?_getD, List.getElem?_set, show ¬ S.length - 1 = j by omega]
    refine vc_loopE (fun i : Nat => i ≤ T.length) (fun i => T.length - i) (fun i => .of [(2, .ptr 0 1 0 0), (4, .ptr 1 1 0 0), (5, .own 2), (10, .own 3), (11, .own 4), (12, .lit (.int .i64 (woR (blAt Q) T i).g)), (13, .lit (.int .i64 i))] [some ⟨37, 1, 1, fun _ => [.sl 4 T.length (nodCells T)]⟩, some ⟨37, 1, 1, fun _ => [.lit (.slice none 0 0)]⟩, some ⟨4, 1, Q.length, blCells Q⟩, some ⟨77, 4, (woR (blAt Q) T i).nds.length, nodCells (woR (blAt Q) T i).nds⟩, some ⟨3, 1, (woR (blAt Q) T i).pl.length, intCells (woR (blAt Q) T i).pl⟩]) ⟨0, by omega, ?_⟩ (fun i hi => ?_)
    ·refine ent_ks [0, 1, 2, 3, 4] (by simp) (by simp) (by simp) (by simp) trivial ?_ ?_
     ·simp [go_sem, woR]
     ·simp [go_sem, woR]
      rw [hQl]
      exact ⟨clT, .inl ⟨rfl, fun j hj => ⟨hrow j hj, fun c hc => blClosed _ _ c hc⟩⟩⟩
    ·have hp := wo_pl (blAt Q) T i
     have hl := wo_len (blAt Q) T i
     have hgi := wo_gi (st := blAt Q) (T := T) (bitOf N f) (i := i)
     have hki := hk i
     have hst : woR (blAt Q) T (i + 1) = woStep (blAt Q) (nodAt T i) (woR (blAt Q) T i) := rfl
     have ew : IntKind.i64.wrap ((i : Int) + 1) = ((i + 1 : Nat) : Int) := by rw [wrap_i64 (by omega)]; omega
     have c1 := c_l3Kids (nodAt T i).kind
     rw [hS, ← hQl] at hgi
     generalize hR : woR (blAt Q) T i = r at *
     obtain ⟨ns, pl, g⟩ := r
     simp only at hp hl hgi
     have gw : IntKind.i64.wrap ((g : Int) + 1) = (g : Int) + 1 := wrap_i64 (by omega)
     have gw2 : IntKind.i64.wrap ((g : Int) + 1 - 1) = (g : Int) := by rw [wrap_i64 (by omega)]; omega
     have nw : IntKind.i64.wrap ((ns.length : Int) - 1) = (ns.length : Int) - 1 := wrap_i64 (by omega)
     simp [go_sem, nodCells_at]
     refine ⟨by omega, fun hlt => ⟨hlt, fun h6 => ?_, fun h6 => ?_⟩, fun hge => ?_⟩
     ·have hg := hgi hlt h6
      have gwg : IntKind.i64.wrap (g : Int) = (g : Int) := wrap_i64 (by omega)
      have k1 : kidsN (nodAt T i).kind = 1 := by rw [h6]; rfl
      have hka := (hki hlt).1 (by omega)
      obtain ⟨a, ha⟩ : ∃ a : Nat, (nodAt T i).a = (a : Int) := ⟨(nodAt T i).a.toNat, by omega⟩
      have hat : a < pl.length := by omega
      simp [go_sem, gw, gwg, nw, blCells]
      refine ⟨by omega, fun hb => ⟨by omega, by omega, by omega, i + 1, by omega, by omega, ?_⟩, fun hb => ?_⟩
      ·have hn : woR (blAt Q) T (i + 1) = ⟨ns, pl ++ [(ns.length : Int) - 1], g + 1⟩ := by rw [hst]; unfold woStep; rw [if_pos ⟨h6, hb⟩]
       rw [hn]
       refine ent_ks [0, 1, 2, 3, 7] (by simp) (by simp) (by simp) (by simp) trivial ?_ ?_
       ·simp [go_sem, ew]
       ·simp [go_sem]
        exact ⟨clT, .inl fun j hj c hc => blClosed _ _ c hc, .inl fun j hj c hc => nodClosed _ _ c hc, .inl fun j hj => ⟨int_app1 pl _ j hj, fun c hc => intClosed _ _ c hc⟩⟩
      ·have hn : woR (blAt Q) T (i + 1) = ⟨ns ++ [⟨(nodAt T i).text, (nodAt T i).kind, intAt pl a, (nodAt T i).b⟩], pl ++ [(ns.length : Int)], g + 1⟩ := by
        rw [hst]; unfold woStep; rw [if_neg (fun h => by rw [hb] at h; simp at h), if_pos (by omega), if_neg (by omega), if_pos h6, ha]; rfl
       refine vcall_pure c1 ?_ ?_
       ·simp [go_sem]
       simp [go_sem, k1, ha, intCells_at]
       refine ⟨by omega, vcall_pure c1 ?_ ?_⟩
       ·simp [go_sem]
       simp [go_sem, k1]
       refine ⟨by omega, by omega, by omega, by omega, by omega, i + 1, by omega, by omega, ?_⟩
       rw [hn]
       refine ent_ks [0, 1, 2, 9, 7] (by simp) (by simp) (by simp) (by simp) trivial ?_ ?_
       ·simp [go_sem, ew]
       ·simp [go_sem]
        exact ⟨clT, .inl fun j hj c hc => blClosed _ _ c hc, .inl fun j hj => ⟨nod_app ns ⟨(nodAt T i).text, (nodAt T i).kind, intAt pl a, (nodAt T i).b⟩ j hj, fun c hc => nodClosed _ _ c hc⟩, .inl fun j hj => ⟨int_app1 pl _ j hj, fun c hc => intClosed _ _ c hc⟩⟩
     ·rcases kids_012 (nodAt T i).kind with k1 | k1 | k1
      ·have hn : woR (blAt Q) T (i + 1) = ⟨ns ++ [⟨(nodAt T i).text, (nodAt T i).kind, (nodAt T i).a, (nodAt T i).b⟩], pl ++ [(ns.length : Int)], g⟩ := by
        rw [hst]; unfold woStep; rw [if_neg (fun h => h6 h.1), if_neg (by omega), if_neg (by omega), if_neg h6]
       refine vcall_pure c1 ?_ ?_
       ·simp [go_sem]
       simp [go_sem, k1]
       refine vcall_pure c1 ?_ ?_
       ·simp [go_sem]
       simp [go_sem, k1]
       refine ⟨by omega, by omega, by omega, by omega, by omega, i + 1, by omega, by omega, ?_⟩
       rw [hn]
       refine ent_ks [0, 1, 2, 9, 7] (by simp) (by simp) (by simp) (by simp) trivial ?_ ?_
       ·simp [go_sem, ew]
       ·simp [go_sem]
        exact ⟨clT, .inl fun j hj c hc => blClosed _ _ c hc, .inl fun j hj => ⟨nod_app ns ⟨(nodAt T i).text, (nodAt T i).kind, (nodAt T i).a, (nodAt T i).b⟩ j hj, fun c hc => nodClosed _ _ c hc⟩, .inl fun j hj => ⟨int_app1 pl _ j hj, fun c hc => intClosed _ _ c hc⟩⟩
      ·have hka := (hki hlt).1 (by omega)
       obtain ⟨a, ha⟩ : ∃ a : Nat, (nodAt T i).a = (a : Int) := ⟨(nodAt T i).a.toNat, by omega⟩
       have hat : a < pl.length := by omega
       have hn : woR (blAt Q) T (i + 1) = ⟨ns ++ [⟨(nodAt T i).text, (nodAt T i).kind, intAt pl a, (nodAt T i).b⟩], pl ++ [(ns.length : Int)], g⟩ := by
        rw [hst]; unfold woStep; rw [if_neg (fun h => h6 h.1), if_pos (by omega), if_neg (by omega), if_neg h6, ha]; rfl
       refine vcall_pure c1 ?_ ?_
       ·simp [go_sem]
       simp [go_sem, k1, ha, intCells_at]
       refine ⟨by omega, vcall_pure c1 ?_ ?_⟩
       ·simp [go_sem]
       simp [go_sem, k1]
       refine ⟨by omega, by omega, by omega, by omega, by omega, i + 1, by omega, by omega, ?_⟩
       rw [hn]
       refine ent_ks [0, 1, 2, 9, 7] (by simp) (by simp) (by simp) (by simp) trivial ?_ ?_
       ·simp [go_sem, ew]
       ·simp [go_sem]
        exact ⟨clT, .inl fun j hj c hc => blClosed _ _ c hc, .inl fun j hj => ⟨nod_app ns ⟨(nodAt T i).text, (nodAt T i).kind, intAt pl a, (nodAt T i).b⟩ j hj, fun c hc => nodClosed _ _ c hc⟩, .inl fun j hj => ⟨int_app1 pl _ j hj, fun c hc => intClosed _ _ c hc⟩⟩
      ·have hka := (hki hlt).1 (by omega)
       have hkb := (hki hlt).2 k1
       obtain ⟨a, ha⟩ : ∃ a : Nat, (nodAt T i).a = (a : Int) := ⟨(nodAt T i).a.toNat, by omega⟩
       obtain ⟨b, hb⟩ : ∃ b : Nat, (nodAt T i).b = (b : Int) := ⟨(nodAt T i).b.toNat, by omega⟩
       have hat : a < pl.length := by omega
       have hbt : b < pl.length := by omega
       have hn : woR (blAt Q) T (i + 1) = ⟨ns ++ [⟨(nodAt T i).text, (nodAt T i).kind, intAt pl a, intAt pl b⟩], pl ++ [(ns.length : Int)], g⟩ := by
        rw [hst]; unfold woStep; rw [if_neg (fun h => h6 h.1), if_pos (by omega), if_pos (by omega), if_neg h6, ha, hb]; rfl
       refine vcall_pure c1 ?_ ?_
       ·simp [go_sem]
       simp [go_sem, k1, ha, intCells_at]
       refine ⟨by omega, vcall_pure c1 ?_ ?_⟩
       ·simp [go_sem]
       simp [go_sem, k1, hb, intCells_at]
       refine ⟨by omega, ?_⟩
       refine ⟨by omega, by omega, by omega, by omega, by omega, i + 1, by omega, by omega, ?_⟩
       rw [hn]
       refine ent_ks [0, 1, 2, 9, 7] (by simp) (by simp) (by simp) (by simp) trivial ?_ ?_
       ·simp [go_sem, ew]
       ·simp [go_sem]
        exact ⟨clT, .inl fun j hj c hc => blClosed _ _ c hc, .inl fun j hj => ⟨nod_app ns ⟨(nodAt T i).text, (nodAt T i).kind, intAt pl a, intAt pl b⟩ j hj, fun c hc => nodClosed _ _ c hc⟩, .inl fun j hj => ⟨int_app1 pl _ j hj, fun c hc => intClosed _ _ c hc⟩⟩
     ·obtain rfl : i = T.length := by omega
      rw [hR]
      exact obsSame_one.mpr ⟨_, ⟨rfl, rfl, rfl, fun j hj => ⟨rfl, nodLit _ j⟩⟩, rfl⟩
   all_goals
    first
     | rw [if_neg (fun h => h0 h.1)] at hQd
     | rw [if_neg (fun h => by rw [hnil] at h; simp at h)] at hQd
    refine vc_loopE (fun i : Nat => i ≤ T.length) (fun i => T.length - i) (fun i => .of [(2, .ptr 0 1 0 0), (4, .ptr 1 1 0 0), (5, .own 2), (10, .own 3), (11, .own 4), (12, .lit (.int .i64 (woR (blAt Q) T i).g)), (13, .lit (.int .i64 i))] [some ⟨37, 1, 1, fun _ => [.sl 4 T.length (nodCells T)]⟩, some ⟨37, 1, 1, fun _ => [.lit (.slice none 0 0)]⟩, some ⟨4, 1, Q.length, blCells Q⟩, some ⟨77, 4, (woR (blAt Q) T i).nds.length, nodCells (woR (blAt Q) T i).nds⟩, some ⟨3, 1, (woR (blAt Q) T i).pl.length, intCells (woR (blAt Q) T i).pl⟩]) ⟨0, by omega, ?_⟩ (fun i hi => ?_)
    ·refine ent_ks [0, 1, 2, 3, 4] (by simp) (by simp) (by simp) (by simp) trivial ?_ ?_
     ·simp [go_sem, woR]
     ·simp [go_sem, woR]
      subst hQd
      exact ⟨clT, .inl ⟨rfl, fun j hj => ⟨rfl, fun c hc => blClosed _ _ c hc⟩⟩⟩
    ·have hp := wo_pl (blAt Q) T i
     have hl := wo_len (blAt Q) T i
     have hgi := wo_gi (st := blAt Q) (T := T) (bitOf N f) (i := i)
     have hki := hk i
     have hst : woR (blAt Q) T (i + 1) = woStep (blAt Q) (nodAt T i) (woR (blAt Q) T i) := rfl
     have ew : IntKind.i64.wrap ((i : Int) + 1) = ((i + 1 : Nat) : Int) := by rw [wrap_i64 (by omega)]; omega
     have c1 := c_l3Kids (nodAt T i).kind
     rw [hS, ← hQl] at hgi
     generalize hR : woR (blAt Q) T i = r at *
     obtain ⟨ns, pl, g⟩ := r
     simp only at hp hl hgi
     have gw : IntKind.i64.wrap ((g : Int) + 1) = (g : Int) + 1 := wrap_i64 (by omega)
     have gw2 : IntKind.i64.wrap ((g : Int) + 1 - 1) = (g : Int) := by rw [wrap_i64 (by omega)]; omega
     have nw : IntKind.i64.wrap ((ns.length : Int) - 1) = (ns.length : Int) - 1 := wrap_i64 (by omega)
     simp [go_sem, nodCells_at]
     refine ⟨by omega, fun hlt => ⟨hlt, fun h6 => ?_, fun h6 => ?_⟩, fun hge => ?_⟩
     ·have hg := hgi hlt h6
      have gwg : IntKind.i64.wrap (g : Int) = (g : Int) := wrap_i64 (by omega)
      have k1 : kidsN (nodAt T i).kind = 1 := by rw [h6]; rfl
      have hka := (hki hlt).1 (by omega)
      obtain ⟨a, ha⟩ : ∃ a : Nat, (nodAt T i).a = (a : Int) := ⟨(nodAt T i).a.toNat, by omega⟩
      have hat : a < pl.length := by omega
      simp [go_sem, gw, gwg, nw, blCells]
      refine ⟨by omega, fun hb => ⟨by omega, by omega, by omega, i + 1, by omega, by omega, ?_⟩, fun hb => ?_⟩
      ·have hn : woR (blAt Q) T (i + 1) = ⟨ns, pl ++ [(ns.length : Int) - 1], g + 1⟩ := by rw [hst]; unfold woStep; rw [if_pos ⟨h6, hb⟩]
       rw [hn]
       refine ent_ks [0, 1, 2, 3, 7] (by simp) (by simp) (by simp) (by simp) trivial ?_ ?_
       ·simp [go_sem, ew]
       ·simp [go_sem]
        exact ⟨clT, .inl fun j hj c hc => blClosed _ _ c hc, .inl fun j hj c hc => nodClosed _ _ c hc, .inl fun j hj => ⟨int_app1 pl _ j hj, fun c hc => intClosed _ _ c hc⟩⟩
      ·have hn : woR (blAt Q) T (i + 1) = ⟨ns ++ [⟨(nodAt T i).text, (nodAt T i).kind, intAt pl a, (nodAt T i).b⟩], pl ++ [(ns.length : Int)], g + 1⟩ := by
        rw [hst]; unfold woStep; rw [if_neg (fun h => by rw [hb] at h; simp at h), if_pos (by omega), if_neg (by omega), if_pos h6, ha]; rfl
       refine vcall_pure c1 ?_ ?_
       ·simp [go_sem]
       simp [go_sem, k1, ha, intCells_at]
       refine ⟨by omega, vcall_pure c1 ?_ ?_⟩
       ·simp [go_sem]
       simp [go_sem, k1]
       refine ⟨by omega, by omega, by omega, by omega, by omega, i + 1, by omega, by omega, ?_⟩
       rw [hn]
       refine ent_ks [0, 1, 2, 9, 7] (by simp) (by simp) (by simp) (by simp) trivial ?_ ?_
       ·simp [go_sem, ew]
       ·simp [go_sem]
        exact ⟨clT, .inl fun j hj c hc => blClosed _ _ c hc, .inl fun j hj => ⟨nod_app ns ⟨(nodAt T i).text, (nodAt T i).kind, intAt pl a, (nodAt T i).b⟩ j hj, fun c hc => nodClosed _ _ c hc⟩, .inl fun j hj => ⟨int_app1 pl _ j hj, fun c hc => intClosed _ _ c hc⟩⟩
     ·rcases kids_012 (nodAt T i).kind with k1 | k1 | k1
      ·have hn : woR (blAt Q) T (i + 1) = ⟨ns ++ [⟨(nodAt T i).text, (nodAt T i).kind, (nodAt T i).a, (nodAt T i).b⟩], pl ++ [(ns.length : Int)], g⟩ := by
        rw [hst]; unfold woStep; rw [if_neg (fun h => h6 h.1), if_neg (by omega), if_neg (by omega), if_neg h6]
       refine vcall_pure c1 ?_ ?_
       ·simp [go_sem]
       simp [go_sem, k1]
       refine vcall_pure c1 ?_ ?_
       ·simp [go_sem]
       simp [go_sem, k1]
       refine ⟨by omega, by omega, by omega, by omega, by omega, i + 1, by omega, by omega, ?_⟩
       rw [hn]
       refine ent_ks [0, 1, 2, 9, 7] (by simp) (by simp) (by simp) (by simp) trivial ?_ ?_
       ·simp [go_sem, ew]
       ·simp [go_sem]
        exact ⟨clT, .inl fun j hj c hc => blClosed _ _ c hc, .inl fun j hj => ⟨nod_app ns ⟨(nodAt T i).text, (nodAt T i).kind, (nodAt T i).a, (nodAt T i).b⟩ j hj, fun c hc => nodClosed _ _ c hc⟩, .inl fun j hj => ⟨int_app1 pl _ j hj, fun c hc => intClosed _ _ c hc⟩⟩
      ·have hka := (hki hlt).1 (by omega)
       obtain ⟨a, ha⟩ : ∃ a : Nat, (nodAt T i).a = (a : Int) := ⟨(nodAt T i).a.toNat, by omega⟩
       have hat : a < pl.length := by omega
       have hn : woR (blAt Q) T (i + 1) = ⟨ns ++ [⟨(nodAt T i).text, (nodAt T i).kind, intAt pl a, (nodAt T i).b⟩], pl ++ [(ns.length : Int)], g⟩ := by
        rw [hst]; unfold woStep; rw [if_neg (fun h => h6 h.1), if_pos (by omega), if_neg (by omega), if_neg h6, ha]; rfl
       refine vcall_pure c1 ?_ ?_
       ·simp [go_sem]
       simp [go_sem, k1, ha, intCells_at]
       refine ⟨by omega, vcall_pure c1 ?_ ?_⟩
       ·simp [go_sem]
       simp [go_sem, k1]
       refine ⟨by omega, by omega, by omega, by omega, by omega, i + 1, by omega, by omega, ?_⟩
       rw [hn]
       refine ent_ks [0, 1, 2, 9, 7] (by simp) (by simp) (by simp) (by simp) trivial ?_ ?_
       ·simp [go_sem, ew]
       ·simp [go_sem]
        exact ⟨clT, .inl fun j hj c hc => blClosed _ _ c hc, .inl fun j hj => ⟨nod_app ns ⟨(nodAt T i).text, (nodAt T i).kind, intAt pl a, (nodAt T i).b⟩ j hj, fun c hc => nodClosed _ _ c hc⟩, .inl fun j hj => ⟨int_app1 pl _ j hj, fun c hc => intClosed _ _ c hc⟩⟩
      ·have hka := (hki hlt).1 (by omega)
       have hkb := (hki hlt).2 k1
       obtain ⟨a, ha⟩ : ∃ a : Nat, (nodAt T i).a = (a : Int) := ⟨(nodAt T i).a.toNat, by omega⟩
       obtain ⟨b, hb⟩ : ∃ b : Nat, (nodAt T i).b = (b : Int) := ⟨(nodAt T i).b.toNat, by omega⟩
       have hat : a < pl.length := by omega
       have hbt : b < pl.length := by omega
       have hn : woR (blAt Q) T (i + 1) = ⟨ns ++ [⟨(nodAt T i).text, (nodAt T i).kind, intAt pl a, intAt pl b⟩], pl ++ [(ns.length : Int)], g⟩ := by
        rw [hst]; unfold woStep; rw [if_neg (fun h => h6 h.1), if_pos (by omega), if_pos (by omega), if_neg h6, ha, hb]; rfl
       refine vcall_pure c1 ?_ ?_
       ·simp [go_sem]
       simp [go_sem, k1, ha, intCells_at]
       refine ⟨by omega, vcall_pure c1 ?_ ?_⟩
       ·simp [go_sem]
       simp [go_sem, k1, hb, intCells_at]
       refine ⟨by omega, ?_⟩
       refine ⟨by omega, by omega, by omega, by omega, by omega, i + 1, by omega, by omega, ?_⟩
       rw [hn]
       refine ent_ks [0, 1, 2, 9, 7] (by simp) (by simp) (by simp) (by simp) trivial ?_ ?_
       ·simp [go_sem, ew]
       ·simp [go_sem]
        exact ⟨clT, .inl fun j hj c hc => blClosed _ _ c hc, .inl fun j hj => ⟨nod_app ns ⟨(nodAt T i).text, (nodAt T i).kind, intAt pl a, intAt pl b⟩ j hj, fun c hc => nodClosed _ _ c hc⟩, .inl fun j hj => ⟨int_app1 pl _ j hj, fun c hc => intClosed _ _ c hc⟩⟩
     ·obtain rfl : i = T.length := by omega
      rw [hR]
      exact obsSame_one.mpr ⟨_, ⟨rfl, rfl, rfl, fun j hj => ⟨rfl, nodLit _ j⟩⟩, rfl⟩
open Go.Proofs.YtjdmmhcogmepaaaGreatDoor.Ops (Tr Tk Lv Res Fit OF)
def paR (l : List POp) (z : ByteArray) (av : AV) (obs : List Ob) : Prop := (av = .tup [.agg [.own 0], .lit (.int .i64 (parZ l z).2.1), .lit (.int .i64 (parZ l z).2.2)] ∧ obs = [⟨77, 4, (parZ l z).1.length, nodCells (parZ l z).1⟩]) ∨ ∃ x y : Int, parZ l z = ([], x, y) ∧ av = .tup [.agg [.lit (.slice none 0 0)], .lit (.int .i64 x), .lit (.int .i64 y)] ∧ obs = []
theorem paR_nil {l : List POp} {z : ByteArray} {x y : Int} (h : parZ l z = ([], x, y)) : paR l z (.tup [.agg [.lit (.slice none 0 0)], .lit (.int .i64 x), .lit (.int .i64 y)]) [] := .inr ⟨x, y, h, rfl, rfl⟩
theorem paR_own {l : List POp} {z : ByteArray} {av : AV} {obs : List Ob} (h : paR l z av obs) : (av = .tup [.agg [.own 0], .lit (.int .i64 (parZ l z).2.1), .lit (.int .i64 (parZ l z).2.2)] ∧ obs = [⟨77, 4, (parZ l z).1.length, nodCells (parZ l z).1⟩]) ∨ ∃ xs : List Value, av = .tup (.agg [.lit (.slice none 0 0)] :: xs.map .lit) ∧ obs = [] ∧
  (AV.tup (.agg [.own 0] :: xs.map .lit) = .tup [.agg [.own 0], .lit (.int .i64 (parZ l z).2.1), .lit (.int .i64 (parZ l z).2.2)] ∧ [(⟨77, 4, 0, nodCells []⟩ : Ob)] = [⟨77, 4, (parZ l z).1.length, nodCells (parZ l z).1⟩]) := by
 rcases h with h | ⟨x, y, h1, rfl, rfl⟩
 ·exact .inl h
 ·refine .inr ⟨[.int .i64 x, .int .i64 y], rfl, rfl, ?_⟩
  rw [h1]
  exact ⟨rfl, rfl⟩
end Go.Proofs.YtjdmmhcogmepaaaGreatDoor.V
namespace Go.Proofs.YtjdmmhcogmepaaaGreatDoor.V
open Go.RowKit
section
variable {P : Program} {n : Nat} {base : Fr} {w0 w : World} {hd : Nat → Value} {s : VS} {a : Act}
theorem lk_map {ts : List Nat} {x : AV} {r : List (Nat × AV)} {u : Nat} : lk (ts.map (fun t => (t, x)) ++ r) u = if u ∈ ts then x else lk r u := by
 induction ts with
 | nil => simp
 | cons t ts ih =>
  simp only [List.map_cons, List.cons_append, lk]
  by_cases e : t = u
  ·subst e; simp
  ·rw [if_neg e, ih]
   have e' : ¬ u = t := fun h => e h.symm
   simp [e']
theorem RelH.rowSl (h : RelH n base w0 hd s a w) {k : Nat} {ob : Ob} (hk : s.mem[k]? = some (some ob)) (hc : ∀ i, i < ob.n → ∀ c, c ∈ ob.f i → Closed c) : Rep w (okOf (s.mem.set k none) hd) hd (s.mem.set k none).length (.sl ob.sz ob.n ob.f) (hd k) := by
 obtain ⟨hs, vals, ho, hr⟩ := h.me.obs k ob hk
 have hok : ∀ ad u, okOf s.mem hd ad.block → w.cell? ad = some u → w.cell? ad = some u ∧ okOf (s.mem.set k none) hd ad.block := fun ad u ho hcell => ⟨hcell, free_ok _ _ _ _ ho⟩
 rcases ho.2 with ⟨e, h0⟩ | ⟨g, cap, cur, e, h3, h1, h2, h4⟩
 ·rw [e, show Value.slice none 0 0 = Value.slice none ob.n 0 by rw [h0]]
  exact .sl _ _ _ none 0 (fun _ _ => undef) (by omega) (by omega) hs (fun i hi => (hr i hi).1) (fun hp => by omega) (fun i j av hi => by omega)
 ·have hcells := fun i hi => h.cells_ hk e (i := i) hi
  have hown : (hd k).ownBlock = some g := by rw [e]; rfl
  rw [e]
  refine .sl _ _ _ _ _ (fun i j => (w.cell? ((⟨g, i * ob.sz, none⟩ : Addr).add j)).getD undef) (by omega) (by simp only [maxLen] at h2; omega) hs (fun i hi => (hr i hi).1) (fun hp => ⟨_, rfl, ⟨fun q ob' hq e' => ?_, h.ownTail (h.me.alw k ob hk g hown)⟩, fun i j hi hj => ?_⟩) fun i j av hi hj => ?_
  ·obtain ⟨hq1, hq2⟩ := free_get hq
   rcases h.me.apart q k ob' ob hq1 hk hq2 with e2 | e2
   ·rw [e'] at e2; cases e2
   ·exact e2 (by rw [e', hown])
  ·obtain ⟨u, h1, _⟩ := hcells i hi j _ (List.getElem?_eq_getElem (by rw [(hr i hi).1]; exact hj))
   have e3 : ((⟨g, 0, none⟩ : Addr).add (i * ob.sz + j)) = (⟨g, i * ob.sz, none⟩ : Addr).add j := by
    by_cases hj0 : j = 0
    ·subst hj0
     by_cases hi0 : i * ob.sz = 0
     ·simp [Addr.add, hi0]
     ·simp only [Addr.add, Nat.add_zero]; rw [if_neg hi0]; simp
    ·have hne : ¬ (i * ob.sz + j = 0) := by omega
     simp only [Addr.add]; rw [if_neg hne, if_neg hj0]; simp
   rw [e3, h1]; rfl
  ·obtain ⟨u, h1, h2⟩ := hcells i hi j av hj
   simp only [h1]
   exact Rep.closed (hc i hi av (List.mem_of_getElem? hj)) (fun ad u' g1 g2 => ⟨g2, free_ok _ _ _ _ g1⟩) h2
end
theorem Ent.give {s : VS} (ts : List Nat) (k : Nat) {ob : Ob} (hk : s.mem[k]? = some (some ob)) (hc : ∀ i, i < ob.n → ∀ c, c ∈ ob.f i → Closed c) (ht : ∀ t, t ∈ ts → lk s.tmps t = .own k) :
  Ent s { s with tmps := ts.map (fun t => (t, .sl ob.sz ob.n ob.f)) ++ s.tmps, mem := s.mem.set k none } := by
 intro n base w0 hd a w h
 have hf := h.free k
 have hr := h.rowSl hk hc
 refine ⟨hd, hf.defers, hf.size, hf.below, hf.le, hf.fixl, hf.fix, hf.mp, fun u => ?_, hf.me⟩
 simp only [lk_map]
 split
 ·rename_i hu
  have := h.tm u
  rw [ht u hu] at this
  generalize a.tmps.getD u undef = v at this
  cases this
  exact hr
 ·exact hf.tm u
end Go.Proofs.YtjdmmhcogmepaaaGreatDoor.V
namespace Go.Proofs.YtjdmmhcogmepaaaGreatDoor.V
open Go.RowKit
open Go.Maps (Keyed)
open Go.Proofs.YtjdmmhcogmepaaaGreatDoor.Ops (Tr Tk Lv Res Fit)
theorem zeroNud : zeroIs Tryz.prog 165 .nilFunc := fun w => Tryz.zeroValue165 w
theorem toks_at {E : PEnv} {i : Nat} {tk : TkP} {r : List TkP} (h : ToksAre E.l E.t i (tk :: r)) : i < E.t.length ∧ E.at_ r = i + 1 ∧ E.at_ (tk :: r) = i := by
 have := toksAre_len h
 simp only [List.length_cons] at this
 unfold PEnv.at_
 simp only [List.length_cons]
 omega
theorem fi_leaf (E : PEnv) (i : Nat) (hi : i < E.t.length) (rest : List TkP) (hr : E.at_ rest = i + 1) (hk : (tokAt E.t i).kind = 1 ∨ (tokAt E.t i).kind = 2) : E.Ans 125 [.ptr 0 6 0 0] i (some (.leaf ((tokAt E.t i).kind, (tokAt E.t i).text), rest)) := by
 refine .mk ?_
 have cn := c_pnext E.b1 E.b2 E.b3 E.b4 E.t E.len i hi
 rw [hr]
 simp only [PEnv.ob, pOb, PEnv.mps, mapsP, PTok.cells] at cn ⊢
 refine vprocG_start Tryz.func125 (by kernel_rfl) rfl (by simp [Tryz.ntmps125]) ?_; simp only [Tryz.ntmps125, Tryz.results125]; simp [go_sem]
 refine vcall_share [0] cn (by simp) ?_ ?_ ?_ ?_
 ·simp [go_sem]
 ·simp [go_sem]
  exact fun i c _ h => tokClosed E.t i c h
 ·simp [go_sem]
 ·rintro av mem maps ⟨rfl, rfl, rfl⟩
  simp only [pOb]
  simp [go_sem]
  rcases hk with hk | hk
  ·simp [hk, go_sem]
   exact E.fin_ [] (by simp only [partP, hk]) rfl
  ·simp [hk, go_sem]
   exact E.fin_ [] (by simp only [partP, hk]) rfl
theorem fi_open (E : PEnv) (i : Nat) (hi : i < E.t.length) (j : Nat) (hj : j < E.t.length) (e : PT) (r0 rest : List TkP) (h0 : E.at_ r0 = j) (hr : E.at_ rest = j + 1) (hk : (tokAt E.t i).kind = 4) (hk2 : (tokAt E.t j).kind = 5) (hl : highT e < 2 ^ 62) (ho : E.Ans 95 [.ptr 0 6 0 0, .lit (.int .i64 0)] (i + 1) (some (e, r0))) : E.Ans 125 [.ptr 0 6 0 0] i (some (.grp e, rest)) := by
 refine .mk ?_
 obtain ⟨T, u, hT, _, fh, hh, ch⟩ := partIs e
 have ew : IntKind.i64.wrap (1 + highT e) = 1 + highT e := wrap_i64 (by have := highT_pos e; omega)
 have cn := c_pnext E.b1 E.b2 E.b3 E.b4 E.t E.len i hi
 have cn2 := c_pnext E.b1 E.b2 E.b3 E.b4 E.t E.len j hj
 rw [hr]
 simp only [PEnv.ob, pOb, PEnv.mps, mapsP, PTok.cells] at cn cn2 ⊢
 refine vprocG_start Tryz.func125 (by kernel_rfl) rfl (by simp [Tryz.ntmps125]) ?_; simp only [Tryz.ntmps125, Tryz.results125]; simp [go_sem]
 refine vcall_share [0] cn (by simp) ?_ ?_ ?_ ?_
 ·simp [go_sem]
 ·simp [go_sem]
  exact fun i c _ h => tokClosed E.t i c h
 ·simp [go_sem]
 ·rintro av mem maps ⟨rfl, rfl, rfl⟩
  simp only [pOb]
  simp [hk, go_sem]
  refine vcall_tell [0] 48 ho (by simp) rfl (fun i _ => rnP E.lo i) ?_ ?_ ?_ ?_
  ·simp [go_sem]
  ·simp [go_sem, PEnv.ob, pOb]
   exact fun i c _ h => tokClosed E.t i c h
  ·exact E.mpsLe []
  ·rintro av mem maps ⟨⟨rfl, rfl⟩, rfl⟩
   rw [h0]
   simp only [PEnv.ob, pOb, PEnv.mps, mapsP]
   simp [go_sem]
   refine vcall_share [0] cn2 (by simp) ?_ ?_ ?_ ?_
   ·simp [go_sem]
   ·simp [go_sem]
    exact fun i c _ h => tokClosed E.t i c h
   ·simp [go_sem]
   ·rintro av mem maps ⟨rfl, rfl, rfl⟩
    simp only [pOb]
    simp [hk2, go_sem]
    rw [hT]
    simp [go_sem, hh]
    refine vcall_pure ch ?_ ?_
    ·simp [go_sem]
    ·simp [go_sem, ew]
     exact E.fin_ E.mps (by simp only [partP, hT]) rfl
theorem fi_open_dies (E : PEnv) (i : Nat) (hi : i < E.t.length) (hk : (tokAt E.t i).kind = 4) (ho : E.Ans 95 [.ptr 0 6 0 0, .lit (.int .i64 0)] (i + 1) none) : E.Ans 125 [.ptr 0 6 0 0] i none := by
 have cn := c_pnext E.b1 E.b2 E.b3 E.b4 E.t E.len i hi
 simp only [PEnv.Ans, PEnv.ob, pOb, PEnv.mps, mapsP, PTok.cells] at cn ho ⊢
 refine vdies_start Tryz.func125 (by kernel_rfl) rfl (by simp [Tryz.ntmps125]) ?_; simp only [Tryz.ntmps125, startG, startP, List.length_cons, List.length_nil, List.length_singleton]
 refine vd_snd ?_
 simp [go_sem]
 refine vd_snd ?_
 simp [go_sem]
 refine vcall_share [0] cn (by simp) ?_ ?_ ?_ ?_
 ·simp [go_sem]
 ·simp [go_sem]
  exact fun i c _ h => tokClosed E.t i c h
 ·simp [go_sem]
 ·rintro av mem maps ⟨rfl, rfl, rfl⟩
  simp only [pOb]
  simp [hk, go_sem]
  refine vd_fst ?_
  refine vd_snd ?_
  simp [hk, go_sem]
  refine vd_snd ?_
  simp [hk, go_sem]
  refine vd_snd ?_
  simp [hk, go_sem]
  refine vd_snd ?_
  simp [hk, go_sem]
  refine vd_fst ?_
  refine vd_at 1 ?_
  simp [go_sem]
  refine vdcall_tell [0] 48 ho (by simp) rfl (fun i _ => rnP E.lo i) ?_ ?_ (E.mpsLe []) (E.mpsLe [])
  ·simp [go_sem]
  ·simp [go_sem, PEnv.ob, pOb]
   exact fun i c _ h => tokClosed E.t i c h
theorem fi_open_end (E : PEnv) (i : Nat) (hi : i < E.t.length) (j : Nat) (hj : j < E.t.length) (e : PT) (r0 : List TkP) (h0 : E.at_ r0 = j) (hk : (tokAt E.t i).kind = 4) (hk2 : (tokAt E.t j).kind ≠ 5) (ho : E.Ans 95 [.ptr 0 6 0 0, .lit (.int .i64 0)] (i + 1) (some (e, r0))) : E.Ans 125 [.ptr 0 6 0 0] i none := by
 have cn := c_pnext E.b1 E.b2 E.b3 E.b4 E.t E.len i hi
 have cn2 := c_pnext E.b1 E.b2 E.b3 E.b4 E.t E.len j hj
 simp only [PEnv.Ans, PEnv.ob, pOb, PEnv.mps, mapsP, PTok.cells] at cn cn2 ⊢
 refine vdies_start Tryz.func125 (by kernel_rfl) rfl (by simp [Tryz.ntmps125]) ?_; simp only [Tryz.ntmps125, startG, startP, List.length_cons, List.length_nil, List.length_singleton]
 refine vd_snd ?_
 simp [go_sem]
 refine vd_snd ?_
 simp [go_sem]
 refine vcall_share [0] cn (by simp) ?_ ?_ ?_ ?_
 ·simp [go_sem]
 ·simp [go_sem]
  exact fun i c _ h => tokClosed E.t i c h
 ·simp [go_sem]
 ·rintro av mem maps ⟨rfl, rfl, rfl⟩
  simp only [pOb]
  simp [hk, go_sem]
  refine vd_fst ?_
  refine vd_snd ?_
  simp [hk, go_sem]
  refine vd_snd ?_
  simp [hk, go_sem]
  refine vd_snd ?_
  simp [hk, go_sem]
  refine vd_snd ?_
  simp [hk, go_sem]
  refine vd_snd ?_
  simp [hk, go_sem]
  refine vcall_tell [0] 48 ho (by simp) rfl (fun i _ => rnP E.lo i) ?_ ?_ ?_ ?_
  ·simp [go_sem]
  ·simp [go_sem, PEnv.ob, pOb]
   exact fun i c _ h => tokClosed E.t i c h
  ·exact E.mpsLe []
  ·rintro av mem maps ⟨⟨rfl, rfl⟩, rfl⟩
   rw [h0]
   simp only [PEnv.ob, pOb, PEnv.mps, mapsP]
   simp [go_sem]
   refine vd_fst ?_
   refine vd_snd ?_
   simp [go_sem]
   refine vcall_share [0] cn2 (by simp) ?_ ?_ ?_ ?_
   ·simp [go_sem]
   ·simp [go_sem]
    exact fun i c _ h => tokClosed E.t i c h
   ·simp [go_sem]
   ·rintro av mem maps ⟨rfl, rfl, rfl⟩
    simp only [pOb]
    simp [hk2, go_sem]
    refine vd_at 2 ?_
    simp [go_sem, noTreeV, E.n13, E.n14, E.n34]
theorem fi_pre (E : PEnv) (i : Nat) (hi : i < E.t.length) (q : Nat) (hk : (tokAt E.t i).kind = 3) (hz : (tokAt E.t i).text.size ≤ maxLen) (hm : mget E.esN (.string (tokAt E.t i).text) = some (.func (.func 94) #[] #[vsP E.bp E.bo 0, vsP E.bp E.bo (q + 1)])) (e : PT) (rest : List TkP)
  (ho : E.Ans 94 [.agg (tokAt E.t i).cells, .lit (vsP E.bp E.bo 0), .lit (vsP E.bp E.bo (q + 1))] (i + 1) (some (e, rest))) : E.Ans 125 [.ptr 0 6 0 0] i (some (e, rest)) := by
 refine .mk ?_
 have cn := c_pnext E.b1 E.b2 E.b3 E.b4 E.t E.len i hi
 have h13 := E.n13
 have h14 := E.n14
 have h34 := E.n34
 simp only [PEnv.ob, pOb, PEnv.mps, mapsP, PTok.cells, vsP] at cn ho hm ⊢
 refine vprocG_start Tryz.func125 (by kernel_rfl) rfl (by simp [Tryz.ntmps125]) ?_; simp only [Tryz.ntmps125, Tryz.results125]; simp [go_sem]
 refine vcall_share [0] cn (by simp) ?_ ?_ ?_ ?_
 ·simp [go_sem]
 ·simp [go_sem]
  exact fun i c _ h => tokClosed E.t i c h
 ·simp [go_sem]
 ·rintro av mem maps ⟨rfl, rfl, rfl⟩
  simp only [pOb]
  simp [hk, go_sem]
  refine vc_drawn [8] (.q 0 <| .q 1 <| .q 2 <| .q 3 <| .q 4 <| .q 5 <| .q 6 <| .q 7 <| .or 8 (.q 9 <| .done) (.nil)) (by kernel_rfl) ?_
  simp [hk, go_sem, h13, h14, h34]
  refine vlookK_use keyedString (keyString hz) _ zeroNud ?_
  rw [hm]
  simp [go_sem]
  refine vcall_tell [0] 48 ho (by simp) rfl (fun i _ => rnP E.lo i) ?_ ?_ ?_ ?_
  ·simp [go_sem, hk]
  ·simp [go_sem, PEnv.ob, pOb]
   exact fun i c _ h => tokClosed E.t i c h
  ·exact E.mpsLe []
  ·rintro av mem maps ⟨⟨rfl, rfl⟩, rfl⟩
   simp only [PEnv.ob, pOb, PEnv.mps, mapsP]
   simp [go_sem]
   exact E.fin_ E.mps rfl rfl
theorem fi_pre_dies (E : PEnv) (i : Nat) (hi : i < E.t.length) (q : Nat) (hk : (tokAt E.t i).kind = 3) (hz : (tokAt E.t i).text.size ≤ maxLen) (hm : mget E.esN (.string (tokAt E.t i).text) = some (.func (.func 94) #[] #[vsP E.bp E.bo 0, vsP E.bp E.bo (q + 1)]))
  (ho : E.Ans 94 [.agg (tokAt E.t i).cells, .lit (vsP E.bp E.bo 0), .lit (vsP E.bp E.bo (q + 1))] (i + 1) none) : E.Ans 125 [.ptr 0 6 0 0] i none := by
 have cn := c_pnext E.b1 E.b2 E.b3 E.b4 E.t E.len i hi
 have h13 := E.n13
 have h14 := E.n14
 have h34 := E.n34
 simp only [PEnv.Ans, PEnv.ob, pOb, PEnv.mps, mapsP, PTok.cells, vsP] at cn ho hm ⊢
 refine vdies_start Tryz.func125 (by kernel_rfl) rfl (by simp [Tryz.ntmps125]) ?_; simp only [Tryz.ntmps125, startG, startP, List.length_cons, List.length_nil, List.length_singleton]
 refine vd_snd ?_
 simp [go_sem]
 refine vd_snd ?_
 simp [go_sem]
 refine vcall_share [0] cn (by simp) ?_ ?_ ?_ ?_
 ·simp [go_sem]
 ·simp [go_sem]
  exact fun i c _ h => tokClosed E.t i c h
 ·simp [go_sem]
 ·rintro av mem maps ⟨rfl, rfl, rfl⟩
  simp only [pOb]
  simp [hk, go_sem]
  refine vd_snd ?_
  simp [hk, go_sem]
  refine vd_fst (vd_drawn [8] (.q 0 <| .q 1 <| .q 2 <| .q 3 <| .q 4 <| .q 5 <| .q 6 <| .q 7 <| .or 8 (.q 9 <| .done) (.nil)) (by kernel_rfl) ?_)
  simp [hk, go_sem, h13, h14, h34]
  refine vlookK_use keyedString (keyString hz) _ zeroNud ?_
  rw [hm]
  simp [go_sem]
  refine vdcall_tell [0] 48 ho (by simp) rfl (fun i _ => rnP E.lo i) ?_ ?_ (E.mpsLe []) (E.mpsLe [])
  ·simp [go_sem, hk]
  ·simp [go_sem, PEnv.ob, pOb]
   exact fun i c _ h => tokClosed E.t i c h
theorem tok_kind {l : List POp} {k : PTok} {tk : TkP} (h : TokIs l k tk) : k.kind = 5 → tk = .cls := by
 cases tk <;> simp only [TokIs] at h <;> intro h5 <;> first | rfl | (exfalso; omega) | skip
theorem c_first (E : PEnv) (n : Nat) (hO : ∀ i m d ts res, ToksAre E.l E.t i ts → Fit true d ts → Ops.operand lvO n m ts = some res → E.Ans 95 [.ptr 0 6 0 0, .lit (.int .i64 m)] i res)
  (i d : Nat) (ts : List TkP) (res : Option (PT × List TkP)) (ht : ToksAre E.l E.t i ts) (hf : Fit true d ts) (h : Ops.firstF lvO (Ops.operand lvO n) ts = some res) : E.Ans 125 [.ptr 0 6 0 0] i res := by
 cases ts with
 | nil => exact absurd hf (by simp [Fit])
 | cons tk r =>
  obtain ⟨hi, h1, _⟩ := toks_at ht
  obtain ⟨ht1, ht2⟩ := ht
  have big : ∀ {m : Int} {u : List TkP} {e : PT} {rest : List TkP}, u.length ≤ E.t.length → Ops.operand lvO n m u = some (some (e, rest)) → highT e ≤ 1048576 := @fun _ _ e _ hu hq => by
   have := ((Ops.sound_all lvO n).1 _ _ _ _ hq).1
   have h2 := highT_yield e
   have h3 := congrArg List.length this
   rw [List.length_append] at h3
   have := E.len
   omega
  have hlen := toksAre_len ht2
  cases tk with
  | leaf b =>
   simp only [Ops.firstF, Option.some.injEq] at h
   subst h
   simp only [TokIs] at ht1
   have := fi_leaf E i hi r h1 ht1.1
   rw [ht1.2]; exact this
  | opn =>
   simp only [TokIs] at ht1
   simp only [Fit] at hf
   cases hq : Ops.operand lvO n 0 r with
   | none => simp [Ops.firstF, hq] at h
   | some x =>
    have ho := hO (i + 1) 0 (d + 1) r x ht2 hf hq
    cases x with
    | none =>
     simp [Ops.firstF, hq] at h
     subst h
     exact fi_open_dies E i hi ht1 ho
    | some y =>
     obtain ⟨e, r0⟩ := y
     have hs := ((Ops.sound_all lvO n).1 _ _ _ _ hq).1
     have ht3 := ht2
     rw [hs] at ht3
     have ht4 := toksAre_rest ht3
     have hj : E.t.length - 1 - r0.length < E.t.length := by omega
     have hb := big (by omega) hq
     simp only [Ops.firstF, hq] at h
     cases r0 with
     | nil =>
      simp at h; subst h
      exact fi_open_end E i hi (E.at_ []) hj e [] rfl ht1 (by
       have := ht4.2
       show (tokAt E.t (E.t.length - 1 - 0)).kind ≠ 5
       simp only [List.length_nil] at this
       omega) ho
     | cons tk2 r1 =>
      obtain ⟨_, h6, h7⟩ := toks_at ht4
      by_cases hc : tk2 = .cls
      ·subst hc
       simp at h; subst h
       have hk5 := ht4.1
       simp only [TokIs] at hk5
       exact fi_open E i hi (E.at_ (.cls :: r1)) hj e _ r1 rfl h6 ht1 hk5 (by omega) ho
      ·have hn : res = none := by cases tk2 <;> first | exact absurd rfl hc | (simp at h; exact h.symm)
       subst hn
       exact fi_open_end E i hi (E.at_ (tk2 :: r1)) hj e _ rfl ht1 (fun h5 => hc (tok_kind ht4.1 h5)) ho
  | pre o =>
   simp only [TokIs] at ht1
   simp only [Fit] at hf
   obtain ⟨k1, k2, k3, j, hj, rfl⟩ := ht1
   obtain ⟨q, hq0, hq1, hq2⟩ := E.maps.nud j hj k3
   have hok := E.maps.ok j hj
   have hh : hole (opAt E.lo q) false = (lvO (opAt E.l j)).h2 := by rw [hq1]; exact hole_h2p hok k3
   have hw : (opAt E.lo q).wf := by rw [hq1]; exact E.maps.wf j hj
   rw [k2] at hq2
   cases hq : Ops.operand lvO n (lvO (opAt E.l j)).h2 r with
   | none => simp [Ops.firstF, hq] at h
   | some x =>
    have ho := hO (i + 1) _ d r x ht2 hf hq
    rw [← hh] at ho
    simp only [Ops.firstF, hq] at h
    cases x with
    | none =>
     simp at h; subst h
     exact fi_pre_dies E i hi q k1 (E.txt i hi) hq2 (an_pre_dies E _ q hq0 hw _ ho)
    | some y =>
     obtain ⟨e, r0⟩ := y
     simp at h; subst h
     have hb := big (by omega) hq
     have := fi_pre E i hi q k1 (E.txt i hi) hq2 _ _ (an_pre E (tokAt E.t i) q hq0 hw _ e r0 (by omega) ho)
     rw [hq1] at this; exact this
  | cls => exact absurd hf (by simp [Fit])
  | inf o => exact absurd hf (by simp [Fit])
  | post o => exact absurd hf (by simp [Fit])
theorem PEnv.mpsLe1 (E : PEnv) (M : List (Nat × Mp)) : MapsLe ((E.b1, ⟨151, E.esA⟩) :: (E.mps ++ M)) E.mps := by
 have h1 := E.n13
 have h2 := E.n14
 have h3 := E.n34
 simp [PEnv.mps, mapsP, MapsLe, lkm, h1, h2, h3, Ne.symm h1, Ne.symm h2, Ne.symm h3]
theorem PEnv.fin2 (E : PEnv) {u v : Value} {i j : Nat} {M : List (Nat × Mp)} (hM : MapsLe M E.mps) {r : List (Option Ob)} {tm : List (Nat × AV)} (hv : v = u) (hij : i = j) : vendP E.mps (E.Rt u j) ⟨tm, E.ob i :: r, M, 1⟩ (.lit v) := by
 subst hv; subst hij
 refine ⟨rfl, [], [E.ob i], by simp, by simp, by simp [go_sem], ?_, fun b hb => ?_, ⟨⟨rfl, rfl⟩, hM⟩⟩
 ·simp only [PEnv.ob, pOb]
  simp [go_sem]
  exact pOut
 ·cases hq : lkm E.mps b with
  | none => rw [hq] at hb; simp at hb
  | some mp => rw [mapsLe_get hM (b, mp) (lkm_mem hq)]; rfl
theorem zeroLed : zeroIs Tryz.prog 166 .nilFunc := fun w => Tryz.zeroValue166 w
structure AtLoop (E : PEnv) (n : Nat) (m : Int) (res : Option (PT × List TkP)) (x : PT × List TkP) : Prop where
 run : ∃ k, k ≤ n ∧ Ops.loop lvO k m x.1 x.2 = some res
 toks : ToksAre E.l E.t (E.at_ x.2) x.2
 fit : ∃ d, Fit false d x.2
 len : x.1.yield.length + x.2.length + 1 ≤ E.t.length
def atLoopS (E : PEnv) (m : Int) (x : PT × List TkP) : VS := ⟨[(62, .fam (E.lo.length + 1) (vsP E.bp E.bo) (asP E.lo)), (0, .ptr 0 6 0 0), (1, .lit (.int .i64 m)), (4, .lit .nilIface), (5, .lit (partP x.1))], [E.ob (E.at_ x.2)], E.mps, 1⟩
theorem op_some (E : PEnv) (n : Nat) (hO : ∀ i m d ts res, ToksAre E.l E.t i ts → Fit true d ts → Ops.operand lvO n m ts = some res → E.Ans 95 [.ptr 0 6 0 0, .lit (.int .i64 m)] i res)
  (i : Nat) (m : Int) (e : PT) (ts : List TkP) (er : PT) (rest : List TkP) (hf : E.Ans 125 [.ptr 0 6 0 0] i (some (e, ts))) (hm : m ≤ e.level lvO) (hl : AtLoop E n m (some (er, rest)) (e, ts)) : E.Ans 95 [.ptr 0 6 0 0, .lit (.int .i64 m)] i (some (er, rest)) := by
 refine .mk ?_
 obtain ⟨T, u, hT, ⟨fl, hfl, cl⟩, _⟩ := partIs e
 have h13 := E.n13
 have h14 := E.n14
 have h34 := E.n34
 simp only [PEnv.ob, pOb, PEnv.mps, mapsP]
 refine vprocG_start Tryz.func95 (by kernel_rfl) rfl (by simp [Tryz.ntmps95]) ?_; simp only [Tryz.ntmps95, Tryz.results95]; simp [go_sem]
 refine vcall_tell [0] 62 hf (by simp) rfl (fun i _ => rnP E.lo i) ?_ ?_ ?_ ?_
 ·simp [go_sem]
 ·simp [go_sem, PEnv.ob, pOb]
  exact fun i c _ h => tokClosed E.t i c h
 ·exact E.mpsLe []
 ·rintro av mem maps ⟨⟨rfl, rfl⟩, rfl⟩
  simp only [PEnv.ob, pOb, PEnv.mps, mapsP]
  simp [go_sem]
  rw [hT]
  simp [go_sem, hfl]
  refine vcall_pure cl ?_ ?_
  ·simp [go_sem]
  ·rw [← lvlP_eq] at hm
   simp [go_sem, show ¬ lvlP e < m by omega]
   refine vc_loopE (AtLoop E n m (some (er, rest))) (fun x => x.2.length) (atLoopS E m) ⟨(e, ts), hl, ?_⟩ (fun x hx => ?_)
   ·refine ent_ks [0] (by simp) (by simp) (by simp) (by simp) (E.mpsLe _) ?_ ?_
    ·simp [go_sem]
     exact ⟨.fam _ _ _ _ fun i _ => rnP E.lo i, hT.symm⟩
    ·simp [go_sem, PEnv.ob, pOb]
     exact fun i c _ h => tokClosed E.t i c h
   ·obtain ⟨e, ts⟩ := x
    obtain ⟨⟨k, hk, hrun⟩, htk, ⟨d, hfit⟩, hlen⟩ := hx
    have hlt : E.at_ ts < E.t.length := by unfold PEnv.at_; omega
    simp only [atLoopS, PEnv.ob, pOb, PEnv.mps, mapsP]
    simp [go_sem]
    refine vc_drawn [11] (.q 0 <| .q 1 <| .q 2 <| .q 3 <| .q 4 <| .q 5 <| .q 6 <| .q 7 <| .q 8 <| .q 9 <| .or 10 (.or 11 (.done) (.nil)) (.nil)) (by kernel_rfl) ?_
    simp [go_sem, tokCells_at, hlt, PTok.cells]
    cases ts with
    | nil =>
     have hk7 := htk.2
     simp [go_sem, hk7]
     cases k with
     | zero => simp [Ops.loop] at hrun
     | succ k =>
      simp [Ops.loop, Ops.loopF] at hrun
      obtain ⟨rfl, rfl⟩ := hrun
      exact E.fin_ [] rfl rfl
    | cons tk r =>
     obtain ⟨hi, hi1, hi2⟩ := toks_at htk
     obtain ⟨ht1, ht2⟩ := htk
     have hi2' : E.at_ (tk :: r) < E.t.length := hlt
     by_cases hc : tk = .cls
     ·subst hc
      simp only [TokIs] at ht1
      simp [go_sem, ht1]
      cases k with
      | zero => simp [Ops.loop] at hrun
      | succ k =>
       simp [Ops.loop, Ops.loopF] at hrun
       obtain ⟨rfl, rfl⟩ := hrun
       exact E.fin_ [] rfl rfl
     ·obtain ⟨o, hk3, htx, hko, ⟨j, hj, hjo⟩, htk⟩ : ∃ o, (tokAt E.t (E.at_ (tk :: r))).kind = 3 ∧ o.text = (tokAt E.t (E.at_ (tk :: r))).text ∧ o.kind ≠ 1 ∧ (∃ j, j < E.l.length ∧ opAt E.l j = o) ∧ ((tk = .inf o ∧ o.kind = 2) ∨ (tk = .post o ∧ o.kind = 3)) := by
       cases tk with
       | cls => exact absurd rfl hc
       | inf o => exact ⟨o, ht1.1, ht1.2.1, by have := ht1.2.2.1; omega, ht1.2.2.2, .inl ⟨rfl, ht1.2.2.1⟩⟩
       | post o => exact ⟨o, ht1.1, ht1.2.1, by have := ht1.2.2.1; omega, ht1.2.2.2, .inr ⟨rfl, ht1.2.2.1⟩⟩
       | leaf b => exact absurd hfit (by simp [Fit])
       | opn => exact absurd hfit (by simp [Fit])
       | pre o => exact absurd hfit (by simp [Fit])
      have hw : o.wf := by rw [← hjo]; exact E.maps.wf j hj
      have hok : opOk o = true := by rw [← hjo]; exact E.maps.ok j hj
      have hh1 := hole_h1 hok hko
      have cH := c_Hole o hw false
      rw [hh1] at cH
      have cb := c_behind E.l E.b1 E.b2 E.b3 E.b4 E.t (E.at_ (tk :: r)) E.maps.uniq E.esA E.maps.at_ j hj (by rw [hjo]; exact hko) (by rw [hjo]; exact hw)
      rw [hjo, htx] at cb
      simp only [POp.cells, pOb] at cb cH
      simp [go_sem, hk3]
      refine vcall_share [0] cb (by simp) ?_ ?_ ?_ ?_
      ·simp [go_sem]
      ·simp [go_sem]
       exact fun i c _ h => tokClosed E.t i c h
      ·simp [go_sem]
      ·rintro av mem maps ⟨rfl, rfl, rfl⟩
       simp only [pOb]
       simp [go_sem]
       have hrun' : ∃ k', k = k' + 1 ∧ ((o.level < m ∨ e.level lvO < (lvO o).h1) → er = e ∧ rest = tk :: r) := by
        cases k with
        | zero => simp [Ops.loop] at hrun
        | succ k =>
         refine ⟨k, rfl, fun hor => ?_⟩
         rw [Ops.loop] at hrun
         rcases htk with ⟨rfl, _⟩ | ⟨rfl, _⟩ <;>
         ·simp only [Ops.loopF] at hrun
          have hl : (lvO o).lev = o.level := rfl
          rw [hl] at hrun
          by_cases hlm : o.level < m
          ·rw [if_pos hlm] at hrun; simp at hrun; exact ⟨hrun.1.symm, hrun.2.symm⟩
          ·rcases hor with hor | hor
           ·exact absurd hor hlm
           ·rw [if_neg hlm, if_pos hor] at hrun; simp at hrun; exact ⟨hrun.1.symm, hrun.2.symm⟩
       obtain ⟨k, rfl, hstop⟩ := hrun'
       refine ⟨fun hlm => ?_, fun hlm => ?_⟩
       ·obtain ⟨rfl, rfl⟩ := hstop (.inl hlm)
        exact E.fin2 (E.mpsLe1 []) rfl rfl
       ·refine vc_drawn [] (.q 0 <| .q 2 <| .or 1 (.or 3 (.q 4 <| .done) (.nil)) (.nil)) (by kernel_rfl) ?_
        simp [go_sem]
        obtain ⟨T, u, hT, ⟨fl, hfl, cl⟩, _⟩ := partIs e
        rw [hT]
        simp [go_sem, hfl]
        refine vcallV_pure cl ?_ ?_
        ·simp [go_sem]
        ·simp [go_sem]
         refine vcallV_pure cH ?_ ?_
         ·simp [go_sem]
         ·simp [go_sem]
          rw [← hT]
          rw [lvlP_eq]
          refine ⟨fun hlh => ?_, fun hlh => ?_⟩
          ·obtain ⟨rfl, rfl⟩ := hstop (.inr hlh)
           exact E.fin2 (E.mpsLe1 []) rfl rfl
          ·have ew : IntKind.i64.wrap ((E.at_ (tk :: r) : Int) + 1) = ((E.at_ r : Nat) : Int) := by rw [hi1, hi2]; exact wrap_succ (by have := E.len; omega)
           simp [go_sem, ew]
           refine vc_drawn [9] (.q 0 <| .q 1 <| .q 2 <| .q 3 <| .q 4 <| .q 5 <| .q 6 <| .q 7 <| .q 8 <| .or 9 (.q 10 <| .done) (.nil)) (by kernel_rfl) ?_
           simp [go_sem, h13, h14, h34, Ne.symm h13, Ne.symm h14, Ne.symm h34]
           refine vlookK_use keyedString (keyString (E.txt _ hi2')) _ zeroLed ?_
           have hye := highT_yield e
           have hEl := E.len
           simp only [List.length_cons] at hlen
           rcases htk with ⟨rfl, ho2⟩ | ⟨rfl, ho3⟩
           ·have hm2 := E.maps.led2 j hj (by rw [hjo]; exact ho2)
            rw [hjo, htx] at hm2
            rw [hm2]
            simp [go_sem]
            simp only [Fit] at hfit
            have hh2 := hole_h2i hok ho2
            rw [Ops.loop, Ops.loopF, if_neg (show ¬ (lvO o).lev < m by show ¬ o.level < m; omega), if_neg (show ¬ e.level lvO < (lvO o).h1 by omega)] at hrun
            cases hq : Ops.operand lvO k (lvO o).h2 r with
            | none => rw [hq] at hrun; simp at hrun
            | some y =>
             rw [hq] at hrun
             cases y with
             | none => simp at hrun
             | some y =>
              obtain ⟨e2, r2⟩ := y
              simp only at hrun
              have hq' := Ops.operand_le lvO (show k ≤ n by omega) hq
              have hs := ((Ops.sound_all lvO n).1 _ _ _ _ hq').1
              have ht2' : ToksAre E.l E.t (E.at_ r) r := by rw [hi1, ← hi2]; exact ht2
              have ho := hO (E.at_ r) _ d r _ ht2' hfit hq'
              rw [← hh2] at ho
              have hy2 := highT_yield e2
              have hl2 := congrArg List.length hs
              rw [List.length_append] at hl2
              have ha := an_inf E o hw (E.at_ r) e e2 r2 (by omega) (by omega) ho
              refine vcall_tell [0] 62 ha (by simp) rfl (fun i _ => rnP E.lo i) ?_ ?_ ?_ ?_
              ·simp [go_sem, POp.cells, vsP]
              ·simp [go_sem, PEnv.ob, pOb]
               exact fun i c _ h => tokClosed E.t i c h
              ·exact E.mpsLe1 []
              ·rintro av mem maps ⟨⟨rfl, rfl⟩, rfl⟩
               simp only [PEnv.ob, pOb]
               simp [go_sem]
               refine ⟨.inf o e e2, r2, ⟨⟨k, by omega, hrun⟩, ?_, ⟨d, ?_⟩, ?_⟩, ?_, ?_⟩
               ·rw [hs] at ht2'; exact toksAre_rest ht2'
               ·rw [hs] at hfit; exact fit_yield _ _ _ hfit
               ·simp [Tr.yield]; omega
               ·try simp only [List.length_cons]
                omega
               ·refine ent_ks [0] (by simp) (by simp) (by simp) (by simp) (E.mpsLe _) ?_ ?_
                ·simp [go_sem]
                 exact .fam _ _ _ _ fun i _ => rnP E.lo i
                ·simp [go_sem, PEnv.ob, pOb]
                 exact fun i c _ h => tokClosed E.t i c h
           ·have hm3 := E.maps.led3 j hj (by rw [hjo]; exact ho3)
            rw [hjo, htx] at hm3
            rw [hm3]
            simp [go_sem]
            simp only [Fit] at hfit
            rw [Ops.loop, Ops.loopF, if_neg (show ¬ (lvO o).lev < m by show ¬ o.level < m; omega), if_neg (show ¬ e.level lvO < (lvO o).h1 by omega)] at hrun
            have ha := an_post E e o r (by omega)
            have ht2' : ToksAre E.l E.t (E.at_ r) r := by rw [hi1, ← hi2]; exact ht2
            refine vcall_tell [0] 62 ha (by simp) rfl (fun i _ => rnP E.lo i) ?_ ?_ ?_ ?_
            ·simp [go_sem, POp.cells, vsP]
            ·simp [go_sem, PEnv.ob, pOb]
             exact fun i c _ h => tokClosed E.t i c h
            ·exact E.mpsLe1 []
            ·rintro av mem maps ⟨⟨rfl, rfl⟩, rfl⟩
             simp only [PEnv.ob, pOb]
             simp [go_sem]
             refine ⟨.post o e, r, ⟨⟨k, by omega, hrun⟩, ht2', ⟨d, hfit⟩, ?_⟩, ?_, ?_⟩
             ·simp [Tr.yield]; omega
             ·try simp only [List.length_cons]
              omega
             ·refine ent_ks [0] (by simp) (by simp) (by simp) (by simp) (E.mpsLe _) ?_ ?_
              ·simp [go_sem]
               exact .fam _ _ _ _ fun i _ => rnP E.lo i
              ·simp [go_sem, PEnv.ob, pOb]
               exact fun i c _ h => tokClosed E.t i c h
theorem op_none1 (E : PEnv) (i : Nat) (m : Int) (hf : E.Ans 125 [.ptr 0 6 0 0] i none) : E.Ans 95 [.ptr 0 6 0 0, .lit (.int .i64 m)] i none := by
 simp only [PEnv.Ans, PEnv.ob, pOb, PEnv.mps, mapsP] at hf ⊢
 refine vdies_start Tryz.func95 (by kernel_rfl) rfl (by simp [Tryz.ntmps95]) ?_; simp only [Tryz.ntmps95, startG, startP, List.length_cons, List.length_nil, List.length_singleton]
 refine vd_snd ?_
 simp [go_sem]
 refine vd_fst ?_
 refine vd_at 1 ?_
 simp [go_sem]
 refine vdcall_tell [0] 62 hf (by simp) rfl (fun i _ => rnP E.lo i) ?_ ?_ (E.mpsLe []) (E.mpsLe [])
 ·simp [go_sem]
 ·simp [go_sem, PEnv.ob, pOb]
  exact fun i c _ h => tokClosed E.t i c h
theorem op_none2 (E : PEnv) (i : Nat) (m : Int) (e : PT) (ts : List TkP) (hf : E.Ans 125 [.ptr 0 6 0 0] i (some (e, ts))) (hm : e.level lvO < m) : E.Ans 95 [.ptr 0 6 0 0, .lit (.int .i64 m)] i none := by
 obtain ⟨T, u, hT, ⟨fl, hfl, cl⟩, _⟩ := partIs e
 simp only [PEnv.Ans, PEnv.ob, pOb, PEnv.mps, mapsP]
 refine vdies_start Tryz.func95 (by kernel_rfl) rfl (by simp [Tryz.ntmps95]) ?_; simp only [Tryz.ntmps95, startG, startP, List.length_cons, List.length_nil, List.length_singleton]
 refine vd_snd ?_
 simp [go_sem]
 refine vd_snd ?_
 simp [go_sem]
 refine vcall_tell [0] 62 hf (by simp) rfl (fun i _ => rnP E.lo i) ?_ ?_ ?_ ?_
 ·simp [go_sem]
 ·simp [go_sem, PEnv.ob, pOb]
  exact fun i c _ h => tokClosed E.t i c h
 ·exact E.mpsLe []
 ·rintro av mem maps ⟨⟨rfl, rfl⟩, rfl⟩
  simp only [PEnv.ob, pOb, PEnv.mps, mapsP]
  simp [go_sem]
  rw [hT]
  refine vd_fst ?_
  refine vd_snd ?_
  simp [go_sem, hfl]
  refine vcall_pure cl ?_ ?_
  ·simp [go_sem]
  ·rw [← lvlP_eq] at hm
   simp [go_sem, hm]
   refine vd_at 2 ?_
   simp [go_sem, noTreeV, E.n13, E.n14, E.n34]
theorem op_none3 (E : PEnv) (n : Nat) (hO : ∀ i m d ts res, ToksAre E.l E.t i ts → Fit true d ts → Ops.operand lvO n m ts = some res → E.Ans 95 [.ptr 0 6 0 0, .lit (.int .i64 m)] i res)
  (i : Nat) (m : Int) (e : PT) (ts : List TkP) (hf : E.Ans 125 [.ptr 0 6 0 0] i (some (e, ts))) (hm : m ≤ e.level lvO) (hl : AtLoop E n m none (e, ts)) : E.Ans 95 [.ptr 0 6 0 0, .lit (.int .i64 m)] i none := by
 obtain ⟨T, u, hT, ⟨fl, hfl, cl⟩, _⟩ := partIs e
 have h13 := E.n13
 have h14 := E.n14
 have h34 := E.n34
 simp only [PEnv.Ans, PEnv.ob, pOb, PEnv.mps, mapsP]
 refine vdies_start Tryz.func95 (by kernel_rfl) rfl (by simp [Tryz.ntmps95]) ?_; simp only [Tryz.ntmps95, startG, startP, List.length_cons, List.length_nil, List.length_singleton]
 refine vd_snd ?_
 simp [go_sem]
 refine vd_snd ?_
 simp [go_sem]
 refine vcall_tell [0] 62 hf (by simp) rfl (fun i _ => rnP E.lo i) ?_ ?_ ?_ ?_
 ·simp [go_sem]
 ·simp [go_sem, PEnv.ob, pOb]
  exact fun i c _ h => tokClosed E.t i c h
 ·exact E.mpsLe []
 ·rintro av mem maps ⟨⟨rfl, rfl⟩, rfl⟩
  simp only [PEnv.ob, pOb, PEnv.mps, mapsP]
  simp [go_sem]
  rw [hT]
  refine vd_snd ?_
  simp [go_sem, hfl]
  refine vcall_pure cl ?_ ?_
  ·simp [go_sem]
  ·rw [← lvlP_eq] at hm
   simp [go_sem, show ¬ lvlP e < m by omega]
   refine vd_loopE (AtLoop E n m none) (fun x => x.2.length) (atLoopS E m) ⟨(e, ts), hl, ?_⟩ (fun x hx => ?_)
   ·refine ent_ks [0] (by simp) (by simp) (by simp) (by simp) (E.mpsLe _) ?_ ?_
    ·simp [go_sem]
     exact ⟨.fam _ _ _ _ fun i _ => rnP E.lo i, hT.symm⟩
    ·simp [go_sem, PEnv.ob, pOb]
     exact fun i c _ h => tokClosed E.t i c h
   ·obtain ⟨e, ts⟩ := x
    obtain ⟨⟨k, hk, hrun⟩, htk, ⟨d, hfit⟩, hlen⟩ := hx
    have hlt : E.at_ ts < E.t.length := by unfold PEnv.at_; omega
    cases k with
    | zero => simp [Ops.loop] at hrun
    | succ k =>
     rw [Ops.loop] at hrun
     cases ts with
     | nil => simp [Ops.loopF] at hrun
     | cons tk r =>
      obtain ⟨hi, hi1, hi2⟩ := toks_at htk
      obtain ⟨ht1, ht2⟩ := htk
      have hi2' : E.at_ (tk :: r) < E.t.length := hlt
      obtain ⟨o, hk3, htx, hko, ⟨j, hj, hjo⟩, htk⟩ : ∃ o, (tokAt E.t (E.at_ (tk :: r))).kind = 3 ∧ o.text = (tokAt E.t (E.at_ (tk :: r))).text ∧ o.kind ≠ 1 ∧ (∃ j, j < E.l.length ∧ opAt E.l j = o) ∧ ((tk = .inf o ∧ o.kind = 2) ∨ (tk = .post o ∧ o.kind = 3)) := by
       cases tk with
       | cls => simp [Ops.loopF] at hrun
       | inf o => exact ⟨o, ht1.1, ht1.2.1, by have := ht1.2.2.1; omega, ht1.2.2.2, .inl ⟨rfl, ht1.2.2.1⟩⟩
       | post o => exact ⟨o, ht1.1, ht1.2.1, by have := ht1.2.2.1; omega, ht1.2.2.2, .inr ⟨rfl, ht1.2.2.1⟩⟩
       | leaf b => exact absurd hfit (by simp [Fit])
       | opn => exact absurd hfit (by simp [Fit])
       | pre o => exact absurd hfit (by simp [Fit])
      have hlm : ¬ o.level < m := fun hlm => by
       rcases htk with ⟨rfl, _⟩ | ⟨rfl, _⟩ <;>
       ·simp only [Ops.loopF] at hrun
        rw [if_pos (show (lvO o).lev < m from hlm)] at hrun
        simp at hrun
      have hlh : ¬ e.level lvO < (lvO o).h1 := fun hlh => by
       rcases htk with ⟨rfl, _⟩ | ⟨rfl, _⟩ <;>
       ·simp only [Ops.loopF] at hrun
        rw [if_neg (show ¬ (lvO o).lev < m from hlm), if_pos hlh] at hrun
        simp at hrun
      have hw : o.wf := by rw [← hjo]; exact E.maps.wf j hj
      have hok : opOk o = true := by rw [← hjo]; exact E.maps.ok j hj
      have hh1 := hole_h1 hok hko
      have cH := c_Hole o hw false
      rw [hh1] at cH
      have cb := c_behind E.l E.b1 E.b2 E.b3 E.b4 E.t (E.at_ (tk :: r)) E.maps.uniq E.esA E.maps.at_ j hj (by rw [hjo]; exact hko) (by rw [hjo]; exact hw)
      rw [hjo, htx] at cb
      have ew : IntKind.i64.wrap ((E.at_ (tk :: r) : Int) + 1) = ((E.at_ r : Nat) : Int) := by rw [hi1, hi2]; exact wrap_succ (by have := E.len; omega)
      obtain ⟨T, u, hT, ⟨fl, hfl, cl⟩, _⟩ := partIs e
      have hye := highT_yield e
      have hEl := E.len
      simp only [List.length_cons] at hlen
      have ht2' : ToksAre E.l E.t (E.at_ r) r := by rw [hi1, ← hi2]; exact ht2
      simp only [POp.cells, pOb] at cb cH
      -- the walk to the call of the closure, throwing or not
      by_cases hdie : tk = .inf o ∧ Ops.operand lvO k (lvO o).h2 r = some none
      ·refine .inl ?_
       obtain ⟨rfl, hdq⟩ := hdie
       have ho2 : o.kind = 2 := by
        rcases htk with ⟨_, h⟩ | ⟨h, _⟩
        ·exact h
        ·simp at h
       simp only [Fit] at hfit
       have hh2 := hole_h2i hok ho2
       have ho := hO (E.at_ r) _ d r _ ht2' hfit (Ops.operand_le lvO (show k ≤ n by omega) hdq)
       rw [← hh2] at ho
       have ha := an_inf_dies E o hw (E.at_ r) e ho
       have hm2 := E.maps.led2 j hj (by rw [hjo]; exact ho2)
       rw [hjo, htx] at hm2
       simp only [atLoopS, PEnv.ob, pOb, PEnv.mps, mapsP]
       simp [go_sem]
       refine vd_snd ?_
       refine vc_drawn [11] (.q 0 <| .q 1 <| .q 2 <| .q 3 <| .q 4 <| .q 5 <| .q 6 <| .q 7 <| .q 8 <| .q 9 <| .or 10 (.or 11 (.done) (.nil)) (.nil)) (by kernel_rfl) ?_
       simp [go_sem, tokCells_at, hlt, PTok.cells]
       refine vd_snd ?_
       simp [go_sem, hk3]
       refine vd_snd ?_
       simp [go_sem]
       refine vcall_share [0] cb (by simp) ?_ ?_ ?_ ?_
       ·simp [go_sem]
       ·simp [go_sem]
        exact fun i c _ h => tokClosed E.t i c h
       ·simp [go_sem]
       ·rintro av mem maps ⟨rfl, rfl, rfl⟩
        simp only [pOb]
        simp [go_sem]
        refine vd_snd ?_
        simp [go_sem, hlm]
        refine vd_snd ?_
        simp [go_sem]
        refine vc_drawn [] (.q 0 <| .q 2 <| .or 1 (.or 3 (.q 4 <| .done) (.nil)) (.nil)) (by kernel_rfl) ?_
        simp [go_sem]
        rw [hT]
        simp [go_sem, hfl]
        refine vcallV_pure cl ?_ ?_
        ·simp [go_sem]
        ·simp [go_sem]
         refine vcallV_pure cH ?_ ?_
         ·simp [go_sem]
         ·rw [← hT, lvlP_eq]
          simp [go_sem, hlh]
          refine vd_snd ?_
          simp [go_sem, ew]
          refine vd_drawn [9] (.q 0 <| .q 1 <| .q 2 <| .q 3 <| .q 4 <| .q 5 <| .q 6 <| .q 7 <| .q 8 <| .or 9 (.q 10 <| .done) (.nil)) (by kernel_rfl) ?_
          simp [go_sem, h13, h14, h34, Ne.symm h13, Ne.symm h14, Ne.symm h34]
          refine vlookK_use keyedString (keyString (E.txt _ hi2')) _ zeroLed ?_
          rw [hm2]
          simp [go_sem]
          refine vdcall_tell [0] 62 ha (by simp) rfl (fun i _ => rnP E.lo i) ?_ ?_ (E.mpsLe1 []) (E.mpsLe [])
          ·simp [go_sem, POp.cells, vsP]
          ·simp [go_sem, PEnv.ob, pOb]
           exact fun i c _ h => tokClosed E.t i c h
      ·refine .inr ?_
       simp only [atLoopS, PEnv.ob, pOb, PEnv.mps, mapsP]
       simp [go_sem]
       refine vc_drawn [11] (.q 0 <| .q 1 <| .q 2 <| .q 3 <| .q 4 <| .q 5 <| .q 6 <| .q 7 <| .q 8 <| .q 9 <| .or 10 (.or 11 (.done) (.nil)) (.nil)) (by kernel_rfl) ?_
       simp [go_sem, tokCells_at, hlt, PTok.cells]
       simp [go_sem, hk3]
       refine vcall_share [0] cb (by simp) ?_ ?_ ?_ ?_
       ·simp [go_sem]
       ·simp [go_sem]
        exact fun i c _ h => tokClosed E.t i c h
       ·simp [go_sem]
       ·rintro av mem maps ⟨rfl, rfl, rfl⟩
        simp only [pOb]
        simp [go_sem, hlm]
        refine vc_drawn [] (.q 0 <| .q 2 <| .or 1 (.or 3 (.q 4 <| .done) (.nil)) (.nil)) (by kernel_rfl) ?_
        simp [go_sem]
        rw [hT]
        simp [go_sem, hfl]
        refine vcallV_pure cl ?_ ?_
        ·simp [go_sem]
        ·simp [go_sem]
         refine vcallV_pure cH ?_ ?_
         ·simp [go_sem]
         ·rw [← hT, lvlP_eq]
          simp [go_sem, hlh]
          simp [go_sem, ew]
          refine vc_drawn [9] (.q 0 <| .q 1 <| .q 2 <| .q 3 <| .q 4 <| .q 5 <| .q 6 <| .q 7 <| .q 8 <| .or 9 (.q 10 <| .done) (.nil)) (by kernel_rfl) ?_
          simp [go_sem, h13, h14, h34, Ne.symm h13, Ne.symm h14, Ne.symm h34]
          refine vlookK_use keyedString (keyString (E.txt _ hi2')) _ zeroLed ?_
          rcases htk with ⟨rfl, ho2⟩ | ⟨rfl, ho3⟩
          ·have hm2 := E.maps.led2 j hj (by rw [hjo]; exact ho2)
           rw [hjo, htx] at hm2
           rw [hm2]
           simp [go_sem]
           simp only [Fit] at hfit
           have hh2 := hole_h2i hok ho2
           rw [Ops.loopF, if_neg (show ¬ (lvO o).lev < m by show ¬ o.level < m; omega), if_neg (show ¬ e.level lvO < (lvO o).h1 by omega)] at hrun
           cases hq : Ops.operand lvO k (lvO o).h2 r with
           | none => rw [hq] at hrun; simp at hrun
           | some y =>
            rw [hq] at hrun
            cases y with
            | none => exact absurd ⟨rfl, hq⟩ hdie
            | some y =>
             obtain ⟨e2, r2⟩ := y
             simp only at hrun
             have hq' := Ops.operand_le lvO (show k ≤ n by omega) hq
             have hs := ((Ops.sound_all lvO n).1 _ _ _ _ hq').1
             have ht2' : ToksAre E.l E.t (E.at_ r) r := by rw [hi1, ← hi2]; exact ht2
             have ho := hO (E.at_ r) _ d r _ ht2' hfit hq'
             rw [← hh2] at ho
             have hy2 := highT_yield e2
             have hl2 := congrArg List.length hs
             rw [List.length_append] at hl2
             have ha := an_inf E o hw (E.at_ r) e e2 r2 (by omega) (by omega) ho
             refine vcall_tell [0] 62 ha (by simp) rfl (fun i _ => rnP E.lo i) ?_ ?_ ?_ ?_
             ·simp [go_sem, POp.cells, vsP]
             ·simp [go_sem, PEnv.ob, pOb]
              exact fun i c _ h => tokClosed E.t i c h
             ·exact E.mpsLe1 []
             ·rintro av mem maps ⟨⟨rfl, rfl⟩, rfl⟩
              simp only [PEnv.ob, pOb]
              simp [go_sem]
              refine ⟨.inf o e e2, r2, ⟨⟨k, by omega, hrun⟩, ?_, ⟨d, ?_⟩, ?_⟩, ?_, ?_⟩
              ·rw [hs] at ht2'; exact toksAre_rest ht2'
              ·rw [hs] at hfit; exact fit_yield _ _ _ hfit
              ·simp [Tr.yield]; omega
              ·try simp only [List.length_cons]
               omega
              ·refine ent_ks [0] (by simp) (by simp) (by simp) (by simp) (E.mpsLe _) ?_ ?_
               ·simp [go_sem]
                exact .fam _ _ _ _ fun i _ => rnP E.lo i
               ·simp [go_sem, PEnv.ob, pOb]
                exact fun i c _ h => tokClosed E.t i c h
          ·have hm3 := E.maps.led3 j hj (by rw [hjo]; exact ho3)
           rw [hjo, htx] at hm3
           rw [hm3]
           simp [go_sem]
           simp only [Fit] at hfit
           rw [Ops.loopF, if_neg (show ¬ (lvO o).lev < m by show ¬ o.level < m; omega), if_neg (show ¬ e.level lvO < (lvO o).h1 by omega)] at hrun
           have ha := an_post E e o r (by omega)
           have ht2' : ToksAre E.l E.t (E.at_ r) r := by rw [hi1, ← hi2]; exact ht2
           refine vcall_tell [0] 62 ha (by simp) rfl (fun i _ => rnP E.lo i) ?_ ?_ ?_ ?_
           ·simp [go_sem, POp.cells, vsP]
           ·simp [go_sem, PEnv.ob, pOb]
            exact fun i c _ h => tokClosed E.t i c h
           ·exact E.mpsLe1 []
           ·rintro av mem maps ⟨⟨rfl, rfl⟩, rfl⟩
            simp only [PEnv.ob, pOb]
            simp [go_sem]
            refine ⟨.post o e, r, ⟨⟨k, by omega, hrun⟩, ht2', ⟨d, hfit⟩, ?_⟩, ?_, ?_⟩
            ·simp [Tr.yield]; omega
            ·try simp only [List.length_cons]
             omega
            ·refine ent_ks [0] (by simp) (by simp) (by simp) (by simp) (E.mpsLe _) ?_ ?_
             ·simp [go_sem]
              exact .fam _ _ _ _ fun i _ => rnP E.lo i
             ·simp [go_sem, PEnv.ob, pOb]
              exact fun i c _ h => tokClosed E.t i c h
theorem c_operand (E : PEnv) : ∀ (n i : Nat) (m : Int) (d : Nat) (ts : List TkP) (res : Option (PT × List TkP)), ToksAre E.l E.t i ts → Fit true d ts → Ops.operand lvO n m ts = some res → E.Ans 95 [.ptr 0 6 0 0, .lit (.int .i64 m)] i res := by
 intro n
 induction n with
 | zero => intro i m d ts res _ _ h; simp [Ops.operand] at h
 | succ n ih =>
  intro i m d ts res ht hf h
  rw [Ops.operand] at h
  cases hx : Ops.first lvO n ts with
  | none => rw [hx] at h; simp at h
  | some x =>
   rw [hx] at h
   have h1 := Ops.first_le lvO (Nat.le_succ n) hx
   rw [Ops.first] at h1
   have ha := c_first E n ih i d ts x ht hf h1
   cases x with
   | none =>
    simp at h; subst h
    exact op_none1 E i m ha
   | some y =>
    obtain ⟨e, rest⟩ := y
    simp only at h
    by_cases hlm : e.level lvO < m
    ·rw [if_pos hlm] at h
     simp at h; subst h
     exact op_none2 E i m e rest ha hlm
    ·rw [if_neg hlm] at h
     have hs := ((Ops.sound_all lvO n).2.1 _ _ _ hx).1
     have hl : AtLoop E n m res (e, rest) := by
      have hlen := toksAre_len ht
      rw [hs] at ht hf
      rw [hs, List.length_append] at hlen
      exact ⟨⟨n, Nat.le_refl _, h⟩, toksAre_rest ht, ⟨d, fit_yield _ _ _ hf⟩, by simp only; omega⟩
     cases res with
     | none => exact op_none3 E n ih i m e rest ha (by omega) hl
     | some z => exact op_some E n ih i m e rest z.1 z.2 ha (by omega) hl
end Go.Proofs.YtjdmmhcogmepaaaGreatDoor.V
namespace Go.Proofs.YtjdmmhcogmepaaaGreatDoor.V
open Go.RowKit
theorem catch_idle (p q : Addr) (w : World) : CallsD Tryz.prog 98 #[.pointer (some p), .pointer (some q)] .returning w fun e u' w' => e = .returned (.tuple #[]) ∧ u' = .returning ∧ w' = w := by
 refine callsD_of_wpS Tryz.func98 rfl fun c₀ cs hu => ?_
 apply wpS_seq
 apply wpS_region
 simp [wpOpsS, go_sem, recoverD, hu, Tryz.ntmps98, Exit.thenS]
 apply wpS_seq
 apply wpS_region
 simp [wpOpsS, go_sem, recoverD, hu, Exit.thenS]
 refine wpS_cond (t := false) (by simp [Act.eval, Array.replicate]) ?_
 simp only [Bool.false_eq_true, if_false]
 refine wpS_of_wp (wp_skip ?_)
 cases c₀
 simp_all [bodyPostS, results, Tryz.results98]
theorem assert_noTree (w : World) : (Instr.typeAssert (.iface 168 (.agg #[])) 20 168 true).run Tryz.prog w = .ok (.tuple #[.agg #[], .bool true]) w := by
 obtain ⟨d, h4, h5⟩ := ifaceT_run (P := Tryz.prog) (T := 168) (by kernel_rfl)
 unfold Instr.typeAssert
 simp only [Sem.run_bind, und_run h4, Result.andThen_ok]
 cases d <;> first | exact absurd rfl (h5 _) | simp [Sem.run_pure]
theorem catch_dead (p q : Addr) (x y : Value) (u : TypeId) (older : List PanicEntry) (w : World) (hc : w.cell? p = some x) (hz : w.frozen? p = false) (hc2 : w.cell? q = some y) (hz2 : w.frozen? q = false) (hpq : p.block ≠ q.block) :
  CallsD Tryz.prog 98 #[.pointer (some p), .pointer (some q)] (.panicking ({ v := .iface 168 (.agg #[]), recovered := false } :: older)) w fun e u' w' => e = .returned (.tuple #[]) ∧ u' = .panicking ({ v := .iface 168 (.agg #[]), recovered := true } :: older) ∧ w' = ((w.alloc (.cells #[] 168)).setCell p .nilIface).setCell q (.bool false) := by
 refine callsD_of_wpS Tryz.func98 rfl fun c₀ cs hu => ?_
 apply wpS_seq
 apply wpS_region
 simp [wpOpsS, go_sem, recoverD, hu, Tryz.ntmps98, Exit.thenS]
 apply wpS_seq
 apply wpS_region
 simp [wpOpsS, go_sem, recoverD, hu, Exit.thenS]
 refine wpS_cond (t := true) (by simp [Act.eval, Array.replicate]) ?_
 simp only [if_true]
 apply wpS_seq
 apply wpS_seq
 apply wpS_region
 simp [wpOpsS, go_sem, recoverD, hu, Exit.thenS, assert_noTree]
 apply wpS_seq
 apply wpS_region
 simp [wpOpsS, go_sem, recoverD, hu, Exit.thenS]
 refine wpS_cond (t := false) (by simp [Act.eval, Array.replicate]) ?_
 simp only [Bool.false_eq_true, if_false]
 refine wpS_of_wp (wp_skip ?_)
 simp only [Exit.thenS]
 apply wpS_region
 have h1 : (w.alloc (.cells #[] 168)).cell? p = some x := (World.cell?_alloc_lt _ _ _ (World.block_lt_of_cell? w _ hc)).trans hc
 have h2 : (w.alloc (.cells #[] 168)).frozen? p = false := (World.frozen?_alloc_old _ _ _ (by have := World.block_lt_of_cell? w _ hc; omega)).trans hz
 have h3 : ((w.alloc (.cells #[] 168)).setCell p .nilIface).cell? q = some y := by
  rw [World.cell?_setCell_other _ _ _ _ (fun e => hpq (by rw [e]))]
  exact (World.cell?_alloc_lt _ _ _ (World.block_lt_of_cell? w _ hc2)).trans hc2
 have h4 : ((w.alloc (.cells #[] 168)).setCell p .nilIface).frozen? q = false := by
  rw [World.frozen?_setCell]
  exact (World.frozen?_alloc_old _ _ _ (by have := World.block_lt_of_cell? w _ hc2; omega)).trans hz2
 simp [wpOpsS, go_sem, h1, h2, h3, h4, bodyPostS, results, Tryz.results98]
open Go.Maps (Keyed)
open Go.Proofs.YtjdmmhcogmepaaaGreatDoor.Ops (Tr Tk Lv Res Fit)
def wholeS (E : PEnv) (i : Nat) : VS := ⟨[(3, .ptr 2 1 0 0), (2, .ptr 1 1 0 0), (20, .fam (E.lo.length + 1) (vsP E.bp E.bo) (asP E.lo)), (0, .ptr 0 6 0 0)], [E.ob i, some ⟨92, 1, 1, fun _ => [.lit .nilIface]⟩, some ⟨4, 1, 1, fun _ => [.lit (.bool false)]⟩], E.mps, 1⟩
def PEnv.Rw (E : PEnv) (u : Value) (b : Bool) (j : Nat) (av : AV) (mem : List (Option Ob)) (maps : List (Nat × Mp)) : Prop := (av = .tup [.lit u, .lit (.bool b)] ∧ mem = [E.ob j]) ∧ MapsLe maps E.mps
theorem PEnv.finw (E : PEnv) {u v : Value} {b c : Bool} {i j : Nat} {M : List (Nat × Mp)} (hM : MapsLe M E.mps) {r : List (Option Ob)} {tm : List (Nat × AV)} (hv : v = u) (hb : c = b) (hij : i = j) : vendP E.mps (E.Rw u b j) ⟨tm, E.ob i :: r, M, 1⟩ (.tup [.lit v, .lit (.bool c)]) := by
 subst hv; subst hij; subst hb
 refine ⟨rfl, [], [E.ob i], by simp, by simp, by simp [go_sem], ?_, fun b hb => ?_, ⟨⟨rfl, rfl⟩, hM⟩⟩
 ·simp only [PEnv.ob, pOb]
  simp [go_sem]
  exact pOut
 ·cases hq : lkm E.mps b with
  | none => rw [hq] at hb; simp at hb
  | some mp => rw [mapsLe_get hM (b, mp) (lkm_mem hq)]; rfl
theorem c_whole_some (E : PEnv) (i : Nat) (e : PT) (rest : List TkP) (hi : E.at_ rest < E.t.length) (ho : E.Ans 95 [.ptr 0 6 0 0, .lit (.int .i64 0)] i (some (e, rest))) :
  VProcG Tryz.prog 52 [.ptr 0 6 0 0] (E.lo.length + 1) (vsP E.bp E.bo) (asP E.lo) [E.ob i] E.mps (E.Rw (partP e) (decide ((tokAt E.t (E.at_ rest)).kind = 7)) (E.at_ rest)) := by
 refine ⟨⟨_, Tryz.func52, by kernel_rfl, rfl⟩, fun w vs hd0 hlen hrep hfam hm hmp htl => ?_⟩
 have hrel := (startP_rel (P := Tryz.prog) (fn := Tryz.f52) (by simp [Tryz.ntmps52]) hlen hrep hm hmp htl).tell 20 hfam
 suffices hX : ∀ (X : Value → World → Prop), (∀ v w', (Bel (Sh w hd0 [E.ob i] E.mps) w w' ∧ ∃ hd av mem maps, E.Rw (partP e) (decide ((tokAt E.t (E.at_ rest)).kind = 7)) (E.at_ rest) av mem maps ∧ PostOk [E.ob i] E.mps av mem maps ∧ ((∀ k, k < [E.ob i].length → hd k = hd0 k) ∧ TailEq hd0 hd) ∧ MemRel (Sh w hd0 [E.ob i] E.mps) w' hd mem ∧ MapRel Tryz.prog (Sh w hd0 [E.ob i] E.mps) w' maps ∧ Rep w' (okOf mem hd) hd mem.length av v) → X v w') → Calls Tryz.prog 52 vs.toArray w (fun e w' => ∃ v, e = .returned v ∧ X v w') from hX _ fun v w' h => h
 intro X hX
 refine calls_of_wp_defers Tryz.func52 rfl ?_
 refine wp_seq (vc_sound rfl _ hrel (K := fun e s => e = .normal ∧ s = wholeS E i) ?_ fun x hd' s' a' w' h' hk => ?_)
 ·simp only [Tryz.ntmps52, PEnv.ob, pOb, PEnv.mps, mapsP, startP]
  simp [go_sem]
  rfl
 ·obtain ⟨rfl, rfl⟩ := hk
  simp only [VX.out, Exit.then]
  refine wp_seq (wp_region_list ?_)
  have hmf : ∀ (fn : Fn) (first cap : Array Value) (w : World), (Instr.makeFunc fn first cap).run Tryz.prog w = .ok (.func fn first cap) w := fun _ _ _ _ => rfl
  have hsz : a'.tmps.size = 20 := h'.size
  have hds : a'.defers = [] := h'.defers
  obtain ⟨b2, n2, c2, hb2, hp2⟩ := rep_ptr (h'.tm 2)
  obtain ⟨b3, n3, c3, hb3, hp3⟩ := rep_ptr (h'.tm 3)
  simp [hsz] at hp2 hp3
  simp [wpList, Region.wanted, Oper.wp, Oper.upon, go_sem, hmf, hsz, hds, hp2, hp3, Exit.then]
  refine .inl (.inl ?_)
  have h2 : RelH 20 ⟨Tryz.prog, Sh w hd0 [E.ob i] E.mps, hd0, [⟨.fn (.func 98) #[.pointer (some ⟨b2, 0, none⟩), .pointer (some ⟨b3, 0, none⟩)], #[]⟩]⟩ w hd' (wholeS E i) ⟨a'.tmps.setIfInBounds 4 (.func (.func 98) #[] #[.pointer (some ⟨b2, 0, none⟩), .pointer (some ⟨b3, 0, none⟩)]), [⟨.fn (.func 98) #[.pointer (some ⟨b2, 0, none⟩), .pointer (some ⟨b3, 0, none⟩)], #[]⟩]⟩ w' := by
   refine ⟨rfl, by simp [hsz], h'.below, h'.le, h'.fixl, h'.fix, h'.mp, fun t => ?_, h'.me⟩
   by_cases ht : t = 4
   ·subst ht
    exact .undef _
   ·have := h'.tm t
    rwa [show (a'.tmps.setIfInBounds 4 (.func (.func 98) #[] #[.pointer (some ⟨b2, 0, none⟩), .pointer (some ⟨b3, 0, none⟩)])).getD t undef = a'.tmps.getD t undef by
     simp only [Array.getD_eq_getD_getElem?]; rw [Array.getElem?_setIfInBounds_ne (by omega)]]
  refine vc_sound rfl _ h2 (K := KfinP Tryz.prog 1 E.mps Tryz.f52.results.toList (E.Rw (partP e) (decide ((tokAt E.t (E.at_ rest)).kind = 7)) (E.at_ rest))) ?_ fun x hd3 s3 a3 w3 h3 hk => ?_
  ·simp only [wholeS, PEnv.ob, pOb, PEnv.mps, mapsP]
   simp [go_sem]
   refine vcall_tell [0] 20 ho (by simp) rfl (fun i _ => rnP E.lo i) ?_ ?_ ?_ ?_
   ·simp [go_sem]
   ·simp [go_sem, PEnv.ob, pOb]
    exact fun i c _ h => tokClosed E.t i c h
   ·exact E.mpsLe []
   ·rintro av mem maps ⟨⟨rfl, rfl⟩, rfl⟩
    simp only [PEnv.ob, pOb, PEnv.mps, mapsP]
    obtain ⟨T, u, hT⟩ := partP_iface e
    rw [hT]
    simp [go_sem]
    refine vc_drawn [13,14] (.q 0 <| .q 1 <| .q 2 <| .q 3 <| .q 5 <| .q 6 <| .q 7 <| .or 4 (.or 8 (.or 9 (.q 10 <| .or 11 (.or 12 (.or 13 (.or 14 (.done) (.nil)) (.nil)) (.or 13 (.q 12 <| .or 14 (.done) (.nil)) (.nil))) (.or 13 (.q 11 <| .q 12 <| .or 14 (.done) (.nil)) (.nil))) (.or 13 (.q 9 <| .q 10 <| .q 11 <| .q 12 <| .or 14 (.done) (.nil)) (.nil))) (.or 13 (.q 8 <| .q 9 <| .q 10 <| .q 11 <| .q 12 <| .or 14 (.done) (.nil)) (.nil))) (.or 8 (.or 4 (.or 9 (.q 10 <| .or 11 (.or 12 (.or 13 (.or 14 (.done) (.nil)) (.nil)) (.or 13 (.q 12 <| .or 14 (.done) (.nil)) (.nil))) (.or 13 (.q 11 <| .q 12 <| .or 14 (.done) (.nil)) (.nil))) (.or 13 (.q 9 <| .q 10 <| .q 11 <| .q 12 <| .or 14 (.done) (.nil)) (.nil))) (.or 13 (.q 4 <| .q 9 <| .q 10 <| .q 11 <| .q 12 <| .or 14 (.done) (.nil)) (.nil))) (.or 13 (.q 4 <| .q 8 <| .q 9 <| .q 10 <| .q 11 <| .q 12 <| .or 14 (.done) (.nil)) (.nil)))) (by kernel_rfl) ?_
    simp [go_sem, tokCells_at, hi, PTok.cells]
    repeat' first
    | exact E.finw (E.mpsLe _) rfl (int_beq _ _) rfl
    | refine And.intro (E.finw (E.mpsLe _) rfl (int_beq _ _) rfl) ?_
  ·have fin : ∀ (R' : Ending → World → Prop) v, (results Tryz.f52 a3.tmps).run Tryz.prog w3 = .ok v w3 → R' (.returned v) w3 → Leaves Tryz.prog Tryz.f52 a3.tmps R' a3.defers .returning w3 := fun R' v h1 h4 => by
    rw [show a3.defers = _ from h3.defers]
    refine leaves_cons (f := 98) (args := #[.pointer (some ⟨b2, 0, none⟩), .pointer (some ⟨b3, 0, none⟩)]) (by simp) (by simp [go_sem]) ?_
    refine (catch_idle _ _ _).mono ?_
    rintro e u' w'' ⟨rfl, rfl, rfl⟩
    exact ⟨v, h1, h4⟩
   cases x with
   | exit id => exact hk.elim
   | normal =>
    obtain ⟨v, h1, h4⟩ := vretP_sound h3 hk.1 hk.2
    exact fin _ v h1 ⟨v, rfl, hX _ _ h4⟩
   | ret =>
    obtain ⟨v, h1, h4⟩ := vretP_sound h3 hk.1 hk.2
    exact fin _ v h1 ⟨v, rfl, hX _ _ h4⟩
end Go.Proofs.YtjdmmhcogmepaaaGreatDoor.V
