import Derived.Test.YtjdmmhcogmepaaaGreatDoorMT
import Derived.Test.YtjdmmhcogmepaaaGreatDoorMB
import Derived.Test.YtjdmmhcogmepaaaGreatDoorShelf
import Derived.DeepKeys5
import Derived.Shelf.Strings.SlTrimAscii
set_option linter.unusedVariables false
set_option linter.unusedSimpArgs false
set_option linter.constructorNameAsVariable false
namespace Go.Proofs.YtjdmmhcogmepaaaGreatDoor.V
open Go.RowKit
theorem vfun_lit {P : Program} {f : FuncId} {vs : List Value} {v : Value} (hf : FnOk P f) (h : ∀ w, Calls P f vs.toArray w fun e w' => e = .returned v ∧ w' = w) : VFun P f (vs.map .lit) (fun av obs => obs = [] ∧ av = .lit v) := by
 refine ⟨hf, fun w us hl hu => ?_⟩
 have e : us = vs := by
  have hl' : vs.length = us.length := by simpa using hl
  apply List.ext_getElem hl'.symm
  intro j h1 h2
  have := hu j (.lit vs[j]) us[j] (by simp [h2]) (List.getElem?_eq_getElem h1)
  generalize us[j] = x at this
  generalize vs[j] = y at this
  cases this
  rfl
 subst e
 refine (h w).mono fun e w' ⟨he, hw⟩ => ?_
 subst he; subst hw
 exact ⟨v, rfl, World.grownBy.refl _ _, fun _ => undef, .lit v, [], ⟨rfl, rfl⟩, rfl, fun ob h => by simp at h, ⟨fun k ob h => by simp at h, fun k ob h => by simp at h, fun k h => by simp at h, fun k k' ob ob' h => by simp at h⟩, .lit v⟩
theorem wrap_i64 {n : Int} (h : -9223372036854775808 ≤ n ∧ n ≤ 9223372036854775807) : IntKind.i64.wrap n = n := by
 rw [IntKind.wrap_i64]; omega
theorem wrap_succ {i : Nat} (h : i < 9223372036854775807) : IntKind.i64.wrap ((i : Int) + 1) = ((i + 1 : Nat) : Int) := by
 rw [wrap_i64 (by omega)]; omega
def signBytes : ByteArray := { data := #[43, 45, 42, 47, 60, 62, 61, 33, 38, 124, 94, 126, 63, 58, 64, 37, 36, 46] }
def isSg (c : Int) : Bool := (List.range 18).any fun i => byteAt signBytes i = c
theorem signSize : signBytes.size = 18 := rfl
theorem isSg_false {c : Int} (h : ∀ j, j < 18 → ¬byteAt signBytes j = c) : isSg c = false := by simpa [isSg] using h
theorem isSg_true {c : Int} {i : Nat} (h : i < 18) (e : byteAt signBytes i = c) : isSg c = true := by simpa [isSg] using ⟨i, h, e⟩
theorem c_l1IsSign (c : Int) : VFun Tryz.prog 138 [.lit (.int .u8 c)] (fun av obs => obs = [] ∧ av = .lit (.bool (isSg c))) := by
 refine vfun_start Tryz.func138 (by kernel_rfl) rfl (by simp [Tryz.ntmps138]) ?_; simp only [Tryz.ntmps138, Tryz.results138]; simp [go_sem]
 refine vc_loop (fun i : Nat => i ≤ 18 ∧ ∀ j, j < i → ¬byteAt signBytes j = c) (fun i => 18 - i) (fun i => .of [(0, .lit (.int .u8 c)), (2, .lit (.bool false)), (3, .lit (.string signBytes)), (4, .lit (.int .i64 i))] []) ⟨0, ?_, ?_⟩ (fun i hi => ?_)
 ·simp
 ·simp [go_sem, signBytes]
 ·simp [go_sem, signSize]
  refine ⟨fun h => ⟨h, fun e => isSg_true (by omega) e, fun e => ⟨i + 1, ⟨⟨by omega, fun j hj => ?_⟩, by omega, wrap_succ (by omega)⟩⟩⟩, fun h => isSg_false fun j hj => hi.2 j (by omega)⟩
  rcases Nat.lt_succ_iff_lt_or_eq.mp hj with hj | rfl
  ·exact hi.2 j hj
  ·exact e
theorem byteAt_range (z : ByteArray) (i : Nat) : 0 ≤ byteAt z i ∧ byteAt z i < 256 := by
 unfold byteAt
 split
 ·rename_i h
  have := (z[i]'h).toNat_lt
  omega
 ·omega
theorem signKey : (List.range 256).all (fun n => decide (0 ≤ Lib.indexByte signBytes.data.toList n.toUInt8) == isSg n) = true := by kernel_rfl
theorem indexSign (c : Int) (h : 0 ≤ c ∧ c < 256) : decide (0 ≤ Lib.indexByte signBytes.data.toList c.toNat.toUInt8) = isSg c := by
 have := List.all_eq_true.mp signKey c.toNat (List.mem_range.mpr (by omega))
 have e : ((c.toNat : Nat) : Int) = c := by omega
 rw [beq_iff_eq, e] at this
 exact this
theorem c_isSign (c : Int) (h : 0 ≤ c ∧ c < 256) : VFun Tryz.prog 141 [.lit (.int .u8 c)] (fun av obs => obs = [] ∧ av = .lit (.bool (isSg c))) := by
 refine vfun_start Tryz.func141 (by kernel_rfl) rfl (by simp [Tryz.ntmps141]) ?_; simp only [Tryz.ntmps141, Tryz.results141]; simp [go_sem]
 refine vcall_pure (vfun_lit (vs := [.string signBytes, .int .u8 c]) ⟨_, Tryz.func152, rfl, rfl⟩ (fun w => Tryz.strings_IndexByte signBytes c w)) ?_ ?_
 ·simp [go_sem, signBytes]
 ·simp [go_sem]
  exact indexSign c h
def sgAll (z : ByteArray) : Bool := (List.range z.size).all fun i => isSg (byteAt z i)
def sgOk (z : ByteArray) : Bool := sgAll z && decide (1 ≤ z.size) && decide (z.size ≤ 16)
theorem sgAll_false {z : ByteArray} {i : Nat} (h : i < z.size) (e : isSg (byteAt z i) = false) : sgAll z = false := by
 simp [sgAll]; exact ⟨i, h, e⟩
theorem sgAll_true {z : ByteArray} (h : ∀ i, i < z.size → isSg (byteAt z i) = true) : sgAll z = true := by simpa [sgAll] using h
theorem c_l1Signs (z : ByteArray) (hz : z.size ≤ maxLen) : VFun Tryz.prog 116 [.lit (.string z)] (fun av obs => obs = [] ∧ av = .lit (.bool (sgOk z))) := by
 refine vfun_start Tryz.func116 (by kernel_rfl) rfl (by simp [Tryz.ntmps116]) ?_; simp only [Tryz.ntmps116, Tryz.results116]; simp [go_sem]
 simp only [maxLen] at hz
 refine vc_loop (fun i : Nat => i ≤ z.size ∧ ∀ j, j < i → isSg (byteAt z j) = true) (fun i => z.size - i) (fun i => .of [(0, .lit (.string z)), (2, .lit (.bool false)), (3, .lit (.int .i64 i))] []) ⟨0, ?_, ?_⟩ (fun i hi => ?_)
 ·simp
 ·simp [go_sem]
 ·simp [go_sem]
  refine ⟨fun h => ⟨h, vcall_pure (c_l1IsSign (byteAt z i)) ?_ ?_⟩, fun h => ?_⟩
  ·simp [go_sem]
  ·simp [go_sem]
   refine ⟨fun e => ?_, fun e => ⟨i + 1, ⟨⟨by omega, fun j hj => ?_⟩, by omega, wrap_succ (by omega)⟩⟩⟩
   ·simp [sgOk, sgAll_false h e]
   ·rcases Nat.lt_succ_iff_lt_or_eq.mp hj with hj | rfl
    ·exact hi.2 j hj
    ·exact e
  ·have e := sgAll_true (z := z) fun j hj => hi.2 j (by omega)
   have h2 : ((z.size : Int) ≤ 16) ↔ z.size ≤ 16 := by omega
   simp [sgOk, e, h2]
   refine ⟨fun h => ?_, fun h => by omega⟩
   have h1 : 1 ≤ z.size := by omega
   simp [h1]
theorem c_signsOk (z : ByteArray) (hz : z.size ≤ maxLen) : VFun Tryz.prog 120 [.lit (.string z)] (fun av obs => obs = [] ∧ av = .lit (.bool (sgOk z))) := by
 refine vfun_start Tryz.func120 (by kernel_rfl) rfl (by simp [Tryz.ntmps120]) ?_; simp only [Tryz.ntmps120, Tryz.results120]; simp [go_sem]
 simp only [maxLen] at hz
 have h2 : (16 < (z.size : Int)) ↔ 16 < z.size := by omega
 have h1 : ((z.size : Int) < 1) ↔ z.size < 1 := by omega
 simp only [h1, h2]
 refine ⟨fun h3 => ⟨fun h4 => ?_, fun h4 => ?_⟩, fun h3 => ?_⟩
 ·simp [sgOk, h4]
 ·refine vc_loop (fun i : Nat => i ≤ z.size ∧ ∀ j, j < i → isSg (byteAt z j) = true) (fun i => z.size - i) (fun i => .of [(0, .lit (.string z)), (2, .lit (.bool false)), (13, .lit (.int .i64 z.size)), (14, .lit (.int .i64 i))] []) ⟨0, ?_, ?_⟩ (fun i hi => ?_)
  ·simp
  ·simp [go_sem]
  ·simp [go_sem]
   refine ⟨fun h => ⟨h, vcall_pure (c_isSign (byteAt z i) (byteAt_range z i)) ?_ ?_⟩, fun h => ?_⟩
   ·simp [go_sem]
   ·simp [go_sem]
    refine ⟨fun e => ?_, fun e => ⟨i + 1, ⟨⟨by omega, fun j hj => ?_⟩, by omega, wrap_succ (by omega)⟩⟩⟩
    ·simp [sgOk, sgAll_false h e]
    ·rcases Nat.lt_succ_iff_lt_or_eq.mp hj with hj | rfl
     ·exact hi.2 j hj
     ·exact e
   ·have e := sgAll_true (z := z) fun j hj => hi.2 j (by omega)
    simp [sgOk, e]
    omega
 ·simp [sgOk]
  omega
structure POp where
 text : ByteArray
 kind : Int
 level : Int
 side : Int
def POp.cells (o : POp) : List AV := [.lit (.string o.text), .lit (.int .i64 o.kind), .lit (.int .i64 o.level), .lit (.int .i64 o.side)]
def POp.wf (o : POp) : Prop := o.text.size ≤ maxLen
def opOk (o : POp) : Bool := sgOk o.text && decide (1 ≤ o.level ∧ o.level ≤ 1000 ∧ ((o.kind = 2 ∧ 1 ≤ o.side ∧ o.side ≤ 3) ∨ ((o.kind = 1 ∨ o.kind = 3) ∧ o.side = 0)))
theorem int_beq (a b : Int) : (a == b) = decide (a = b) := by
 rw [Bool.eq_iff_iff]; simp
theorem c_l1OpOk (o : POp) (ho : o.wf) : VFun Tryz.prog 78 [.agg o.cells] (fun av obs => obs = [] ∧ av = .lit (.bool (opOk o))) := by
 obtain ⟨z, kind, level, side⟩ := o
 simp only [POp.cells]
 refine vfun_start Tryz.func78 (by kernel_rfl) rfl (by simp [Tryz.ntmps78]) ?_; simp only [Tryz.ntmps78, Tryz.results78]; simp [go_sem]
 refine vcall_pure (c_l1Signs z ho) ?_ ?_
 ·simp [go_sem]
 ·simp (maxSteps := 1000000) [go_sem]
  cases hs : sgOk z
  ·simp [opOk, hs]
  ·simp only [opOk, hs, int_beq, Bool.true_and, decide_eq_decide, decide_eq_true_eq, decide_eq_false_iff_not, true_implies, reduceCtorEq, false_implies, and_true, true_and]
   omega
theorem c_opOk (o : POp) (ho : o.wf) : VFun Tryz.prog 86 [.agg o.cells] (fun av obs => obs = [] ∧ av = .lit (.bool (opOk o))) := by
 obtain ⟨z, kind, level, side⟩ := o
 simp only [POp.cells]
 refine vfun_start Tryz.func86 (by kernel_rfl) rfl (by simp [Tryz.ntmps86]) ?_; simp only [Tryz.ntmps86, Tryz.results86]; simp [go_sem]
 refine vcall_pure (c_signsOk z ho) ?_ ?_
 ·simp [go_sem]
 ·simp (maxSteps := 1000000) [go_sem]
  cases hs : sgOk z
  ·simp [opOk, hs]
  ·simp only [opOk, hs, int_beq, Bool.true_and, decide_eq_decide, decide_eq_true_eq, decide_eq_false_iff_not, true_implies, reduceCtorEq, false_implies, and_true, true_and]
   omega
def hole (o : POp) (second : Bool) : Int := if opOk o = false ∨ (second = true ∧ o.kind ≠ 2) then 0 else if o.kind = 2 ∧ (o.side = 3 ∨ (decide (o.side = 1) = second)) then o.level + 1 else o.level
theorem opOk_level {o : POp} (h : opOk o = true) : 1 ≤ o.level ∧ o.level ≤ 1000 := by
 simp [opOk] at h; omega
theorem c_l1Hole (o : POp) (ho : o.wf) (b : Bool) : VFun Tryz.prog 85 [.agg o.cells, .lit (.bool b)] (fun av obs => obs = [] ∧ av = .lit (.int .i64 (hole o b))) := by
 have hc := c_l1OpOk o ho
 have hl := @opOk_level o
 obtain ⟨z, kind, level, side⟩ := o
 simp only [POp.cells] at hc ⊢
 refine vfun_start Tryz.func85 (by kernel_rfl) rfl (by simp [Tryz.ntmps85]) ?_; simp only [Tryz.ntmps85, Tryz.results85]; simp [go_sem]
 refine vcall_pure hc ?_ ?_
 ·simp [go_sem]
 ·simp (maxSteps := 1000000) [go_sem]
  have hw : opOk ⟨z, kind, level, side⟩ = true → IntKind.i64.wrap (level + 1) = level + 1 := fun h => wrap_i64 (by have := hl h; simp only at this; omega)
  clear hc hl ho
  simp only [hole, int_beq]
  generalize opOk ⟨z, kind, level, side⟩ = q at hw ⊢
  cases q
  ·simp
  ·simp only [hw rfl]
   by_cases h1 : kind = 2 <;> by_cases h2 : side = 3 <;> by_cases h3 : side = 1 <;> cases b <;> simp [h1, h2, h3]
theorem c_Hole (o : POp) (ho : o.wf) (b : Bool) : VFun Tryz.prog 92 [.agg o.cells, .lit (.bool b)] (fun av obs => obs = [] ∧ av = .lit (.int .i64 (hole o b))) := by
 have hc := c_opOk o ho
 have hl := @opOk_level o
 obtain ⟨z, kind, level, side⟩ := o
 simp only [POp.cells] at hc ⊢
 refine vfun_start Tryz.func92 (by kernel_rfl) rfl (by simp [Tryz.ntmps92]) ?_; simp only [Tryz.ntmps92, Tryz.results92]; simp [go_sem]
 refine vcall_pure hc ?_ ?_
 ·simp [go_sem]
 ·simp (maxSteps := 1000000) [go_sem]
  have hw : opOk ⟨z, kind, level, side⟩ = true → IntKind.i64.wrap (level + 1) = level + 1 := fun h => wrap_i64 (by have := hl h; simp only at this; omega)
  clear hc hl ho
  simp only [hole, int_beq]
  generalize opOk ⟨z, kind, level, side⟩ = q at hw ⊢
  cases q
  ·simp
  ·simp only [hw rfl]
   by_cases h1 : kind = 2 <;> by_cases h2 : side = 3 <;> by_cases h3 : side = 1 <;> cases b <;> simp [h1, h2, h3]
theorem laidOut : laidOutB Tryz.prog = true := by kernel_rfl
theorem fullSlices : ∀ t e, t < Tryz.prog.types.size → Tryz.prog.underlying t = some (.slice e) → 0 < Tryz.prog.cellsOf e := slices_full_of Tryz.prog (by kernel_rfl)
theorem own : ownKnob Tryz.prog.godebug = none := by kernel_rfl
theorem each_of {α : Type} {p : α → Bool} {l : List α} (h : l.all p = true) : ∀ x, x ∈ l → p x = true := List.all_eq_true.mp h
structure PTok where
 kind : Int
 gap : ByteArray
 text : ByteArray
 deriving Inhabited
def PTok.cells (o : PTok) : List AV := [.lit (.int .i64 o.kind), .lit (.string o.gap), .lit (.string o.text)]
def tokCells (l : List PTok) (i : Nat) : List AV := (l.getD i default).cells
theorem tokClosed (l : List PTok) (i : Nat) (c : AV) (h : c ∈ tokCells l i) : Closed c := by
 simp [tokCells, PTok.cells] at h
 rcases h with rfl | rfl | rfl <;> exact .lit _
theorem tokLit (l : List PTok) (i : Nat) : (tokCells l i).all isLit = true := rfl
def tokSize (o : PTok) : Nat := o.gap.size + o.text.size
def tokSum (l : List PTok) : Nat := (l.map tokSize).sum
theorem tokSum_take (l : List PTok) (i : Nat) (h : i < l.length) : tokSum (l.take (i + 1)) = tokSum (l.take i) + tokSize (l.getD i default) := by
 unfold tokSum
 rw [List.take_add_one, List.getElem?_eq_getElem h, List.map_append, List.sum_append_nat, List.getD_eq_getElem?_getD, List.getElem?_eq_getElem h]
 simp only [Option.toList_some, List.map_cons, List.map_nil, List.sum_cons, List.sum_nil, Option.getD_some, Nat.add_zero]
theorem byteAt_app (a b : ByteArray) (i : Nat) (h : i < a.size + b.size) : byteAt (a ++ b) i = if i < a.size then byteAt a i else byteAt b (i - a.size) := by
 have hs : i < (a ++ b).size := by rw [ByteArray.size_append]; exact h
 unfold byteAt
 rw [dif_pos hs]
 by_cases h1 : i < a.size
 ·rw [if_pos h1, dif_pos h1, ByteArray.getElem_append_left h1]
 ·rw [if_neg h1, dif_pos (by omega), ByteArray.getElem_append_right (by omega)]
theorem join_bytes (a b : ByteArray) (i : Nat) (h : i < a.size + b.size) : joinF a.size (byteCells a) (byteCells b) i = byteCells (a ++ b) i := by
 unfold joinF byteCells
 rw [byteAt_app a b i h]
 by_cases h1 : i < a.size <;> simp [h1]
theorem byteOne (z : ByteArray) (i : Nat) : (byteCells z i).all oneAV = true := rfl
theorem byteClosed (z : ByteArray) (i : Nat) (c : AV) (h : c ∈ byteCells z i) : Closed c := by
 simp [byteCells] at h
 subst h
 exact .lit _
def rend (l : List PTok) : ByteArray := l.foldl (fun b o => b ++ o.gap ++ o.text) ByteArray.empty
theorem rend_take (l : List PTok) (i : Nat) (h : i < l.length) : rend (l.take (i + 1)) = rend (l.take i) ++ (l.getD i default).gap ++ (l.getD i default).text := by
 unfold rend
 rw [List.take_add_one, List.getElem?_eq_getElem h, List.foldl_append, List.getD_eq_getElem?_getD, List.getElem?_eq_getElem h]
 rfl
theorem rend_size_from (l : List PTok) : ∀ b : ByteArray, (l.foldl (fun b o => b ++ o.gap ++ o.text) b).size = b.size + tokSum l := by
 induction l with
 | nil => intro b; simp [tokSum]
 | cons o l ih =>
  intro b
  simp only [List.foldl_cons]
  rw [ih]
  simp only [ByteArray.size_append, tokSum, List.map_cons, List.sum_cons, tokSize]
  omega
theorem rend_size (l : List PTok) : (rend l).size = tokSum l := by
 unfold rend
 rw [rend_size_from]
 simp
theorem tokSum_take_le (l : List PTok) (i : Nat) : tokSum (l.take i) ≤ tokSum l := by
 unfold tokSum
 rw [List.map_take]
 exact take_sum_le _ _
theorem c_specRender (l : List PTok) (hl : l.length + tokSum l ≤ 1048576) : VFun Tryz.prog 109 [.sl 3 l.length (tokCells l)] (fun av obs => obs = [] ∧ av = .lit (.string (rend l))) := by
 refine vfun_start Tryz.func109 (by kernel_rfl) rfl (by simp [Tryz.ntmps109]) ?_; simp only [Tryz.ntmps109, Tryz.results109]; simp [go_sem]
 refine vc_loopR (fun i : Nat => i ≤ l.length) (fun i => l.length - i) (fun i => .of [(0, .sl 3 l.length (tokCells l)), (3, .own 0), (4, .lit (.int .i64 i))] [some ⟨5, 1, (rend (l.take i)).size, byteCells (rend (l.take i))⟩]) (fun _ => 4) ⟨0, by omega, ?_⟩ (fun i hi => ?_)
 ·simp [go_sem, rend]
  exact fun i c _ h => tokClosed l i c h
 ·simp [go_sem]
  refine ⟨by omega, fun h => ?_, fun h => ?_⟩
  ·have hs := tokSum_take l i h
   rcases ho : l.getD i default with ⟨k, g, z⟩
   rw [ho] at hs
   have e : tokCells l i = [.lit (.int .i64 k), .lit (.string g), .lit (.string z)] := by unfold tokCells; rw [ho]; rfl
   have hr := rend_take l i h
   have hz := rend_size (l.take i)
   have hz2 := tokSum_take_le l (i + 1)
   rw [ho] at hr
   simp only at hr
   simp only [tokSize] at hs
   simp [go_sem, e, -List.all_eq_true, byteOne]
   refine ⟨h, by omega, by omega, by omega, h, by omega, by omega, by omega, i + 1, by omega, by omega, ?_⟩
   refine leR_one (K := 4) ?_ ?_ ?_
   ·simp [go_sem]
    exact ⟨fun i c _ h => tokClosed l i c h, wrap_succ (by omega)⟩
   ·simp
   ·simp [go_sem, hr]
    refine fun j hj => ⟨?_, byteClosed _ _⟩
    rw [← join_bytes (rend (l.take i) ++ g) z j (by simpa using hj)]
    unfold joinF
    rw [ByteArray.size_append]
    by_cases h1 : j < (rend (l.take i)).size + g.size
    ·rw [if_pos h1, if_pos h1]
     exact join_bytes _ _ _ h1
    ·rw [if_neg h1, if_neg h1]
  ·have e2 : l.take i = l := List.take_of_length_le h
   rw [e2]
   exact ⟨rfl, fun _ _ => rfl⟩
theorem ba_beq (a b : ByteArray) : (a == b) = decide (a = b) := by
 rw [Bool.eq_iff_iff, decide_eq_true_iff]
 exact MapKept.bytes_beq a b
theorem ba_toList (a b : ByteArray) : a.toList = b.toList ↔ a = b := by
 constructor
 ·intro h
  rw [Go.ByteArray.toList_eq, Go.ByteArray.toList_eq] at h
  exact ByteArray.ext (Array.toList_inj.1 h)
 ·rintro rfl; rfl
theorem argSl_refl {mem : List (Option Ob)} {sz n : Nat} {f : Nat → List AV} (hsz : 0 < sz) (h : ∀ (i : Nat) c, i < n → c ∈ f i → Closed c) : ArgSl mem (.sl sz n f) sz n f :=
 ⟨hsz, f, by simp [contents], fun i hi => ⟨rfl, fun c hc => h i c hi hc⟩⟩
theorem argSl_own {mem : List (Option Ob)} {k sz n ty : Nat} {f : Nat → List AV} (hk : mem[k]? = some (some ⟨ty, sz, n, f⟩)) (hsz : 0 < sz) (h : ∀ (i : Nat) c, i < n → c ∈ f i → Closed c) : ArgSl mem (.own k) sz n f :=
 ⟨hsz, f, by simp [contents, hk], fun i hi => ⟨rfl, fun c hc => h i c hi hc⟩⟩
instance : Inhabited POp := ⟨⟨⟨#[]⟩, 0, 0, 0⟩⟩
def opCells (l : List POp) (i : Nat) : List AV := (l.getD i default).cells
theorem opClosed (l : List POp) (i : Nat) (c : AV) (h : c ∈ opCells l i) : Closed c := by
 simp [opCells, POp.cells] at h
 rcases h with rfl | rfl | rfl | rfl <;> exact .lit _
theorem opLit (l : List POp) (i : Nat) : (opCells l i).all isLit = true := rfl
def zeroOp : List AV := [.lit (.string ⟨#[]⟩), .lit (.int .i64 0), .lit (.int .i64 0), .lit (.int .i64 0)]
def opEq (a b : POp) : Bool := a.text == b.text && a.kind == b.kind && a.level == b.level && a.side == b.side
def opAt (l : List POp) (i : Nat) : POp := l.getD i default
theorem opCells_at (l : List POp) (i : Nat) : opCells l i = [.lit (.string (opAt l i).text), .lit (.int .i64 (opAt l i).kind), .lit (.int .i64 (opAt l i).level), .lit (.int .i64 (opAt l i).side)] := rfl
def sortN (o : POp) : Int := if o.kind = 1 then 2 else if o.kind = 3 then 1 else o.side
theorem c_l1Sort (o : POp) : VFun Tryz.prog 117 [.agg o.cells] (fun av obs => obs = [] ∧ av = .lit (.int .i64 (sortN o))) := by
 obtain ⟨z, kind, level, side⟩ := o
 simp only [POp.cells]
 refine vfun_start Tryz.func117 (by kernel_rfl) rfl (by simp [Tryz.ntmps117]) ?_; simp only [Tryz.ntmps117, Tryz.results117]; simp [go_sem]
 simp only [sortN, int_beq, decide_eq_true_eq, decide_eq_false_iff_not]
 by_cases h1 : kind = 1 <;> by_cases h2 : kind = 3 <;> simp [h1, h2]
theorem c_sortOf (o : POp) : VFun Tryz.prog 88 [.agg o.cells] (fun av obs => obs = [] ∧ av = .lit (.int .i64 (sortN o))) := by
 obtain ⟨z, kind, level, side⟩ := o
 simp only [POp.cells]
 refine vfun_start Tryz.func88 (by kernel_rfl) rfl (by simp [Tryz.ntmps88]) ?_; simp only [Tryz.ntmps88, Tryz.results88]; simp [go_sem]
 simp only [sortN, int_beq, decide_eq_true_eq, decide_eq_false_iff_not]
 by_cases h1 : kind = 1 <;> by_cases h2 : kind = 3 <;> simp [h1, h2]
theorem c_placeOf (o : POp) : VFun Tryz.prog 87 [.agg o.cells] (fun av obs => obs = [] ∧ av = .agg [.lit (.string o.text), .lit (.bool (o.kind == 1))]) := by
 obtain ⟨z, kind, level, side⟩ := o
 simp only [POp.cells]
 refine vfun_start Tryz.func87 (by kernel_rfl) rfl (by simp [Tryz.ntmps87]) ?_; simp only [Tryz.ntmps87, Tryz.results87]; simp [go_sem]
def clash (a b : POp) (code : Int) : Bool := if code = 3 then decide (a.text = b.text) && decide ((a.kind == 1) = (b.kind == 1)) else decide (a.level = b.level) && decide (sortN a ≠ sortN b)
theorem c_l1Clash (a b : POp) (code : Int) : VFun Tryz.prog 79 [.agg a.cells, .agg b.cells, .lit (.int .i64 code)] (fun av obs => obs = [] ∧ av = .lit (.bool (clash a b code))) := by
 have ca := c_l1Sort a
 have cb := c_l1Sort b
 obtain ⟨z, k, l, s⟩ := a
 obtain ⟨z', k', l', s'⟩ := b
 simp only [POp.cells] at ca cb ⊢
 refine vfun_start Tryz.func79 (by kernel_rfl) rfl (by simp [Tryz.ntmps79]) ?_; simp only [Tryz.ntmps79, Tryz.results79]; simp [go_sem]
 simp only [ba_toList]
 refine ⟨fun h => ⟨fun h1 => ?_, fun h1 => ?_⟩, fun h => ?_⟩
 ·subst h1
  simp only [clash, if_pos h, decide_true, Bool.true_and]
  generalize (k == 1) = x
  generalize (k' == 1) = y
  cases x <;> cases y <;> rfl
 ·simp [clash, h, h1]
 ·by_cases hl : l = l'
  ·subst hl
   refine vc_drawn [] (.q 0 <| .q 1 <| .q 2 <| .q 3 <| .q 4 <| .q 5 <| .q 6 <| .q 8 <| .or 7 (.or 9 (.q 10 <| .q 11 <| .q 12 <| .done) (.nil)) (.nil)) (by kernel_rfl) ?_
   simp [go_sem]
   refine vcallV_pure ca ?_ ?_
   ·simp [go_sem]
   ·simp [go_sem]
    refine vcallV_pure cb ?_ ?_
    ·simp [go_sem]
    ·simp [go_sem, clash, h]
     simp only [int_beq, bne, Bool.not_eq_true', decide_eq_false_iff_not, decide_not]
  ·refine vc_drawn [] (.q 0 <| .q 1 <| .q 2 <| .q 3 <| .q 4 <| .q 5 <| .q 6 <| .q 8 <| .or 7 (.or 9 (.q 10 <| .q 11 <| .q 12 <| .done) (.nil)) (.nil)) (by kernel_rfl) ?_
   have e : (l == l') = false := by simp [hl]
   simp [go_sem, e]
   simp [clash, h, hl]
def tblClash (l : List POp) (code : Int) : Bool := (List.range l.length).any fun i => (List.range i).any fun j => clash (opAt l i) (opAt l j) code
theorem tblClash_iff (l : List POp) (code : Int) : tblClash l code = true ↔ ∃ i, i < l.length ∧ ∃ j, j < i ∧ clash (opAt l i) (opAt l j) code = true := by
 simp [tblClash]
def tblOps (l : List POp) : Bool := (List.range l.length).all fun i => opOk (opAt l i)
def tblOk (l : List POp) : Int := if 500 < l.length then 1 else if tblOps l = false then 2 else if tblClash l 3 = true then 3 else if tblClash l 4 = true then 4 else 0
def opsWf (l : List POp) : Prop := ∀ i, i < l.length → (opAt l i).wf
theorem c_specTableOk (l : List POp) (hl : l.length ≤ 9223372036854775807) (hw : opsWf l) : VFun Tryz.prog 39 [.agg [.sl 4 l.length (opCells l)]] (fun av obs => obs = [] ∧ av = .lit (.int .i64 (tblOk l))) := by
 refine vfun_start Tryz.func39 (by kernel_rfl) rfl (by simp [Tryz.ntmps39]) ?_; simp only [Tryz.ntmps39, Tryz.results39]; simp [go_sem]
 refine ⟨by omega, fun h1 => ?_, fun h1 => ?_⟩
 ·simp [tblOk]; omega
 ·refine vc_loop (fun i : Nat => i ≤ l.length ∧ ∀ j, j < i → opOk (opAt l j) = true) (fun i => l.length - i) (fun i => .of [(1, .ptr 0 1 0 0), (3, .lit (.int .i64 l.length)), (4, .lit (.int .i64 i))] [some ⟨30, 1, 1, fun _ => [.sl 4 l.length (opCells l)]⟩]) ⟨0, ⟨by omega, by simp⟩, ?_⟩ (fun i hi => ?_)
  ·simp [go_sem]
   exact fun i c _ h => opClosed l i c h
  ·simp [go_sem, opCells_at]
   have cl : ∀ (i : Nat) (c : AV), i < l.length → c ∈ opCells l i → Closed c := fun i c _ h => opClosed l i c h
   refine ⟨fun h => ⟨h, vcall_pure (c_l1OpOk (opAt l i) (hw i h)) ?_ ?_⟩, fun h => ?_⟩
   ·simp [go_sem, POp.cells]
   ·simp [go_sem]
    refine ⟨fun e => ?_, fun e => ⟨i + 1, ⟨by omega, fun j hj => ?_⟩, by omega, wrap_succ (by omega), cl⟩⟩
    ·have : tblOps l = false := by
      simp only [tblOps, List.all_eq_false, List.mem_range]
      exact ⟨i, h, by rw [e]; simp⟩
     simp only [tblOk, this, if_neg (show ¬ 500 < l.length by omega), if_true]
    ·rcases Nat.lt_succ_iff_lt_or_eq.mp hj with hj | rfl
     ·exact hi.2 j hj
     ·exact e
   ·have hok : tblOps l = true := by
     simp only [tblOps, List.all_eq_true, List.mem_range]
     exact fun j hj => hi.2 j (by omega)
    clear hi h
    refine vc_loop (fun c : Nat => c ≤ 2 ∧ ∀ q : Nat, q < c → tblClash l (3 + q) = false) (fun c => 2 - c) (fun c => .of [(1, .ptr 0 1 0 0), (3, .lit (.int .i64 l.length)), (5, .lit (.int .i64 (3 + c)))] [some ⟨30, 1, 1, fun _ => [.sl 4 l.length (opCells l)]⟩]) ⟨0, ⟨by omega, by simp⟩, ?_⟩ (fun c hc => ?_)
    ·simp [go_sem]
     exact cl
    ·simp [go_sem]
     refine ⟨fun h => ?_, fun h => ?_⟩
     ·refine vc_loop (fun i : Nat => i ≤ l.length ∧ ∀ i', i' < i → ∀ j, j < i' → clash (opAt l i') (opAt l j) (3 + c) = false) (fun i => l.length - i) (fun i => .of [(1, .ptr 0 1 0 0), (3, .lit (.int .i64 l.length)), (5, .lit (.int .i64 (3 + c))), (6, .lit (.int .i64 i))] [some ⟨30, 1, 1, fun _ => [.sl 4 l.length (opCells l)]⟩]) ⟨0, ⟨by omega, by simp⟩, ?_⟩ (fun i hi => ?_)
      ·simp [go_sem]
       exact cl
      ·simp [go_sem]
       refine ⟨fun h2 => ?_, fun h2 => ?_⟩
       ·refine vc_loop (fun j : Nat => j ≤ i ∧ ∀ j', j' < j → clash (opAt l i) (opAt l j') (3 + c) = false) (fun j => i - j) (fun j => .of [(1, .ptr 0 1 0 0), (3, .lit (.int .i64 l.length)), (5, .lit (.int .i64 (3 + c))), (6, .lit (.int .i64 i)), (7, .lit (.int .i64 j))] [some ⟨30, 1, 1, fun _ => [.sl 4 l.length (opCells l)]⟩]) ⟨0, ⟨by omega, by simp⟩, ?_⟩ (fun j hj => ?_)
        ·simp [go_sem]
         exact cl
        ·simp [go_sem]
         refine ⟨fun h3 => ?_, fun h3 => ?_⟩
         ·refine vc_drawn [] (.q 0 <| .q 1 <| .q 2 <| .q 3 <| .q 4 <| .q 5 <| .q 6 <| .q 7 <| .q 8 <| .q 9 <| .q 10 <| .or 11 (.done) (.nil)) (by kernel_rfl) ?_
          simp [go_sem, opCells_at]
          refine ⟨h2, by omega, vcallV_pure (c_l1Clash (opAt l i) (opAt l j) (3 + c)) ?_ ?_⟩
          ·simp [go_sem, POp.cells]
          ·simp [go_sem]
           refine ⟨fun e => ?_, fun e => ⟨j + 1, ⟨by omega, fun j' hj' => ?_⟩, by omega, wrap_succ (by omega), cl⟩⟩
           ·have hcl : tblClash l (3 + c) = true := (tblClash_iff l _).2 ⟨i, h2, j, h3, e⟩
            rcases (by omega : c = 0 ∨ c = 1) with rfl | rfl
            ·have h4 : tblClash l 3 = true := hcl
             simp only [tblOk, hok, h4, if_neg (show ¬ 500 < l.length by omega)]
             rfl
            ·have h4 : tblClash l 4 = true := hcl
             have h5 : tblClash l 3 = false := hc.2 0 (by omega)
             simp only [tblOk, hok, h4, h5, if_neg (show ¬ 500 < l.length by omega)]
             rfl
           ·rcases Nat.lt_succ_iff_lt_or_eq.mp hj' with hj' | rfl
            ·exact hj.2 j' hj'
            ·exact e
         ·refine ⟨i + 1, ⟨by omega, fun i' hi' j' hj' => ?_⟩, by omega, wrap_succ (by omega), cl⟩
          rcases Nat.lt_succ_iff_lt_or_eq.mp hi' with hi' | rfl
          ·exact hi.2 i' hi' j' hj'
          ·exact hj.2 j' (by omega)
       ·refine ⟨c + 1, ⟨by omega, fun q hq => ?_⟩, by omega, ?_, cl⟩
        ·rcases Nat.lt_succ_iff_lt_or_eq.mp hq with hq | rfl
         ·exact hc.2 q hq
         ·rw [Bool.eq_false_iff]
          intro e
          obtain ⟨i', h4, j', h5, h6⟩ := (tblClash_iff l _).1 e
          rw [hi.2 i' (by omega) j' h5] at h6
          cases h6
        ·rw [wrap_i64 (by omega)]; omega
     ·have : c = 2 := by omega
      subst this
      have h4 : tblClash l 3 = false := hc.2 0 (by omega)
      have h5 : tblClash l 4 = false := hc.2 1 (by omega)
      simp only [tblOk, hok, h4, h5, if_neg (show ¬ 500 < l.length by omega)]
      rfl
open Go.Maps (Keyed)
open Classical in
theorem mget_mput : ∀ (es : List (Value × Value)) (x u y : Value), mget (mput es x u) y = if x = y then some u else mget es y
 | [], x, u, y => by
  simp only [mput, mget]
 | (k, v) :: r, x, u, y => by
  simp only [mput]
  by_cases h : k = x
  ·subst h
   rw [if_pos rfl]
   simp only [mget]
   split <;> rfl
  ·rw [if_neg h]
   simp only [mget]
   by_cases h2 : k = y
   ·subst h2
    rw [if_pos rfl, if_neg (fun e : x = k => h e.symm)]
    simp [mget]
   ·rw [if_neg h2, if_neg h2]
    exact mget_mput r x u y
theorem keyOf_struct {P : Program} {k : TypeId} {fs : Array Field} {cs : Array Value} (hu : P.underlying k = some (.struct fs)) (hkt : P.keyType k = true) (hc : cs.size = P.cellsOf k) (hn : fs.all (·.name != "_") = true) (hsz : 1 ≤ P.types.size)
  (hm : ∀ d, ∃ lss, (fs.toList.mapM fun f => P.keyLits (d + 1) f.type ((cs.toList.drop f.offset).take (P.cellsOf f.type))) = some lss) : ∃ l, keyOf P k (.agg cs) = some l := by
 obtain ⟨n, hn1⟩ : ∃ n, P.types.size = n + 1 := ⟨P.types.size - 1, by omega⟩
 obtain ⟨lss, hl⟩ := hm n
 have h1 : P.keyLits (P.types.size + 1) k cs.toList = some lss.flatten := by
  rw [hn1]
  unfold Program.keyLits
  simp only [hu, Array.length_toList, hc, hn, and_self, if_true, hl, Option.map_some]
 refine ⟨.string (keyBytes lss.flatten), ?_⟩
 unfold keyOf
 rw [hu]
 simp only [hkt, Value.formed, hu, hc, beq_self_eq_true, Bool.and_self, if_true, Value.cells, h1, Option.map_some]
theorem keyLits_str {P : Program} {t : TypeId} (hu : P.underlying t = some .string) {z : ByteArray} (h : z.size ≤ maxLen) (d : Nat) : P.keyLits (d + 1) t [.string z] = some [.string z.data.toList] := by
 unfold Program.keyLits; simp only [hu, if_pos h]
theorem keyLits_bool {P : Program} {t : TypeId} (hu : P.underlying t = some .bool) {b : Bool} (d : Nat) : P.keyLits (d + 1) t [.bool b] = some [.bool b] := by
 unfold Program.keyLits; simp only [hu]
theorem int_wf {n : Int} (h : -9223372036854775808 ≤ n ∧ n ≤ 9223372036854775807) : (Lit.int .i64 n).wf = true := by
 simp only [Lit.wf, IntKind.min, IntKind.max, IntKind.bits, IntKind.signed, decide_eq_true_eq, Bool.and_eq_true]
 exact h
theorem size1 : 1 ≤ Tryz.prog.types.size := of_decide_eq_true (by kernel_rfl)
theorem rowPlace : (151 : TypeId) < Tryz.prog.types.size := of_decide_eq_true (by kernel_rfl)
theorem co_place : Tryz.prog.cellsOf 151 = 2 := by kernel_rfl
theorem co_string : Tryz.prog.cellsOf 9 = 1 := by kernel_rfl
theorem co_bool : Tryz.prog.cellsOf 4 = 1 := by kernel_rfl
theorem keyedPlace : Keyed Tryz.prog 151 := Keyed.of_law (deep_law_laid laidOut (m := 2) (by omega) rowPlace (by kernel_rfl) (by kernel_rfl))
theorem keyedInt : Keyed Tryz.prog 3 := Go.Maps.int_keyed Tryz.underlying3
theorem keyedString : Keyed Tryz.prog 9 := Go.Maps.string_keyed Tryz.underlying9
theorem keyInt {n : Int} (h : -9223372036854775808 ≤ n ∧ n ≤ 9223372036854775807) : ∃ l, keyOf Tryz.prog 3 (.int .i64 n) = some l :=
 ⟨_, Go.Maps.keyOf_int_mk Tryz.underlying3 (int_wf h)⟩
theorem keyString {z : ByteArray} (h : z.size ≤ maxLen) : ∃ l, keyOf Tryz.prog 9 (.string z) = some l := ⟨_, Go.WideMaps.keyOf_string_mk Tryz.underlying9 h⟩
theorem keyPlace {z : ByteArray} {b : Bool} (h : z.size ≤ maxLen) : ∃ l, keyOf Tryz.prog 151 (.agg #[.string z, .bool b]) = some l := by
 refine keyOf_struct Tryz.underlying151 (by kernel_rfl) co_place.symm (by kernel_rfl) size1 fun d => ?_
 simp only [List.mapM_cons, List.mapM_nil, co_string, co_bool, List.drop_zero, List.take_succ_cons, List.take_zero, List.drop_succ_cons, keyLits_str Tryz.underlying9 h, keyLits_bool Tryz.underlying4]
 exact ⟨_, rfl⟩
theorem zeroInt : zeroIs Tryz.prog 3 (.int .i64 0) := fun w => Tryz.zeroValue3 w
def placeV (o : POp) : Value := .agg #[.string o.text, .bool (o.kind == 1)]
theorem placeV_fold (o : POp) : Value.agg #[.string o.text, .bool (o.kind == 1)] = placeV o := rfl
theorem placeV_eq {a b : POp} : placeV a = placeV b ↔ clash a b 3 = true := by
 simp only [placeV, clash, if_true, Value.agg.injEq, Bool.and_eq_true, decide_eq_true_eq, Array.mk.injEq, List.cons.injEq, Value.string.injEq, Value.bool.injEq, and_true]
def SeenIs (l : List POp) (i : Nat) (es : List (Value × Value)) : Prop := (∀ j, j < i → (mget es (placeV (opAt l j))).isSome = true) ∧ ∀ x v, mget es x = some v → ∃ j, j < i ∧ x = placeV (opAt l j)
def SortsIs (l : List POp) (i : Nat) (es : List (Value × Value)) : Prop := (∀ j, j < i → mget es (.int .i64 (opAt l j).level) = some (.int .i64 (sortN (opAt l j)))) ∧ ∀ x v, mget es x = some v → ∃ j, j < i ∧ x = .int .i64 (opAt l j).level
theorem c_TableOk (l : List POp) (hl : l.length ≤ 9223372036854775807) (hw : opsWf l) : VFun Tryz.prog 42 [.agg [.sl 4 l.length (opCells l)]] (fun av obs => obs = [] ∧ av = .lit (.int .i64 (tblOk l))) := by
 have cl : ∀ (i : Nat) (c : AV), i < l.length → c ∈ opCells l i → Closed c := fun i c _ h => opClosed l i c h
 refine vfun_start Tryz.func42 (by kernel_rfl) rfl (by simp [Tryz.ntmps42]) ?_; simp only [Tryz.ntmps42, Tryz.results42]; simp [go_sem]
 refine ⟨by omega, fun h1 => ?_, fun h1 => ?_⟩
 ·simp [tblOk]; omega
 ·have hmax : ¬ 500 < l.length := by omega
  refine ⟨by omega, ?_⟩
  refine vc_loop (fun i : Nat => i ≤ l.length ∧ ∀ j, j < i → opOk (opAt l j) = true) (fun i => l.length - i) (fun i => .of [(1, .ptr 0 1 0 0), (20, .sl 4 l.length (opCells l)), (21, .lit (.int .i64 l.length)), (22, .lit (.int .i64 i))] [some ⟨30, 1, 1, fun _ => [.sl 4 l.length (opCells l)]⟩]) ⟨0, ⟨by omega, by simp⟩, ?_⟩ (fun i hi => ?_)
  ·simp [go_sem]
   exact cl
  ·simp [go_sem, opCells_at]
   refine ⟨fun h => ⟨h, vcall_pure (c_opOk (opAt l i) (hw i h)) ?_ ?_⟩, fun h => ?_⟩
   ·simp [go_sem, POp.cells]
   ·simp [go_sem]
    refine ⟨fun e => ?_, fun e => ⟨i + 1, ⟨by omega, fun j hj => ?_⟩, by omega, ⟨⟨cl, wrap_succ (by omega)⟩, cl⟩⟩⟩
    ·have : tblOps l = false := by
      simp only [tblOps, List.all_eq_false, List.mem_range]
      exact ⟨i, h, by rw [e]; simp⟩
     simp only [tblOk, this, if_neg hmax, if_true]
    ·rcases Nat.lt_succ_iff_lt_or_eq.mp hj with hj | rfl
     ·exact hi.2 j hj
     ·exact e
   ·have hok : tblOps l = true := by
     simp only [tblOps, List.all_eq_true, List.mem_range]
     exact fun j hj => hi.2 j (by omega)
    have hop : ∀ j, j < l.length → opOk (opAt l j) = true := fun j hj => hi.2 j (by omega)
    clear hi h
    refine fun b => ⟨by omega, ?_⟩
    refine vc_loop (fun p : Nat × List (Value × Value) => p.1 ≤ l.length ∧ SeenIs l p.1 p.2 ∧ ∀ i', i' < p.1 → ∀ j, j < i' → clash (opAt l i') (opAt l j) 3 = false) (fun p => l.length - p.1)
     (fun p => ⟨[(1, .ptr 0 1 0 0), (5, .lit (.map (some b))), (32, .sl 4 l.length (opCells l)), (33, .lit (.int .i64 l.length)), (34, .lit (.int .i64 p.1))], [some ⟨30, 1, 1, fun _ => [.sl 4 l.length (opCells l)]⟩], [(b, ⟨151, p.2⟩)], 0⟩) ⟨(0, []), ⟨by omega, ⟨by simp, by simp [mget]⟩, by simp⟩, ?_⟩ (fun p hp => ?_)
    ·simp [go_sem]
     exact cl
    ·obtain ⟨i, es⟩ := p
     simp only at hp
     simp [go_sem, opCells_at]
     refine ⟨fun h => ⟨h, vcall_val (c_placeOf (opAt l i)) ?_ ?_ ?_⟩, fun h => ?_⟩
     ·simp [go_sem, POp.cells]
     ·simp [go_sem]
     ·simp [go_sem]
      refine vlookK_use keyedPlace (keyPlace (hw i h)) _ zeroInt ?_
      simp [go_sem]
      simp only [placeV_fold]
      have hno : ∀ (h0 : (mget es (placeV (opAt l i))).isSome = true), tblClash l 3 = true := by
       intro h0
       obtain ⟨v, hv⟩ := Option.isSome_iff_exists.1 h0
       obtain ⟨j, hj, e⟩ := hp.2.1.2 _ v hv
       exact (tblClash_iff l _).2 ⟨i, h, j, hj, placeV_eq.1 e⟩
      refine ⟨fun h0 => ?_, fun h0 => ?_⟩
      ·simp only [tblOk, hok, hno h0, if_neg hmax]
       rfl
      ·refine vcall_val (c_placeOf (opAt l i)) ?_ ?_ ?_
       ·simp [go_sem, POp.cells]
       ·simp [go_sem]
       ·simp [go_sem]
        refine vmsetK_use keyedPlace (keyPlace (hw i h)) ?_
        simp [go_sem]
        simp only [placeV_fold]
        refine ⟨i + 1, mput es (placeV (opAt l i)) (.int .i64 i), ⟨by omega, ⟨fun j hj => ?_, fun x v hv => ?_⟩, fun i' hi' j hj => ?_⟩, by omega, rfl, ⟨cl, wrap_succ (by omega)⟩, cl⟩
        ·rw [mget_mput]
         split
         ·rfl
         ·rename_i hne
          rcases Nat.lt_succ_iff_lt_or_eq.mp hj with hj | rfl
          ·exact hp.2.1.1 j hj
          ·exact absurd rfl hne
        ·rw [mget_mput] at hv
         split at hv
         ·rename_i e
          exact ⟨i, by omega, e.symm⟩
         ·obtain ⟨j, hj, e⟩ := hp.2.1.2 x v hv
          exact ⟨j, by omega, e⟩
        ·rcases Nat.lt_succ_iff_lt_or_eq.mp hi' with hi' | rfl
         ·exact hp.2.2 i' hi' j hj
         ·rw [Bool.eq_false_iff]
          intro e
          have h5 := hp.2.1.1 j hj
          rw [← placeV_eq.2 e, h0] at h5
          cases h5
     ·have hc3 : tblClash l 3 = false := by
       rw [Bool.eq_false_iff]
       intro e
       obtain ⟨i', h4, j', h5, h6⟩ := (tblClash_iff l _).1 e
       rw [hp.2.2 i' (by omega) j' h5] at h6
       cases h6
      clear hp h
      refine fun b2 hb2 => ⟨by omega, ?_⟩
      refine vc_loop (fun p : Nat × List (Value × Value) => p.1 ≤ l.length ∧ SortsIs l p.1 p.2 ∧ ∀ i', i' < p.1 → ∀ j, j < i' → clash (opAt l i') (opAt l j) 4 = false) (fun p => l.length - p.1)
       (fun p => ⟨[(1, .ptr 0 1 0 0), (10, .lit (.map (some b2))), (54, .sl 4 l.length (opCells l)), (55, .lit (.int .i64 l.length)), (56, .lit (.int .i64 p.1))], [some ⟨30, 1, 1, fun _ => [.sl 4 l.length (opCells l)]⟩], [(b2, ⟨3, p.2⟩)], 0⟩) ⟨(0, []), ⟨by omega, ⟨by simp, by simp [mget]⟩, by simp⟩, ?_⟩ (fun p hp => ?_)
      ·simp [go_sem]
       exact cl
      ·obtain ⟨i, es⟩ := p
       simp only at hp
       simp [go_sem, opCells_at]
       refine ⟨fun h => ⟨h, ?_⟩, fun h => ?_⟩
       ·have hlv := opOk_level (hop i h)
        have hki := keyInt (n := (opAt l i).level) (by omega)
        refine vlookK_use keyedInt hki _ zeroInt ?_
        have step : ∀ (h4 : ∀ j, j < i → clash (opAt l i) (opAt l j) 4 = false), SortsIs l (i + 1) (mput es (.int .i64 (opAt l i).level) (.int .i64 (sortN (opAt l i)))) ∧ ∀ i', i' < i + 1 → ∀ j, j < i' → clash (opAt l i') (opAt l j) 4 = false := by
         intro h4
         refine ⟨⟨fun j hj => ?_, fun x v hv => ?_⟩, fun i' hi' j hj => ?_⟩
         ·rw [mget_mput]
          rcases Nat.lt_succ_iff_lt_or_eq.mp hj with hj | rfl
          ·split
           ·rename_i e
            simp only [Value.int.injEq, true_and] at e
            have := h4 j hj
            simp only [clash, e, decide_true, Bool.true_and, show ((4 : Int) = 3) = False by decide, if_false, decide_eq_false_iff_not, ne_eq, Classical.not_not] at this
            rw [this]
           ·exact hp.2.1.1 j hj
          ·rw [if_pos rfl]
         ·rw [mget_mput] at hv
          split at hv
          ·rename_i e
           exact ⟨i, by omega, e.symm⟩
          ·obtain ⟨j, hj, e⟩ := hp.2.1.2 x v hv
           exact ⟨j, by omega, e⟩
         ·rcases Nat.lt_succ_iff_lt_or_eq.mp hi' with hi' | rfl
          ·exact hp.2.2 i' hi' j hj
          ·exact h4 j hj
        cases hm : mget es (.int .i64 (opAt l i).level) with
        | none =>
         simp [go_sem]
         have h4 : ∀ j, j < i → clash (opAt l i) (opAt l j) 4 = false := by
          intro j hj
          simp only [clash, show ((4 : Int) = 3) = False by decide, if_false, Bool.and_eq_false_iff, decide_eq_false_iff_not]
          refine .inl fun e => ?_
          have := hp.2.1.1 j hj
          rw [← e, hm] at this
          cases this
         refine vc_drawn [5] (.q 0 <| .q 1 <| .q 2 <| .q 3 <| .or 4 (.or 5 (.done) (.nil)) (.nil)) (by kernel_rfl) ?_
         simp [go_sem]
         refine vcallV_pure (c_sortOf (opAt l i)) ?_ ?_
         ·simp [go_sem, POp.cells]
         ·simp [go_sem]
          refine vmsetK_use keyedInt hki ?_
          simp [go_sem]
          obtain ⟨s1, s2⟩ := step h4
          exact ⟨i + 1, _, ⟨by omega, s1, s2⟩, by omega, rfl, ⟨cl, wrap_succ (by omega)⟩, cl⟩
        | some v =>
         obtain ⟨j, hj, e⟩ := hp.2.1.2 _ v hm
         simp only [Value.int.injEq, true_and] at e
         have hv : v = .int .i64 (sortN (opAt l j)) := by
          have := hp.2.1.1 j hj
          rw [← e, hm] at this
          exact Option.some.inj this
         subst hv
         simp [go_sem]
         refine vcall_pure (c_sortOf (opAt l i)) ?_ ?_
         ·simp [go_sem, POp.cells]
         ·simp [go_sem]
          refine ⟨fun hne => ?_, fun heq => ?_⟩
          ·have hc4 : tblClash l 4 = true := by
            refine (tblClash_iff l _).2 ⟨i, h, j, hj, ?_⟩
            simp only [clash, show ((4 : Int) = 3) = False by decide, if_false, Bool.and_eq_true, decide_eq_true_eq]
            exact ⟨e, fun e2 => hne e2.symm⟩
           simp only [tblOk, hok, hc3, hc4, if_neg hmax]
           rfl
          ·have h4 : ∀ j, j < i → clash (opAt l i) (opAt l j) 4 = false := by
            intro j' hj'
            simp only [clash, show ((4 : Int) = 3) = False by decide, if_false, Bool.and_eq_false_iff, decide_eq_false_iff_not]
            by_cases e2 : (opAt l i).level = (opAt l j').level
            ·refine .inr fun h5 => h5 ?_
             have := hp.2.1.1 j' hj'
             rw [← e2, hm] at this
             simp only [Option.some.injEq, Value.int.injEq, true_and] at this
             rw [← heq, this]
            ·exact .inl e2
           refine vc_drawn [5] (.q 0 <| .q 1 <| .q 2 <| .q 3 <| .or 4 (.or 5 (.done) (.nil)) (.nil)) (by kernel_rfl) ?_
           simp [go_sem]
           refine vcallV_pure (c_sortOf (opAt l i)) ?_ ?_
           ·simp [go_sem, POp.cells]
           ·simp [go_sem]
            refine vmsetK_use keyedInt hki ?_
            simp [go_sem]
            obtain ⟨s1, s2⟩ := step h4
            exact ⟨i + 1, _, ⟨by omega, s1, s2⟩, by omega, rfl, ⟨cl, wrap_succ (by omega)⟩, cl⟩
       ·have hc4 : tblClash l 4 = false := by
         rw [Bool.eq_false_iff]
         intro e
         obtain ⟨i', h4, j', h5, h6⟩ := (tblClash_iff l _).1 e
         rw [hp.2.2 i' (by omega) j' h5] at h6
         cases h6
        simp only [tblOk, hok, hc3, hc4, if_neg hmax]
        rfl
end Go.Proofs.YtjdmmhcogmepaaaGreatDoor.V
namespace Go.Proofs.YtjdmmhcogmepaaaGreatDoor.V
open Go.RowKit
def AVIn (a b : AV) : Prop := ∀ (w : World) (ok : Nat → Prop) (hd : Nat → Value) (m : Nat) (v : Value), Rep w ok hd m a v → Rep w ok hd m b v
theorem avIn_sl {sz n : Nat} {f g : Nat → List AV} (h : ∀ i, i < n → f i = g i) : AVIn (.sl sz n f) (.sl sz n g) := by
 intro w ok hd m v hr
 cases hr with
 | sl _ _ _ A c u hc hm hsz hl ha hr => exact .sl sz n g A c u hc hm hsz (fun i hi => by rw [← h i hi]; exact hl i hi) ha fun i j a hi hj => hr i j a hi (by rw [h i hi]; exact hj)
def ArgsIn : List AV → List AV → Prop
 | [], [] => True
 | a :: r, b :: r' => AVIn a b ∧ ArgsIn r r'
 | _, _ => False
theorem argsIn_get : ∀ {l l' : List AV}, ArgsIn l l' → l.length = l'.length ∧ ∀ (j : Nat) a b, l[j]? = some a → l'[j]? = some b → AVIn a b
 | [], [], _ => ⟨rfl, fun j a b h => by simp at h⟩
 | a :: r, b :: r', h => by
  obtain ⟨h1, h2⟩ := argsIn_get h.2
  refine ⟨by simp [h1], fun j x y hx hy => ?_⟩
  cases j with
  | zero =>
   simp only [List.getElem?_cons_zero, Option.some.injEq] at hx hy
   subst hx; subst hy; exact h.1
  | succ j => exact h2 j x y (by simpa using hx) (by simpa using hy)
 | [], _ :: _, h => h.elim
 | _ :: _, [], h => h.elim
theorem VFun.congr {P : Program} {f : FuncId} {args args' : List AV} {R : AV → List Ob → Prop} (h : VFun P f args' R) (ha : ArgsIn args args') : VFun P f args R := by
 obtain ⟨h1, h2⟩ := argsIn_get ha
 refine ⟨h.1, fun w vs hl hv => h.2 w vs (by omega) fun j b u hb hu => ?_⟩
 have hj : j < args.length := by have := (List.getElem?_eq_some_iff.1 hb).1; omega
 exact h2 j _ b (List.getElem?_eq_getElem hj) hb _ _ _ _ _ (hv j _ u (List.getElem?_eq_getElem hj) hu)
theorem map_lits {g : Nat → Nat} : ∀ {l : List AV}, l.all isLit = true → l.map (ren1 g) = l
 | [], _ => rfl
 | a :: r, h => by
  simp only [List.all_cons, Bool.and_eq_true] at h
  simp only [List.map_cons, map_lits h.2]
  cases a <;> simp [isLit] at h
  rfl
theorem flat_lits : ∀ {l : List AV}, l.all isLit = true → l.all flat1 = true
 | [], _ => rfl
 | a :: r, h => by
  simp only [List.all_cons, Bool.and_eq_true] at h ⊢
  refine ⟨?_, flat_lits h.2⟩
  cases a <;> simp [isLit] at h
  rfl
theorem outAt_lits {idx : Nat → Nat} {ks : List Nat} {ty sz n : Nat} {f f' : Nat → List AV} (h : ∀ i, i < n → f i = f' i) (hl : ∀ i, i < n → (f' i).all isLit = true) : OutAt idx ks ⟨ty, sz, n, f'⟩ (some (some ⟨ty, sz, n, f⟩)) := by
 refine ⟨rfl, rfl, rfl, fun i hi => ⟨?_, flatC_all (flat_lits (hl i hi)), fun c hc q hq => ?_⟩⟩
 ·simp only
  rw [h i hi]; exact map_lits (hl i hi)
 ·simp only at hc
  rw [h i hi] at hc
  have := List.all_eq_true.1 (hl i hi) c hc
  cases c <;> simp [isLit] at this
  simp [owns1] at hq
@[go_sem] theorem opCells_ren {g : Nat → Nat} {l : List POp} {i : Nat} : (opCells l i).map (ren1 g) = opCells l i := map_lits rfl
theorem cellsRn_lits {f : Nat → Nat} {m : Nat} : ∀ {l : List AV}, l.all isLit = true → CellsRn f m l l
 | [], _ => trivial
 | a :: r, h => by
  simp only [List.all_cons, Bool.and_eq_true] at h
  exact ⟨.closed _ (.of_lit h.1), cellsRn_lits h.2⟩
def tokAt (l : List PTok) (i : Nat) : PTok := l.getD i default
theorem tokCells_at (l : List PTok) (i : Nat) : tokCells l i = [.lit (.int .i64 (tokAt l i).kind), .lit (.string (tokAt l i).gap), .lit (.string (tokAt l i).text)] := rfl
def isDg (c : Int) : Bool := decide (48 ≤ c) && decide (c ≤ 57)
def isLt (c : Int) : Bool := decide ((97 ≤ c ∧ c ≤ 122) ∨ (65 ≤ c ∧ c ≤ 90) ∨ c = 95)
def isBl (c : Int) : Bool := decide (c = 32 ∨ c = 9 ∨ c = 10)
theorem c_l2Digit (c : Int) : VFun Tryz.prog 151 [.lit (.int .u8 c)] (fun av obs => obs = [] ∧ av = .lit (.bool (isDg c))) := by
 refine vfun_start Tryz.func151 (by kernel_rfl) rfl (by simp [Tryz.ntmps151]) ?_; simp only [Tryz.ntmps151, Tryz.results151]; simp [go_sem]
 by_cases h1 : 48 ≤ c <;> by_cases h2 : c ≤ 57 <;> simp [isDg, h1, h2] <;> omega
theorem c_isDigit (c : Int) : VFun Tryz.prog 123 [.lit (.int .u8 c)] (fun av obs => obs = [] ∧ av = .lit (.bool (isDg c))) := by
 refine vfun_start Tryz.func123 (by kernel_rfl) rfl (by simp [Tryz.ntmps123]) ?_; simp only [Tryz.ntmps123, Tryz.results123]; simp [go_sem]
 by_cases h1 : 48 ≤ c <;> by_cases h2 : c ≤ 57 <;> simp [isDg, h1, h2] <;> omega
theorem c_l2Letter (c : Int) : VFun Tryz.prog 150 [.lit (.int .u8 c)] (fun av obs => obs = [] ∧ av = .lit (.bool (isLt c))) := by
 refine vfun_start Tryz.func150 (by kernel_rfl) rfl (by simp [Tryz.ntmps150]) ?_; simp only [Tryz.ntmps150, Tryz.results150]; simp [go_sem]
 simp only [isLt, int_beq, decide_eq_decide, decide_eq_true_eq]
 omega
theorem c_isLetter (c : Int) : VFun Tryz.prog 124 [.lit (.int .u8 c)] (fun av obs => obs = [] ∧ av = .lit (.bool (isLt c))) := by
 refine vfun_start Tryz.func124 (by kernel_rfl) rfl (by simp [Tryz.ntmps124]) ?_; simp only [Tryz.ntmps124, Tryz.results124]; simp [go_sem]
 simp only [isLt, int_beq, decide_eq_decide, decide_eq_true_eq]
 omega
theorem c_l2Blank (c : Int) : VFun Tryz.prog 106 [.lit (.int .u8 c)] (fun av obs => obs = [] ∧ av = .lit (.bool (isBl c))) := by
 refine vfun_start Tryz.func106 (by kernel_rfl) rfl (by simp [Tryz.ntmps106]) ?_; simp only [Tryz.ntmps106, Tryz.results106]; simp [go_sem]
 simp only [isBl, int_beq, decide_eq_decide, decide_eq_true_eq]
 omega
def numZ (z : ByteArray) : Bool := ((List.range z.size).all fun i => isDg (byteAt z i)) && decide (0 < z.size)
def namAt (z : ByteArray) (i : Nat) : Bool := isLt (byteAt z i) || (decide (i ≠ 0) && isDg (byteAt z i))
def namZ (z : ByteArray) : Bool := ((List.range z.size).all fun i => namAt z i) && decide (0 < z.size)
theorem all_false {p : Nat → Bool} {n i : Nat} (h : i < n) (e : p i = false) : (List.range n).all p = false := by
 simp only [List.all_eq_false, List.mem_range]
 exact ⟨i, h, by rw [e]; simp⟩
theorem all_true {p : Nat → Bool} {n : Nat} (h : ∀ i, i < n → p i = true) : (List.range n).all p = true := by
 simp only [List.all_eq_true, List.mem_range]
 exact h
theorem c_l2IsNumber (z : ByteArray) (hz : z.size ≤ 9223372036854775807) : VFun Tryz.prog 133 [.lit (.string z)] (fun av obs => obs = [] ∧ av = .lit (.bool (numZ z))) := by
 refine vfun_start Tryz.func133 (by kernel_rfl) rfl (by simp [Tryz.ntmps133]) ?_; simp only [Tryz.ntmps133, Tryz.results133]; simp [go_sem]
 refine vc_loop (fun i : Nat => i ≤ z.size ∧ ∀ j, j < i → isDg (byteAt z j) = true) (fun i => z.size - i) (fun i => .of [(0, .lit (.string z)), (3, .lit (.int .i64 i))] []) ⟨0, ⟨by omega, by simp⟩, ?_⟩ (fun i hi => ?_)
 ·simp [go_sem]
 ·simp [go_sem]
  refine ⟨fun h => ⟨h, vcall_pure (c_l2Digit (byteAt z i)) ?_ ?_⟩, fun h => ?_⟩
  ·simp [go_sem]
  ·simp [go_sem]
   refine ⟨fun e => ?_, fun e => ⟨i + 1, ⟨by omega, fun j hj => ?_⟩, by omega, wrap_succ (by omega)⟩⟩
   ·simp only [numZ, all_false (p := fun i => isDg (byteAt z i)) h e, Bool.false_and]
   ·rcases Nat.lt_succ_iff_lt_or_eq.mp hj with hj | rfl
    ·exact hi.2 j hj
    ·exact e
  ·simp only [numZ, all_true (p := fun i => isDg (byteAt z i)) (n := z.size) fun j hj => hi.2 j (by omega), Bool.true_and]
theorem c_l2IsName (z : ByteArray) (hz : z.size ≤ 9223372036854775807) : VFun Tryz.prog 134 [.lit (.string z)] (fun av obs => obs = [] ∧ av = .lit (.bool (namZ z))) := by
 refine vfun_start Tryz.func134 (by kernel_rfl) rfl (by simp [Tryz.ntmps134]) ?_; simp only [Tryz.ntmps134, Tryz.results134]; simp [go_sem]
 refine vc_loop (fun i : Nat => i ≤ z.size ∧ ∀ j, j < i → namAt z j = true) (fun i => z.size - i) (fun i => .of [(0, .lit (.string z)), (3, .lit (.int .i64 i))] []) ⟨0, ⟨by omega, by simp⟩, ?_⟩ (fun i hi => ?_)
 ·simp [go_sem]
 ·simp [go_sem]
  refine ⟨fun h => ⟨h, vcall_pure (c_l2Letter (byteAt z i)) ?_ ?_⟩, fun h => ?_⟩
  ·simp [go_sem]
  ·have step : namAt z i = true → ∃ j : Nat, (j ≤ z.size ∧ ∀ q, q < j → namAt z q = true) ∧ z.size - j < z.size - i ∧ IntKind.i64.wrap ((i : Int) + 1) = j := fun e => ⟨i + 1, ⟨by omega, fun j hj => by
    rcases Nat.lt_succ_iff_lt_or_eq.mp hj with hj | rfl
    ·exact hi.2 j hj
    ·exact e⟩, by omega, wrap_succ (by omega)⟩
   have bad : namAt z i = false → namZ z = false := fun e => by simp only [namZ, all_false (p := fun i => namAt z i) h e, Bool.false_and]
   simp [go_sem]
   refine ⟨fun e1 => ⟨fun h0 => ⟨h, vcall_pure (c_l2Digit (byteAt z i)) ?_ ?_⟩, fun h0 => bad (by subst h0; simp [namAt, e1])⟩, fun e1 => step (by simp [namAt, e1])⟩
   ·simp [go_sem]
   ·simp [go_sem]
    exact ⟨fun e2 => bad (by simp [namAt, e1, e2]), fun e2 => step (by simp [namAt, e1, e2, h0])⟩
  ·simp only [namZ, all_true (p := fun i => namAt z i) (n := z.size) fun j hj => hi.2 j (by omega), Bool.true_and]
def opHas (l : List POp) (z : ByteArray) (kd : Int) : Bool := (List.range l.length).any fun i => decide ((opAt l i).text = z) && decide ((opAt l i).kind = kd)
theorem c_l2Find (l : List POp) (hl : l.length ≤ 9223372036854775807) (z : ByteArray) (kd : Int) : VFun Tryz.prog 82 [.agg [.sl 4 l.length (opCells l)], .lit (.string z), .lit (.int .i64 kd)] (fun av obs => obs = [] ∧ ∃ r : Int, av = .lit (.int .i64 r) ∧ (0 ≤ r ↔ opHas l z kd = true)) := by
 have cl : ∀ (i : Nat) (c : AV), i < l.length → c ∈ opCells l i → Closed c := fun i c _ h => opClosed l i c h
 refine vfun_start Tryz.func82 (by kernel_rfl) rfl (by simp [Tryz.ntmps82]) ?_; simp only [Tryz.ntmps82, Tryz.results82]; simp [go_sem]
 refine vc_loop (fun i : Nat => i ≤ l.length ∧ ∀ j, j < i → ¬ ((opAt l j).text = z ∧ (opAt l j).kind = kd)) (fun i => l.length - i) (fun i => .of [(1, .lit (.string z)), (2, .lit (.int .i64 kd)), (3, .ptr 0 1 0 0), (7, .lit (.int .i64 i))] [some ⟨30, 1, 1, fun _ => [.sl 4 l.length (opCells l)]⟩]) ⟨0, ⟨by omega, by simp⟩, ?_⟩ (fun i hi => ?_)
 ·simp [go_sem]
  exact cl
 ·simp [go_sem, opCells_at, ba_toList]
  have step : ¬ ((opAt l i).text = z ∧ (opAt l i).kind = kd) → ∀ j, j < i + 1 → ¬ ((opAt l j).text = z ∧ (opAt l j).kind = kd) := fun e j hj => by
   rcases Nat.lt_succ_iff_lt_or_eq.mp hj with hj | rfl
   ·exact hi.2 j hj
   ·exact e
  refine ⟨by omega, fun h => ?_, fun h => ?_⟩
  ·have cl2 : ∀ (i : Nat) (c : AV), i < l.length → c = AV.lit (Value.string (opAt l i).text) ∨ c = AV.lit (Value.int IntKind.i64 (opAt l i).kind) ∨ c = AV.lit (Value.int IntKind.i64 (opAt l i).level) ∨ c = AV.lit (Value.int IntKind.i64 (opAt l i).side) → Closed c := by
    rintro i c _ (rfl | rfl | rfl | rfl) <;> exact .lit _
   refine ⟨h, fun e1 => ⟨h, fun e2 => ?_, fun e2 => ⟨i + 1, ⟨by omega, fun j hj e3 e4 => step (fun e5 => e2 e5.2) j hj ⟨e3, e4⟩⟩, by omega, wrap_succ (by omega), cl2⟩⟩, fun e1 => ⟨i + 1, ⟨by omega, fun j hj e3 e4 => step (fun e5 => e1 e5.1) j hj ⟨e3, e4⟩⟩, by omega, wrap_succ (by omega), cl2⟩⟩
   simp only [opHas, List.any_eq_true, List.mem_range]
   exact ⟨i, h, by simp [e1, e2]⟩
  ·simp only [opHas, List.any_eq_false, List.mem_range]
   exact fun j hj => by
    have := hi.2 j (by omega)
    simp only [Bool.and_eq_true, decide_eq_true_eq]
    exact this
def isOpZ (l : List POp) (z : ByteArray) : Bool := opHas l z 1 || opHas l z 2 || opHas l z 3
theorem c_l2IsOp (l : List POp) (hl : l.length ≤ 9223372036854775807) (z : ByteArray) : VFun Tryz.prog 135 [.agg [.sl 4 l.length (opCells l)], .lit (.string z)] (fun av obs => obs = [] ∧ av = .lit (.bool (isOpZ l z))) := by
 have cl : ∀ (i : Nat) (c : AV), i < l.length → c ∈ opCells l i → Closed c := fun i c _ h => opClosed l i c h
 have dec : ∀ (r : Int) (b : Bool), (0 ≤ r ↔ b = true) → decide (0 ≤ r) = b := fun r b h => by cases b <;> simp_all
 refine vfun_start Tryz.func135 (by kernel_rfl) rfl (by simp [Tryz.ntmps135]) ?_; simp only [Tryz.ntmps135, Tryz.results135]; simp [go_sem]
 refine vcall_use (c_l2Find l hl z 1) ?_ ?_
 ·simp [go_sem]
  exact argSl_refl (by omega) cl
 ·rintro av obs ⟨rfl, r, rfl, hr⟩
  simp [go_sem]
  refine ⟨fun e1 => vcall_use (c_l2Find l hl z 2) ?_ ?_, fun e1 => by simp [isOpZ, hr.1 e1]⟩
  ·simp [go_sem]
   exact argSl_refl (by omega) cl
  ·have n1 : opHas l z 1 = false := by rw [Bool.eq_false_iff]; exact fun e => by have := hr.2 e; omega
   rintro av obs ⟨rfl, r2, rfl, hr2⟩
   simp [go_sem]
   refine ⟨fun e2 => vcall_use (c_l2Find l hl z 3) ?_ ?_, fun e2 => by simp [isOpZ, hr2.1 e2]⟩
   ·simp [go_sem]
    exact argSl_refl (by omega) cl
   ·have n2 : opHas l z 2 = false := by rw [Bool.eq_false_iff]; exact fun e => by have := hr2.2 e; omega
    rintro av obs ⟨rfl, r3, rfl, hr3⟩
    simp [go_sem, isOpZ, n1, n2, dec r3 _ hr3]
def kindZ (l : List POp) (z : ByteArray) : Int := if numZ z then 1 else if namZ z then 2 else if z = ⟨#[40]⟩ then 4 else if z = ⟨#[41]⟩ then 5 else if isOpZ l z then 3 else 6
theorem c_l2Kind (l : List POp) (hl : l.length ≤ 9223372036854775807) (z : ByteArray) (hz : z.size ≤ 9223372036854775807) : VFun Tryz.prog 108 [.agg [.sl 4 l.length (opCells l)], .lit (.string z)] (fun av obs => obs = [] ∧ av = .lit (.int .i64 (kindZ l z))) := by
 have cl : ∀ (i : Nat) (c : AV), i < l.length → c ∈ opCells l i → Closed c := fun i c _ h => opClosed l i c h
 refine vfun_start Tryz.func108 (by kernel_rfl) rfl (by simp [Tryz.ntmps108]) ?_; simp only [Tryz.ntmps108, Tryz.results108]; simp [go_sem]
 refine vcall_pure (c_l2IsNumber z hz) ?_ ?_
 ·simp [go_sem]
 ·simp [go_sem]
  refine ⟨fun e1 => by simp [kindZ, e1], fun e1 => vcall_pure (c_l2IsName z hz) ?_ ?_⟩
  ·simp [go_sem]
  ·simp [go_sem]
   have b1 : z.toList = [40] ↔ z = ⟨#[40]⟩ := by have := ba_toList z ⟨#[40]⟩; simpa using this
   have b2 : z.toList = [41] ↔ z = ⟨#[41]⟩ := by have := ba_toList z ⟨#[41]⟩; simpa using this
   refine ⟨fun e2 => by simp [kindZ, e1, e2], fun e2 => ⟨fun e3 => by rw [b1] at e3; simp only [kindZ, e1, e2, if_pos e3]; rfl, fun e3 => ⟨fun e4 => by rw [b1] at e3; rw [b2] at e4; simp only [kindZ, e1, e2, if_neg e3, if_pos e4]; rfl, fun e4 => vcall_pure (c_l2IsOp l hl z) ?_ ?_⟩⟩⟩
   ·simp [go_sem]
    exact argSl_refl (by omega) cl
   ·rw [b1] at e3
    rw [b2] at e4
    simp [go_sem]
    simp only [kindZ, e1, e2, if_neg e3, if_neg e4]
    refine ⟨fun e5 => ?_, fun e5 => ?_⟩ <;> rw [e5] <;> rfl
def alnum (c : Int) : Bool := isLt c || isDg c
def run (p : Int → Bool) (z : ByteArray) (j : Nat) : Nat := if h : j < z.size then if p (byteAt z j) then 1 + run p z (j + 1) else 0 else 0
termination_by z.size - j
theorem run_end {p : Int → Bool} {z : ByteArray} {j : Nat} (h : z.size ≤ j) : run p z j = 0 := by rw [run, dif_neg (by omega)]
theorem run_yes {p : Int → Bool} {z : ByteArray} {j : Nat} (h : j < z.size) (e : p (byteAt z j) = true) : run p z j = 1 + run p z (j + 1) := by
 conv => lhs; rw [run]
 rw [dif_pos h, if_pos e]
theorem run_no {p : Int → Bool} {z : ByteArray} {j : Nat} (h : j < z.size) (e : p (byteAt z j) = false) : run p z j = 0 := by rw [run, dif_pos h, if_neg (by rw [e]; simp)]
theorem run_le (p : Int → Bool) (z : ByteArray) (j : Nat) (h : j ≤ z.size) : j + run p z j ≤ z.size := by
 rcases Nat.lt_or_ge j z.size with h1 | h1
 ·cases e : p (byteAt z j)
  ·rw [run_no h1 e]; omega
  ·have := run_le p z (j + 1) (by omega)
   rw [run_yes h1 e]; omega
 ·rw [run_end h1]; omega
termination_by z.size - j
def reachZ (z : ByteArray) (i : Nat) : Nat := if isSg (byteAt z i) then (if z.size - i < 16 then z.size - i else 16) else if alnum (byteAt z i) then 1 + run alnum z (i + 1) else 1
theorem c_l2Reach (z : ByteArray) (hz : z.size ≤ 1048576) (i : Nat) (hi : i < z.size) : VFun Tryz.prog 132 [.lit (.string z), .lit (.int .i64 i)] (fun av obs => obs = [] ∧ av = .lit (.int .i64 (reachZ z i))) := by
 refine vfun_start Tryz.func132 (by kernel_rfl) rfl (by simp [Tryz.ntmps132]) ?_; simp only [Tryz.ntmps132, Tryz.results132]; simp [go_sem]
 refine ⟨hi, vcall_pure (c_l1IsSign (byteAt z i)) ?_ ?_⟩
 ·simp [go_sem]
 ·simp [go_sem]
  rw [wrap_i64 (by omega)]
  refine ⟨fun e0 => ⟨fun h => ?_, fun h => ?_⟩, fun e0 => ?_⟩
  ·simp only [reachZ, e0, if_true]
   rw [if_pos (by omega)]; omega
  ·simp only [reachZ, e0, if_true]
   rw [if_neg (by omega)]; rfl
  ·refine vc_loop (fun n : Nat => 1 ≤ n ∧ i + n ≤ z.size ∧ reachZ z i = if alnum (byteAt z i) then n + run alnum z (i + n) else n) (fun n => z.size - n) (fun n => .of [(0, .lit (.string z)), (1, .lit (.int .i64 i)), (5, .lit (.int .i64 n))] []) ⟨1, ⟨by omega, by omega, ?_⟩, ?_⟩ (fun n hn => ?_)
   ·simp only [reachZ, e0]
    simp
   ·simp [go_sem]
   ·obtain ⟨h1, h2, h3⟩ := hn
    simp [go_sem]
    rw [wrap_i64 (n := (i : Int) + n) (by omega)]
    have ex : z.size ≤ i + n → (n : Int) = reachZ z i := fun h => by
     rw [h3, run_end h]; simp
    refine ⟨fun h => ⟨hi, vcall_pure (c_l2Letter (byteAt z i)) ?_ ?_⟩, fun h => ex (by omega)⟩
    ·simp [go_sem]
    ·have hlt : ((i : Int) + n < z.size) = True := by simp; omega
     cases eL : isLt (byteAt z i) with
     | true =>
      have al : alnum (byteAt z i) = true := by simp [alnum, eL]
      rw [al, if_pos rfl] at h3
      have stop : alnum (byteAt z (i + n)) = false → (n : Int) = reachZ z i := fun e => by rw [h3, run_no (by omega) e]; simp
      have go_ : alnum (byteAt z (i + n)) = true → 1 ≤ n + 1 ∧ i + (n + 1) ≤ z.size ∧ reachZ z i = if alnum (byteAt z i) then n + 1 + run alnum z (i + (n + 1)) else n + 1 := fun e => ⟨by omega, by omega, by rw [al, if_pos rfl, h3, run_yes (by omega) e, show i + (n + 1) = i + n + 1 by omega]; omega⟩
      simp [go_sem]
      simp only [wrap_i64 (n := (i : Int) + n) (by omega), show ((i : Int) + n).toNat = i + n by omega]
      refine ⟨by omega, by omega, vcall_pure (c_l2Letter (byteAt z (i + n))) ?_ ?_⟩
      ·simp [go_sem]
      ·have done_ : alnum (byteAt z (i + n)) = true → ∃ j : Nat, (1 ≤ j ∧ i + j ≤ z.size ∧ reachZ z i = if alnum (byteAt z i) = true then j + run alnum z (i + j) else j) ∧ z.size - j < z.size - n ∧ IntKind.i64.wrap ((n : Int) + 1) = j := fun e => ⟨n + 1, go_ e, by omega, wrap_succ (by omega)⟩
       cases fL : isLt (byteAt z (i + n)) with
       | true =>
        simp [go_sem]
        exact done_ (by simp [alnum, fL])
       | false =>
        simp [go_sem]
        simp only [wrap_i64 (n := (i : Int) + n) (by omega), show ((i : Int) + n).toNat = i + n by omega]
        refine ⟨by omega, by omega, vcall_pure (c_l2Digit (byteAt z (i + n))) ?_ ?_⟩
        ·simp [go_sem]
        ·simp [go_sem]
         exact ⟨fun e => done_ (by simp [alnum, e]), fun e => stop (by simp [alnum, fL, e])⟩
     | false =>
      simp [go_sem]
      refine ⟨hi, vcall_pure (c_l2Digit (byteAt z i)) ?_ ?_⟩
      ·simp [go_sem]
      ·cases eD : isDg (byteAt z i) with
       | true =>
        have al : alnum (byteAt z i) = true := by simp [alnum, eL, eD]
        rw [al, if_pos rfl] at h3
        have stop : alnum (byteAt z (i + n)) = false → (n : Int) = reachZ z i := fun e => by rw [h3, run_no (by omega) e]; simp
        have go_ : alnum (byteAt z (i + n)) = true → 1 ≤ n + 1 ∧ i + (n + 1) ≤ z.size ∧ reachZ z i = if alnum (byteAt z i) then n + 1 + run alnum z (i + (n + 1)) else n + 1 := fun e => ⟨by omega, by omega, by rw [al, if_pos rfl, h3, run_yes (by omega) e, show i + (n + 1) = i + n + 1 by omega]; omega⟩
        simp [go_sem]
        simp only [wrap_i64 (n := (i : Int) + n) (by omega), show ((i : Int) + n).toNat = i + n by omega]
        refine ⟨by omega, by omega, vcall_pure (c_l2Letter (byteAt z (i + n))) ?_ ?_⟩
        ·simp [go_sem]
        ·have done_ : alnum (byteAt z (i + n)) = true → ∃ j : Nat, (1 ≤ j ∧ i + j ≤ z.size ∧ reachZ z i = if alnum (byteAt z i) = true then j + run alnum z (i + j) else j) ∧ z.size - j < z.size - n ∧ IntKind.i64.wrap ((n : Int) + 1) = j := fun e => ⟨n + 1, go_ e, by omega, wrap_succ (by omega)⟩
         cases fL : isLt (byteAt z (i + n)) with
         | true =>
          simp [go_sem]
          exact done_ (by simp [alnum, fL])
         | false =>
          simp [go_sem]
          simp only [wrap_i64 (n := (i : Int) + n) (by omega), show ((i : Int) + n).toNat = i + n by omega]
          refine ⟨by omega, by omega, vcall_pure (c_l2Digit (byteAt z (i + n))) ?_ ?_⟩
          ·simp [go_sem]
          ·simp [go_sem]
           exact ⟨fun e => done_ (by simp [alnum, e]), fun e => stop (by simp [alnum, fL, e])⟩
       | false =>
        simp [go_sem]
        have al : alnum (byteAt z i) = false := by simp [alnum, eL, eD]
        rw [al] at h3
        rw [h3]; simp
def longF (l : List POp) (z : ByteArray) (i : Nat) : Nat → Nat
 | 0 => 1
 | n + 1 => if n = 0 then 1 else if kindZ l (z.extract i (i + (n + 1))) ≠ 6 then n + 1 else longF l z i n
def longest (l : List POp) (z : ByteArray) (i : Nat) : Nat := longF l z i (reachZ z i)
theorem reachZ_le (z : ByteArray) (i : Nat) (hi : i < z.size) : 1 ≤ reachZ z i ∧ i + reachZ z i ≤ z.size := by
 unfold reachZ
 split
 ·split <;> omega
 ·split
  ·have := run_le alnum z (i + 1) (by omega)
   omega
  ·omega
theorem c_l2Longest (l : List POp) (hl : l.length ≤ 9223372036854775807) (z : ByteArray) (hz : z.size ≤ 1048576) (i : Nat) (hi : i < z.size) : VFun Tryz.prog 107 [.agg [.sl 4 l.length (opCells l)], .lit (.string z), .lit (.int .i64 i)] (fun av obs => obs = [] ∧ av = .lit (.int .i64 (longest l z i))) := by
 have cl : ∀ (i : Nat) (c : AV), i < l.length → c ∈ opCells l i → Closed c := fun i c _ h => opClosed l i c h
 have hr := reachZ_le z i hi
 refine vfun_start Tryz.func107 (by kernel_rfl) rfl (by simp [Tryz.ntmps107]) ?_; simp only [Tryz.ntmps107, Tryz.results107]; simp [go_sem]
 refine vcall_pure (c_l2Reach z hz i hi) ?_ ?_
 ·simp [go_sem]
 ·simp [go_sem]
  refine vc_loop (fun n : Nat => 1 ≤ n ∧ i + n ≤ z.size ∧ longest l z i = longF l z i n) (fun n => n) (fun n => .of [(1, .lit (.string z)), (2, .lit (.int .i64 i)), (3, .ptr 0 1 0 0), (7, .lit (.int .i64 n))] [some ⟨30, 1, 1, fun _ => [.sl 4 l.length (opCells l)]⟩]) ⟨reachZ z i, ⟨by omega, by omega, rfl⟩, ?_⟩ (fun n hn => ?_)
  ·simp [go_sem]
   exact cl
  ·simp [go_sem]
   refine ⟨fun h => ?_, fun h => ?_⟩
   ·refine vc_drawn [] (.q 0 <| .q 1 <| .q 2 <| .q 3 <| .q 4 <| .q 5 <| .q 6 <| .or 7 (.q 8 <| .done) (.nil)) (by kernel_rfl) ?_
    simp [go_sem]
    simp only [wrap_i64 (n := (i : Int) + n) (by omega), show ((i : Int) + n).toNat = i + n by omega]
    refine ⟨by omega, by omega, vcallV_pure (c_l2Kind l hl (z.extract i (i + n)) (by rw [ByteArray.size_extract]; omega)) ?_ ?_⟩
    ·simp [go_sem]
     exact argSl_refl (by omega) cl
    ·obtain ⟨h1, h2, h3⟩ := hn
     obtain ⟨m, rfl⟩ : ∃ m, n = m + 1 := ⟨n - 1, by omega⟩
     simp [go_sem]
     refine ⟨fun e => ?_, fun e => ?_⟩
     ·rw [h3, longF, if_neg (by omega), if_pos (by simpa using e)]
      omega
     ·rw [h3, longF, if_neg (by omega), if_neg (by simpa using e)]
      exact ⟨m, ⟨by omega, by omega, rfl⟩, by omega, wrap_i64 (by omega), cl⟩
   ·have e : n = 1 := by omega
    rw [hn.2.2, e]; rfl
def opsHas (l : List POp) (n : Nat) (o : POp) : Bool := (List.range n).any fun i => opEq (opAt l i) o
def uniq (l : List POp) : Nat → List POp
 | 0 => []
 | i + 1 => if opsHas l i (opAt l i) then uniq l i else uniq l i ++ [opAt l i]
theorem opAt_app (a b : List POp) (i : Nat) : opAt (a ++ b) i = if i < a.length then opAt a i else opAt b (i - a.length) := by
 unfold opAt
 by_cases h : i < a.length
 ·rw [if_pos h, List.getD_eq_getElem?_getD, List.getD_eq_getElem?_getD, List.getElem?_append_left h]
 ·rw [if_neg h, List.getD_eq_getElem?_getD, List.getD_eq_getElem?_getD, List.getElem?_append_right (by omega)]
theorem opCells_app (a b : List POp) (i : Nat) : opCells (a ++ b) i = joinF a.length (opCells a) (opCells b) i := by
 unfold joinF
 simp only [opCells_at, opAt_app]
 split <;> rfl
theorem opCells_one (l : List POp) (o : POp) (i : Nat) (h : i < l.length + 1) : joinF l.length (opCells l) (fun _ => o.cells) i = opCells (l ++ [o]) i := by
 rw [opCells_app]
 unfold joinF
 split
 ·rfl
 ·have : i - l.length = 0 := by omega
  rw [this]; rfl
@[go_sem] theorem opOne (l : List POp) (i : Nat) : (opCells l i).all oneAV = true := rfl
open Go.Maps (Keyed)
def i64 (n : Int) : Prop := -9223372036854775808 ≤ n ∧ n ≤ 9223372036854775807
def opV (o : POp) : Value := .agg #[.string o.text, .int .i64 o.kind, .int .i64 o.level, .int .i64 o.side]
theorem opV_fold (o : POp) : Value.agg #[.string o.text, .int .i64 o.kind, .int .i64 o.level, .int .i64 o.side] = opV o := rfl
end Go.Proofs.YtjdmmhcogmepaaaGreatDoor.V
namespace Go.Proofs.YtjdmmhcogmepaaaGreatDoor.V
open Go.RowKit
theorem longF_ge (l : List POp) (z : ByteArray) (i : Nat) : ∀ n, 1 ≤ longF l z i n
 | 0 => by simp [longF]
 | n + 1 => by
  unfold longF
  split
  ·omega
  ·split
   ·omega
   ·exact longF_ge l z i n
theorem longF_le (l : List POp) (z : ByteArray) (i : Nat) : ∀ n, longF l z i n ≤ n ∨ longF l z i n = 1
 | 0 => by simp [longF]
 | n + 1 => by
  unfold longF
  split
  ·omega
  ·split
   ·omega
   ·rcases longF_le l z i n with h | h <;> omega
theorem longest_ge (l : List POp) (z : ByteArray) (i : Nat) : 1 ≤ longest l z i := longF_ge _ _ _ _
theorem longest_le (l : List POp) (z : ByteArray) (i : Nat) (hi : i < z.size) : i + longest l z i ≤ z.size := by
 have := reachZ_le z i hi
 unfold longest
 rcases longF_le l z i (reachZ z i) with h | h <;> omega
def lexFrom (l : List POp) (z : ByteArray) (f : Nat) : List PTok :=
 if h : f + run isBl z f < z.size then
  ⟨kindZ l (z.extract (f + run isBl z f) (f + run isBl z f + longest l z (f + run isBl z f))), z.extract f (f + run isBl z f), z.extract (f + run isBl z f) (f + run isBl z f + longest l z (f + run isBl z f))⟩ ::
   lexFrom l z (f + run isBl z f + longest l z (f + run isBl z f))
 else [⟨7, z.extract f (f + run isBl z f), ⟨#[]⟩⟩]
termination_by z.size - f
decreasing_by
 have := longest_ge l z (f + run isBl z f)
 omega
theorem lexFrom_end {l : List POp} {z : ByteArray} {f i : Nat} (hi : i = f + run isBl z f) (h : ¬ i < z.size) : lexFrom l z f = [⟨7, z.extract f i, ⟨#[]⟩⟩] := by
 subst hi; rw [lexFrom, dif_neg h]
theorem lexFrom_go {l : List POp} {z : ByteArray} {f i : Nat} (hi : i = f + run isBl z f) (h : i < z.size) : lexFrom l z f = ⟨kindZ l (z.extract i (i + longest l z i)), z.extract f i, z.extract i (i + longest l z i)⟩ :: lexFrom l z (i + longest l z i) := by
 subst hi; rw [lexFrom, dif_pos h]
def lexOk (l : List POp) (z : ByteArray) : Bool := decide (tblOk l = 0) && decide (z.size ≤ 20000)
def lexZ (l : List POp) (z : ByteArray) : List PTok := if lexOk l z then lexFrom l z 0 else []
theorem tokAt_app (a b : List PTok) (i : Nat) : tokAt (a ++ b) i = if i < a.length then tokAt a i else tokAt b (i - a.length) := by
 unfold tokAt
 by_cases h : i < a.length
 ·rw [if_pos h, List.getD_eq_getElem?_getD, List.getD_eq_getElem?_getD, List.getElem?_append_left h]
 ·rw [if_neg h, List.getD_eq_getElem?_getD, List.getD_eq_getElem?_getD, List.getElem?_append_right (by omega)]
theorem tokCells_one (l : List PTok) (o : PTok) (i : Nat) (h : i < l.length + 1) : joinF l.length (tokCells l) (fun _ => o.cells) i = tokCells (l ++ [o]) i := by
 unfold joinF
 simp only [tokCells_at, tokAt_app]
 split
 ·rfl
 ·have : i - l.length = 0 := by omega
  rw [this]; rfl
theorem tok_app1 (toks : List PTok) (k : Int) (g x : ByteArray) (i : Nat) (hi : i < toks.length + 1) : joinF toks.length (tokCells toks) (fun i => [[AV.lit (.int .i64 k), AV.lit (.string g), AV.lit (.string x)]][i]?.getD []) i = tokCells (toks ++ [⟨k, g, x⟩]) i := by
 rw [← tokCells_one toks ⟨k, g, x⟩ i hi]
 unfold joinF
 split
 ·rfl
 ·have : i - toks.length = 0 := by omega
  rw [this]; rfl
@[go_sem] theorem tokOne (l : List PTok) (i : Nat) : (tokCells l i).all oneAV = true := rfl
theorem c_specLex (l : List POp) (hl : l.length ≤ 9223372036854775807) (hw : opsWf l) (z : ByteArray) (hz : z.size ≤ 1048576) : VFun Tryz.prog 67 [.agg [.sl 4 l.length (opCells l)], .lit (.string z)] (fun av obs => av = .tup [.own 0, .lit (.bool (lexOk l z))] ∧ obs = [⟨88, 3, (lexZ l z).length, tokCells (lexZ l z)⟩]) := by
 have cl : ∀ (i : Nat) (c : AV), i < l.length → c ∈ opCells l i → Closed c := fun i c _ h => opClosed l i c h
 refine vfun_start Tryz.func67 (by kernel_rfl) rfl (by simp [Tryz.ntmps67]) ?_; simp only [Tryz.ntmps67, Tryz.results67]; simp [go_sem]
 refine vcall_pure (c_specTableOk l hl hw) ?_ ?_
 ·simp [go_sem]
  exact argSl_refl (by omega) cl
 ·simp [go_sem]
  have bad : lexOk l z = false → ObsSame [⟨88, 3, 0, fun _ => []⟩] [⟨88, 3, (lexZ l z).length, tokCells (lexZ l z)⟩] ∧ lexOk l z = false := fun h => by
   refine ⟨?_, h⟩
   have e : lexZ l z = [] := by simp [lexZ, h]
   rw [e]
   exact obsSame_one.mpr ⟨⟨88, 3, 0, tokCells []⟩, ⟨rfl, rfl, rfl, fun j hj => by simp at hj⟩, rfl⟩
  refine ⟨fun h0 => ⟨fun h1 => bad (by simp [lexOk]; omega), fun h1 => ?_⟩, fun h0 => bad (by simp [lexOk, h0])⟩
  have hok : lexOk l z = true := by simp [lexOk, h0]; omega
  have hz2 : z.size ≤ 20000 := by omega
  refine vc_loopE (fun p : List PTok × Nat => p.2 ≤ z.size ∧ p.1.length ≤ p.2 ∧ lexFrom l z 0 = p.1 ++ lexFrom l z p.2) (fun p => z.size - p.2) (fun p => .of [(1, .lit (.string z)), (2, .ptr 0 1 0 0), (6, .own 1), (7, .lit (.int .i64 p.2))] [some ⟨30, 1, 1, fun _ => [.sl 4 l.length (opCells l)]⟩, some ⟨88, 3, p.1.length, tokCells p.1⟩]) ⟨([], 0), ⟨by omega, by simp, by simp⟩, ?_⟩ (fun p hp => ?_)
  ·refine ent_ks [0, 1] (by simp) (by simp) (by simp) (by simp) trivial ?_ ?_
   ·simp [go_sem]
   ·simp [go_sem]
    exact cl
  ·obtain ⟨toks, f⟩ := p
   obtain ⟨hp1, hp2, hp3⟩ := hp
   simp only at hp1 hp2 hp3
   simp [go_sem]
   refine vc_loop (fun j : Nat => f ≤ j ∧ j ≤ z.size ∧ f + run isBl z f = j + run isBl z j) (fun j => z.size - j) (fun j => .of [(1, .lit (.string z)), (2, .ptr 0 1 0 0), (6, .own 1), (7, .lit (.int .i64 j)), (8, .lit (.int .i64 f))] [some ⟨30, 1, 1, fun _ => [.sl 4 l.length (opCells l)]⟩, some ⟨88, 3, toks.length, tokCells toks⟩]) ⟨f, ⟨by omega, by omega, by omega⟩, ?_⟩ (fun j hj => ?_)
   ·simp [go_sem]
    exact ⟨cl, fun i _ c h => .closed _ (tokClosed _ i c h)⟩
   ·obtain ⟨hj1, hj2, hj3⟩ := hj
    simp [go_sem]
    refine ⟨fun h => ⟨h, vcall_pure (c_l2Blank (byteAt z j)) ?_ ?_⟩, fun h => ?_⟩
    ·simp [go_sem]
    ·simp [go_sem]
     refine ⟨fun e => ?_, fun e => ?_⟩
     ·exact ⟨j + 1, ⟨by omega, by omega, by rw [hj3, run_yes h e]; omega⟩, by omega, wrap_succ (by omega), cl, fun i _ c h => .closed _ (tokClosed _ i c h)⟩
     ·have hj4 : j = f + run isBl z f := by rw [hj3, run_no h e]; rfl
      have hlo := longest_ge l z j
      have hle := longest_le l z j h
      refine ⟨fun e2 => absurd e2 (by omega), fun e2 => vcall_pure (c_l2Longest l hl z hz j h) ?_ ?_⟩
      ·simp [go_sem]
       exact argSl_refl (by omega) cl
      ·simp [go_sem]
       refine vc_drawn [21] (.q 0 <| .q 1 <| .q 2 <| .q 3 <| .q 4 <| .q 5 <| .q 6 <| .q 7 <| .q 9 <| .q 10 <| .q 11 <| .q 12 <| .q 13 <| .q 14 <| .q 15 <| .q 16 <| .q 17 <| .q 18 <| .or 8 (.q 19 <| .or 20 (.or 21 (.q 22 <| .done) (.nil)) (.nil)) (.nil)) (by kernel_rfl) ?_
       simp [go_sem]
       simp only [wrap_i64 (n := (j : Int) + longest l z j) (by omega), show ((j : Int) + longest l z j).toNat = j + longest l z j by omega]
       refine ⟨by omega, by omega, by omega, by omega, by omega, by omega, vcallV_pure (c_l2Kind l hl (z.extract j (j + longest l z j)) (by rw [ByteArray.size_extract]; omega)) ?_ ?_⟩
       ·simp [go_sem]
        exact argSl_refl (by omega) cl
       ·simp [go_sem]
        have hn : lexFrom l z f = ⟨kindZ l (z.extract j (j + longest l z j)), z.extract f j, z.extract j (j + longest l z j)⟩ :: lexFrom l z (j + longest l z j) := lexFrom_go hj4 h
        refine ⟨by omega, by omega, toks ++ [⟨kindZ l (z.extract j (j + longest l z j)), z.extract f j, z.extract j (j + longest l z j)⟩], j + longest l z j, ⟨by omega, by simp; omega, by rw [hp3, hn]; simp⟩, by omega, ?_⟩
        refine ent_ks [0, 3] (by simp) (by simp) (by simp) (by simp) trivial ?_ ?_
        ·simp [go_sem]
         rw [wrap_i64 (by omega)]
        ·simp [go_sem]
         exact ⟨cl, .inl fun i hi => ⟨tok_app1 _ _ _ _ _ hi, fun c h => tokClosed _ i c h⟩⟩
    ·have hj5 : j = z.size := by omega
     subst hj5
     have hj4 : z.size = f + run isBl z f := by rw [hj3, run_end (by omega)]; rfl
     refine ⟨fun e2 => ⟨hp1, by omega, by omega, by omega, ?_, hok⟩, fun e2 => absurd rfl e2⟩
     have e3 : lexZ l z = toks ++ [⟨7, z.extract f z.size, ⟨#[]⟩⟩] := by
      simp only [lexZ, hok, if_true, hp3]
      rw [lexFrom_end hj4 (by omega)]
     rw [e3]
     refine obsSame_one.mpr ⟨⟨88, 3, toks.length + 1, tokCells (toks ++ [⟨7, z.extract f z.size, ⟨#[]⟩⟩])⟩, ⟨rfl, rfl, rfl, fun i hi => ?_⟩, by simp⟩
     exact ⟨tok_app1 _ _ _ _ _ hi, rfl⟩
def textHas (l : List POp) (z : ByteArray) : Bool := (List.range l.length).any fun j => decide ((opAt l j).text = z)
def opFront (l : List POp) (z : ByteArray) : Nat → Int × Nat
 | 0 => (6, 1)
 | k + 1 => if textHas l (z.extract 0 (k + 1)) then (3, k + 1) else opFront l z k
def front (l : List POp) (z : ByteArray) : Int × Nat :=
 if isDg (byteAt z 0) then (1, 1 + run isDg z 1) else if isLt (byteAt z 0) then (2, 1 + run alnum z 1) else if byteAt z 0 = 40 then (4, 1) else if byteAt z 0 = 41 then (5, 1) else opFront l z (if z.size < 16 then z.size else 16)
theorem byteAt_extract {z : ByteArray} {i e j : Nat} (he : e ≤ z.size) (hj : i + j < e) : byteAt (z.extract i e) j = byteAt z (i + j) := by
 unfold byteAt
 have h1 : j < (z.extract i e).size := by rw [ByteArray.size_extract]; omega
 rw [dif_pos h1, dif_pos (show i + j < z.size by omega)]
 rw [ByteArray.getElem_extract]
theorem extract_extract0 (z : ByteArray) (i k : Nat) (h : i + k ≤ z.size) : (z.extract i z.size).extract 0 k = z.extract i (i + k) := by
 rw [ByteArray.extract_extract]
 congr 1
 omega
theorem size_ext {z : ByteArray} {i n : Nat} (h : i + n ≤ z.size) : (z.extract i (i + n)).size = n := by rw [ByteArray.size_extract]; omega
theorem run_extract (p : Int → Bool) (z : ByteArray) (i : Nat) (j : Nat) : run p (z.extract i z.size) j = run p z (i + j) := by
 by_cases h : i + j < z.size
 ·have h1 : j < (z.extract i z.size).size := by rw [ByteArray.size_extract]; omega
  have e := byteAt_extract (z := z) (i := i) (e := z.size) (j := j) (by omega) h
  cases hp : p (byteAt z (i + j))
  ·rw [run_no h1 (by rw [e]; exact hp), run_no h hp]
  ·rw [run_yes h1 (by rw [e]; exact hp), run_yes h hp, run_extract p z i (j + 1)]; rfl
 ·rw [run_end (by rw [ByteArray.size_extract]; omega), run_end (by omega)]
termination_by z.size - (i + j)
theorem run_all (p : Int → Bool) (z : ByteArray) (j : Nat) (k : Nat) (h : k < run p z j) : p (byteAt z (j + k)) = true := by
 by_cases h1 : j < z.size
 ·cases hp : p (byteAt z j)
  ·rw [run_no h1 hp] at h; omega
  ·cases k with
   | zero => exact hp
   | succ k =>
    rw [run_yes h1 hp] at h
    have := run_all p z (j + 1) k (by omega)
    rw [show j + (k + 1) = j + 1 + k by omega]; exact this
 ·rw [run_end (by omega)] at h; omega
termination_by z.size - j
theorem run_stop (p : Int → Bool) (z : ByteArray) (j : Nat) (h : j + run p z j < z.size) : p (byteAt z (j + run p z j)) = false := by
 have h1 : j < z.size := by omega
 cases hp : p (byteAt z j)
 ·rw [run_no h1 hp]; exact hp
 ·rw [run_yes h1 hp] at h ⊢
  have := run_stop p z (j + 1) (by omega)
  rw [show j + (1 + run p z (j + 1)) = j + 1 + run p z (j + 1) by omega]; exact this
termination_by z.size - j
theorem run_mono {p q : Int → Bool} (hpq : ∀ c, p c = true → q c = true) (z : ByteArray) (j : Nat) : run p z j ≤ run q z j := by
 by_cases h1 : j < z.size
 ·cases hp : p (byteAt z j)
  ·rw [run_no h1 hp]; omega
  ·rw [run_yes h1 hp, run_yes h1 (hpq _ hp)]
   have := run_mono hpq z (j + 1)
   omega
 ·rw [run_end (by omega)]; omega
termination_by z.size - j
theorem sign_apart : (List.range 256).all (fun n => !isSg n || !(isDg n || isLt n || (n : Int) == 40 || (n : Int) == 41)) = true := by kernel_rfl
theorem digit_apart : (List.range 256).all (fun n => !isDg n || !(isLt n || (n : Int) == 40 || (n : Int) == 41)) = true := by kernel_rfl
theorem letter_apart : (List.range 256).all (fun n => !isLt n || !((n : Int) == 40 || (n : Int) == 41)) = true := by kernel_rfl
theorem of_range {f : Int → Bool} (h : (List.range 256).all (fun n => f n) = true) {c : Int} (hc : 0 ≤ c ∧ c < 256) : f c = true := by
 obtain ⟨n, rfl⟩ : ∃ n : Nat, c = n := ⟨c.toNat, by omega⟩
 exact List.all_eq_true.1 h n (List.mem_range.2 (by omega))
theorem isSg_no {c : Int} (hc : 0 ≤ c ∧ c < 256) (h : isDg c = true ∨ isLt c = true ∨ c = 40 ∨ c = 41) : isSg c = false := by
 have := of_range (f := fun n => !isSg n || !(isDg n || isLt n || n == 40 || n == 41)) sign_apart hc
 simp at this
 rcases h with h | h | rfl | rfl <;> simp_all
theorem isDg_no {c : Int} (hc : 0 ≤ c ∧ c < 256) (h : isDg c = true) : isLt c = false ∧ c ≠ 40 ∧ c ≠ 41 := by
 have := of_range (f := fun n => !isDg n || !(isLt n || n == 40 || n == 41)) digit_apart hc
 simp [h] at this
 exact ⟨this.1.1, this.1.2, this.2⟩
theorem isLt_no {c : Int} (hc : 0 ≤ c ∧ c < 256) (h : isLt c = true) : c ≠ 40 ∧ c ≠ 41 := by
 have := of_range (f := fun n => !isLt n || !(n == 40 || n == 41)) letter_apart hc
 simp [h] at this
 exact this
theorem numZ_no {s : ByteArray} (h0 : 0 < s.size) (h : isDg (byteAt s 0) = false) : numZ s = false := by
 unfold numZ; rw [all_false h0 h]; rfl
theorem namZ_no {s : ByteArray} (h0 : 0 < s.size) (h : isLt (byteAt s 0) = false) : namZ s = false := by
 unfold namZ; rw [all_false h0 (by simp [namAt, h])]; rfl
theorem byte_ne {s : ByteArray} {b : UInt8} (h : byteAt s 0 ≠ b.toNat) : s ≠ ⟨#[b]⟩ := by
 rintro rfl
 exact h rfl
theorem byte_one {s : ByteArray} {b : UInt8} (h1 : s.size = 1) (h : byteAt s 0 = b.toNat) : s = ⟨#[b]⟩ := by
 obtain ⟨⟨l⟩⟩ := s
 match l, h1 with
 | [x], _ =>
  have h2 : ((x.toNat : Nat) : Int) = b.toNat := h
  have h3 : x = b := UInt8.toNat_inj.1 (by omega)
  rw [h3]
theorem isOpZ_has {l : List POp} (hok : tblOps l = true) (s : ByteArray) : isOpZ l s = textHas l s := by
 have hop : ∀ j, j < l.length → opOk (opAt l j) = true := by simpa [tblOps] using hok
 rw [Bool.eq_iff_iff]
 simp only [isOpZ, opHas, textHas, Bool.or_eq_true, List.any_eq_true, List.mem_range, Bool.and_eq_true, decide_eq_true_eq]
 constructor
 ·rintro ((⟨j, h1, h2, _⟩ | ⟨j, h1, h2, _⟩) | ⟨j, h1, h2, _⟩) <;> exact ⟨j, h1, h2⟩
 ·rintro ⟨j, h1, h2⟩
  have hk : (opAt l j).kind = 1 ∨ (opAt l j).kind = 2 ∨ (opAt l j).kind = 3 := by
   have := hop j h1
   simp [opOk] at this
   omega
  rcases hk with h | h | h
  ·exact .inl (.inl ⟨j, h1, h2, h⟩)
  ·exact .inl (.inr ⟨j, h1, h2, h⟩)
  ·exact .inr ⟨j, h1, h2, h⟩
theorem textHas_no {l : List POp} (hok : tblOps l = true) {s : ByteArray} (h0 : 0 < s.size) (h : isSg (byteAt s 0) = false) : textHas l s = false := by
 have hop : ∀ j, j < l.length → opOk (opAt l j) = true := by simpa [tblOps] using hok
 simp only [textHas, List.any_eq_false, List.mem_range, decide_eq_true_eq]
 rintro j hj rfl
 have := hop j hj
 simp only [opOk, sgOk, sgAll, Bool.and_eq_true, List.all_eq_true, List.mem_range] at this
 have := this.1.1.1 0 h0
 rw [h] at this
 cases this
theorem textHas_none {l : List POp} (hok : tblOps l = true) {s : ByteArray} (h0 : s.size = 0) : textHas l s = false := by
 have hop : ∀ j, j < l.length → opOk (opAt l j) = true := by simpa [tblOps] using hok
 simp only [textHas, List.any_eq_false, List.mem_range, decide_eq_true_eq]
 rintro j hj rfl
 have := hop j hj
 simp only [opOk, sgOk, Bool.and_eq_true, decide_eq_true_eq] at this
 omega
theorem longF_eq {l : List POp} {z : ByteArray} {i m : Nat} (h1 : 1 ≤ m) (hm : m = 1 ∨ kindZ l (z.extract i (i + m)) ≠ 6) : ∀ N, m ≤ N → (∀ n, m < n → n ≤ N → kindZ l (z.extract i (i + n)) = 6) → longF l z i N = m
 | 0, h, _ => by omega
 | N + 1, h, h2 => by
  unfold longF
  by_cases e : m = N + 1
  ·subst e
   split
   ·omega
   ·rename_i hN
    rw [if_pos (hm.resolve_left (by omega))]
  ·rw [if_neg (by omega), if_neg (by rw [h2 (N + 1) (by omega) (by omega)]; simp)]
   exact longF_eq h1 hm N (by omega) fun n a b => h2 n a (by omega)
theorem opFront_none {l : List POp} {s : ByteArray} : ∀ K, (∀ k, k ≤ K → textHas l (s.extract 0 k) = false) → opFront l s K = (6, 1)
 | 0, _ => rfl
 | K + 1, h => by
  unfold opFront
  rw [if_neg (by rw [h (K + 1) (by omega)]; simp)]
  exact opFront_none K fun k hk => h k (by omega)
theorem opFront_long {l : List POp} {z : ByteArray} {i : Nat} (hk : ∀ n, 1 ≤ n → i + n ≤ z.size → kindZ l (z.extract i (i + n)) = if textHas l (z.extract i (i + n)) then 3 else 6) : ∀ N, i + (N + 1) ≤ z.size → opFront l (z.extract i z.size) (N + 1) = (kindZ l (z.extract i (i + longF l z i (N + 1))), longF l z i (N + 1))
 | 0, h => by
  have e : longF l z i (0 + 1) = 1 := by simp [longF]
  rw [e, hk 1 (by omega) (by omega)]
  simp only [opFront, extract_extract0 z i (0 + 1) (by omega)]
  cases textHas l (z.extract i (i + (0 + 1))) <;> rfl
 | N + 1, h => by
  have ih := opFront_long hk N (by omega)
  have h1 := hk (N + 1 + 1) (by omega) (by omega)
  unfold opFront
  rw [extract_extract0 z i (N + 1 + 1) (by omega)]
  cases ht : textHas l (z.extract i (i + (N + 1 + 1)))
  ·rw [ht] at h1
   have e : longF l z i (N + 1 + 1) = longF l z i (N + 1) := by
    conv => lhs; unfold longF
    rw [if_neg (by omega), if_neg (by rw [h1]; simp)]
   rw [e, ← ih]; rfl
  ·rw [ht] at h1
   have e : longF l z i (N + 1 + 1) = N + 1 + 1 := by
    conv => lhs; unfold longF
    rw [if_neg (by omega), if_pos (by rw [h1]; decide)]
   rw [e, h1]; rfl
theorem front_eq (l : List POp) (hok : tblOps l = true) (z : ByteArray) (i : Nat) (hi : i < z.size) : front l (z.extract i z.size) = (kindZ l (z.extract i (i + longest l z i)), longest l z i) := by
 have hr := byteAt_range z i
 have e0 : byteAt (z.extract i z.size) 0 = byteAt z i := byteAt_extract (by omega) (by omega)
 have b0 : ∀ n, 1 ≤ n → i + n ≤ z.size → byteAt (z.extract i (i + n)) 0 = byteAt z i := fun n h1 h2 => byteAt_extract (by omega) (by omega)
 have hs : (z.extract i z.size).size = z.size - i := by rw [ByteArray.size_extract]; omega
 unfold front
 rw [e0, run_extract, run_extract, hs]
 cases hd : isDg (byteAt z i) with
 | true =>
  obtain ⟨a1, a2, a3⟩ := isDg_no hr hd
  have a4 := isSg_no hr (.inl hd)
  have hN : reachZ z i = 1 + run alnum z (i + 1) := by simp [reachZ, a4, alnum, hd]
  have hle := run_mono (p := isDg) (q := alnum) (fun c h => by simp [alnum, h]) z (i + 1)
  have hrl := reachZ_le z i hi
  have kd : ∀ n, 1 ≤ n → i + n ≤ z.size → kindZ l (z.extract i (i + n)) = if numZ (z.extract i (i + n)) then 1 else 6 := by
   intro n h1 h2
   have hsz := size_ext h2
   have q1 : namZ (z.extract i (i + n)) = false := namZ_no (by omega) (by rw [b0 n h1 h2]; exact a1)
   have q2 : z.extract i (i + n) ≠ ⟨#[40]⟩ := byte_ne (by rw [b0 n h1 h2]; exact a2)
   have q3 : z.extract i (i + n) ≠ ⟨#[41]⟩ := byte_ne (by rw [b0 n h1 h2]; exact a3)
   have q4 : isOpZ l (z.extract i (i + n)) = false := by rw [isOpZ_has hok]; exact textHas_no hok (by omega) (by rw [b0 n h1 h2]; exact a4)
   simp only [kindZ, q1, q4, if_neg q2, if_neg q3]
   rfl
  have hlong : longest l z i = 1 + run isDg z (i + 1) := by
   unfold longest
   have hnum : kindZ l (z.extract i (i + (1 + run isDg z (i + 1)))) = 1 := by
    rw [kd _ (by omega) (by omega), if_pos]
    have hsz := size_ext (z := z) (i := i) (n := 1 + run isDg z (i + 1)) (by omega)
    simp only [numZ, Bool.and_eq_true, decide_eq_true_eq]
    refine ⟨all_true fun j hj => ?_, by omega⟩
    rw [hsz] at hj
    rw [byteAt_extract (by omega) (by omega)]
    cases j with
    | zero => exact hd
    | succ j =>
     have := run_all isDg z (i + 1) j (by omega)
     rw [show i + (j + 1) = i + 1 + j by omega]; exact this
   refine longF_eq (by omega) (.inr (by rw [hnum]; decide)) _ (by omega) fun n h1 h2 => ?_
   rw [kd n (by omega) (by omega), if_neg]
   have hst := run_stop isDg z (i + 1) (by omega)
   have hsz := size_ext (z := z) (i := i) (n := n) (by omega)
   unfold numZ
   rw [all_false (i := 1 + run isDg z (i + 1)) (by omega) (by rw [byteAt_extract (by omega) (by omega), show i + (1 + run isDg z (i + 1)) = i + 1 + run isDg z (i + 1) by omega]; exact hst)]
   simp
  rw [if_pos rfl, hlong]
  refine Prod.ext ?_ rfl
  rw [kd _ (by omega) (by omega), if_pos]
  have hsz := size_ext (z := z) (i := i) (n := 1 + run isDg z (i + 1)) (by omega)
  simp only [numZ, Bool.and_eq_true, decide_eq_true_eq]
  refine ⟨all_true fun j hj => ?_, by omega⟩
  rw [hsz] at hj
  rw [byteAt_extract (by omega) (by omega)]
  cases j with
  | zero => exact hd
  | succ j =>
   have := run_all isDg z (i + 1) j (by omega)
   rw [show i + (j + 1) = i + 1 + j by omega]; exact this
 | false =>
  rw [if_neg (by simp)]
  cases hl : isLt (byteAt z i) with
  | true =>
   obtain ⟨a2, a3⟩ := isLt_no hr hl
   have a4 := isSg_no hr (.inr (.inl hl))
   have hN : reachZ z i = 1 + run alnum z (i + 1) := by simp [reachZ, a4, alnum, hl]
   have hrl := reachZ_le z i hi
   have hk : kindZ l (z.extract i (i + (1 + run alnum z (i + 1)))) = 2 := by
    have hsz := size_ext (z := z) (i := i) (n := 1 + run alnum z (i + 1)) (by omega)
    have q1 : numZ (z.extract i (i + (1 + run alnum z (i + 1)))) = false := numZ_no (by omega) (by rw [b0 _ (by omega) (by omega)]; exact hd)
    have q2 : namZ (z.extract i (i + (1 + run alnum z (i + 1)))) = true := by
     simp only [namZ, Bool.and_eq_true, decide_eq_true_eq]
     refine ⟨all_true fun j hj => ?_, by omega⟩
     rw [hsz] at hj
     unfold namAt
     rw [byteAt_extract (by omega) (by omega)]
     cases j with
     | zero => simp [hl]
     | succ j =>
      have := run_all alnum z (i + 1) j (by omega)
      rw [show i + (j + 1) = i + 1 + j by omega]
      simpa [alnum] using this
    simp only [kindZ, q1, q2]; rfl
   have hlong : longest l z i = 1 + run alnum z (i + 1) := by
    unfold longest
    rw [hN]
    exact longF_eq (by omega) (.inr (by rw [hk]; decide)) _ (by omega) fun n h1 h2 => by omega
   rw [if_pos rfl, hlong, hk]
  | false =>
   rw [if_neg (by simp)]
   have kd : ∀ n, 1 ≤ n → i + n ≤ z.size → kindZ l (z.extract i (i + n)) = if z.extract i (i + n) = ⟨#[40]⟩ then 4 else if z.extract i (i + n) = ⟨#[41]⟩ then 5 else if textHas l (z.extract i (i + n)) then 3 else 6 := by
    intro n h1 h2
    have hsz := size_ext h2
    have q1 : numZ (z.extract i (i + n)) = false := numZ_no (by omega) (by rw [b0 n h1 h2]; exact hd)
    have q2 : namZ (z.extract i (i + n)) = false := namZ_no (by omega) (by rw [b0 n h1 h2]; exact hl)
    simp only [kindZ, q1, q2, isOpZ_has hok]
    rfl
   have reach1 : isSg (byteAt z i) = false → reachZ z i = 1 := fun h => by simp [reachZ, h, alnum, hd, hl]
   have long1 : isSg (byteAt z i) = false → longest l z i = 1 := fun h => by rw [longest, reach1 h]; simp [longF]
   by_cases h40 : byteAt z i = 40
   ·rw [if_pos h40, long1 (isSg_no hr (.inr (.inr (.inl h40)))), kd 1 (by omega) (by omega), if_pos (byte_one (size_ext (by omega)) (by rw [b0 1 (by omega) (by omega)]; exact h40))]
   ·rw [if_neg h40]
    by_cases h41 : byteAt z i = 41
    ·rw [if_pos h41, long1 (isSg_no hr (.inr (.inr (.inr h41)))), kd 1 (by omega) (by omega), if_neg (byte_ne (by rw [b0 1 (by omega) (by omega)]; exact h40)), if_pos (byte_one (size_ext (by omega)) (by rw [b0 1 (by omega) (by omega)]; exact h41))]
    ·rw [if_neg h41]
     have kd' : ∀ n, 1 ≤ n → i + n ≤ z.size → kindZ l (z.extract i (i + n)) = if textHas l (z.extract i (i + n)) then 3 else 6 := by
      intro n h1 h2
      rw [kd n h1 h2, if_neg (byte_ne (by rw [b0 n h1 h2]; exact h40)), if_neg (byte_ne (by rw [b0 n h1 h2]; exact h41))]
     cases hsg : isSg (byteAt z i) with
     | true =>
      have hN : reachZ z i = if z.size - i < 16 then z.size - i else 16 := by simp [reachZ, hsg]
      have hrl := reachZ_le z i hi
      unfold longest
      rw [← hN]
      obtain ⟨N, hN2⟩ : ∃ N, reachZ z i = N + 1 := ⟨reachZ z i - 1, by omega⟩
      rw [hN2]
      exact opFront_long kd' N (by omega)
     | false =>
      rw [long1 hsg, kd' 1 (by omega) (by omega), textHas_no hok (by rw [size_ext (by omega)]; omega) (by rw [b0 1 (by omega) (by omega)]; exact hsg)]
      refine opFront_none _ fun k hk => ?_
      have hk2 : k ≤ z.size - i := by split at hk <;> omega
      rw [extract_extract0 z i k (by omega)]
      cases k with
      | zero => exact textHas_none hok (by rw [size_ext (by omega)])
      | succ k => exact textHas_no hok (by rw [size_ext (by omega)]; omega) (by rw [b0 _ (by omega) (by omega)]; exact hsg)
open Go.Maps (Keyed)
def AtIs (l : List POp) (i : Nat) (es : List (Value × Value)) : Prop := (∀ j, j < i → (mget es (placeV (opAt l j))).isSome = true) ∧ ∀ x v, mget es x = some v → ∃ j, j < i ∧ x = placeV (opAt l j) ∧ v = opV (opAt l j)
def TextIs (l : List POp) (i : Nat) (es : List (Value × Value)) : Prop := (∀ j, j < i → (mget es (.string (opAt l j).text)).isSome = true) ∧ ∀ x v, mget es x = some v → (∃ j, j < i ∧ x = .string (opAt l j).text) ∧ ∃ n, v = .int .i64 n
theorem atIs_step {l : List POp} {i : Nat} {es : List (Value × Value)} (h : AtIs l i es) : AtIs l (i + 1) (mput es (placeV (opAt l i)) (opV (opAt l i))) := by
 refine ⟨fun j hj => ?_, fun x v hv => ?_⟩
 ·rw [mget_mput]
  split
  ·rfl
  ·rename_i hne
   rcases Nat.lt_succ_iff_lt_or_eq.mp hj with hj | rfl
   ·exact h.1 j hj
   ·exact absurd rfl hne
 ·rw [mget_mput] at hv
  split at hv
  ·rename_i e
   cases hv
   exact ⟨i, by omega, e.symm, rfl⟩
  ·obtain ⟨j, hj, e⟩ := h.2 x v hv
   exact ⟨j, by omega, e⟩
theorem textIs_step {l : List POp} {i : Nat} {es : List (Value × Value)} (h : TextIs l i es) (n : Int) : TextIs l (i + 1) (mput es (.string (opAt l i).text) (.int .i64 n)) := by
 refine ⟨fun j hj => ?_, fun x v hv => ?_⟩
 ·rw [mget_mput]
  split
  ·rfl
  ·rename_i hne
   rcases Nat.lt_succ_iff_lt_or_eq.mp hj with hj | rfl
   ·exact h.1 j hj
   ·exact absurd rfl hne
 ·rw [mget_mput] at hv
  split at hv
  ·rename_i e
   cases hv
   exact ⟨⟨i, by omega, e.symm⟩, n, rfl⟩
  ·obtain ⟨⟨j, hj, e⟩, m⟩ := h.2 x v hv
   exact ⟨⟨j, by omega, e⟩, m⟩
theorem c_indexOf (l : List POp) (hl : l.length ≤ 9223372036854775807) (hw : opsWf l) : VProc Tryz.prog 43 [.agg [.sl 4 l.length (opCells l)]] [] [] (fun av mem maps => ∃ b1 b2 e1 e2, av = .agg [.lit (.map (some b1)), .lit (.map (some b2))] ∧ mem = [] ∧ maps = [(b2, ⟨9, e2⟩), (b1, ⟨151, e1⟩)] ∧ b1 ≠ b2 ∧ AtIs l l.length e1 ∧ TextIs l l.length e2) := by
 have cl : ∀ (i : Nat) (c : AV), i < l.length → c ∈ opCells l i → Closed c := fun i c _ h => opClosed l i c h
 refine vproc_start Tryz.func43 (by kernel_rfl) rfl (by simp [Tryz.ntmps43]) ?_; simp only [Tryz.ntmps43, Tryz.results43]; simp [go_sem]
 refine fun b1 b2 hb => ⟨by omega, ?_⟩
 have hb' : ¬ b2 = b1 := fun e => hb e.symm
 refine vc_loop (fun p : Nat × List (Value × Value) × List (Value × Value) => p.1 ≤ l.length ∧ AtIs l p.1 p.2.1 ∧ TextIs l p.1 p.2.2) (fun p => l.length - p.1)
  (fun p => ⟨[(2, .ptr 1 2 0 0), (3, .ptr 2 2 0 0), (10, .sl 4 l.length (opCells l)), (11, .lit (.int .i64 l.length)), (12, .lit (.int .i64 p.1))],
   [none, some ⟨70, 2, 1, fun _ => [.lit (.map none), .lit (.map none)]⟩, some ⟨70, 2, 1, fun _ => [.lit (.map (some b1)), .lit (.map (some b2))]⟩], [(b2, ⟨9, p.2.2⟩), (b1, ⟨151, p.2.1⟩)], 0⟩) ⟨(0, [], []), ⟨by omega, ⟨by simp, by simp [mget]⟩, by simp, by simp [mget]⟩, ?_⟩ (fun p hp => ?_)
 ·simp [go_sem]
  exact ⟨fun e => hb e.symm, cl⟩
 ·obtain ⟨i, e1, e2⟩ := p
  simp only at hp
  simp [go_sem, opCells_at]
  refine ⟨fun h => ⟨h, vc_drawn [5] (.q 0 <| .q 1 <| .q 2 <| .q 4 <| .or 3 (.or 5 (.done) (.nil)) (.nil)) (by kernel_rfl) ?_⟩, fun h => ?_⟩
  ·simp [go_sem]
   refine vcallV_val (c_placeOf (opAt l i)) ?_ ?_ ?_
   ·simp [go_sem, POp.cells]
   ·simp [go_sem]
   ·simp [go_sem, hb, hb']
    refine vmsetK_use keyedPlace (keyPlace (hw i h)) ?_
    simp [go_sem, hb, hb']
    simp only [placeV_fold, opV_fold]
    refine vlookK_use keyedString (keyString (hw i h)) _ zeroInt ?_
    have fin : ∀ n : Int, ∃ j es1 es2, (j ≤ l.length ∧ AtIs l j es1 ∧ TextIs l j es2) ∧ l.length - j < l.length - i ∧ (mput e2 (.string (opAt l i).text) (.int .i64 n) = es2 ∧ mput e1 (placeV (opAt l i)) (opV (opAt l i)) = es1) ∧ ((∀ (i : Nat) (c : AV), i < l.length → c ∈ opCells l i → Closed c) ∧ IntKind.i64.wrap ((i : Int) + 1) = j) := fun n =>
     ⟨i + 1, _, _, ⟨by omega, atIs_step hp.2.1, textIs_step hp.2.2 n⟩, by omega, ⟨rfl, rfl⟩, cl, wrap_succ (by omega)⟩
    cases hm : mget e2 (.string (opAt l i).text) with
    | none =>
     simp [go_sem, hb, hb']
     refine vmsetK_use keyedString (keyString (hw i h)) ?_
     simp [go_sem, hb, hb']
     exact fin _
    | some v =>
     obtain ⟨_, n, rfl⟩ := hp.2.2.2 _ _ hm
     simp [go_sem, hb, hb']
     refine vmsetK_use keyedString (keyString (hw i h)) ?_
     simp [go_sem, hb, hb']
     exact fin _
  ·have hi : i = l.length := by omega
   subst hi
   refine ⟨rfl, [], [], by simp, by simp, by simp [go_sem], by simp [go_sem], by simp [go_sem], ?_⟩
   simp [go_sem]
   exact ⟨b1, b2, ⟨rfl, rfl⟩, e1, e2, ⟨⟨rfl, rfl⟩, rfl, rfl⟩, hb, hp.2⟩
theorem textIs_has {l : List POp} {es : List (Value × Value)} (h : TextIs l l.length es) (z : ByteArray) : (mget es (.string z)).isSome = textHas l z := by
 cases e : textHas l z with
 | true =>
  simp only [textHas, List.any_eq_true, List.mem_range, decide_eq_true_eq] at e
  obtain ⟨j, hj, rfl⟩ := e
  exact h.1 j hj
 | false =>
  rw [Bool.eq_false_iff]
  intro h1
  obtain ⟨v, hv⟩ := Option.isSome_iff_exists.1 h1
  obtain ⟨⟨j, hj, e2⟩, _⟩ := h.2 _ v hv
  simp only [textHas, List.any_eq_false, List.mem_range, decide_eq_true_eq] at e
  simp only [Value.string.injEq] at e2
  exact e j hj e2.symm
theorem c_front (l : List POp) (b1 b2 : Nat) (es e1 : List (Value × Value)) (h : TextIs l l.length es) (hb : ¬ b1 = b2) (z : ByteArray) (hz : 0 < z.size ∧ z.size ≤ 1048576) : VProc Tryz.prog 93 [.agg [.lit (.map (some b1)), .lit (.map (some b2))], .lit (.string z)] [] [(b2, ⟨9, es⟩)] (fun av mem maps => av = .tup [.lit (.int .i64 (front l z).1), .lit (.int .i64 (front l z).2)] ∧ mem = [] ∧ maps = [(b2, ⟨9, es⟩)]) := by
 refine vproc_start Tryz.func93 (by kernel_rfl) rfl (by simp [Tryz.ntmps93]) ?_; simp only [Tryz.ntmps93, Tryz.results93]; simp [go_sem]
 have fin : ∀ (t : List (Nat × AV)) (m : List (Option Ob)) (k : Int) (n : Nat), front l z = (k, n) → vendP [(b2, ⟨9, es⟩)] (fun av mem maps => av = .tup [.lit (.int .i64 (front l z).1), .lit (.int .i64 (front l z).2)] ∧ mem = [] ∧ maps = [(b2, ⟨9, es⟩)]) ⟨t, m, [(b2, ⟨9, es⟩)], 0⟩ (.tup [.lit (.int .i64 k), .lit (.int .i64 n)]) := by
  intro t m k n h3
  refine ⟨rfl, [], [], by simp, by simp, by simp [go_sem], by simp [go_sem], by simp [go_sem], ?_⟩
  simp [go_sem, h3]
 refine ⟨hz.1, vcall_pure (c_isDigit (byteAt z 0)) ?_ ?_⟩
 ·simp [go_sem]
 ·simp [go_sem]
  refine ⟨fun e1 => ?_, fun e1 => vcall_pure (c_isLetter (byteAt z 0)) ?_ ?_⟩
  ·refine vc_loop (fun n : Nat => 1 ≤ n ∧ n ≤ z.size ∧ 1 + run isDg z 1 = n + run isDg z n) (fun n => z.size - n) (fun n => ⟨[(1, .lit (.string z)), (6, .lit (.int .i64 n))], [], [(b2, ⟨9, es⟩)], 0⟩) ⟨1, ⟨by omega, by omega, rfl⟩, ?_⟩ (fun n hn => ?_)
   ·simp [go_sem]
   ·simp [go_sem]
    refine ⟨fun h1 => ⟨h1, vcall_pure (c_isDigit (byteAt z n)) ?_ ?_⟩, fun h1 => ?_⟩
    ·simp [go_sem]
    ·simp [go_sem]
     refine ⟨fun e => ⟨n + 1, ⟨by omega, by omega, ?_⟩, by omega, wrap_succ (by omega)⟩, fun e => fin _ _ _ _ ?_⟩
     ·rw [hn.2.2, run_yes h1 e]; omega
     ·simp only [front, e1, if_true, hn.2.2, run_no h1 e]; rfl
    ·refine fin _ _ _ _ ?_
     simp only [front, e1, if_true, hn.2.2, run_end (show z.size ≤ n by omega)]; rfl
  ·simp [go_sem]
  ·simp [go_sem]
   refine ⟨fun e2 => ?_, fun e2 => ⟨fun e3 => fin _ _ _ 1 ?_, fun e3 => ⟨fun e4 => fin _ _ _ 1 ?_, fun e4 => ?_⟩⟩⟩
   ·refine vc_loop (fun n : Nat => 1 ≤ n ∧ n ≤ z.size ∧ 1 + run alnum z 1 = n + run alnum z n) (fun n => z.size - n) (fun n => ⟨[(1, .lit (.string z)), (6, .lit (.int .i64 n))], [], [(b2, ⟨9, es⟩)], 0⟩) ⟨1, ⟨by omega, by omega, rfl⟩, ?_⟩ (fun n hn => ?_)
    ·simp [go_sem]
    ·simp [go_sem]
     have done_ : n < z.size → alnum (byteAt z n) = true → ∃ m : Nat, (1 ≤ m ∧ m ≤ z.size ∧ 1 + run alnum z 1 = m + run alnum z m) ∧ z.size - m < z.size - n ∧ IntKind.i64.wrap ((n : Int) + 1) = m := fun h1 e => ⟨n + 1, ⟨by omega, by omega, by rw [hn.2.2, run_yes h1 e]; omega⟩, by omega, wrap_succ (by omega)⟩
     refine ⟨fun h1 => ⟨h1, vcall_pure (c_isLetter (byteAt z n)) ?_ ?_⟩, fun h1 => ?_⟩
     ·simp [go_sem]
     ·cases eL : isLt (byteAt z n) with
      | true =>
       simp [go_sem]
       exact done_ h1 (by simp [alnum, eL])
      | false =>
       simp [go_sem]
       refine ⟨h1, vcall_pure (c_isDigit (byteAt z n)) ?_ ?_⟩
       ·simp [go_sem]
       ·simp [go_sem]
        refine ⟨fun e => done_ h1 (by simp [alnum, e]), fun e => fin _ _ _ _ ?_⟩
        simp only [front, e1, e2, if_true, hn.2.2, run_no h1 (show alnum (byteAt z n) = false by simp [alnum, eL, e])]; rfl
     ·refine fin _ _ _ _ ?_
      simp only [front, e1, e2, if_true, hn.2.2, run_end (show z.size ≤ n by omega)]; rfl
   ·simp only [front, e1, e2, e3]; rfl
   ·simp only [front, e1, e2, e3, e4]; rfl
   ·have hf : ∀ k : Nat, opFront l z (if z.size < 16 then z.size else 16) = opFront l z k → front l z = opFront l z k := fun k hk => by
     simp only [front, e1, e2, if_neg e3, if_neg e4, hk]; rfl
    refine vc_loop (fun k : Nat => k ≤ z.size ∧ opFront l z (if z.size < 16 then z.size else 16) = opFront l z k) (fun k => k) (fun k => ⟨[(1, .lit (.string z)), (2, .ptr 0 2 0 0), (8, .lit (.int .i64 k))], [some ⟨70, 2, 1, fun _ => [.lit (.map (some b1)), .lit (.map (some b2))]⟩], [(b2, ⟨9, es⟩)], 0⟩) ⟨_, ⟨?_, rfl⟩, ?_⟩ (fun k hk => ?_)
    ·split <;> omega
    ·simp [go_sem]
     split <;> split <;> omega
    ·simp [go_sem]
     refine ⟨fun h1 => vc_drawn [] (.q 0 <| .q 1 <| .q 2 <| .q 3 <| .q 4 <| .q 5 <| .q 6 <| .q 7 <| .q 8 <| .q 9 <| .q 10 <| .done) (by kernel_rfl) ?_, fun h1 => ?_⟩
     ·simp [go_sem]
      refine ⟨hk.1, ?_⟩
      refine vlookK_use keyedString (keyString (by rw [ByteArray.size_extract]; simp only [maxLen]; omega)) _ zeroInt ?_
      simp [go_sem, textIs_has h]
      obtain ⟨m, rfl⟩ : ∃ m, k = m + 1 := ⟨k - 1, by omega⟩
      cases ht : textHas l (z.extract 0 (m + 1)) with
      | true =>
       simp [go_sem]
       refine fin _ _ 3 (m + 1) ?_
       rw [hf _ hk.2]
       simp only [opFront, ht, if_true]
      | false =>
       simp [go_sem]
       refine ⟨m, ⟨by omega, ?_⟩, by omega, wrap_i64 (by omega)⟩
       rw [hk.2]
       simp only [opFront, ht]
       rfl
     ·subst h1
      refine fin _ _ 6 1 ?_
      rw [hf _ hk.2]; rfl
end Go.Proofs.YtjdmmhcogmepaaaGreatDoor.V
namespace Go.Proofs.YtjdmmhcogmepaaaGreatDoor.V
open Go.RowKit
def intAt (l : List Int) (i : Nat) : Int := l.getD i 0
def intCells (l : List Int) (i : Nat) : List AV := [.lit (.int .i64 (intAt l i))]
theorem intCells_at (l : List Int) (i : Nat) : intCells l i = [.lit (.int .i64 (intAt l i))] := rfl
theorem intClosed (l : List Int) (i : Nat) (c : AV) (h : c ∈ intCells l i) : Closed c := by
 simp [intCells] at h
 subst h
 exact .lit _
def stAt (l : List POp) (t : List PTok) : Nat → Bool
 | 0 => false
 | i + 1 => decide ((tokAt t i).kind = 1) || decide ((tokAt t i).kind = 2) || decide ((tokAt t i).kind = 5) || (decide ((tokAt t i).kind = 3) && stAt l t i && opHas l (tokAt t i).text 3)
def openAt (t : List PTok) : Nat → Int
 | 0 => 0
 | i + 1 => openAt t i + (if (tokAt t i).kind = 4 then 1 else 0) - (if (tokAt t i).kind = 5 then 1 else 0)
theorem openAt_le (t : List PTok) : ∀ i : Nat, -(i : Int) ≤ openAt t i ∧ openAt t i ≤ i
 | 0 => by simp [openAt]
 | i + 1 => by
  have := openAt_le t i
  simp only [openAt]
  split <;> split <;> omega
def roleAt (l : List POp) (t : List PTok) (i : Nat) (b : Bool) : Int :=
 if b = false then
  if (tokAt t i).kind = 1 ∨ (tokAt t i).kind = 2 ∨ (tokAt t i).kind = 4 then 0
  else if (tokAt t i).kind = 3 ∧ opHas l (tokAt t i).text 1 = true then 1 else -1
 else if (tokAt t i).kind = 3 ∧ opHas l (tokAt t i).text 2 = true then 2
 else if (tokAt t i).kind = 3 ∧ opHas l (tokAt t i).text 3 = true then 3
 else if (tokAt t i).kind = 5 ∧ 0 < openAt t i then 0
 else if (tokAt t i).kind = 7 ∧ openAt t i = 0 ∧ i + 1 = t.length then 0 else -1
def rolesUp (l : List POp) (t : List PTok) (n : Nat) : List Int := (List.range n).map fun i => roleAt l t i (stAt l t i)
def boolCells (f : Nat → Bool) (i : Nat) : List AV := [.lit (.bool (f i))]
theorem boolCells_at (f : Nat → Bool) (i : Nat) : boolCells f i = [.lit (.bool (f i))] := rfl
theorem boolClosed (f : Nat → Bool) (i : Nat) (c : AV) (h : c ∈ boolCells f i) : Closed c := by
 simp [boolCells] at h
 subst h
 exact .lit _
@[go_sem] theorem boolOne (f : Nat → Bool) (i : Nat) : (boolCells f i).all oneAV = true := rfl
theorem c_l2Open (t : List PTok) (ht : t.length ≤ 9223372036854775807) (n : Nat) (hn : n ≤ t.length) (hn2 : n ≤ 1048576) : VFun Tryz.prog 136 [.sl 3 t.length (tokCells t), .lit (.int .i64 n)] (fun av obs => obs = [] ∧ av = .lit (.int .i64 (openAt t n))) := by
 have cl : ∀ (i : Nat) (c : AV), i < t.length → c ∈ tokCells t i → Closed c := fun i c _ h => tokClosed t i c h
 refine vfun_start Tryz.func136 (by kernel_rfl) rfl (by simp [Tryz.ntmps136]) ?_; simp only [Tryz.ntmps136, Tryz.results136]; simp [go_sem]
 refine vc_loop (fun i : Nat => i ≤ n) (fun i => n - i) (fun i => .of [(0, .sl 3 t.length (tokCells t)), (1, .lit (.int .i64 n)), (5, .lit (.int .i64 (openAt t i))), (6, .lit (.int .i64 i))] []) ⟨0, by omega, ?_⟩ (fun i hi => ?_)
 ·simp [go_sem, openAt]
  exact cl
 ·have ho := openAt_le t i
  have cl2 : ∀ (i : Nat) (c : AV), i < t.length → c = AV.lit (Value.int IntKind.i64 (tokAt t i).kind) ∨ c = AV.lit (Value.string (tokAt t i).gap) ∨ c = AV.lit (Value.string (tokAt t i).text) → Closed c := by
   rintro i c _ (rfl | rfl | rfl) <;> exact .lit _
  simp [go_sem, tokCells_at]
  refine ⟨fun h => ⟨by omega, fun e4 => ⟨by omega, fun e5 => by omega, fun e5 => ⟨i + 1, by omega, by omega, cl2, ?_, wrap_succ (by omega)⟩⟩, fun e4 => ⟨by omega, fun e5 => ⟨i + 1, by omega, by omega, cl2, ?_, wrap_succ (by omega)⟩, fun e5 => ⟨i + 1, by omega, by omega, cl2, ?_, wrap_succ (by omega)⟩⟩⟩, fun h => ?_⟩
  ·rw [wrap_i64 (by omega)]; simp only [openAt, if_pos e4, if_neg e5]; omega
  ·rw [wrap_i64 (by omega)]; simp only [openAt, if_neg e4, if_pos e5]; omega
  ·simp only [openAt, if_neg e4, if_neg e5]; omega
  ·have : i = n := by omega
   rw [this]
theorem c_l2States (l : List POp) (hl : l.length ≤ 9223372036854775807) (t : List PTok) (ht : t.length ≤ 1048576) : VFun Tryz.prog 110 [.agg [.sl 4 l.length (opCells l)], .sl 3 t.length (tokCells t)] (fun av obs => av = .own 0 ∧ obs = [⟨4, 1, t.length + 1, boolCells (stAt l t)⟩]) := by
 have cl : ∀ (i : Nat) (c : AV), i < l.length → c ∈ opCells l i → Closed c := fun i c _ h => opClosed l i c h
 have clt : ∀ (i : Nat) (c : AV), i < t.length → c ∈ tokCells t i → Closed c := fun i c _ h => tokClosed t i c h
 refine vfun_start Tryz.func110 (by kernel_rfl) rfl (by simp [Tryz.ntmps110]) ?_; simp only [Tryz.ntmps110, Tryz.results110]; simp [go_sem]
 refine vc_loopE (fun i : Nat => i ≤ t.length) (fun i => t.length - i) (fun i => .of [(1, .sl 3 t.length (tokCells t)), (2, .ptr 0 1 0 0), (5, .own 1), (6, .lit (.int .i64 i))] [some ⟨30, 1, 1, fun _ => [.sl 4 l.length (opCells l)]⟩, some ⟨4, 1, i + 1, boolCells (stAt l t)⟩]) ⟨0, by omega, ?_⟩ (fun i hi => ?_)
 ·refine ent_ks [0, 1] (by simp) (by simp) (by simp) (by simp) trivial ?_ ?_
  ·simp [go_sem]
   exact clt
  ·simp [go_sem]
   exact ⟨cl, .inl ⟨rfl, boolClosed _ _⟩⟩
 ·have cl2 : ∀ (i : Nat) (c : AV), i < t.length → c = AV.lit (Value.int IntKind.i64 (tokAt t i).kind) ∨ c = AV.lit (Value.string (tokAt t i).gap) ∨ c = AV.lit (Value.string (tokAt t i).text) → Closed c := by
   rintro i c _ (rfl | rfl | rfl) <;> exact .lit _
  have hst : ∀ v, stAt l t (i + 1) = v → ∀ j, j < i + 1 + 1 → joinF (i + 1) (boolCells (stAt l t)) (fun q => [[AV.lit (.bool v)]][q]?.getD []) j = boolCells (stAt l t) j := fun v hv j hj => by
   unfold joinF
   split
   ·rfl
   ·have e : j = i + 1 := by omega
    subst e
    simp [boolCells, hv]
  by_cases h : i < t.length
  ·by_cases k1 : (tokAt t i).kind = 1
   ·have hv : stAt l t (i + 1) = true := by simp [stAt, k1]
    simp [go_sem, tokCells_at, h, k1]
    refine ⟨by omega, vc_drawn [] (.q 0 <| .q 1 <| .q 2 <| .q 3 <| .q 4 <| .q 5 <| .q 6 <| .q 7 <| .q 8 <| .q 9 <| .q 10 <| .q 11 <| .q 12 <| .q 13 <| .q 14 <| .or 15 (.q 16 <| .q 17 <| .done) (.nil)) (by kernel_rfl) ?_⟩
    simp [go_sem, k1]
    refine ⟨by omega, by omega, i + 1, by omega, by omega, ?_⟩
    refine ent_ks [0, 3] (by simp) (by simp) (by simp) (by simp) trivial ?_ ?_
    ·simp [go_sem]
     exact ⟨clt, wrap_succ (by omega)⟩
    ·simp [go_sem]
     exact ⟨cl, .inl fun j hj => ⟨hst true hv j hj, boolClosed _ _⟩⟩
   ·by_cases k2 : (tokAt t i).kind = 2
    ·have hv : stAt l t (i + 1) = true := by simp [stAt, k2]
     simp [go_sem, tokCells_at, h, k2]
     refine ⟨by omega, vc_drawn [] (.q 0 <| .q 1 <| .q 2 <| .q 3 <| .q 4 <| .q 5 <| .q 6 <| .q 7 <| .q 8 <| .q 9 <| .q 10 <| .q 11 <| .q 12 <| .q 13 <| .q 14 <| .or 15 (.q 16 <| .q 17 <| .done) (.nil)) (by kernel_rfl) ?_⟩
     simp [go_sem, k2]
     refine ⟨by omega, by omega, i + 1, by omega, by omega, ?_⟩
     refine ent_ks [0, 3] (by simp) (by simp) (by simp) (by simp) trivial ?_ ?_
     ·simp [go_sem]
      exact ⟨clt, wrap_succ (by omega)⟩
     ·simp [go_sem]
      exact ⟨cl, .inl fun j hj => ⟨hst true hv j hj, boolClosed _ _⟩⟩
    ·by_cases k5 : (tokAt t i).kind = 5
     ·have hv : stAt l t (i + 1) = true := by simp [stAt, k5]
      simp [go_sem, tokCells_at, h, k5]
      refine ⟨by omega, vc_drawn [] (.q 0 <| .q 1 <| .q 2 <| .q 3 <| .q 4 <| .q 5 <| .q 6 <| .q 7 <| .q 8 <| .q 9 <| .q 10 <| .q 11 <| .q 12 <| .q 13 <| .q 14 <| .or 15 (.q 16 <| .q 17 <| .done) (.nil)) (by kernel_rfl) ?_⟩
      simp [go_sem, k5]
      refine ⟨by omega, by omega, i + 1, by omega, by omega, ?_⟩
      refine ent_ks [0, 3] (by simp) (by simp) (by simp) (by simp) trivial ?_ ?_
      ·simp [go_sem]
       exact ⟨clt, wrap_succ (by omega)⟩
      ·simp [go_sem]
       exact ⟨cl, .inl fun j hj => ⟨hst true hv j hj, boolClosed _ _⟩⟩
     ·by_cases k3 : (tokAt t i).kind = 3
      ·cases hb : stAt l t i with
       | false =>
        have hv : stAt l t (i + 1) = false := by simp [stAt, k3, hb]
        simp [go_sem, tokCells_at, h, k3, boolCells_at, hb]
        refine ⟨by omega, vc_drawn [] (.q 0 <| .q 1 <| .q 2 <| .q 3 <| .q 4 <| .q 5 <| .q 6 <| .q 7 <| .q 8 <| .q 9 <| .q 10 <| .q 11 <| .q 12 <| .q 13 <| .q 14 <| .or 15 (.q 16 <| .q 17 <| .done) (.nil)) (by kernel_rfl) ?_⟩
        simp [go_sem, k3, boolCells_at, hb]
        refine ⟨by omega, by omega, by omega, i + 1, by omega, by omega, ?_⟩
        refine ent_ks [0, 3] (by simp) (by simp) (by simp) (by simp) trivial ?_ ?_
        ·simp [go_sem]
         exact ⟨clt, wrap_succ (by omega)⟩
        ·simp [go_sem]
         exact ⟨cl, .inl fun j hj => ⟨hst false hv j hj, boolClosed _ _⟩⟩
       | true =>
        simp [go_sem, tokCells_at, h, k3, boolCells_at, hb]
        refine ⟨by omega, vc_drawn [] (.q 0 <| .q 1 <| .q 2 <| .q 3 <| .q 4 <| .q 5 <| .q 6 <| .q 7 <| .q 8 <| .q 9 <| .q 10 <| .q 11 <| .q 12 <| .q 13 <| .q 14 <| .or 15 (.q 16 <| .q 17 <| .done) (.nil)) (by kernel_rfl) ?_⟩
        simp [go_sem, tokCells_at, k3, boolCells_at, hb]
        refine ⟨by omega, h, vcallV_use (c_l2Find l hl (tokAt t i).text 3) ?_ ?_⟩
        ·simp [go_sem]
         exact argSl_refl (by omega) cl
        ·rintro av obs ⟨rfl, r, rfl, hr⟩
         simp [go_sem]
         refine ⟨fun e1 => ?_, fun e1 => ?_⟩
         ·have ho : opHas l (tokAt t i).text 3 = true := hr.1 e1
          have hv : stAt l t (i + 1) = true := by simp [stAt, k3, hb, ho]
          refine ⟨by omega, by omega, i + 1, by omega, by omega, ?_⟩
          refine ent_ks [0, 3] (by simp) (by simp) (by simp) (by simp) trivial ?_ ?_
          ·simp [go_sem]
           exact ⟨clt, wrap_succ (by omega)⟩
          ·simp [go_sem]
           exact ⟨cl, .inl fun j hj => ⟨hst true hv j hj, boolClosed _ _⟩⟩
         ·have ho : opHas l (tokAt t i).text 3 = false := by
           rw [Bool.eq_false_iff]
           exact fun e2 => absurd (hr.2 e2) (by omega)
          have hv : stAt l t (i + 1) = false := by simp [stAt, k3, hb, ho]
          refine ⟨by omega, by omega, i + 1, by omega, by omega, ?_⟩
          refine ent_ks [0, 3] (by simp) (by simp) (by simp) (by simp) trivial ?_ ?_
          ·simp [go_sem]
           exact ⟨clt, wrap_succ (by omega)⟩
          ·simp [go_sem]
           exact ⟨cl, .inl fun j hj => ⟨hst false hv j hj, boolClosed _ _⟩⟩
      ·have hv : stAt l t (i + 1) = false := by simp [stAt, k1, k2, k3, k5]
       have q1 : ((tokAt t i).kind == 1) = false := by simpa using k1
       have q2 : ((tokAt t i).kind == 2) = false := by simpa using k2
       have q3 : ((tokAt t i).kind == 3) = false := by simpa using k3
       have q5 : ((tokAt t i).kind == 5) = false := by simpa using k5
       simp [go_sem, tokCells_at, h, q1, q2, q3, q5]
       refine ⟨by omega, vc_drawn [] (.q 0 <| .q 1 <| .q 2 <| .q 3 <| .q 4 <| .q 5 <| .q 6 <| .q 7 <| .q 8 <| .q 9 <| .q 10 <| .q 11 <| .q 12 <| .q 13 <| .q 14 <| .or 15 (.q 16 <| .q 17 <| .done) (.nil)) (by kernel_rfl) ?_⟩
       simp [go_sem, q1, q2, q3, q5]
       refine ⟨by omega, by omega, i + 1, by omega, by omega, ?_⟩
       refine ent_ks [0, 3] (by simp) (by simp) (by simp) (by simp) trivial ?_ ?_
       ·simp [go_sem]
        exact ⟨clt, wrap_succ (by omega)⟩
       ·simp [go_sem]
        exact ⟨cl, .inl fun j hj => ⟨hst false hv j hj, boolClosed _ _⟩⟩
  ·have e : i = t.length := by omega
   simp [go_sem, h]
   refine ⟨by omega, ?_⟩
   rw [e]
   exact obsSame_one.mpr ⟨_, ⟨rfl, rfl, rfl, fun j hj => ⟨rfl, rfl⟩⟩, rfl⟩
theorem c_l2Role (l : List POp) (hl : l.length ≤ 9223372036854775807) (t : List PTok) (ht : t.length ≤ 1048576) (i : Nat) (hi : i < t.length) (b : Bool) : VFun Tryz.prog 111 [.agg [.sl 4 l.length (opCells l)], .sl 3 t.length (tokCells t), .lit (.int .i64 i), .lit (.bool b)] (fun av obs => obs = [] ∧ av = .lit (.int .i64 (roleAt l t i b))) := by
 have cl : ∀ (i : Nat) (c : AV), i < l.length → c ∈ opCells l i → Closed c := fun i c _ h => opClosed l i c h
 have clt : ∀ (i : Nat) (c : AV), i < t.length → c ∈ tokCells t i → Closed c := fun i c _ h => tokClosed t i c h
 have hopen := openAt_le t i
 refine vfun_start Tryz.func111 (by kernel_rfl) rfl (by simp [Tryz.ntmps111]) ?_; simp only [Tryz.ntmps111, Tryz.results111]; simp [go_sem]
 cases b with
 | false =>
  simp [go_sem, tokCells_at, hi]
  by_cases k1 : (tokAt t i).kind = 1
  ·simp [go_sem, k1, roleAt]
  ·by_cases k2 : (tokAt t i).kind = 2
   ·simp [go_sem, k1, k2, roleAt]
   ·by_cases k4 : (tokAt t i).kind = 4
    ·simp [go_sem, k1, k2, k4, roleAt]
    ·simp [go_sem, k1, k2, k4]
     refine vc_drawn [] (.q 0 <| .q 1 <| .q 2 <| .q 3 <| .q 4 <| .q 5 <| .q 6 <| .q 7 <| .q 8 <| .or 9 (.q 10 <| .q 11 <| .done) (.nil)) (by kernel_rfl) ?_
     by_cases k3 : (tokAt t i).kind = 3
     ·simp [go_sem, tokCells_at, k3]
      refine ⟨hi, vcallV_use (c_l2Find l hl (tokAt t i).text 1) ?_ ?_⟩
      ·simp [go_sem]
       exact argSl_refl (by omega) cl
      ·rintro av obs ⟨rfl, r, rfl, hr⟩
       simp [go_sem]
       refine ⟨fun e1 => ?_, fun e1 => ?_⟩
       ·have ho : opHas l (tokAt t i).text 1 = true := hr.1 e1
        simp [roleAt, k3, ho]
       ·have ho : opHas l (tokAt t i).text 1 = false := by
         rw [Bool.eq_false_iff]
         exact fun e2 => absurd (hr.2 e2) (by omega)
        simp [roleAt, k3, ho]
     ·have q3 : ((tokAt t i).kind == 3) = false := by simpa using k3
      simp [go_sem, q3]
      simp [roleAt, k1, k2, k3, k4]
 | true =>
  simp [go_sem, tokCells_at, hi]
  refine vc_drawn [] (.q 0 <| .q 1 <| .q 2 <| .q 3 <| .q 4 <| .q 5 <| .q 6 <| .q 7 <| .q 8 <| .or 9 (.q 10 <| .q 11 <| .done) (.nil)) (by kernel_rfl) ?_
  by_cases k3 : (tokAt t i).kind = 3
  ·simp [go_sem, tokCells_at, k3]
   refine ⟨hi, vcallV_use (c_l2Find l hl (tokAt t i).text 2) ?_ ?_⟩
   ·simp [go_sem]
    exact argSl_refl (by omega) cl
   ·rintro av obs ⟨rfl, r, rfl, hr⟩
    simp [go_sem]
    refine ⟨fun e1 => ?_, fun e1 => ?_⟩
    ·have ho : opHas l (tokAt t i).text 2 = true := hr.1 e1
     simp [roleAt, k3, ho]
    ·have ho : opHas l (tokAt t i).text 2 = false := by
      rw [Bool.eq_false_iff]
      exact fun e2 => absurd (hr.2 e2) (by omega)
     refine vc_drawn [] (.q 0 <| .q 1 <| .q 2 <| .q 3 <| .q 4 <| .q 5 <| .q 6 <| .q 7 <| .q 8 <| .or 9 (.q 10 <| .q 11 <| .done) (.nil)) (by kernel_rfl) ?_
     simp [go_sem, tokCells_at, k3]
     refine ⟨hi, vcallV_use (c_l2Find l hl (tokAt t i).text 3) ?_ ?_⟩
     ·simp [go_sem]
      exact argSl_refl (by omega) cl
     ·rintro av obs ⟨rfl, r2, rfl, hr2⟩
      simp [go_sem]
      refine ⟨fun e2 => ?_, fun e2 => ?_⟩
      ·have ho2 : opHas l (tokAt t i).text 3 = true := hr2.1 e2
       simp [roleAt, k3, ho, ho2]
      ·have ho2 : opHas l (tokAt t i).text 3 = false := by
        rw [Bool.eq_false_iff]
        exact fun e3 => absurd (hr2.2 e3) (by omega)
       simp [roleAt, k3, ho, ho2]
  ·have q3 : ((tokAt t i).kind == 3) = false := by simpa using k3
   simp [go_sem, q3]
   refine vc_drawn [] (.q 0 <| .q 1 <| .q 2 <| .q 3 <| .q 4 <| .q 5 <| .q 6 <| .q 7 <| .q 8 <| .or 9 (.q 10 <| .q 11 <| .done) (.nil)) (by kernel_rfl) ?_
   simp [go_sem, q3]
   by_cases k5 : (tokAt t i).kind = 5
   ·simp [go_sem, k5]
    refine vcall_pure (c_l2Open t (by omega) i (by omega) (by omega)) ?_ ?_
    ·simp [go_sem]
     exact argSl_refl (by omega) clt
    ·simp [go_sem]
     refine ⟨fun e => by simp [roleAt, k5, e], fun e => ?_⟩
     have : ¬ 0 < openAt t i := by omega
     simp [roleAt, k5, this]
   ·have q5 : ((tokAt t i).kind == 5) = false := by simpa using k5
    simp [go_sem, q5]
    by_cases k7 : (tokAt t i).kind = 7
    ·simp [go_sem, k7]
     refine vcall_pure (c_l2Open t (by omega) i (by omega) (by omega)) ?_ ?_
     ·simp [go_sem]
      exact argSl_refl (by omega) clt
     ·simp [go_sem]
      rw [wrap_i64 (by omega)]
      refine ⟨fun e => ⟨by omega, fun e2 => ?_, fun e2 => ?_⟩, fun e => by simp [roleAt, k7, e]⟩
      ·have : i + 1 = t.length := by omega
       simp [roleAt, k7, e, this]
      ·have : ¬ i + 1 = t.length := by omega
       simp [roleAt, k7, e, this]
    ·have q7 : ((tokAt t i).kind == 7) = false := by simpa using k7
     simp [go_sem, q7]
     simp [roleAt, k3, k5, k7]
def firstBad (l : List POp) (t : List PTok) : Option Nat := (List.range t.length).find? fun i => decide (roleAt l t i (stAt l t i) < 0)
def endsOk (t : List PTok) : Bool := decide (t.length ≠ 0) && decide ((tokAt t (t.length - 1)).kind = 7)
def rolesZ (l : List POp) (t : List PTok) : List Int × Int :=
 if tblOk l ≠ 0 then ([], 0) else match firstBad l t with
  | some i => ([], i)
  | none => if endsOk t then (rolesUp l t t.length, -1) else ([], t.length)
theorem firstBad_some {l : List POp} {t : List PTok} {i : Nat} (hi : i < t.length) (h : ∀ j, j < i → 0 ≤ roleAt l t j (stAt l t j)) (hb : roleAt l t i (stAt l t i) < 0) : firstBad l t = some i := by
 unfold firstBad
 rw [List.find?_range_eq_some]
 refine ⟨by simpa using hb, by simpa using hi, fun j hj => ?_⟩
 simpa using h j hj
theorem firstBad_none {l : List POp} {t : List PTok} (h : ∀ j, j < t.length → 0 ≤ roleAt l t j (stAt l t j)) : firstBad l t = none := by
 unfold firstBad
 rw [List.find?_eq_none]
 intro j hj
 have := h j (by simpa using hj)
 simp only [decide_eq_true_eq]
 omega
theorem rolesUp_succ (l : List POp) (t : List PTok) (n : Nat) : rolesUp l t (n + 1) = rolesUp l t n ++ [roleAt l t n (stAt l t n)] := by simp [rolesUp, List.range_succ]
theorem rolesUp_len (l : List POp) (t : List PTok) (n : Nat) : (rolesUp l t n).length = n := by simp [rolesUp]
theorem roleAt_range (l : List POp) (t : List PTok) (i : Nat) (b : Bool) : -1 ≤ roleAt l t i b ∧ roleAt l t i b ≤ 3 := by
 unfold roleAt
 split
 ·split
  ·omega
  ·split <;> omega
 ·split
  ·omega
  ·split
   ·omega
   ·split
    ·omega
    ·split <;> omega
theorem int_app1 (a : List Int) (x : Int) (i : Nat) (hi : i < a.length + 1) : joinF a.length (intCells a) (fun q => [[AV.lit (.int .i64 x)]][q]?.getD []) i = intCells (a ++ [x]) i := by
 unfold joinF
 split
 ·rename_i h
  simp [intCells, intAt, List.getD_eq_getElem?_getD, List.getElem?_append_left h]
 ·have e : i = a.length := by omega
  subst e
  simp [intCells, intAt, List.getD_eq_getElem?_getD]
@[go_sem] theorem intOne (a : List Int) (i : Nat) : (intCells a i).all oneAV = true := rfl
theorem c_specRoles (l : List POp) (hl : l.length ≤ 9223372036854775807) (hw : opsWf l) (t : List PTok) (ht : t.length ≤ 1048576) : VFun Tryz.prog 69 [.agg [.sl 4 l.length (opCells l)], .sl 3 t.length (tokCells t)] (fun av obs => av = .tup [.own 0, .lit (.int .i64 (rolesZ l t).2)] ∧ obs = [⟨3, 1, (rolesZ l t).1.length, intCells (rolesZ l t).1⟩]) := by
 have cl : ∀ (i : Nat) (c : AV), i < l.length → c ∈ opCells l i → Closed c := fun i c _ h => opClosed l i c h
 have clt : ∀ (i : Nat) (c : AV), i < t.length → c ∈ tokCells t i → Closed c := fun i c _ h => tokClosed t i c h
 refine vfun_start Tryz.func69 (by kernel_rfl) rfl (by simp [Tryz.ntmps69]) ?_; simp only [Tryz.ntmps69, Tryz.results69]; simp [go_sem]
 refine vcall_pure (c_specTableOk l hl hw) ?_ ?_
 ·simp [go_sem]
  exact argSl_refl (by omega) cl
 ·simp [go_sem]
  have none_ : ∀ (x : Int) (f : Nat → List AV), rolesZ l t = ([], x) → ObsSame [⟨3, 1, 0, f⟩] [⟨3, 1, (rolesZ l t).1.length, intCells (rolesZ l t).1⟩] ∧ x = (rolesZ l t).2 := fun x f h => by
   rw [h]
   exact ⟨obsSame_one.mpr ⟨⟨3, 1, 0, intCells []⟩, ⟨rfl, rfl, rfl, fun j hj => by simp at hj⟩, rfl⟩, rfl⟩
  refine ⟨fun h0 => none_ 0 _ (by simp [rolesZ, h0]), fun h0 => ?_⟩
  refine vcall_use (c_l2States l hl t ht) ?_ ?_
  ·simp [go_sem]
   exact ⟨argSl_refl (by omega) cl, argSl_refl (by omega) clt⟩
  ·rintro av obs ⟨rfl, rfl⟩
   simp [go_sem]
   refine vc_loopE (fun i : Nat => i ≤ t.length ∧ ∀ j, j < i → 0 ≤ roleAt l t j (stAt l t j)) (fun i => t.length - i) (fun i => .of [(1, .sl 3 t.length (tokCells t)), (2, .ptr 0 1 0 0), (6, .own 1), (7, .own 2), (8, .lit (.int .i64 i))] [some ⟨30, 1, 1, fun _ => [.sl 4 l.length (opCells l)]⟩, some ⟨3, 1, (rolesUp l t i).length, intCells (rolesUp l t i)⟩, some ⟨4, 1, t.length + 1, boolCells (stAt l t)⟩]) ⟨0, ⟨by omega, by simp⟩, ?_⟩ (fun i hi => ?_)
   ·refine ent_ks [0, 1, 2] (by simp) (by simp) (by simp) (by simp) trivial ?_ ?_
    ·simp [go_sem]
     exact clt
    ·simp [go_sem, rolesUp]
     exact ⟨cl, .inl fun j _ => boolClosed _ _⟩
   ·have hr := roleAt_range l t i (stAt l t i)
    have hlen := rolesUp_len l t i
    have hsucc := rolesUp_succ l t i
    simp [go_sem, tokCells_at]
    refine ⟨by omega, fun h => vc_drawn [] (.q 0 <| .q 1 <| .q 2 <| .q 3 <| .q 4 <| .q 5 <| .q 6 <| .or 7 (.q 8 <| .done) (.nil)) (by kernel_rfl) ?_, fun h => ?_⟩
    ·simp [go_sem, boolCells_at]
     refine ⟨by omega, by omega, vcallV_pure (c_l2Role l hl t ht i h (stAt l t i)) ?_ ?_⟩
     ·simp [go_sem]
      exact ⟨argSl_refl (by omega) cl, argSl_refl (by omega) clt⟩
     ·simp [go_sem, boolCells_at]
      refine ⟨fun e => none_ i _ ?_, fun e => ?_⟩
      ·have := firstBad_some h hi.2 e
       simp [rolesZ, h0, this]
      ·rw [hlen]
       refine ⟨by omega, by omega, i + 1, ⟨by omega, fun j hj => ?_⟩, by omega, ?_⟩
       ·rcases Nat.lt_succ_iff_lt_or_eq.mp hj with hj | rfl
        ·exact hi.2 j hj
        ·exact e
       ·refine ent_ks [0, 4, 2] (by simp) (by simp) (by simp) (by simp) trivial ?_ ?_
        ·simp [go_sem]
         exact ⟨clt, wrap_succ (by omega)⟩
        ·simp [go_sem, hsucc, hlen]
         refine ⟨cl, .inl fun j hj => ⟨?_, intClosed _ _⟩, .inl fun j _ => boolClosed _ _⟩
         have := int_app1 (rolesUp l t i) (roleAt l t i (stAt l t i)) j (by rw [hlen]; exact hj)
         rw [hlen] at this
         exact this
    ·have e : i = t.length := by omega
     subst e
     have hn := firstBad_none (l := l) (t := t) fun j hj => hi.2 j hj
     refine ⟨by omega, fun h1 => ?_, fun h1 => ?_⟩
     ·have hpos : 0 < t.length := List.length_pos_iff.2 h1
      have e2 : (IntKind.i64.wrap ((t.length : Int) - 1)) = ((t.length - 1 : Nat) : Int) := by rw [wrap_i64 (by omega)]; omega
      rw [e2]
      simp only [Int.toNat_natCast]
      refine ⟨by omega, by omega, by omega, fun e => ⟨by omega, none_ _ _ ?_⟩, fun e => ?_⟩
      ·simp [rolesZ, h0, hn, endsOk, e]
      ·have hz : rolesZ l t = (rolesUp l t t.length, -1) := by simp [rolesZ, h0, hn, endsOk, e]; omega
       rw [hz]
       exact ⟨obsSame_one.mpr ⟨_, ⟨rfl, rfl, rfl, fun j hj => ⟨rfl, rfl⟩⟩, rfl⟩, rfl⟩
     ·refine ⟨by omega, none_ _ _ ?_⟩
      rw [h1] at hn
      simp [rolesZ, h0, hn, endsOk, h1]
open Go.Maps (Keyed)
def noOp : POp := ⟨⟨#[]⟩, 0, 0, 0⟩
theorem zeroOpV : zeroIs Tryz.prog 133 (opV noOp) := fun w => Tryz.zeroValue133 w
def Uniq (l : List POp) : Prop := ∀ i j, i < l.length → j < l.length → (opAt l i).text = (opAt l j).text → ((opAt l i).kind == 1) = ((opAt l j).kind == 1) → opAt l i = opAt l j
theorem uniq_of_ok {l : List POp} (h : tblOk l = 0) : Uniq l := by
 have hc : tblClash l 3 = false := by
  unfold tblOk at h
  cases hh : tblClash l 3
  ·rfl
  ·rw [hh] at h
   split at h
   ·cases h
   ·split at h
    ·cases h
    ·simp at h
 intro i j hi hj e1 e2
 have no : ∀ i j, i < l.length → j < i → clash (opAt l i) (opAt l j) 3 = true → False := fun i j hi hj hcl => by
  have := (tblClash_iff l 3).2 ⟨i, hi, j, hj, hcl⟩
  rw [hc] at this
  cases this
 rcases Nat.lt_trichotomy i j with hlt | rfl | hlt
 ·exact (no j i hj hlt (by simp [clash, e1, e2])).elim
 ·rfl
 ·exact (no i j hi hlt (by simp [clash, e1, e2])).elim
theorem at_cases {l : List POp} {es : List (Value × Value)} (h : AtIs l l.length es) (z : ByteArray) (pre : Bool) :
  (mget es (.agg #[.string z, .bool pre]) = none ∧ ∀ j, j < l.length → ¬ ((opAt l j).text = z ∧ ((opAt l j).kind == 1) = pre)) ∨
  ∃ j, j < l.length ∧ mget es (.agg #[.string z, .bool pre]) = some (opV (opAt l j)) ∧ (opAt l j).text = z ∧ ((opAt l j).kind == 1) = pre := by
 cases hm : mget es (.agg #[.string z, .bool pre]) with
 | none =>
  refine .inl ⟨rfl, fun j hj e => ?_⟩
  have := h.1 j hj
  rw [placeV, e.1, e.2, hm] at this
  cases this
 | some v =>
  obtain ⟨j, hj, e1, e2⟩ := h.2 _ _ hm
  simp only [placeV, Value.agg.injEq, Array.mk.injEq, List.cons.injEq, Value.string.injEq, Value.bool.injEq, and_true] at e1
  exact .inr ⟨j, hj, by rw [e2], e1.1.symm, e1.2.symm⟩
theorem opHas_iff (l : List POp) (z : ByteArray) (k : Int) : opHas l z k = true ↔ ∃ j, j < l.length ∧ (opAt l j).text = z ∧ (opAt l j).kind = k := by
 simp [opHas]
theorem c_of (l : List POp) (hu : Uniq l) (b1 b2 : Nat) (es : List (Value × Value)) (h : AtIs l l.length es) (z : ByteArray) (hz : z.size ≤ maxLen) (k : Int) : VProc Tryz.prog 91 [.agg [.lit (.map (some b1)), .lit (.map (some b2))], .lit (.string z), .lit (.int .i64 k)] [] [(b1, ⟨151, es⟩)] (fun av mem maps => (∃ o : POp, av = .tup [.agg o.cells, .lit (.bool (opHas l z k))] ∧ (opHas l z k = true → ∃ j, j < l.length ∧ o = opAt l j ∧ o.text = z ∧ o.kind = k)) ∧ mem = [] ∧ maps = [(b1, ⟨151, es⟩)]) := by
 have fin : ∀ (t : List (Nat × AV)) (m : List (Option Ob)) (o : POp), (opHas l z k = true → ∃ j, j < l.length ∧ o = opAt l j ∧ o.text = z ∧ o.kind = k) → vendP [(b1, ⟨151, es⟩)] (fun av mem maps => (∃ o : POp, av = .tup [.agg o.cells, .lit (.bool (opHas l z k))] ∧ (opHas l z k = true → ∃ j, j < l.length ∧ o = opAt l j ∧ o.text = z ∧ o.kind = k)) ∧ mem = [] ∧ maps = [(b1, ⟨151, es⟩)]) ⟨t, m, [(b1, ⟨151, es⟩)], 0⟩ (.tup [.agg o.cells, .lit (.bool (opHas l z k))]) := by
  intro t m o ho
  refine ⟨rfl, [], [], by simp, by simp, by simp [go_sem, POp.cells], by simp [go_sem], by simp [go_sem], ?_⟩
  simp only [POp.cells]
  exact ⟨⟨o, rfl, ho⟩, by simp [go_sem], by simp⟩
 refine vproc_start Tryz.func91 (by kernel_rfl) rfl (by simp [Tryz.ntmps91]) ?_; simp only [Tryz.ntmps91, Tryz.results91]; simp [go_sem]
 refine vlookK_use keyedPlace (keyPlace hz) _ zeroOpV ?_
 rcases at_cases h z (k == 1) with ⟨h1, h3⟩ | ⟨j, hj, h1, h3, h4⟩
 ·rw [h1]
  have hno : opHas l z k = false := by
   rw [Bool.eq_false_iff]
   intro e
   obtain ⟨j, hj, e1, e2⟩ := (opHas_iff l z k).1 e
   exact h3 j hj ⟨e1, by rw [e2]⟩
  simp [go_sem, opV, noOp]
  refine vc_drawnE (⟨[(6, .ptr 0 4 0 0), (7, .lit (.bool false))], [some ⟨133, 4, 1, fun _ => noOp.cells⟩], [(b1, ⟨151, es⟩)], 0⟩) [8] (.q 0 <| .q 1 <| .q 2 <| .or 3 (.or 4 (.or 5 (.or 6 (.or 7 (.or 8 (.q 9 <| .done) (.nil)) (.or 8 (.q 7 <| .q 9 <| .done) (.nil))) (.or 8 (.q 6 <| .q 7 <| .q 9 <| .done) (.nil))) (.or 8 (.q 5 <| .q 6 <| .q 7 <| .q 9 <| .done) (.nil))) (.or 5 (.or 4 (.or 6 (.or 7 (.or 8 (.q 9 <| .done) (.nil)) (.or 8 (.q 7 <| .q 9 <| .done) (.nil))) (.or 8 (.q 6 <| .q 7 <| .q 9 <| .done) (.nil))) (.or 8 (.q 4 <| .q 6 <| .q 7 <| .q 9 <| .done) (.nil))) (.or 8 (.q 4 <| .q 5 <| .q 6 <| .q 7 <| .q 9 <| .done) (.nil)))) (.or 5 (.or 3 (.or 4 (.or 6 (.or 7 (.or 8 (.q 9 <| .done) (.nil)) (.or 8 (.q 7 <| .q 9 <| .done) (.nil))) (.or 8 (.q 6 <| .q 7 <| .q 9 <| .done) (.nil))) (.or 8 (.q 4 <| .q 6 <| .q 7 <| .q 9 <| .done) (.nil))) (.or 8 (.q 3 <| .q 4 <| .q 6 <| .q 7 <| .q 9 <| .done) (.nil))) (.or 8 (.q 3 <| .q 4 <| .q 5 <| .q 6 <| .q 7 <| .q 9 <| .done) (.nil)))) (by kernel_rfl) ?_ ?_
  ·simp [go_sem]
   repeat' apply And.intro
   all_goals
    refine ent_ks [1] (by simp) (by simp) (by simp) (by simp) (by simp [go_sem]) ?_ ?_
    ·simp [go_sem]
    ·simp [go_sem, noOp, POp.cells]
  ·have := fin [(6, .ptr 0 4 0 0), (7, .lit (.bool false))] [some ⟨133, 4, 1, fun _ => noOp.cells⟩] noOp (fun e => by rw [hno] at e; cases e)
   rw [hno] at this ⊢
   simp only [POp.cells, noOp] at this
   simp [go_sem, noOp, POp.cells] at this ⊢
   exact this
 ·rw [h1]
  have hyes : opHas l z k = ((opAt l j).kind == k) := by
   rw [Bool.eq_iff_iff, opHas_iff]
   simp only [beq_iff_eq]
   constructor
   ·rintro ⟨j', hj', e1, e2⟩
    have := hu j' j hj' hj (by rw [e1, h3]) (by rw [e2, h4])
    rw [← this]; exact e2
   ·exact fun e => ⟨j, hj, h3, e⟩
  have hfin := fin [(6, .ptr 0 4 0 0), (7, .lit (.bool ((opAt l j).kind == k)))] [some ⟨133, 4, 1, fun _ => (opAt l j).cells⟩] (opAt l j) (fun e => ⟨j, hj, rfl, h3, by rw [hyes] at e; simpa using e⟩)
  rw [hyes] at hfin ⊢
  simp [go_sem, opV]
  refine vc_drawnE (⟨[(6, .ptr 0 4 0 0), (7, .lit (.bool ((opAt l j).kind == k)))], [some ⟨133, 4, 1, fun _ => (opAt l j).cells⟩], [(b1, ⟨151, es⟩)], 0⟩) [8] (.q 0 <| .q 1 <| .q 2 <| .or 3 (.or 4 (.or 5 (.or 6 (.or 7 (.or 8 (.q 9 <| .done) (.nil)) (.or 8 (.q 7 <| .q 9 <| .done) (.nil))) (.or 8 (.q 6 <| .q 7 <| .q 9 <| .done) (.nil))) (.or 8 (.q 5 <| .q 6 <| .q 7 <| .q 9 <| .done) (.nil))) (.or 5 (.or 4 (.or 6 (.or 7 (.or 8 (.q 9 <| .done) (.nil)) (.or 8 (.q 7 <| .q 9 <| .done) (.nil))) (.or 8 (.q 6 <| .q 7 <| .q 9 <| .done) (.nil))) (.or 8 (.q 4 <| .q 6 <| .q 7 <| .q 9 <| .done) (.nil))) (.or 8 (.q 4 <| .q 5 <| .q 6 <| .q 7 <| .q 9 <| .done) (.nil)))) (.or 5 (.or 3 (.or 4 (.or 6 (.or 7 (.or 8 (.q 9 <| .done) (.nil)) (.or 8 (.q 7 <| .q 9 <| .done) (.nil))) (.or 8 (.q 6 <| .q 7 <| .q 9 <| .done) (.nil))) (.or 8 (.q 4 <| .q 6 <| .q 7 <| .q 9 <| .done) (.nil))) (.or 8 (.q 3 <| .q 4 <| .q 6 <| .q 7 <| .q 9 <| .done) (.nil))) (.or 8 (.q 3 <| .q 4 <| .q 5 <| .q 6 <| .q 7 <| .q 9 <| .done) (.nil)))) (by kernel_rfl) ?_ ?_
  ·simp [go_sem]
   repeat' apply And.intro
   all_goals
    refine ent_ks [1] (by simp) (by simp) (by simp) (by simp) (by simp [go_sem]) ?_ ?_
    ·simp [go_sem]
    ·simp [go_sem, POp.cells]
  ·simp only [POp.cells] at hfin
   simp [go_sem, POp.cells] at hfin ⊢
   exact hfin
end Go.Proofs.YtjdmmhcogmepaaaGreatDoor.V
namespace Go.Proofs.YtjdmmhcogmepaaaGreatDoor.V
open Go.RowKit
theorem tblOk_ops {l : List POp} (h : tblOk l = 0) : tblOps l = true := by
 unfold tblOk at h
 split at h
 ·cases h
 ·split at h
  ·cases h
  ·simp_all
theorem c_Lex (l : List POp) (hl : l.length ≤ 9223372036854775807) (hw : opsWf l) (z : ByteArray) (hz : z.size ≤ 1048576) : VFun Tryz.prog 49 [.agg [.sl 4 l.length (opCells l)], .lit (.string z)] (fun av obs => (lexOk l z = false ∧ av = .tup [.lit (.slice none 0 0), .lit (.bool false)] ∧ obs = []) ∨ (lexOk l z = true ∧ av = .tup [.own 0, .lit (.bool true)] ∧ obs = [⟨88, 3, (lexZ l z).length, tokCells (lexZ l z)⟩])) := by
 have cl : ∀ (i : Nat) (c : AV), i < l.length → c ∈ opCells l i → Closed c := fun i c _ h => opClosed l i c h
 refine vfun_start Tryz.func49 (by kernel_rfl) rfl (by simp [Tryz.ntmps49]) ?_; simp only [Tryz.ntmps49, Tryz.results49]; simp [go_sem]
 refine vcall_pure (c_TableOk l hl hw) ?_ ?_
 ·simp [go_sem]
  exact argSl_refl (by omega) cl
 ·simp [go_sem]
  refine ⟨fun h0 => ⟨fun h1 => by simp [lexOk]; omega, fun h1 => ?_⟩, fun h0 => by simp [lexOk, h0]⟩
  have hok : lexOk l z = true := by simp [lexOk, h0]; omega
  have hops := tblOk_ops h0
  have hz2 : z.size ≤ 20000 := by omega
  refine vcall_share [] (c_indexOf l hl hw) (by simp) ?_ ?_ ?_ ?_
  ·simp [go_sem]
   exact cl
  ·simp [go_sem]
  ·simp [go_sem]
  ·rintro av mem maps ⟨b1, b2, e1, e2, rfl, rfl, rfl, hb, hat, htx⟩
   have hb' : ¬ b2 = b1 := fun e => hb e.symm
   simp [go_sem]
   refine vc_loopE (fun p : List PTok × Nat => p.2 ≤ z.size ∧ p.1.length ≤ p.2 ∧ lexFrom l z 0 = p.1 ++ lexFrom l z p.2) (fun p => z.size - p.2) (fun p => ⟨[(1, .lit (.string z)), (6, .ptr 0 2 0 0), (7, .own 1), (8, .lit (.int .i64 p.2))], [some ⟨70, 2, 1, fun _ => [.lit (.map (some b1)), .lit (.map (some b2))]⟩, some ⟨88, 3, p.1.length, tokCells p.1⟩], [(b2, ⟨9, e2⟩), (b1, ⟨151, e1⟩)], 0⟩) ⟨([], 0), ⟨by omega, by simp, by simp⟩, ?_⟩ (fun p hp => ?_)
   ·refine ent_ks [1, 2] (by simp) (by simp) (by simp) (by simp) (by simp [go_sem, hb']) ?_ ?_
    ·simp [go_sem]
    ·simp [go_sem]
   ·obtain ⟨toks, f⟩ := p
    obtain ⟨hp1, hp2, hp3⟩ := hp
    simp only at hp1 hp2 hp3
    simp [go_sem]
    refine vc_loop (fun j : Nat => f ≤ j ∧ j ≤ z.size ∧ f + run isBl z f = j + run isBl z j) (fun j => z.size - j) (fun j => ⟨[(1, .lit (.string z)), (6, .ptr 0 2 0 0), (7, .own 1), (8, .lit (.int .i64 f)), (9, .lit (.int .i64 j))], [some ⟨70, 2, 1, fun _ => [.lit (.map (some b1)), .lit (.map (some b2))]⟩, some ⟨88, 3, toks.length, tokCells toks⟩], [(b2, ⟨9, e2⟩), (b1, ⟨151, e1⟩)], 0⟩) ⟨f, ⟨by omega, by omega, by omega⟩, ?_⟩ (fun j hj => ?_)
    ·simp [go_sem]
     exact ⟨hb', fun i _ c h => .closed _ (tokClosed _ i c h)⟩
    ·obtain ⟨hj1, hj2, hj3⟩ := hj
     have tl : ∀ (i : Nat), i < toks.length → ∀ (c : AV), c ∈ tokCells toks i → Bd 2 c := fun i _ c h => .closed _ (tokClosed _ i c h)
     by_cases hlt : j < z.size
     ·have again : isBl (byteAt z j) = true → ∃ j_1 : Nat, (f ≤ j_1 ∧ j_1 ≤ z.size ∧ f + run isBl z f = j_1 + run isBl z j_1) ∧ z.size - j_1 < z.size - j ∧ ¬b2 = b1 ∧ IntKind.i64.wrap ((j : Int) + 1) = j_1 ∧ ∀ (i : Nat), i < toks.length → ∀ (c : AV), c ∈ tokCells toks i → Bd 2 c := fun e =>
       ⟨j + 1, ⟨by omega, by omega, by rw [hj3, run_yes hlt e]; omega⟩, by omega, hb', wrap_succ (by omega), tl⟩
      cases hbl : isBl (byteAt z j) with
      | true =>
       have hc : byteAt z j = 32 ∨ byteAt z j = 9 ∨ byteAt z j = 10 := by
        simpa [isBl, or_assoc] using hbl
       rcases hc with e | e | e
       ·simp [go_sem, hlt, e]
        exact again hbl
       ·simp [go_sem, hlt, e]
        exact again hbl
       ·simp [go_sem, hlt, e]
        exact again hbl
      | false =>
       have hc : (byteAt z j == 32) = false ∧ (byteAt z j == 9) = false ∧ (byteAt z j == 10) = false := by
        simp only [isBl, decide_eq_false_iff_not, not_or] at hbl
        simp [hbl]
       have hj4 : j = f + run isBl z f := by rw [hj3, run_no hlt hbl]; rfl
       simp [go_sem, hlt, hc]
       refine vc_drawn [4] (.q 0 <| .q 1 <| .q 2 <| .q 3 <| .or 4 (.q 5 <| .q 6 <| .q 7 <| .q 8 <| .q 9 <| .done) (.nil)) (by kernel_rfl) ?_
       simp [go_sem, hlt, hc]
       have hfr := front_eq l hops z j hlt
       have hle := longest_le l z j hlt
       have hge := longest_ge l z j
       refine ⟨by omega, vcall_share [] (c_front l b1 b2 e2 e1 htx hb (z.extract j z.size) (by rw [ByteArray.size_extract]; omega)) (by simp) ?_ ?_ ?_ ?_⟩
       ·simp [go_sem]
       ·simp [go_sem]
       ·simp [go_sem]
       ·rintro av mem maps ⟨rfl, rfl, rfl⟩
        rw [hfr]
        simp [go_sem]
        refine vc_drawn [14] (.q 0 <| .q 1 <| .q 2 <| .q 3 <| .q 4 <| .q 5 <| .q 6 <| .q 7 <| .q 8 <| .q 9 <| .q 10 <| .q 11 <| .q 12 <| .or 13 (.or 14 (.q 15 <| .done) (.nil)) (.nil)) (by kernel_rfl) ?_
        simp [go_sem]
        simp only [wrap_i64 (n := (j : Int) + longest l z j) (by omega), show ((j : Int) + longest l z j).toNat = j + longest l z j by omega]
        have hn : lexFrom l z f = ⟨kindZ l (z.extract j (j + longest l z j)), z.extract f j, z.extract j (j + longest l z j)⟩ :: lexFrom l z (j + longest l z j) := lexFrom_go hj4 hlt
        refine ⟨by omega, by omega, by omega, by omega, by omega, by omega, toks ++ [⟨kindZ l (z.extract j (j + longest l z j)), z.extract f j, z.extract j (j + longest l z j)⟩], j + longest l z j, ⟨by omega, by simp; omega, by rw [hp3, hn]; simp⟩, by omega, ?_⟩
        refine ent_ks [0, 3] (by simp) (by simp) (by simp) (by simp) (by simp [go_sem, hb']) ?_ ?_
        ·simp [go_sem]
        ·simp [go_sem]
         exact .inl fun i hi => ⟨tok_app1 _ _ _ _ _ hi, fun c h => tokClosed _ i c h⟩
     ·have hj5 : j = z.size := by omega
      subst hj5
      have hj4 : z.size = f + run isBl z f := by rw [hj3, run_end (by omega)]; rfl
      simp [go_sem]
      refine ⟨hp1, by omega, by omega, ?_, hok⟩
      have e3 : lexZ l z = toks ++ [⟨7, z.extract f z.size, ⟨#[]⟩⟩] := by
       simp only [lexZ, hok, if_true, hp3]
       rw [lexFrom_end hj4 (by omega)]
      rw [e3]
      exact obsSame_one.mpr ⟨⟨88, 3, toks.length + 1, tokCells (toks ++ [⟨7, z.extract f z.size, ⟨#[]⟩⟩])⟩, ⟨rfl, rfl, rfl, fun i hi => ⟨tok_app1 _ _ _ _ _ hi, rfl⟩⟩, by simp⟩
theorem VFun.adopt {P : Program} {f : FuncId} {args : List AV} {R R' : AV → List Ob → Prop} (h : VFun P f args R) (ty sz : Nat) (hsz : 0 < sz) (g : Nat → List AV)
  (hr : ∀ av obs, R av obs → R' av obs ∨ ∃ x, av = .tup [.lit (.slice none 0 0), .lit x] ∧ obs = [] ∧ R' (.tup [.own 0, .lit x]) [⟨ty, sz, 0, g⟩]) : VFun P f args R' := by
 refine ⟨h.1, fun w vs hl hv => (h.2 w vs hl hv).mono fun e w' ⟨v, e1, gr, hd, av, obs, r, fl, hlit, hm, hrep⟩ => ?_⟩
 rcases hr av obs r with r' | ⟨x, rfl, rfl, r'⟩
 ·exact ⟨v, e1, gr, hd, av, obs, r', fl, hlit, hm, hrep⟩
 ·refine ⟨v, e1, gr, fun _ => .slice none 0 0, _, _, r', rfl, fun ob ho i hi => ?_, ⟨fun k ob hk b hb => ?_, fun k ob hk => ?_, fun k hk => ⟨none, 0, 0, rfl⟩, fun k k' o o' hk hk' hne => .inl rfl⟩, ?_⟩
  ·simp only [List.mem_singleton] at ho
   subst ho
   simp at hi
  ·simp [Value.ownBlock] at hb
  ·cases k with
   | zero =>
    simp only [List.map_cons, List.map_nil, List.getElem?_cons_zero, Option.some.injEq] at hk
    subst hk
    exact ⟨hsz, [], ⟨by simp, .inl ⟨rfl, rfl⟩⟩, fun i hi => by simp at hi⟩
   | succ k => simp at hk
  ·cases hrep with
   | tup _ us hl2 hr2 =>
    match us, hl2 with
    | [u1, u2], _ =>
     have q1 := hr2 0 _ u1 rfl rfl
     have q2 := hr2 1 _ u2 rfl rfl
     cases q1
     cases q2
     refine .tup _ [.slice none 0 0, x] rfl fun j a u ha hu => ?_
     match j with
     | 0 =>
      simp only [List.getElem?_cons_zero, Option.some.injEq] at ha hu
      subst ha; subst hu
      exact .own (hd := fun _ => .slice none 0 0) 0 (by simp)
     | 1 =>
      simp only [List.getElem?_cons_succ, List.getElem?_cons_zero, Option.some.injEq] at ha hu
      subst ha; subst hu
      exact .lit _
     | j + 2 => simp at ha
theorem lexFrom_len (l : List POp) (z : ByteArray) (f : Nat) (h : f ≤ z.size) : (lexFrom l z f).length + f ≤ z.size + 1 := by
 by_cases hi : f + run isBl z f < z.size
 ·rw [lexFrom_go rfl hi]
  have h1 := longest_ge l z (f + run isBl z f)
  have h2 := longest_le l z (f + run isBl z f) hi
  have := lexFrom_len l z (f + run isBl z f + longest l z (f + run isBl z f)) h2
  simp only [List.length_cons]
  omega
 ·rw [lexFrom_end rfl hi]
  simp
  omega
termination_by z.size - f
set_option maxRecDepth 10000 in
theorem c_Roles (l : List POp) (hl : l.length ≤ 9223372036854775807) (hw : opsWf l) (t : List PTok) (ht : t.length ≤ 1048576) (hz : ∀ i, i < t.length → (tokAt t i).text.size ≤ maxLen) : VFun Tryz.prog 50 [.agg [.sl 4 l.length (opCells l)], .sl 3 t.length (tokCells t)] (fun av obs => (∃ x, rolesZ l t = ([], x) ∧ av = .tup [.lit (.slice none 0 0), .lit (.int .i64 x)] ∧ obs = []) ∨ (av = .tup [.own 0, .lit (.int .i64 (rolesZ l t).2)] ∧ obs = [⟨3, 1, (rolesZ l t).1.length, intCells (rolesZ l t).1⟩])) := by
 have cl : ∀ (i : Nat) (c : AV), i < l.length → c ∈ opCells l i → Closed c := fun i c _ h => opClosed l i c h
 have clt : ∀ (i : Nat) (c : AV), i < t.length → c ∈ tokCells t i → Closed c := fun i c _ h => tokClosed t i c h
 refine vfun_start Tryz.func50 (by kernel_rfl) rfl (by simp [Tryz.ntmps50]) ?_; simp only [Tryz.ntmps50, Tryz.results50]; simp [go_sem]
 refine vcall_pure (c_TableOk l hl hw) ?_ ?_
 ·simp [go_sem]
  exact argSl_refl (by omega) cl
 ·simp [go_sem]
  refine ⟨fun h0 => by simp [rolesZ, h0], fun h0 => ?_⟩
  have hu := uniq_of_ok h0
  have nil_ : ∀ x, rolesZ l t = ([], x) → rolesZ l t = ([], x) ∨ False := fun x h => .inl h
  refine vcall_share [] (c_indexOf l hl hw) (by simp) ?_ ?_ ?_ ?_
  ·simp [go_sem]
   exact cl
  ·simp [go_sem]
  ·simp [go_sem]
  ·rintro av mem maps ⟨b1, b2, e1, e2, rfl, rfl, rfl, hb, hat, htx⟩
   have hb' : ¬ b2 = b1 := fun e => hb e.symm
   simp [go_sem]
   refine ⟨by omega, by omega, by omega, by omega, ?_⟩
   refine vc_loopE (fun i : Nat => i ≤ t.length ∧ (∀ j, j < i → 0 ≤ roleAt l t j (stAt l t j)) ∧ (∀ j, j < i → (tokAt t j).kind ≠ 7) ∧ 0 ≤ openAt t i) (fun i => t.length - i) (fun i => ⟨[(1, .sl 3 t.length (tokCells t)), (6, .ptr 0 2 0 0), (7, .own 1), (8, .lit (.bool !(stAt l t i))), (9, .lit (.int .i64 (openAt t i))), (27, .sl 3 t.length (tokCells t)), (28, .lit (.int .i64 t.length)), (29, .lit (.int .i64 i))], [some ⟨70, 2, 1, fun _ => [.lit (.map (some b1)), .lit (.map (some b2))]⟩, some ⟨3, 1, (rolesUp l t i).length, intCells (rolesUp l t i)⟩], [(b2, ⟨9, e2⟩), (b1, ⟨151, e1⟩)], 0⟩) ⟨0, ⟨by omega, by simp, by simp, by simp [openAt]⟩, ?_⟩ (fun i hi => ?_)
   ·refine ent_ks [1, 2] (by simp) (by simp) (by simp) (by simp) (by simp [go_sem, hb']) ?_ ?_
    ·simp [go_sem, stAt, openAt]
     exact clt
    ·simp [go_sem, rolesUp]
   ·obtain ⟨h1, h2, h3, h4⟩ := hi
    have hop := openAt_le t i
    have hlen := rolesUp_len l t i
    have hsucc := rolesUp_succ l t i
    by_cases h : i < t.length
    ·have bad : roleAt l t i (stAt l t i) < 0 → rolesZ l t = ([], (i : Int)) := fun e => by
      have := firstBad_some h h2 e
      simp [rolesZ, h0, this]
     have next : 0 ≤ roleAt l t i (stAt l t i) → (tokAt t i).kind ≠ 7 → 0 ≤ openAt t (i + 1) → i + 1 ≤ t.length ∧ (∀ j, j < i + 1 → 0 ≤ roleAt l t j (stAt l t j)) ∧ (∀ j, j < i + 1 → (tokAt t j).kind ≠ 7) ∧ 0 ≤ openAt t (i + 1) := fun a1 a2 a3 => by
      refine ⟨by omega, fun j hj => ?_, fun j hj => ?_, a3⟩
      ·rcases Nat.lt_succ_iff_lt_or_eq.mp hj with hj | rfl
       ·exact h2 j hj
       ·exact a1
      ·rcases Nat.lt_succ_iff_lt_or_eq.mp hj with hj | rfl
       ·exact h3 j hj
       ·exact a2
     have app : ∀ (r : Int), roleAt l t i (stAt l t i) = r → ∀ j, j < i + 1 → joinF i (intCells (rolesUp l t i)) (fun q => [[AV.lit (.int .i64 r)]][q]?.getD []) j = intCells (rolesUp l t i ++ [roleAt l t i (stAt l t i)]) j := fun r e j hj => by
      have := int_app1 (rolesUp l t i) (roleAt l t i (stAt l t i)) j (by rw [hlen]; exact hj)
      rw [hlen, e] at this
      rw [e]; exact this
     cases hst : stAt l t i with
     | false =>
      rw [hst] at bad app
      by_cases k1 : (tokAt t i).kind = 1
      ·have hst' : stAt l t (i + 1) = true := by simp [stAt, hst, k1]
       have ho' : openAt t (i + 1) = openAt t i := by simp [openAt, k1]
       simp [go_sem, tokCells_at, h, hst, k1, hlen]
       refine ⟨by omega, by omega, i + 1, next (by rw [hst]; simp [roleAt, k1]) (by omega) (by rw [ho']; omega), by omega, ?_⟩
       refine ent_ks [0, 4] (by simp) (by simp) (by simp) (by simp) (by simp [go_sem, hb', hb]) ?_ ?_
       ·simp [go_sem, hst', ho']
        exact ⟨clt, wrap_succ (by omega)⟩
       ·simp [go_sem, hsucc, hlen, hst]
        exact .inl fun j hj => ⟨app 0 (by simp [roleAt, k1]) j hj, intClosed _ _⟩
      ·by_cases k2 : (tokAt t i).kind = 2
       ·have hst' : stAt l t (i + 1) = true := by simp [stAt, hst, k2]
        have ho' : openAt t (i + 1) = openAt t i := by simp [openAt, k2]
        simp [go_sem, tokCells_at, h, hst, k2, hlen]
        refine ⟨by omega, by omega, i + 1, next (by rw [hst]; simp [roleAt, k2]) (by omega) (by rw [ho']; omega), by omega, ?_⟩
        refine ent_ks [0, 4] (by simp) (by simp) (by simp) (by simp) (by simp [go_sem, hb', hb]) ?_ ?_
        ·simp [go_sem, hst', ho']
         exact ⟨clt, wrap_succ (by omega)⟩
        ·simp [go_sem, hsucc, hlen, hst]
         exact .inl fun j hj => ⟨app 0 (by simp [roleAt, k2]) j hj, intClosed _ _⟩
       ·by_cases k4 : (tokAt t i).kind = 4
        ·have hst' : stAt l t (i + 1) = false := by simp [stAt, hst, k4]
         have ho' : openAt t (i + 1) = openAt t i + 1 := by simp [openAt, k4]
         simp [go_sem, tokCells_at, h, hst, k4, hlen]
         refine ⟨by omega, by omega, i + 1, next (by rw [hst]; simp [roleAt, k4]) (by omega) (by rw [ho']; omega), by omega, ?_⟩
         refine ent_ks [0, 4] (by simp) (by simp) (by simp) (by simp) (by simp [go_sem, hb', hb]) ?_ ?_
         ·simp [go_sem, hst', ho']
          exact ⟨clt, wrap_i64 (by omega), clt, wrap_succ (by omega)⟩
         ·simp [go_sem, hsucc, hlen, hst]
          exact .inl fun j hj => ⟨app 0 (by simp [roleAt, k4]) j hj, intClosed _ _⟩
        ·by_cases k3 : (tokAt t i).kind = 3
         ·simp [go_sem, tokCells_at, h, hst, k3, hlen]
          refine vcall_share [] (c_of l hu b1 b2 e1 hat (tokAt t i).text (hz i h) 1) (by simp) ?_ ?_ ?_ ?_
          ·simp [go_sem]
          ·simp [go_sem]
          ·simp [go_sem, hb']
          ·rintro av mem maps ⟨⟨o1, rfl, ho1⟩, rfl, rfl⟩
           cases hp : opHas l (tokAt t i).text 1 with
           | false =>
            simp [go_sem, hp, POp.cells]
            exact bad (by simp [roleAt, k3, hp])
           | true =>
            have hst' : stAt l t (i + 1) = false := by simp [stAt, hst, k3]
            have ho' : openAt t (i + 1) = openAt t i := by simp [openAt, k3]
            simp [go_sem, hp, hlen, POp.cells]
            refine ⟨by omega, by omega, i + 1, next (by rw [hst]; simp [roleAt, k3, hp]) (by omega) (by rw [ho']; omega), by omega, ?_⟩
            refine ent_ks [0, 5] (by simp) (by simp) (by simp) (by simp) (by simp [go_sem, hb', hb]) ?_ ?_
            ·simp [go_sem, hst', ho']
             exact ⟨clt, wrap_succ (by omega)⟩
            ·simp [go_sem, hsucc, hlen, hst]
             exact .inl fun j hj => ⟨app 1 (by simp [roleAt, k3, hp]) j hj, intClosed _ _⟩
         ·have q1 : ((tokAt t i).kind == 1) = false := by simpa using k1
          have q2 : ((tokAt t i).kind == 2) = false := by simpa using k2
          have q3 : ((tokAt t i).kind == 3) = false := by simpa using k3
          have q4 : ((tokAt t i).kind == 4) = false := by simpa using k4
          simp [go_sem, tokCells_at, h, hst, q1, q2, q3, q4, hlen]
          exact bad (by simp [roleAt, k1, k2, k3, k4])
     | true =>
      rw [hst] at bad app
      by_cases k3 : (tokAt t i).kind = 3
      ·simp [go_sem, tokCells_at, h, hst, k3, hlen]
       refine vcall_share [] (c_of l hu b1 b2 e1 hat (tokAt t i).text (hz i h) 2) (by simp) ?_ ?_ ?_ ?_
       ·simp [go_sem]
       ·simp [go_sem]
       ·simp [go_sem, hb']
       ·rintro av mem maps ⟨⟨o2, rfl, ho2⟩, rfl, rfl⟩
        cases hp : opHas l (tokAt t i).text 2 with
        | true =>
         have hno : opHas l (tokAt t i).text 3 = false := by
          rw [Bool.eq_false_iff]
          intro e
          obtain ⟨j, hj, e3, e4⟩ := (opHas_iff _ _ _).1 e
          obtain ⟨j', hj', e5, e6⟩ := (opHas_iff _ _ _).1 hp
          have := hu j j' hj hj' (by rw [e3, e5]) (by rw [e4, e6]; rfl)
          rw [this, e6] at e4
          cases e4
         have hst' : stAt l t (i + 1) = false := by simp [stAt, hst, k3, hno]
         have ho' : openAt t (i + 1) = openAt t i := by simp [openAt, k3]
         simp [go_sem, hp, hlen, POp.cells]
         refine ⟨by omega, by omega, i + 1, next (by rw [hst]; simp [roleAt, k3, hp]) (by omega) (by rw [ho']; omega), by omega, ?_⟩
         refine ent_ks [0, 5] (by simp) (by simp) (by simp) (by simp) (by simp [go_sem, hb', hb]) ?_ ?_
         ·simp [go_sem, hst', ho']
          exact ⟨clt, wrap_succ (by omega)⟩
         ·simp [go_sem, hsucc, hlen, hst]
          exact .inl fun j hj => ⟨app 2 (by simp [roleAt, k3, hp]) j hj, intClosed _ _⟩
        | false =>
         simp [go_sem, hp, POp.cells]
         refine vcall_share [] (c_of l hu b1 b2 e1 hat (tokAt t i).text (hz i h) 3) (by simp) ?_ ?_ ?_ ?_
         ·simp [go_sem]
         ·simp [go_sem]
         ·simp [go_sem, hb']
         ·rintro av mem maps ⟨⟨o3, rfl, ho3⟩, rfl, rfl⟩
          cases hq : opHas l (tokAt t i).text 3 with
          | true =>
           have hst' : stAt l t (i + 1) = true := by simp [stAt, hst, k3, hq]
           have ho' : openAt t (i + 1) = openAt t i := by simp [openAt, k3]
           simp [go_sem, hq, hlen, POp.cells]
           refine ⟨by omega, by omega, i + 1, next (by rw [hst]; simp [roleAt, k3, hp, hq]) (by omega) (by rw [ho']; omega), by omega, ?_⟩
           refine ent_ks [0, 6] (by simp) (by simp) (by simp) (by simp) (by simp [go_sem, hb', hb]) ?_ ?_
           ·simp [go_sem, hst', ho']
            exact ⟨clt, wrap_succ (by omega)⟩
           ·simp [go_sem, hsucc, hlen, hst]
            exact .inl fun j hj => ⟨app 3 (by simp [roleAt, k3, hp, hq]) j hj, intClosed _ _⟩
          | false =>
           simp [go_sem, hq, POp.cells]
           exact bad (by simp [roleAt, k3, hp, hq])
      ·have q3 : ((tokAt t i).kind == 3) = false := by simpa using k3
       by_cases k5 : (tokAt t i).kind = 5
       ·by_cases hpos : 0 < openAt t i
        ·have hst' : stAt l t (i + 1) = true := by simp [stAt, k5]
         have ho' : openAt t (i + 1) = openAt t i - 1 := by simp [openAt, k5]
         simp [go_sem, tokCells_at, h, hst, k5, hpos, hlen]
         refine ⟨by omega, by omega, i + 1, next (by rw [hst]; simp [roleAt, k5, hpos]) (by omega) (by rw [ho']; omega), by omega, ?_⟩
         refine ent_ks [0, 4] (by simp) (by simp) (by simp) (by simp) (by simp [go_sem, hb', hb]) ?_ ?_
         ·simp [go_sem, hst', ho']
          exact ⟨clt, wrap_i64 (by omega), clt, wrap_succ (by omega)⟩
         ·simp [go_sem, hsucc, hlen, hst]
          exact .inl fun j hj => ⟨app 0 (by simp [roleAt, k5, hpos]) j hj, intClosed _ _⟩
        ·have e0 : openAt t i = 0 := by omega
         simp [go_sem, tokCells_at, h, hst, k5, e0, hlen]
         exact bad (by simp [roleAt, k5, e0])
       ·have q5 : ((tokAt t i).kind == 5) = false := by simpa using k5
        by_cases k7 : (tokAt t i).kind = 7
        ·by_cases e0 : openAt t i = 0
         ·by_cases elast : i + 1 = t.length
          ·have ew : IntKind.i64.wrap ((t.length : Int) - 1) = i := by rw [wrap_i64 (by omega)]; omega
           simp [go_sem, tokCells_at, h, hst, k7, e0, hlen, ew]
           have hr0 : roleAt l t i true = 0 := by simp [roleAt, k7, e0, elast]
           have hn := firstBad_none (l := l) (t := t) fun j hj => by
            rcases Nat.lt_succ_iff_lt_or_eq.mp (show j < i + 1 by omega) with hj | rfl
            ·exact h2 j hj
            ·rw [hst, hr0]; omega
           have hlast : t.length - 1 = i := by omega
           have hzz : rolesZ l t = (rolesUp l t (i + 1), -1) := by
            have hne : endsOk t = true := by
             simp only [endsOk, hlast, k7, Bool.and_eq_true, decide_eq_true_eq]
             exact ⟨by omega, trivial⟩
            simp [rolesZ, h0, hn, hne, elast]
           rw [hzz]
           refine ⟨by omega, by omega, by omega, ?_, rfl⟩
           refine obsSame_one.mpr ⟨⟨3, 1, i + 1, intCells (rolesUp l t (i + 1))⟩, ⟨rfl, rfl, rfl, fun j hj => ⟨?_, rfl⟩⟩, by rw [rolesUp_len]⟩
           have := app 0 hr0 j hj
           rw [hsucc, hst]
           exact this
          ·have ew : ((i : Int) == IntKind.i64.wrap ((t.length : Int) - 1)) = false := by rw [wrap_i64 (by omega)]; simp; omega
           simp [go_sem, tokCells_at, h, hst, k7, e0, hlen, ew]
           exact ⟨by omega, bad (by simp [roleAt, k7, e0, elast])⟩
         ·have q0 : (openAt t i == 0) = false := by simpa using e0
          simp [go_sem, tokCells_at, h, hst, k7, q0, hlen]
          exact bad (by simp [roleAt, k7, e0])
        ·have q7 : ((tokAt t i).kind == 7) = false := by simpa using k7
         simp [go_sem, tokCells_at, h, hst, q3, q5, q7, hlen]
         exact bad (by simp [roleAt, k3, k5, k7])
    ·have e : i = t.length := by omega
     simp [go_sem, h]
     refine ⟨by omega, ?_⟩
     have hn := firstBad_none (l := l) (t := t) fun j hj => h2 j (by omega)
     have hne : endsOk t = false := by
      rw [Bool.eq_false_iff]
      intro e2
      simp only [endsOk, Bool.and_eq_true, decide_eq_true_eq] at e2
      exact h3 (t.length - 1) (by omega) e2.2
     simp [rolesZ, h0, hn, hne]
structure Rd where
 n : Nat
 f : Nat → Nat
 p : Nat
def Rd.ok (r : Rd) : Prop := r.n ≤ 1200 ∧ r.p ≤ r.n ∧ ∀ i, r.f i < 256
def rdCells (f : Nat → Nat) (i : Nat) : List AV := [.lit (.int .u8 (f i))]
theorem rdCells_at (f : Nat → Nat) (i : Nat) : rdCells f i = [.lit (.int .u8 (f i))] := rfl
theorem rdClosed (f : Nat → Nat) (i : Nat) (c : AV) (h : c ∈ rdCells f i) : Closed c := by
 simp [rdCells] at h
 subst h
 exact .lit _
def rdOb (r : Rd) : Option Ob := some ⟨138, 2, 1, fun _ => [.sl 1 r.n (rdCells r.f), .lit (.int .i64 r.p)]⟩
def Rd.v (r : Rd) : Nat := if r.p < r.n then r.f r.p else 0
def Rd.nx (r : Rd) : Rd := if r.p < r.n then { r with p := r.p + 1 } else r
def Rd.okw (r : Rd) : Prop := r.n ≤ 1200 ∧ r.p ≤ 2400 ∧ ∀ i, r.f i < 256
theorem Rd.ok.w {r : Rd} (h : r.ok) : r.okw := ⟨h.1, by have := h.1; have := h.2.1; omega, h.2.2⟩
theorem Rd.nx_okw {r : Rd} (h : r.okw) : r.nx.okw := by
 unfold Rd.nx
 split
 ·exact ⟨h.1, by have := h.1; simp only; omega, h.2.2⟩
 ·exact h
theorem Rd.v_ltw {r : Rd} (h : r.okw) : r.v < 256 := by
 unfold Rd.v
 split
 ·exact h.2.2 _
 ·omega
theorem Rd.nx_ok {r : Rd} (h : r.ok) : r.nx.ok := by
 unfold Rd.nx
 split
 ·exact ⟨h.1, by simp only; omega, h.2.2⟩
 ·exact h
theorem Rd.v_lt {r : Rd} (h : r.ok) : r.v < 256 := by
 unfold Rd.v
 split
 ·exact h.2.2 _
 ·omega
theorem rdOut {idx : Nat → Nat} {ks : List Nat} {ty n p : Nat} {f : Nat → Nat} : OutAt idx ks ⟨ty, 2, 1, fun _ => [.sl 1 n (rdCells f), .lit (.int .i64 p)]⟩ (some (some ⟨ty, 2, 1, fun _ => [.sl 1 n (rdCells f), .lit (.int .i64 p)]⟩)) :=
 ⟨rfl, rfl, rfl, fun i hi => ⟨rfl, fun c hc => by
  simp at hc
  rcases hc with rfl | rfl
  ·exact .inr ⟨⟨_, _, _, rfl⟩, .sl _ _ _ fun i c _ h => rdClosed f i c h⟩
  ·exact .inl rfl, fun c hc q hq => by
  simp at hc
  rcases hc with rfl | rfl <;> simp [owns1] at hq⟩⟩
theorem c_nextW (r : Rd) (h : r.okw) : VProc Tryz.prog 53 [.ptr 0 2 0 0] [rdOb r] [] (fun av mem maps => av = .lit (.int .i64 r.v) ∧ mem = [rdOb r.nx] ∧ maps = []) := by
 obtain ⟨n, f, p⟩ := r
 obtain ⟨h1, h2, h3⟩ := h
 simp only at h1 h2 h3
 simp only [rdOb, Rd.v, Rd.nx]
 by_cases hp : p < n
 ·simp only [if_pos hp]
  have e1 := h3 p
  have ew : IntKind.i64.wrap (f p : Int) = f p := wrap_i64 (by omega)
  refine vproc_start Tryz.func53 (by kernel_rfl) rfl (by simp [Tryz.ntmps53]) ?_; simp only [Tryz.ntmps53, Tryz.results53]; simp [go_sem]
  refine vc_drawn [] (.q 0 <| .q 1 <| .q 2 <| .q 3 <| .q 4 <| .q 5 <| .q 6 <| .q 7 <| .q 8 <| .q 9 <| .done) (by kernel_rfl) ?_
  simp [go_sem, hp]
  refine ⟨by omega, ?_⟩
  refine vc_drawn [] (.q 0 <| .q 1 <| .q 2 <| .q 3 <| .q 4 <| .q 5 <| .q 6 <| .q 7 <| .q 8 <| .q 9 <| .q 10 <| .q 11 <| .done) (by kernel_rfl) ?_
  have ep : IntKind.i64.wrap ((p : Int) + 1) = ((p + 1 : Nat) : Int) := wrap_succ (by omega)
  simp [go_sem, hp, rdCells_at, ew, ep]
  refine ⟨rfl, [], [rdOb ⟨n, f, p + 1⟩], by simp, by simp, by simp [go_sem], ?_, by simp [go_sem], ?_⟩
  ·simp [go_sem, rdOb]
   exact rdOut (p := p + 1)
  ·simp [go_sem, rdOb]
 ·simp only [if_neg hp]
  refine vproc_start Tryz.func53 (by kernel_rfl) rfl (by simp [Tryz.ntmps53]) ?_; simp only [Tryz.ntmps53, Tryz.results53]; simp [go_sem]
  refine vc_drawn [] (.q 0 <| .q 1 <| .q 2 <| .q 3 <| .q 4 <| .q 5 <| .q 6 <| .q 7 <| .q 8 <| .q 9 <| .done) (by kernel_rfl) ?_
  simp [go_sem, hp]
  refine ⟨by omega, rfl, [], [rdOb ⟨n, f, p⟩], by simp, by simp, by simp [go_sem], ?_, by simp [go_sem], ?_⟩
  ·simp [go_sem, rdOb]
   exact rdOut
  ·simp [go_sem, rdOb]
theorem c_next (r : Rd) (h : r.ok) : VProc Tryz.prog 53 [.ptr 0 2 0 0] [rdOb r] [] (fun av mem maps => av = .lit (.int .i64 r.v) ∧ mem = [rdOb r.nx] ∧ maps = []) := c_nextW r h.w
theorem c_left (r : Rd) (h : r.ok) : VProc Tryz.prog 139 [.ptr 0 2 0 0] [rdOb r] [] (fun av mem maps => av = .lit (.int .i64 (r.n - r.p : Nat)) ∧ mem = [rdOb r] ∧ maps = []) := by
 obtain ⟨n, f, p⟩ := r
 obtain ⟨h1, h2, h3⟩ := h
 simp only at h1 h2 h3
 simp only [rdOb]
 have ew : IntKind.i64.wrap ((n : Int) - p) = ((n - p : Nat) : Int) := by rw [wrap_i64 (by omega)]; omega
 refine vproc_start Tryz.func139 (by kernel_rfl) rfl (by simp [Tryz.ntmps139]) ?_; simp only [Tryz.ntmps139, Tryz.results139]; simp [go_sem]
 refine vc_drawn [] (.q 0 <| .q 1 <| .q 2 <| .q 3 <| .q 4 <| .q 5 <| .q 6 <| .q 7 <| .q 8 <| .q 9 <| .q 10 <| .done) (by kernel_rfl) ?_
 simp [go_sem, ew]
 refine ⟨by omega, rfl, [], [rdOb ⟨n, f, p⟩], by simp, by simp, by simp [go_sem], ?_, by simp [go_sem], ?_⟩
 ·simp [go_sem, rdOb]
  exact rdOut
 ·simp [go_sem, rdOb]
def rdOf (N : Nat) (f : Nat → Nat) : Rd := ⟨if N ≤ 1200 then N else 1200, f, 0⟩
theorem rdOf_ok (N : Nat) (f : Nat → Nat) (h : ∀ i, f i < 256) : (rdOf N f).ok := by
 refine ⟨?_, Nat.zero_le _, h⟩
 simp only [rdOf]
 split <;> omega
theorem c_l1Open (N : Nat) (f : Nat → Nat) (hN : N ≤ 9223372036854775807) : VProc Tryz.prog 38 [.sl 1 N (rdCells f)] [] [] (fun av mem maps => av = .ptr 0 2 0 0 ∧ mem = [rdOb (rdOf N f)] ∧ maps = []) := by
 by_cases hc : N ≤ 1200
 ·have e : rdOf N f = ⟨N, f, 0⟩ := by simp [rdOf, hc]
  rw [e]
  simp only [rdOb]
  refine vproc_start Tryz.func38 (by kernel_rfl) rfl (by simp [Tryz.ntmps38]) ?_; simp only [Tryz.ntmps38, Tryz.results38]; simp [go_sem]
  refine ⟨by omega, fun h => by omega, fun _ => ?_⟩
  refine ⟨rfl, [0], [rdOb ⟨N, f, 0⟩], by simp, by simp, by simp [go_sem], ?_, by simp [go_sem], ?_⟩
  ·simp [go_sem, rdOb]
   exact rdOut (p := 0)
  ·simp [go_sem, rdOb]
 ·have e : rdOf N f = ⟨1200, f, 0⟩ := by simp [rdOf, hc]
  rw [e]
  simp only [rdOb]
  refine vproc_start Tryz.func38 (by kernel_rfl) rfl (by simp [Tryz.ntmps38]) ?_; simp only [Tryz.ntmps38, Tryz.results38]; simp [go_sem]
  refine ⟨by omega, fun h => ⟨by omega, ?_⟩, fun h => by omega⟩
  refine ⟨rfl, [0], [rdOb ⟨1200, f, 0⟩], by simp, by simp, by simp [go_sem], ?_, by simp [go_sem], ?_⟩
  ·simp [go_sem, rdOb]
   exact rdOut (p := 0)
  ·simp [go_sem, rdOb]
def l1T (k : Nat) : ByteArray := match k % 12 with
 | 0 => ⟨#[43]⟩ | 1 => ⟨#[45]⟩ | 2 => ⟨#[43, 43]⟩ | 3 => ⟨#[42]⟩ | 4 => ⟨#[33]⟩ | 5 => ⟨#[61, 61]⟩ | 6 => ⟨#[43, 43, 43]⟩ | 7 => ⟨#[33, 61]⟩ | 8 => ⟨#[45, 45]⟩ | 9 => ⟨#[94]⟩ | 10 => ⟨#[61, 62]⟩ | _ => ⟨#[63, 58]⟩
theorem tmod_nat (k m : Nat) : (k : Int).tmod m = ((k % m : Nat) : Int) := by rw [Int.tmod_eq_emod_of_nonneg (by omega)]; omega
theorem l1T_size (k : Nat) : (l1T k).size ≤ 3 := by
 unfold l1T
 split <;> decide
theorem c_l1Text (k : Nat) : VFun Tryz.prog 128 [.lit (.int .i64 k)] (fun av obs => obs = [] ∧ av = .lit (.string (l1T k))) := by
 have e := tmod_nat k 12
 have hlt : k % 12 < 12 := Nat.mod_lt _ (by decide)
 unfold l1T
 generalize hm : k % 12 = q at *
 rw [show ((12 : Nat) : Int) = 12 from rfl] at e
 refine vfun_start Tryz.func128 (by kernel_rfl) rfl (by simp [Tryz.ntmps128]) ?_; simp only [Tryz.ntmps128, Tryz.results128]; simp [go_sem]
 rw [e]
 rcases (by omega : q = 0 ∨ q = 1 ∨ q = 2 ∨ q = 3 ∨ q = 4 ∨ q = 5 ∨ q = 6 ∨ q = 7 ∨ q = 8 ∨ q = 9 ∨ q = 10 ∨ q = 11) with h | h | h | h | h | h | h | h | h | h | h | h <;> subst h <;> simp
def drawKS (k : Nat) : Int × Int := if k % 8 < 2 then (1, 0) else if k % 8 = 2 then (3, 0) else (2, 1 + (k / 8 % 3 : Nat))
def drawOp0 (k v : Nat) : POp := ⟨l1T v, (drawKS k).1, 1 + (v / 12 % 6 : Nat), (drawKS k).2⟩
def drawOp1 (k v : Nat) (tidy : Bool) : POp := if tidy then { drawOp0 k v with level := 3 * (v / 12 % 4 : Nat) + sortN (drawOp0 k v) } else drawOp0 k v
def drawOp2 (k v : Nat) (tidy : Bool) : POp := if 250 ≤ k then { drawOp1 k v tidy with level := 997 + sortN (drawOp1 k v tidy) } else drawOp1 k v tidy
def drawOp (r : Rd) (tidy : Bool) : POp := drawOp2 r.v r.nx.v tidy
set_option maxRecDepth 100000 in
theorem c_l1DrawOpW (r : Rd) (hr : r.okw) (tidy : Bool) : VProc Tryz.prog 103 [.ptr 0 2 0 0, .lit (.bool tidy)] [rdOb r] [] (fun av mem maps => av = .agg (drawOp r tidy).cells ∧ mem = [rdOb r.nx.nx] ∧ maps = []) := by
 have cr : ∀ (r : Rd) (i : Nat) (c : AV), i < r.n → c ∈ rdCells r.f i → Closed c := fun r i c _ h => rdClosed r.f i c h
 have c1 := c_nextW r hr
 have c2 := c_nextW r.nx (Rd.nx_okw hr)
 have hk := Rd.v_ltw hr
 have hv := Rd.v_ltw (Rd.nx_okw hr)
 unfold drawOp
 generalize hK : r.v = k at *
 generalize hV : r.nx.v = v at *
 simp only [rdOb, POp.cells] at c1 c2 ⊢
 have c3 := c_l1Text v
 have e1 : (k : Int).tmod 8 = ((k % 8 : Nat) : Int) := tmod_nat k 8
 have e2 : (IntKind.i64.wrap ((k : Int) / 8)).tmod 3 = ((k / 8 % 3 : Nat) : Int) := by rw [wrap_i64 (by omega), show (k : Int) / 8 = ((k / 8 : Nat) : Int) by omega]; exact tmod_nat _ 3
 have e3 : (IntKind.i64.wrap ((v : Int) / 12)).tmod 6 = ((v / 12 % 6 : Nat) : Int) := by rw [wrap_i64 (by omega), show (v : Int) / 12 = ((v / 12 : Nat) : Int) by omega]; exact tmod_nat _ 6
 have e4 : (IntKind.i64.wrap ((v : Int) / 12)).tmod 4 = ((v / 12 % 4 : Nat) : Int) := by rw [wrap_i64 (by omega), show (v : Int) / 12 = ((v / 12 : Nat) : Int) by omega]; exact tmod_nat _ 4
 have ha : k % 8 < 8 := Nat.mod_lt _ (by decide)
 have hb : k / 8 % 3 < 3 := Nat.mod_lt _ (by decide)
 have hc : v / 12 % 6 < 6 := Nat.mod_lt _ (by decide)
 have hd : v / 12 % 4 < 4 := Nat.mod_lt _ (by decide)
 simp only [drawOp2, drawOp1, drawOp0, drawKS]
 generalize k % 8 = a at *
 generalize k / 8 % 3 = b at *
 generalize v / 12 % 6 = c at *
 generalize v / 12 % 4 = d at *
 generalize l1T v = z at *
 have w1 : IntKind.i64.wrap (1 + (b : Int)) = 1 + b := wrap_i64 (by omega)
 have w2 : IntKind.i64.wrap (1 + (c : Int)) = 1 + c := wrap_i64 (by omega)
 have w3 : IntKind.i64.wrap (3 * (d : Int)) = 3 * d := wrap_i64 (by omega)
 have s0 := c_l1Sort
 simp only [POp.cells] at s0
 refine vproc_start Tryz.func103 (by kernel_rfl) rfl (by simp [Tryz.ntmps103]) ?_; simp only [Tryz.ntmps103, Tryz.results103]; simp [go_sem]
 refine vcall_share [0] c1 (by simp) ?_ ?_ trivial ?_
 ·simp [go_sem]
 ·simp [go_sem]
  exact cr r
 ·rintro av mem maps ⟨rfl, rfl, rfl⟩
  simp [go_sem]
  refine vcall_share [0] c2 (by simp) ?_ ?_ trivial ?_
  ·simp [go_sem]
  ·simp [go_sem]
   exact cr r.nx
  ·rintro av mem maps ⟨rfl, rfl, rfl⟩
   simp [go_sem]
   refine vcall_pure c3 ?_ ?_
   ·simp [go_sem]
   ·have fin : ∀ (ts : List (Nat × AV)) (x1 x2 : Option Ob) (o : POp), vendP [] (fun av mem maps => av = .agg [.lit (.string o.text), .lit (.int .i64 o.kind), .lit (.int .i64 o.level), .lit (.int .i64 o.side)] ∧ mem = [some ⟨138, 2, 1, fun _ => [.sl 1 r.nx.nx.n (rdCells r.nx.nx.f), .lit (.int .i64 r.nx.nx.p)]⟩] ∧ maps = []) ⟨ts, [some ⟨138, 2, 1, fun _ => [.sl 1 r.nx.nx.n (rdCells r.nx.nx.f), .lit (.int .i64 r.nx.nx.p)]⟩, x1, x2], [], 1⟩ (.agg [.lit (.string o.text), .lit (.int .i64 o.kind), .lit (.int .i64 o.level), .lit (.int .i64 o.side)]) := by
     intro ts x1 x2 o
     refine ⟨rfl, [], [rdOb r.nx.nx], by simp, by simp, by simp [go_sem], ?_, by simp [go_sem], ?_⟩
     ·simp [go_sem, rdOb]
      exact rdOut
     ·simp [go_sem, rdOb]
    have hks : (a < 2 ∧ (if a < 2 then ((1 : Int), (0 : Int)) else if a = 2 then (3, 0) else (2, 1 + (b : Int))) = (1, 0)) ∨ (¬ a < 2 ∧ a = 2 ∧ (if a < 2 then ((1 : Int), (0 : Int)) else if a = 2 then (3, 0) else (2, 1 + (b : Int))) = (3, 0)) ∨ (¬ a < 2 ∧ ¬ a = 2 ∧ (if a < 2 then ((1 : Int), (0 : Int)) else if a = 2 then (3, 0) else (2, 1 + (b : Int))) = (2, 1 + (b : Int))) := by
     by_cases h1 : a < 2
     ·exact .inl ⟨h1, if_pos h1⟩
     ·by_cases h2 : a = 2
      ·exact .inr (.inl ⟨h1, h2, by rw [if_neg h1, if_pos h2]⟩)
      ·exact .inr (.inr ⟨h1, h2, by rw [if_neg h1, if_neg h2]⟩)
    rcases hks with ⟨h1, hk2⟩ | ⟨h1, h2, hk2⟩ | ⟨h1, h2, hk2⟩
    ·rw [hk2]
     have h1' : (a : Int) < 2 := by omega
     have sN : ∀ lv : Int, sortN ⟨z, 1, lv, 0⟩ = 2 := fun _ => by simp [sortN]
     have w4 : IntKind.i64.wrap (3 * (d : Int) + 2) = 3 * d + 2 := wrap_i64 (by omega)
     have w5 : IntKind.i64.wrap (997 + 2) = 997 + 2 := wrap_i64 (by omega)
     by_cases h5 : 250 ≤ k
     ·have h5' : (250 : Int) ≤ k := by omega
      cases tidy with
      | true =>
       simp [go_sem, e1, e2, e3, e4, w1, w2, w3, h1, h1', h5, h5', sN]
       refine vcall_pure (s0 ⟨z, 1, 1 + c, 0⟩) ?_ ?_
       ·simp [go_sem]
       ·simp [go_sem, sN, w4, h5']
        refine vcall_pure (s0 ⟨z, 1, 3 * d + 2, 0⟩) ?_ ?_
        ·simp [go_sem]
        ·simp [go_sem, sN, w5]
         exact fin _ _ _ ⟨z, 1, 997 + 2, 0⟩
      | false =>
       simp [go_sem, e1, e2, e3, e4, w1, w2, w3, h1, h1', h5, h5', sN]
       refine vcall_pure (s0 ⟨z, 1, 1 + c, 0⟩) ?_ ?_
       ·simp [go_sem]
       ·simp [go_sem, sN, w5]
        exact fin _ _ _ ⟨z, 1, 997 + 2, 0⟩
     ·have h5' : ¬ (250 : Int) ≤ k := by omega
      cases tidy with
      | true =>
       simp [go_sem, e1, e2, e3, e4, w1, w2, w3, h1, h1', h5, h5', sN]
       refine vcall_pure (s0 ⟨z, 1, 1 + c, 0⟩) ?_ ?_
       ·simp [go_sem]
       ·simp [go_sem, sN, w4, h5']
        exact fin _ _ _ ⟨z, 1, 3 * d + 2, 0⟩
      | false =>
       simp [go_sem, e1, e2, e3, e4, w1, w2, w3, h1, h1', h5, h5', sN]
       exact fin _ _ _ ⟨z, 1, 1 + c, 0⟩
    ·rw [hk2]
     have h1' : ¬ (a : Int) < 2 := by omega
     have h2' : (a : Int) = 2 := by omega
     have sN : ∀ lv : Int, sortN ⟨z, 3, lv, 0⟩ = 1 := fun _ => by simp [sortN]
     have w4 : IntKind.i64.wrap (3 * (d : Int) + 1) = 3 * d + 1 := wrap_i64 (by omega)
     have w5 : IntKind.i64.wrap (997 + 1) = 997 + 1 := wrap_i64 (by omega)
     by_cases h5 : 250 ≤ k
     ·have h5' : (250 : Int) ≤ k := by omega
      cases tidy with
      | true =>
       simp [go_sem, e1, e2, e3, e4, w1, w2, w3, h1, h1', h2, h2', h5, h5', sN]
       refine vcall_pure (s0 ⟨z, 3, 1 + c, 0⟩) ?_ ?_
       ·simp [go_sem]
       ·simp [go_sem, sN, w4, h5']
        refine vcall_pure (s0 ⟨z, 3, 3 * d + 1, 0⟩) ?_ ?_
        ·simp [go_sem]
        ·simp [go_sem, sN, w5]
         exact fin _ _ _ ⟨z, 3, 997 + 1, 0⟩
      | false =>
       simp [go_sem, e1, e2, e3, e4, w1, w2, w3, h1, h1', h2, h2', h5, h5', sN]
       refine vcall_pure (s0 ⟨z, 3, 1 + c, 0⟩) ?_ ?_
       ·simp [go_sem]
       ·simp [go_sem, sN, w5]
        exact fin _ _ _ ⟨z, 3, 997 + 1, 0⟩
     ·have h5' : ¬ (250 : Int) ≤ k := by omega
      cases tidy with
      | true =>
       simp [go_sem, e1, e2, e3, e4, w1, w2, w3, h1, h1', h2, h2', h5, h5', sN]
       refine vcall_pure (s0 ⟨z, 3, 1 + c, 0⟩) ?_ ?_
       ·simp [go_sem]
       ·simp [go_sem, sN, w4, h5']
        exact fin _ _ _ ⟨z, 3, 3 * d + 1, 0⟩
      | false =>
       simp [go_sem, e1, e2, e3, e4, w1, w2, w3, h1, h1', h2, h2', h5, h5', sN]
       exact fin _ _ _ ⟨z, 3, 1 + c, 0⟩
    ·rw [hk2]
     have h1' : ¬ (a : Int) < 2 := by omega
     have h2' : ¬ (a : Int) = 2 := by omega
     have sN : ∀ lv : Int, sortN ⟨z, 2, lv, (1 + b)⟩ = (1 + b) := fun _ => by simp [sortN]
     have w4 : IntKind.i64.wrap (3 * (d : Int) + (1 + b)) = 3 * d + (1 + b) := wrap_i64 (by omega)
     have w5 : IntKind.i64.wrap (997 + (1 + b)) = 997 + (1 + b) := wrap_i64 (by omega)
     by_cases h5 : 250 ≤ k
     ·have h5' : (250 : Int) ≤ k := by omega
      cases tidy with
      | true =>
       simp [go_sem, e1, e2, e3, e4, w1, w2, w3, h1, h1', h2, h2', h5, h5', sN]
       refine vcall_pure (s0 ⟨z, 2, 1 + c, (1 + b)⟩) ?_ ?_
       ·simp [go_sem]
       ·simp [go_sem, sN, w4, h5']
        refine vcall_pure (s0 ⟨z, 2, 3 * d + (1 + b), (1 + b)⟩) ?_ ?_
        ·simp [go_sem]
        ·simp [go_sem, sN, w5]
         exact fin _ _ _ ⟨z, 2, 997 + (1 + b), (1 + b)⟩
      | false =>
       simp [go_sem, e1, e2, e3, e4, w1, w2, w3, h1, h1', h2, h2', h5, h5', sN]
       refine vcall_pure (s0 ⟨z, 2, 1 + c, (1 + b)⟩) ?_ ?_
       ·simp [go_sem]
       ·simp [go_sem, sN, w5]
        exact fin _ _ _ ⟨z, 2, 997 + (1 + b), (1 + b)⟩
     ·have h5' : ¬ (250 : Int) ≤ k := by omega
      cases tidy with
      | true =>
       simp [go_sem, e1, e2, e3, e4, w1, w2, w3, h1, h1', h2, h2', h5, h5', sN]
       refine vcall_pure (s0 ⟨z, 2, 1 + c, (1 + b)⟩) ?_ ?_
       ·simp [go_sem]
       ·simp [go_sem, sN, w4, h5']
        exact fin _ _ _ ⟨z, 2, 3 * d + (1 + b), (1 + b)⟩
      | false =>
       simp [go_sem, e1, e2, e3, e4, w1, w2, w3, h1, h1', h2, h2', h5, h5', sN]
       exact fin _ _ _ ⟨z, 2, 1 + c, (1 + b)⟩
theorem c_l1DrawOp (r : Rd) (hr : r.ok) (tidy : Bool) : VProc Tryz.prog 103 [.ptr 0 2 0 0, .lit (.bool tidy)] [rdOb r] [] (fun av mem maps => av = .agg (drawOp r tidy).cells ∧ mem = [rdOb r.nx.nx] ∧ maps = []) := c_l1DrawOpW r hr.w tidy
theorem drawOp_wf (r : Rd) (tidy : Bool) : (drawOp r tidy).wf := by
 have h := l1T_size r.nx.v
 have e : (drawOp r tidy).text = l1T r.nx.v := by
  simp only [drawOp, drawOp2, drawOp1, drawOp0]
  split <;> split <;> rfl
 unfold POp.wf
 rw [e]
 simp only [maxLen]
 omega
def tabStep (p : List POp × Rd) : List POp × Rd := (if tblOk (p.1 ++ [drawOp p.2 true]) = 0 then p.1 ++ [drawOp p.2 true] else p.1, p.2.nx.nx)
def tabRun : Nat → List POp × Rd → List POp × Rd
 | 0, p => p
 | i + 1, p => tabStep (tabRun i p)
theorem tabRun_len (p : Rd) : ∀ i, (tabRun i ([], p)).1.length ≤ i
 | 0 => Nat.le_refl _
 | i + 1 => by
  have := tabRun_len p i
  simp only [tabRun, tabStep]
  split <;> simp <;> omega
theorem tabRun_ok {p : Rd} (h : p.ok) : ∀ i, (tabRun i ([], p)).2.ok
 | 0 => h
 | i + 1 => Rd.nx_ok (Rd.nx_ok (tabRun_ok h i))
theorem tabRun_wf (p : Rd) : ∀ i, ∀ o, o ∈ (tabRun i ([], p)).1 → o.wf
 | 0 => fun o h => by simp [tabRun] at h
 | i + 1 => fun o h => by
  simp only [tabRun, tabStep] at h
  split at h
  ·rcases List.mem_append.1 h with h | h
   ·exact tabRun_wf p i o h
   ·simp only [List.mem_singleton] at h
    rw [h]; exact drawOp_wf _ _
  ·exact tabRun_wf p i o h
def drawTab (r : Rd) : List POp × Rd := tabRun (3 + r.v % 8) ([], r.nx)
set_option maxRecDepth 100000 in
theorem c_l1DrawTable (r : Rd) (hr : r.ok) : VProc Tryz.prog 63 [.ptr 0 2 0 0] [rdOb r] [] (fun av mem maps => av = .agg [.own 1] ∧ mem = [rdOb (drawTab r).2, some ⟨133, 4, (drawTab r).1.length, opCells (drawTab r).1⟩] ∧ maps = []) := by
 have cr : ∀ (r : Rd) (i : Nat) (c : AV), i < r.n → c ∈ rdCells r.f i → Closed c := fun r i c _ h => rdClosed r.f i c h
 have c1 := c_next r hr
 have hk := Rd.v_lt hr
 have hn := Rd.nx_ok hr
 unfold drawTab
 generalize hK : r.v = k at *
 have e1 : (k : Int).tmod 8 = ((k % 8 : Nat) : Int) := tmod_nat k 8
 have ha : k % 8 < 8 := Nat.mod_lt _ (by decide)
 generalize k % 8 = a at *
 have w1 : IntKind.i64.wrap (3 + (a : Int)) = ((3 + a : Nat) : Int) := by rw [wrap_i64 (by omega)]; omega
 simp only [rdOb] at c1 ⊢
 refine vproc_start Tryz.func63 (by kernel_rfl) rfl (by simp [Tryz.ntmps63]) ?_; simp only [Tryz.ntmps63, Tryz.results63]; simp [go_sem]
 refine vcall_share [0] c1 (by simp) ?_ ?_ trivial ?_
 ·simp [go_sem]
 ·simp [go_sem]
  exact cr r
 ·rintro av mem maps ⟨rfl, rfl, rfl⟩
  simp [go_sem, e1]
  refine vc_loopE (fun i : Nat => i ≤ 3 + a) (fun i => 3 + a - i) (fun i => ⟨[(0, .ptr 0 2 0 0), (2, .ptr 1 1 0 0), (3, .lit (.int .i64 (3 + a : Nat))), (4, .ptr 2 1 0 0), (5, .lit (.int .i64 i))], [rdOb (tabRun i ([], r.nx)).2, some ⟨30, 1, 1, fun _ => [.lit (.slice none 0 0)]⟩, some ⟨30, 1, 1, fun _ => [.own 3]⟩, some ⟨133, 4, (tabRun i ([], r.nx)).1.length, opCells (tabRun i ([], r.nx)).1⟩], [], 1⟩) ⟨0, by omega, ?_⟩ (fun i hi => ?_)
  ·refine ent_ks [0, 1, 3, 2] (by simp) (by simp) (by simp) (by decide) (by simp [go_sem]) ?_ ?_
   ·simp [go_sem, w1]
   ·simp [go_sem, rdOb, tabRun]
    exact fun i c h1 h2 => rdClosed _ _ _ h2
  ·have hq := tabRun_ok hn i
   have hlen := tabRun_len r.nx i
   have hwf := tabRun_wf r.nx i
   have hst : tabRun (i + 1) ([], r.nx) = tabStep (tabRun i ([], r.nx)) := rfl
   have hfin : i = 3 + a → tabRun i ([], r.nx) = tabRun (3 + a) ([], r.nx) := fun e => by rw [e]
   generalize hT : tabRun i ([], r.nx) = TQ at *
   obtain ⟨T, q⟩ := TQ
   simp only at hq hlen hwf
   have c2 := c_l1DrawOp q hq true
   have howf := drawOp_wf q true
   simp only [tabStep] at hst
   generalize hO : drawOp q true = o at *
   have hw2 : opsWf (T ++ [o]) := by
    intro j hj
    have hm : opAt (T ++ [o]) j ∈ T ++ [o] := by
     unfold opAt
     rw [List.getD_eq_getElem?_getD, List.getElem?_eq_getElem hj]
     exact List.getElem_mem hj
    rcases List.mem_append.1 hm with h | h
    ·exact hwf _ h
    ·simp only [List.mem_singleton] at h
     rw [h]; exact howf
   have c3 := c_specTableOk (T ++ [o]) (by simp; omega) hw2
   simp only [rdOb, POp.cells] at c2 ⊢
   simp [go_sem]
   refine ⟨fun hlt => ⟨by omega, by omega, ?_⟩, fun hge => ?_⟩
   ·refine vcall_share [0] c2 (by simp) ?_ ?_ trivial ?_
    ·simp [go_sem]
    ·simp [go_sem]
     exact cr q
    ·rintro av mem maps ⟨rfl, rfl, rfl⟩
     have eqrow : ∀ (g h : Nat → List AV), h 0 = o.cells → ∀ j, j < T.length + 1 → joinF T.length (joinF 0 g (opCells T)) h j = opCells (T ++ [o]) j := fun g h hh j hj => by
      rw [← opCells_one T o j hj]
      unfold joinF
      by_cases hl : j < T.length
      ·simp [hl]
      ·have e0 : j - T.length = 0 := by omega
       rw [if_neg hl, if_neg hl, e0, hh]
     simp [go_sem]
     refine ⟨by omega, by omega, vcall_pure c3 ?_ ?_⟩
     ·simp [go_sem]
      exact ⟨by omega, _, rfl, fun j hj => ⟨eqrow (fun _ => []) (fun i => [o.cells][i]?.getD []) rfl j (by simpa using hj), fun c hc => opClosed _ _ _ hc⟩⟩
     ·by_cases h0 : tblOk (T ++ [o]) = 0
      ·rw [if_pos h0] at hst
       simp [go_sem, h0]
       refine ⟨i + 1, by omega, by omega, ?_⟩
       refine ent_ks [0, 1, 2, 7] (by simp) (by simp) (by simp) (by decide) (by simp [go_sem]) ?_ ?_
       ·simp [go_sem]
        exact wrap_succ (by omega)
       ·simp [go_sem, hst]
        exact ⟨fun j c h1 h2 => rdClosed _ _ _ h2, .inr fun j hj => by
         show CellsRn _ _ (joinF T.length (joinF 0 (fun _ => []) (opCells T)) (fun i => [o.cells][i]?.getD []) j) _
         rw [eqrow (fun _ => []) (fun i => [o.cells][i]?.getD []) rfl j hj]
         exact cellsRn_lits (opLit _ j)⟩
      ·rw [if_neg h0] at hst
       simp [go_sem, h0]
       refine ⟨i + 1, by omega, by omega, ?_⟩
       refine ent_ks [0, 1, 2, 3] (by simp) (by simp) (by simp) (by decide) (by simp [go_sem]) ?_ ?_
       ·simp [go_sem]
        exact wrap_succ (by omega)
       ·simp [go_sem, hst]
        exact ⟨fun j c h1 h2 => rdClosed _ _ _ h2, .inr fun j hj => cellsRn_lits (opLit _ j)⟩
   ·have ei : i = 3 + a := by omega
    have hR := hfin ei
    rw [← hR]
    refine ⟨rfl, [3], [rdOb q, some ⟨133, 4, T.length, opCells T⟩], by simp, by simp, by simp [go_sem], ?_, by simp [go_sem], ?_⟩
    ·simp [go_sem, rdOb]
     exact ⟨rdOut, outAt_lits (fun _ _ => rfl) (fun j _ => opLit _ j)⟩
    ·simp [go_sem, rdOb]
def gapT (k : Nat) : ByteArray := match k % 5 with
 | 0 => ⟨#[32]⟩ | 1 => ⟨#[]⟩ | 2 => ⟨#[10, 9]⟩ | 3 => ⟨#[32, 32]⟩ | _ => ⟨#[]⟩
theorem c_l2GapW (r : Rd) (hr : r.okw) : VProc Tryz.prog 113 [.ptr 0 2 0 0] [rdOb r] [] (fun av mem maps => av = .lit (.string (gapT r.v)) ∧ mem = [rdOb r.nx] ∧ maps = []) := by
 have cr : ∀ (r : Rd) (i : Nat) (c : AV), i < r.n → c ∈ rdCells r.f i → Closed c := fun r i c _ h => rdClosed r.f i c h
 have c1 := c_nextW r hr
 generalize hK : r.v = k at *
 unfold gapT
 have e := tmod_nat k 5
 rw [show ((5 : Nat) : Int) = 5 from rfl] at e
 have hlt : k % 5 < 5 := Nat.mod_lt _ (by decide)
 generalize k % 5 = q at *
 simp only [rdOb] at c1 ⊢
 have fin : ∀ (ts : List (Nat × AV)) (z : ByteArray), vendP [] (fun av mem maps => av = .lit (.string z) ∧ mem = [some ⟨138, 2, 1, fun _ => [.sl 1 r.nx.n (rdCells r.nx.f), .lit (.int .i64 r.nx.p)]⟩] ∧ maps = []) ⟨ts, [some ⟨138, 2, 1, fun _ => [.sl 1 r.nx.n (rdCells r.nx.f), .lit (.int .i64 r.nx.p)]⟩], [], 1⟩ (.lit (.string z)) := by
  intro ts z
  refine ⟨rfl, [], [rdOb r.nx], by simp, by simp, by simp [go_sem], ?_, by simp [go_sem], ?_⟩
  ·simp [go_sem, rdOb]
   exact rdOut
  ·simp [go_sem, rdOb]
 refine vproc_start Tryz.func113 (by kernel_rfl) rfl (by simp [Tryz.ntmps113]) ?_; simp only [Tryz.ntmps113, Tryz.results113]; simp [go_sem]
 refine vcall_share [0] c1 (by simp) ?_ ?_ trivial ?_
 ·simp [go_sem]
 ·simp [go_sem]
  exact cr r
 ·rintro av mem maps ⟨rfl, rfl, rfl⟩
  rcases (by omega : q = 0 ∨ q = 1 ∨ q = 2 ∨ q = 3 ∨ q = 4) with h | h | h | h | h <;> subst h <;> simp [go_sem, e] <;> exact fin _ _
end Go.Proofs.YtjdmmhcogmepaaaGreatDoor.V
namespace Go.Proofs.YtjdmmhcogmepaaaGreatDoor.Ops
structure Lv where
 lev : Int
 srt : Int
def Lv.h1 (a : Lv) : Int := if a.srt = 1 then a.lev else a.lev + 1
def Lv.h2 (a : Lv) : Int := if a.srt = 2 then a.lev else a.lev + 1
inductive Tr (α β : Type) where
 |leaf (b : β)
 |grp (t : Tr α β)
 |pre (o : α) (t : Tr α β)
 |post (o : α) (t : Tr α β)
 |inf (o : α) (l r : Tr α β)
inductive Tk (α β : Type) where
 |leaf (b : β)
 |pre (o : α)
 |inf (o : α)
 |post (o : α)
 |opn
 |cls
variable {α β : Type} (v : α → Lv)
def Tr.level : Tr α β → Int
 | .leaf _ => 1001
 | .grp _ => 1001
 | .pre o _ => (v o).lev
 | .post o _ => (v o).lev
 | .inf o _ _ => (v o).lev
def Tr.yield : Tr α β → List (Tk α β)
 | .leaf b => [.leaf b]
 | .grp t => .opn :: (t.yield ++ [.cls])
 | .pre o t => .pre o :: t.yield
 | .post o t => t.yield ++ [.post o]
 | .inf o l r => l.yield ++ .inf o :: r.yield
def Tr.Adm : Tr α β → Prop
 | .leaf _ => True
 | .grp t => t.Adm
 | .pre o t => (v o).h2 ≤ t.level v ∧ t.Adm
 | .post o t => (v o).h1 ≤ t.level v ∧ t.Adm
 | .inf o l r => (v o).h1 ≤ l.level v ∧ (v o).h2 ≤ r.level v ∧ l.Adm ∧ r.Adm
def Tr.All (p : α → Prop) : Tr α β → Prop
 | .leaf _ => True
 | .grp t => t.All p
 | .pre o t => p o ∧ (v o).srt = 2 ∧ t.All p
 | .post o t => p o ∧ (v o).srt = 1 ∧ t.All p
 | .inf o l r => p o ∧ l.All p ∧ r.All p
structure Good (p : α → Prop) : Prop where
 low : ∀ a, p a → 1 ≤ (v a).lev
 high : ∀ a, p a → (v a).lev ≤ 1000
 one : ∀ a b, p a → p b → (v a).lev = (v b).lev → (v a).srt = (v b).srt
abbrev Res (α β : Type) := Option (Option (Tr α β × List (Tk α β)))
def firstF (ope : Int → List (Tk α β) → Res α β) (ts : List (Tk α β)) : Res α β :=
 match ts with
 | .leaf b :: r => some (some (.leaf b, r))
 | .opn :: r =>
  match ope 0 r with
  | none => none
  | some none => some none
  | some (some (t, rest)) =>
   match rest with
   | .cls :: r' => some (some (.grp t, r'))
   | _ => some none
 | .pre o :: r =>
  match ope (v o).h2 r with
  | none => none
  | some none => some none
  | some (some (t, rest)) => some (some (.pre o t, rest))
 | _ => some none
def loopF (ope : Int → List (Tk α β) → Res α β) (lp : Int → Tr α β → List (Tk α β) → Res α β) (m : Int) (l : Tr α β) (ts : List (Tk α β)) : Res α β :=
 match ts with
 | .inf o :: r =>
  if (v o).lev < m then some (some (l, ts))
  else if l.level v < (v o).h1 then some (some (l, ts))
  else
   match ope (v o).h2 r with
   | none => none
   | some none => some none
   | some (some (t, rest)) => lp m (.inf o l t) rest
 | .post o :: r =>
  if (v o).lev < m then some (some (l, ts))
  else if l.level v < (v o).h1 then some (some (l, ts))
  else lp m (.post o l) r
 | _ => some (some (l, ts))
mutual
def operand : Nat → Int → List (Tk α β) → Res α β
 | 0, _, _ => none
 | n + 1, m, ts =>
  match first n ts with
  | none => none
  | some none => some none
  | some (some (l, rest)) => if l.level v < m then some none else loop n m l rest
def first : Nat → List (Tk α β) → Res α β
 | 0, _ => none
 | n + 1, ts => firstF v (operand n) ts
def loop : Nat → Int → Tr α β → List (Tk α β) → Res α β
 | 0, _, _, _ => none
 | n + 1, m, l, ts => loopF v (operand n) (loop n) m l ts
end
theorem mono_all (n : Nat) :
  (∀ m (ts : List (Tk α β)) r, operand v n m ts = some r → operand v (n + 1) m ts = some r) ∧
  (∀ (ts : List (Tk α β)) r, first v n ts = some r → first v (n + 1) ts = some r) ∧
  (∀ m (l : Tr α β) ts r, loop v n m l ts = some r → loop v (n + 1) m l ts = some r) := by
 induction n with
 | zero => exact ⟨fun _ _ _ h => by simp [operand] at h, fun _ _ h => by simp [first] at h, fun _ _ _ _ h => by simp [loop] at h⟩
 | succ n ih =>
  obtain ⟨iho, ihf, ihl⟩ := ih
  refine ⟨fun m ts r h => ?_, fun ts r h => ?_, fun m l ts r h => ?_⟩
  ·rw [operand] at h ⊢
   cases hf : first v n ts with
   | none => rw [hf] at h; simp at h
   | some x =>
    rw [ihf _ _ hf]; rw [hf] at h
    cases x with
    | none => exact h
    | some y =>
     obtain ⟨l, rest⟩ := y
     simp only at h ⊢
     split
     ·rename_i hl; rw [if_pos hl] at h; exact h
     ·rename_i hl; rw [if_neg hl] at h; exact ihl _ _ _ _ h
  ·rw [first] at h ⊢; unfold firstF at h ⊢
   split at h
   ·exact h
   ·rename_i r0
    cases ho : operand v n 0 r0 with
    | none => rw [ho] at h; simp at h
    | some x => rw [iho _ _ _ ho]; rw [ho] at h; exact h
   ·rename_i o r0
    cases ho : operand v n (v o).h2 r0 with
    | none => rw [ho] at h; simp at h
    | some x => rw [iho _ _ _ ho]; rw [ho] at h; exact h
   ·exact h
  ·rw [loop] at h ⊢; unfold loopF at h ⊢
   split at h
   ·rename_i o r0
    split
    ·rename_i hc; rw [if_pos hc] at h; exact h
    ·rename_i hc; rw [if_neg hc] at h
     split
     ·rename_i hd; rw [if_pos hd] at h; exact h
     ·rename_i hd; rw [if_neg hd] at h
      cases ho : operand v n (v o).h2 r0 with
      | none => rw [ho] at h; simp at h
      | some x =>
       rw [iho _ _ _ ho]; rw [ho] at h
       cases x with
       | none => exact h
       | some y => exact ihl _ _ _ _ h
   ·rename_i o r0
    split
    ·rename_i hc; rw [if_pos hc] at h; exact h
    ·rename_i hc; rw [if_neg hc] at h
     split
     ·rename_i hd; rw [if_pos hd] at h; exact h
     ·rename_i hd; rw [if_neg hd] at h; exact ihl _ _ _ _ h
   ·exact h
theorem operand_le {n n' : Nat} (h : n ≤ n') {m} {ts : List (Tk α β)} {r} (e : operand v n m ts = some r) : operand v n' m ts = some r := by
 induction h with
 | refl => exact e
 | step _ ih => exact (mono_all v _).1 _ _ _ ih
theorem first_le {n n' : Nat} (h : n ≤ n') {ts : List (Tk α β)} {r} (e : first v n ts = some r) : first v n' ts = some r := by
 induction h with
 | refl => exact e
 | step _ ih => exact (mono_all v _).2.1 _ _ ih
theorem loop_le {n n' : Nat} (h : n ≤ n') {m} {l : Tr α β} {ts : List (Tk α β)} {r} (e : loop v n m l ts = some r) : loop v n' m l ts = some r := by
 induction h with
 | refl => exact e
 | step _ ih => exact (mono_all v _).2.2 _ _ _ _ ih
theorem sound_all (n : Nat) :
  (∀ m (ts : List (Tk α β)) t rest, operand v n m ts = some (some (t, rest)) → ts = t.yield ++ rest ∧ t.Adm v ∧ m ≤ t.level v) ∧
  (∀ (ts : List (Tk α β)) t rest, first v n ts = some (some (t, rest)) → ts = t.yield ++ rest ∧ t.Adm v) ∧
  (∀ m (l : Tr α β) ts t rest, loop v n m l ts = some (some (t, rest)) → l.Adm v → m ≤ l.level v → l.yield ++ ts = t.yield ++ rest ∧ t.Adm v ∧ m ≤ t.level v) := by
 induction n with
 | zero => exact ⟨fun _ _ _ _ h => by simp [operand] at h, fun _ _ _ h => by simp [first] at h, fun _ _ _ _ _ h => by simp [loop] at h⟩
 | succ n ih =>
  obtain ⟨iho, ihf, ihl⟩ := ih
  refine ⟨fun m ts t rest h => ?_, fun ts t rest h => ?_, fun m l ts t rest h ha hm => ?_⟩
  ·rw [operand] at h
   cases hf : first v n ts with
   | none => rw [hf] at h; simp at h
   | some x =>
    rw [hf] at h
    cases x with
    | none => simp at h
    | some y =>
     obtain ⟨l, r0⟩ := y
     simp only at h
     split at h
     ·simp at h
     ·rename_i hl
      obtain ⟨h1, h2⟩ := ihf _ _ _ hf
      obtain ⟨h3, h4, h5⟩ := ihl _ _ _ _ _ h h2 (by omega)
      exact ⟨by rw [h1, h3], h4, h5⟩
  ·rw [first] at h; unfold firstF at h
   split at h
   ·simp only [Option.some.injEq, Prod.mk.injEq] at h
    obtain ⟨rfl, rfl⟩ := h
    exact ⟨rfl, trivial⟩
   ·rename_i r0
    cases ho : operand v n 0 r0 with
    | none => rw [ho] at h; simp at h
    | some x =>
     rw [ho] at h
     cases x with
     | none => simp at h
     | some y =>
      obtain ⟨t0, r1⟩ := y
      simp only at h
      split at h
      ·simp only [Option.some.injEq, Prod.mk.injEq] at h
       obtain ⟨rfl, rfl⟩ := h
       obtain ⟨h1, h2, _⟩ := iho _ _ _ _ ho
       refine ⟨?_, h2⟩
       rw [h1]; simp [Tr.yield]
      ·simp at h
   ·rename_i o r0
    cases ho : operand v n (v o).h2 r0 with
    | none => rw [ho] at h; simp at h
    | some x =>
     rw [ho] at h
     cases x with
     | none => simp at h
     | some y =>
      obtain ⟨t0, r1⟩ := y
      simp only [Option.some.injEq, Prod.mk.injEq] at h
      obtain ⟨rfl, rfl⟩ := h
      obtain ⟨h1, h2, h3⟩ := iho _ _ _ _ ho
      refine ⟨?_, h3, h2⟩
      rw [h1]; simp [Tr.yield]
   ·simp at h
  ·rw [loop] at h; unfold loopF at h
   split at h
   ·rename_i o r0
    split at h
    ·simp only [Option.some.injEq, Prod.mk.injEq] at h
     obtain ⟨rfl, rfl⟩ := h
     exact ⟨rfl, ha, hm⟩
    ·rename_i hc
     split at h
     ·simp only [Option.some.injEq, Prod.mk.injEq] at h
      obtain ⟨rfl, rfl⟩ := h
      exact ⟨rfl, ha, hm⟩
     ·rename_i hd
      cases ho : operand v n (v o).h2 r0 with
      | none => rw [ho] at h; simp at h
      | some x =>
       rw [ho] at h
       cases x with
       | none => simp at h
       | some y =>
        obtain ⟨t0, r1⟩ := y
        obtain ⟨h1, h2, h3⟩ := iho _ _ _ _ ho
        obtain ⟨h4, h5, h6⟩ := ihl _ _ _ _ _ h ⟨by omega, h3, ha, h2⟩ (by simp only [Tr.level]; omega)
        refine ⟨?_, h5, h6⟩
        rw [← h4, h1]; simp [Tr.yield]
   ·rename_i o r0
    split at h
    ·simp only [Option.some.injEq, Prod.mk.injEq] at h
     obtain ⟨rfl, rfl⟩ := h
     exact ⟨rfl, ha, hm⟩
    ·rename_i hc
     split at h
     ·simp only [Option.some.injEq, Prod.mk.injEq] at h
      obtain ⟨rfl, rfl⟩ := h
      exact ⟨rfl, ha, hm⟩
     ·rename_i hd
      obtain ⟨h4, h5, h6⟩ := ihl _ _ _ _ _ h ⟨by omega, ha⟩ (by simp only [Tr.level]; omega)
      refine ⟨?_, h5, h6⟩
      rw [← h4]; simp [Tr.yield]
   ·simp only [Option.some.injEq, Prod.mk.injEq] at h
    obtain ⟨rfl, rfl⟩ := h
    exact ⟨rfl, ha, hm⟩
def Stop (m : Int) : List (Tk α β) → Prop
 | .inf o :: _ => (v o).lev < m
 | .post o :: _ => (v o).lev < m
 | _ => True
def Edge : Tr α β → List (Tk α β) → Prop
 | .pre o t, r => Stop v (v o).h2 r ∧ Edge t r
 | .inf o _ t, r => Stop v (v o).h2 r ∧ Edge t r
 | _, _ => True
theorem Edge.of_low {t : Tr α β} {r : List (Tk α β)} {m : Int} (ha : t.Adm v) (hm : m ≤ t.level v) (hs : Stop v m r) : Edge v t r := by
 induction t generalizing m with
 | leaf b => trivial
 | grp t => trivial
 | post o t => trivial
 | pre o t ih =>
  have h2 : (v o).lev ≤ (v o).h2 := by unfold Lv.h2; split <;> omega
  simp only [Tr.level] at hm
  have hs' : Stop v (v o).h2 r := by
   unfold Stop at hs ⊢
   split <;> simp_all <;> omega
  exact ⟨hs', ih ha.2 ha.1 hs'⟩
 | inf o l t _ ih =>
  have h2 : (v o).lev ≤ (v o).h2 := by unfold Lv.h2; split <;> omega
  simp only [Tr.level] at hm
  have hs' : Stop v (v o).h2 r := by
   unfold Stop at hs ⊢
   split <;> simp_all <;> omega
  exact ⟨hs', ih ha.2.2.2 ha.2.1 hs'⟩
theorem Edge.of_op {p : α → Prop} (hg : Good v p) {t : Tr α β} {x : α} {tk : Tk α β} {r : List (Tk α β)} (hp : t.All v p) (hx : p x) (htk : tk = .inf x ∨ tk = .post x)
  (ha : t.Adm v) (hm : (v x).h1 ≤ t.level v) : Edge v t (tk :: r) := by
 have stop : ∀ m, (v x).lev < m → Stop v m (tk :: r) := by
  intro m h
  rcases htk with rfl | rfl <;> exact h
 have e1 : (v x).lev ≤ (v x).h1 := by unfold Lv.h1; split <;> omega
 have key : ∀ o, p o → (v x).h1 ≤ (v o).lev → (v x).lev < (v o).h2 := by
  intro o ho h
  by_cases he : (v x).lev = (v o).lev
  ·have hs := hg.one x o hx ho he
   unfold Lv.h1 at h
   unfold Lv.h2
   split at h
   ·rename_i h1
    rw [if_neg (by omega)]; omega
   ·omega
  ·have : (v o).lev ≤ (v o).h2 := by unfold Lv.h2; split <;> omega
   omega
 cases t with
 | leaf b => trivial
 | grp t => trivial
 | post o t => trivial
 | pre o t =>
  have hs : Stop v (v o).h2 (tk :: r) := stop _ (key o hp.1 hm)
  exact ⟨hs, Edge.of_low v ha.2 ha.1 hs⟩
 | inf o l t =>
  have hs : Stop v (v o).h2 (tk :: r) := stop _ (key o hp.1 hm)
  exact ⟨hs, Edge.of_low v ha.2.2.2 ha.2.1 hs⟩
theorem loop_stop {m : Int} {l : Tr α β} {r : List (Tk α β)} (hs : Stop v m r) : loop v 1 m l r = some (some (l, r)) := by
 rw [loop]; unfold loopF
 split
 ·exact if_pos hs
 ·exact if_pos hs
 ·rfl
theorem complete {p : α → Prop} (hg : Good v p) (t : Tr α β) : ∀ (m : Int) (rest : List (Tk α β)) (n : Nat) (res : Option (Tr α β × List (Tk α β))), t.All v p → t.Adm v → m ≤ t.level v → Edge v t rest →
  loop v n m t rest = some res → ∃ n', operand v n' m (t.yield ++ rest) = some res := by
 induction t with
 | leaf b =>
  intro m rest n res _ _ hm _ h
  refine ⟨n + 2, ?_⟩
  rw [operand]
  have e : first v (n + 1) (Tr.yield (.leaf b) ++ rest) = some (some (.leaf b, rest)) := by rw [first]; unfold firstF; rfl
  rw [e]; simp only
  rw [if_neg (by omega)]
  exact loop_le v (by omega) h
 | grp t ih =>
  intro m rest n res hp ha hm _ h
  obtain ⟨n', h'⟩ := ih 0 (.cls :: rest) 1 _ hp ha (by
   cases t <;> simp only [Tr.level] <;> first | omega | (have := hg.low _ hp.1; omega)) (Edge.of_low v (m := t.level v) ha (by omega) trivial) (loop_stop v trivial)
  refine ⟨n + n' + 3, ?_⟩
  rw [operand]
  have e : first v (n + n' + 2) (Tr.yield (.grp t) ++ rest) = some (some (.grp t, rest)) := by
   rw [first]; unfold firstF
   simp only [Tr.yield, List.cons_append, List.append_assoc, List.nil_append]
   rw [operand_le v (by omega) h']
  rw [e]; simp only
  rw [if_neg (by omega)]
  exact loop_le v (by omega) h
 | pre o t ih =>
  intro m rest n res hp ha hm he h
  obtain ⟨n', h'⟩ := ih (v o).h2 rest 1 _ hp.2.2 ha.2 ha.1 he.2 (loop_stop v he.1)
  refine ⟨n + n' + 3, ?_⟩
  rw [operand]
  have e : first v (n + n' + 2) (Tr.yield (.pre o t) ++ rest) = some (some (.pre o t, rest)) := by
   rw [first]; unfold firstF
   simp only [Tr.yield, List.cons_append]
   rw [operand_le v (by omega) h']
  rw [e]; simp only
  rw [if_neg (by omega)]
  exact loop_le v (by omega) h
 | post o t ih =>
  intro m rest n res hp ha hm he h
  simp only [Tr.level] at hm
  have e1 : (v o).lev ≤ (v o).h1 := by unfold Lv.h1; split <;> omega
  have ha1 := ha.1
  have hl : loop v (n + 1) m t (.post o :: rest) = some res := by
   rw [loop]; unfold loopF; simp only
   rw [if_neg (by omega), if_neg (by omega)]
   exact h
  obtain ⟨n', h'⟩ := ih m (.post o :: rest) (n + 1) res hp.2.2 ha.2 (by omega) (Edge.of_op v hg hp.2.2 hp.1 (.inr rfl) ha.2 ha.1) hl
  exact ⟨n', by simpa [Tr.yield] using h'⟩
 | inf o l r ihl ihr =>
  intro m rest n res hp ha hm he h
  simp only [Tr.level] at hm
  have e1 : (v o).lev ≤ (v o).h1 := by unfold Lv.h1; split <;> omega
  have ha1 := ha.1
  obtain ⟨n2, h2⟩ := ihr (v o).h2 rest 1 _ hp.2.2 ha.2.2.2 ha.2.1 he.2 (loop_stop v he.1)
  have hl : loop v (n + n2 + 1) m l (.inf o :: (r.yield ++ rest)) = some res := by
   rw [loop]; unfold loopF; simp only
   rw [if_neg (by omega), if_neg (by omega), operand_le v (by omega) h2]
   exact loop_le v (by omega) h
  obtain ⟨n', h'⟩ := ihl m (.inf o :: (r.yield ++ rest)) (n + n2 + 1) res hp.2.1 ha.2.2.1 (by omega) (Edge.of_op v hg hp.2.1 hp.1 (.inl rfl) ha.2.2.1 ha.1) hl
  exact ⟨n', by simpa [Tr.yield] using h'⟩
theorem level_low {p : α → Prop} (hg : Good v p) {t : Tr α β} (hp : t.All v p) : 1 ≤ t.level v := by
 cases t <;> simp only [Tr.level] <;> first | omega | exact hg.low _ hp.1
theorem fuel_all (n : Nat) :
  (∀ m (ts : List (Tk α β)), 2 * ts.length + 2 ≤ n → ∃ r, operand v n m ts = some r) ∧
  (∀ (ts : List (Tk α β)), 2 * ts.length + 1 ≤ n → ∃ r, first v n ts = some r ∧ ∀ t rest, r = some (t, rest) → rest.length < ts.length) ∧
  (∀ m (l : Tr α β) ts, 2 * ts.length + 1 ≤ n → ∃ r, loop v n m l ts = some r) := by
 have shorter : ∀ k m (ts : List (Tk α β)) t rest, operand v k m ts = some (some (t, rest)) → rest.length < ts.length := by
  intro k m ts t rest h
  have := ((sound_all v k).1 _ _ _ _ h).1
  have ht : 0 < (t.yield).length := by cases t <;> simp [Tr.yield] <;> omega
  rw [this, List.length_append]; omega
 induction n with
 | zero => exact ⟨fun _ _ h => by omega, fun _ h => by omega, fun _ _ _ h => by omega⟩
 | succ n ih =>
  obtain ⟨iho, ihf, ihl⟩ := ih
  refine ⟨fun m ts h => ?_, fun ts h => ?_, fun m l ts h => ?_⟩
  ·obtain ⟨r, hr, hlt⟩ := ihf ts (by omega)
   rw [operand, hr]
   cases r with
   | none => exact ⟨_, rfl⟩
   | some y =>
    obtain ⟨l, rest⟩ := y
    have := hlt _ _ rfl
    simp only
    split
    ·exact ⟨_, rfl⟩
    ·exact ihl _ _ _ (by omega)
  ·rw [first]; unfold firstF
   split
   ·exact ⟨_, rfl, fun t rest h => by
     simp only [Option.some.injEq, Prod.mk.injEq] at h
     obtain ⟨_, rfl⟩ := h
     simp⟩
   ·rename_i r0
    simp only [List.length_cons] at h
    obtain ⟨x, hx⟩ := iho 0 r0 (by omega)
    rw [hx]
    cases x with
    | none => exact ⟨_, rfl, fun _ _ h => by simp at h⟩
    | some y =>
     obtain ⟨t0, r1⟩ := y
     have := shorter _ _ _ _ _ hx
     simp only
     split
     ·exact ⟨_, rfl, fun t rest h => by
       simp only [Option.some.injEq, Prod.mk.injEq] at h
       obtain ⟨_, rfl⟩ := h
       simp only [List.length_cons] at this ⊢
       omega⟩
     ·exact ⟨_, rfl, fun _ _ h => by simp at h⟩
   ·rename_i o r0
    simp only [List.length_cons] at h
    obtain ⟨x, hx⟩ := iho (v o).h2 r0 (by omega)
    rw [hx]
    cases x with
    | none => exact ⟨_, rfl, fun _ _ h => by simp at h⟩
    | some y =>
     obtain ⟨t0, r1⟩ := y
     have := shorter _ _ _ _ _ hx
     exact ⟨_, rfl, fun t rest h => by
      simp only [Option.some.injEq, Prod.mk.injEq] at h
      obtain ⟨_, rfl⟩ := h
      simp only [List.length_cons]
      omega⟩
   ·exact ⟨_, rfl, fun _ _ h => by simp at h⟩
  ·rw [loop]; unfold loopF
   split
   ·rename_i o r0
    simp only [List.length_cons] at h
    split
    ·exact ⟨_, rfl⟩
    ·split
     ·exact ⟨_, rfl⟩
     ·obtain ⟨x, hx⟩ := iho (v o).h2 r0 (by omega)
      rw [hx]
      cases x with
      | none => exact ⟨_, rfl⟩
      | some y =>
       obtain ⟨t0, r1⟩ := y
       have := shorter _ _ _ _ _ hx
       exact ihl _ _ _ (by omega)
   ·rename_i o r0
    simp only [List.length_cons] at h
    split
    ·exact ⟨_, rfl⟩
    ·split
     ·exact ⟨_, rfl⟩
     ·exact ihl _ _ _ (by omega)
   ·exact ⟨_, rfl⟩
theorem whole {p : α → Prop} (hg : Good v p) (t : Tr α β) (hp : t.All v p) (ts : List (Tk α β)) :
  operand v (2 * ts.length + 2) 0 ts = some (some (t, [])) ↔ t.Adm v ∧ t.yield = ts := by
 constructor
 ·intro h
  obtain ⟨h1, h2, _⟩ := (sound_all v _).1 _ _ _ _ h
  exact ⟨h2, by rw [h1]; simp⟩
 ·rintro ⟨ha, rfl⟩
  have := level_low v hg hp
  obtain ⟨n', h'⟩ := complete v hg t 0 [] 1 _ hp ha (by omega) (Edge.of_low v (m := t.level v) ha (by omega) trivial) (loop_stop v trivial)
  rw [List.append_nil] at h'
  obtain ⟨r, hr⟩ := (fuel_all v (2 * t.yield.length + 2)).1 0 t.yield (by omega)
  rw [hr]
  have h1 := operand_le v (Nat.le_max_left n' (2 * t.yield.length + 2)) h'
  have h2 := operand_le v (Nat.le_max_right n' (2 * t.yield.length + 2)) hr
  rw [h1] at h2
  exact h2.symm
end Go.Proofs.YtjdmmhcogmepaaaGreatDoor.Ops
namespace Go.Proofs.YtjdmmhcogmepaaaGreatDoor.V
open Go.RowKit
structure PNode where
 text : ByteArray
 kind : Int
 a : Int
 b : Int
def PNode.cells (o : PNode) : List AV := [.lit (.int .i64 o.kind), .lit (.string o.text), .lit (.int .i64 o.a), .lit (.int .i64 o.b)]
def PNode.wf (o : PNode) : Prop := o.text.size ≤ maxLen
instance : Inhabited PNode := ⟨⟨⟨#[]⟩, 0, 0, 0⟩⟩
def nodCells (l : List PNode) (i : Nat) : List AV := (l.getD i default).cells
theorem nodClosed (l : List PNode) (i : Nat) (c : AV) (h : c ∈ nodCells l i) : Closed c := by
 simp [nodCells, PNode.cells] at h
 rcases h with rfl | rfl | rfl | rfl <;> exact .lit _
theorem nodLit (l : List PNode) (i : Nat) : (nodCells l i).all isLit = true := rfl
def nodEq (a b : PNode) : Bool := a.text == b.text && a.kind == b.kind && a.a == b.a && a.b == b.b
def nodAt (l : List PNode) (i : Nat) : PNode := l.getD i default
theorem nodCells_at (l : List PNode) (i : Nat) : nodCells l i = [.lit (.int .i64 (nodAt l i).kind), .lit (.string (nodAt l i).text), .lit (.int .i64 (nodAt l i).a), .lit (.int .i64 (nodAt l i).b)] := rfl
def nodsEq (a b : List PNode) : Bool := decide (a.length = b.length) && (List.range a.length).all fun i => nodEq (nodAt a i) (nodAt b i)
theorem nodsEq_false {a b : List PNode} {i : Nat} (h : i < a.length) (e : nodEq (nodAt a i) (nodAt b i) = false) : nodsEq a b = false := by
 simp only [nodsEq, Bool.and_eq_false_iff, List.all_eq_false, List.mem_range]
 exact .inr ⟨i, h, by rw [e]; simp⟩
theorem nodsEq_true {a b : List PNode} (hl : a.length = b.length) (h : ∀ i, i < a.length → nodEq (nodAt a i) (nodAt b i) = true) : nodsEq a b = true := by
 simp only [nodsEq, Bool.and_eq_true, decide_eq_true_eq, List.all_eq_true, List.mem_range]
 exact ⟨hl, h⟩
theorem nodEq_refl (a : PNode) : nodEq a a = true := by simp [nodEq, ba_beq]
theorem nodsEq_refl (a : List PNode) : nodsEq a a = true := nodsEq_true rfl fun i _ => nodEq_refl _
@[go_sem] theorem nodCells_ren {g : Nat → Nat} {l : List PNode} {i : Nat} : (nodCells l i).map (ren1 g) = nodCells l i := map_lits rfl
theorem vfun_below {P : Program} {f : FuncId} {vs : List Value} {v : Value} (hf : FnOk P f) (h : ∀ w, Calls P f vs.toArray w fun e w' => e = .returned v ∧ Below w.heap.size w w') : VFun P f (vs.map .lit) (fun av obs => obs = [] ∧ av = .lit v) := by
 refine ⟨hf, fun w us hl hu => ?_⟩
 have e : us = vs := by
  have hl' : vs.length = us.length := by simpa using hl
  apply List.ext_getElem hl'.symm
  intro j h1 h2
  have := hu j (.lit vs[j]) us[j] (by simp [h2]) (List.getElem?_eq_getElem h1)
  generalize us[j] = x at this
  generalize vs[j] = y at this
  cases this
  rfl
 subst e
 refine (h w).mono fun e w' ⟨he, hw⟩ => ?_
 subst he
 exact ⟨v, rfl, ⟨hw.os, hw.tape, hw.output, hw.size, fun k hk _ => hw.block k hk⟩, fun _ => undef, .lit v, [], ⟨rfl, rfl⟩, rfl, fun ob h => by simp at h, ⟨fun k ob h => by simp at h, fun k ob h => by simp at h, fun k h => by simp at h, fun k k' ob ob' h => by simp at h⟩, .lit v⟩
def digitBytes : ByteArray := { data := #[48, 49, 50, 51, 52, 53, 54, 55, 56, 57] }
theorem contains_digit (b : UInt8) : digitBytes.data.toList.contains b = isDg b.toNat := by
 revert b
 have h : (List.range 256).all (fun n => digitBytes.data.toList.contains n.toUInt8 == isDg n) = true := by kernel_rfl
 intro b
 have := List.all_eq_true.mp h b.toNat (List.mem_range.mpr b.toNat_lt)
 simpa using this
theorem dropWhile_all {α : Type} {p : α → Bool} {l : List α} : l.dropWhile p = [] ↔ ∀ x, x ∈ l → p x = true := by
 induction l with
 | nil => simp
 | cons a l ih =>
  rw [List.dropWhile_cons]
  split
  ·rename_i h; simp [ih, h]
  ·rename_i h; simp [h]
theorem trim_nil {l cs : List UInt8} : Lib.trimS l cs = [] ↔ ∀ x, x ∈ l → cs.contains x = true := by
 unfold Lib.trimS Lib.trimLeftS
 rw [dropWhile_all]
 unfold Lib.trimRightS
 constructor
 ·intro h x hx
  have hd : l = (l.reverse.dropWhile (cs.contains ·)).reverse ++ (l.reverse.takeWhile (cs.contains ·)).reverse := by
   rw [← List.reverse_append, List.takeWhile_append_dropWhile, List.reverse_reverse]
  rw [hd, List.mem_append] at hx
  rcases hx with hx | hx
  ·exact h x hx
  ·rw [List.mem_reverse] at hx
   exact List.all_eq_true.mp (List.all_takeWhile (p := (cs.contains ·)) (l := l.reverse)) x hx
 ·intro h x hx
  rw [List.mem_reverse] at hx
  exact h x (List.mem_reverse.mp ((List.dropWhile_sublist _).subset hx))
def trimDg (z : ByteArray) : ByteArray := ⟨(Lib.trimS z.data.toList digitBytes.data.toList).toArray⟩
theorem trimDg_num (z : ByteArray) (h : 0 < z.size) : decide (trimDg z = ⟨#[]⟩) = numZ z := by
 have e : trimDg z = ⟨#[]⟩ ↔ ∀ i, i < z.size → isDg (byteAt z i) = true := by
  unfold trimDg
  rw [ByteArray.mk.injEq, Array.mk.injEq, trim_nil]
  simp only [contains_digit]
  constructor
  ·intro h i hi
   have := h (z.data.toList[i]'hi) (List.getElem_mem _)
   unfold byteAt
   rw [dif_pos hi]
   exact this
  ·intro h x hx
   obtain ⟨i, hi, rfl⟩ := List.getElem_of_mem hx
   have := h i hi
   unfold byteAt at this
   rw [dif_pos (show i < z.size from hi)] at this
   exact this
 rw [Bool.eq_iff_iff, decide_eq_true_eq, e]
 simp only [numZ, h, decide_true, Bool.and_true, List.all_eq_true, List.mem_range]
theorem c_trim (z : ByteArray) (hz : z.size ≤ 9223372036854775807) : VFun Tryz.prog 121 [.lit (.string z), .lit (.string digitBytes)] (fun av obs => obs = [] ∧ av = .lit (.string (trimDg z))) :=
 vfun_below (vs := [.string z, .string digitBytes]) ⟨_, Tryz.func121, rfl, rfl⟩ (fun w => Any.strings_Trim_laid Tryz.lays160 (by kernel_rfl) z digitBytes w hz (by decide) (ascii_of_all (by decide)))
theorem ba_nil {z : ByteArray} : z.toList = [] ↔ z.size = 0 := by
 rw [ByteArray.toList_eq]
 constructor
 ·intro h
  show z.data.size = 0
  rw [← Array.length_toList, h]; rfl
 ·intro h
  apply List.eq_nil_of_length_eq_zero
  rw [Array.length_toList]; exact h
theorem ba_empty {z : ByteArray} : z.toList.isEmpty = decide (z = ⟨#[]⟩) := by
 rw [Bool.eq_iff_iff, List.isEmpty_iff, decide_eq_true_iff, ba_nil]
 constructor
 ·intro h
  exact ByteArray.ext (Array.eq_empty_of_size_eq_zero h)
 ·intro h
  rw [h]; rfl
theorem c_nameOk (z : ByteArray) (hz : z.size ≤ 9223372036854775807) : VFun Tryz.prog 122 [.lit (.string z)] (fun av obs => obs = [] ∧ av = .lit (.bool (namZ z))) := by
 refine vfun_start Tryz.func122 (by kernel_rfl) rfl (by simp [Tryz.ntmps122]) ?_; simp only [Tryz.ntmps122, Tryz.results122]; simp [go_sem]
 have emp : z.toList = [] → namZ z = false := fun h => by simp [namZ, ba_nil.mp h]
 refine ⟨fun h0 => ⟨by have := mt ba_nil.mpr h0; omega, vcall_pure (c_isLetter (byteAt z 0)) ?_ ?_⟩, emp⟩
 ·simp [go_sem]
 ·have hp : 0 < z.size := by have := mt ba_nil.mpr h0; omega
  simp [go_sem]
  refine ⟨fun e => by simp only [namZ, all_false (p := fun i => namAt z i) hp (by simp [namAt, e]), Bool.false_and], fun e => ?_⟩
  refine vc_loop (fun i : Nat => i ≤ z.size ∧ ∀ j, j < i → namAt z j = true) (fun i => z.size - i) (fun i => .of [(0, .lit (.string z)), (13, .lit (.int .i64 z.size)), (14, .lit (.int .i64 i))] []) ⟨0, ⟨by omega, by simp⟩, ?_⟩ (fun i hi => ?_)
  ·simp [go_sem]
  ·simp [go_sem]
   have bad : i < z.size → namAt z i = false → namZ z = false := fun h e => by simp only [namZ, all_false (p := fun i => namAt z i) h e, Bool.false_and]
   have step : i < z.size → namAt z i = true → ∃ j : Nat, (j ≤ z.size ∧ ∀ q, q < j → namAt z q = true) ∧ z.size - j < z.size - i ∧ IntKind.i64.wrap ((i : Int) + 1) = j := fun hl e => ⟨i + 1, ⟨by omega, fun j hj => by
    rcases Nat.lt_succ_iff_lt_or_eq.mp hj with hj | rfl
    ·exact hi.2 j hj
    ·exact e⟩, by omega, wrap_succ (by omega)⟩
   refine ⟨fun h => ⟨h, vcall_pure (c_isLetter (byteAt z i)) ?_ ?_⟩, fun h => by simp only [namZ, all_true (p := fun i => namAt z i) (n := z.size) fun j hj => hi.2 j (by omega), Bool.true_and, hp, decide_true]⟩
   ·simp [go_sem]
   ·simp [go_sem]
    refine ⟨fun e1 => ⟨h, vcall_pure (c_isDigit (byteAt z i)) ?_ ?_⟩, fun e1 => step h (by simp [namAt, e1])⟩
    ·simp [go_sem]
    ·have h0 : i ≠ 0 := fun hz => by subst hz; rw [e] at e1; cases e1
     simp [go_sem]
     exact ⟨fun e2 => bad h (by simp [namAt, e1, e2]), fun e2 => step h (by simp [namAt, e1, e2, h0])⟩
def kidsN (k : Int) : Int := if k = 4 then 2 else if k = 3 ∨ k = 5 ∨ k = 6 then 1 else 0
theorem c_l3Kids (k : Int) : VFun Tryz.prog 58 [.lit (.int .i64 k)] (fun av obs => obs = [] ∧ av = .lit (.int .i64 (kidsN k))) := by
 refine vfun_start Tryz.func58 (by kernel_rfl) rfl (by simp [Tryz.ntmps58]) ?_; simp only [Tryz.ntmps58, Tryz.results58]; simp [go_sem]
 by_cases h1 : k = 4
 ·simp [kidsN, h1]
 ·by_cases h2 : k = 3 <;> by_cases h3 : k = 5 <;> by_cases h4 : k = 6 <;> simp [kidsN, h1, h2, h3, h4]
theorem c_kids (o : PNode) (h : 1 ≤ o.kind ∧ o.kind ≤ 6) : VFun Tryz.prog 62 [.agg o.cells] (fun av obs => obs = [] ∧ av = .lit (.int .i64 (kidsN o.kind))) := by
 obtain ⟨z, k, x, y⟩ := o
 simp only [PNode.cells] at h ⊢
 refine vfun_start Tryz.func62 (by kernel_rfl) rfl (by simp [Tryz.ntmps62]) ?_; simp only [Tryz.ntmps62, Tryz.results62]; simp [go_sem]
 have hk : k = 1 ∨ k = 2 ∨ k = 3 ∨ k = 4 ∨ k = 5 ∨ k = 6 := by omega
 rcases hk with rfl | rfl | rfl | rfl | rfl | rfl <;> simp [kidsN]
def txtOk (o : PNode) : Bool := decide (o.text.size ≤ 20000) && (if o.kind = 1 then numZ o.text else if o.kind = 2 then namZ o.text else if o.kind = 6 then decide (o.text = ⟨#[]⟩) else decide (3 ≤ o.kind ∧ o.kind ≤ 5) && sgOk o.text)
theorem c_l3TextOk (o : PNode) (ho : o.wf) : VFun Tryz.prog 119 [.agg o.cells] (fun av obs => obs = [] ∧ av = .lit (.bool (txtOk o))) := by
 obtain ⟨z, k, x, y⟩ := o
 simp only [PNode.cells, PNode.wf, maxLen] at ho ⊢
 refine vfun_start Tryz.func119 (by kernel_rfl) rfl (by simp [Tryz.ntmps119]) ?_; simp only [Tryz.ntmps119, Tryz.results119]; simp [go_sem]
 refine ⟨fun h => by simp [txtOk]; omega, fun h => ⟨fun h1 => ?_, fun h1 => ⟨fun h2 => ?_, fun h2 => ?_⟩⟩⟩
 ·refine vcall_pure (c_l2IsNumber z (by omega)) ?_ ?_
  ·simp [go_sem]
  ·simp [go_sem, txtOk, h1]
   omega
 ·refine vcall_pure (c_l2IsName z (by omega)) ?_ ?_
  ·simp [go_sem]
  ·simp [go_sem, txtOk, h2]
   omega
 ·have hs : z.size ≤ 20000 := by omega
  refine ⟨fun h3 => by simp [txtOk, h1, h2, h3, hs, ba_empty], fun h3 => ⟨fun h4 => ⟨fun h5 => vcall_pure (c_l1Signs z (by simp only [maxLen]; omega)) ?_ ?_, fun h5 => ?_⟩, fun h4 => ?_⟩⟩
  ·simp [go_sem]
  ·simp [go_sem, txtOk, h1, h2, h3, h4, h5, hs]
  ·simp [go_sem, txtOk, h1, h2, h3, hs]
   intros; omega
  ·simp [go_sem, txtOk, h1, h2, h3, hs]
   intros; omega
theorem c_textOk (o : PNode) (ho : o.wf) : VFun Tryz.prog 89 [.agg o.cells] (fun av obs => obs = [] ∧ av = .lit (.bool (txtOk o))) := by
 obtain ⟨z, k, x, y⟩ := o
 simp only [PNode.cells, PNode.wf, maxLen] at ho ⊢
 refine vfun_start Tryz.func89 (by kernel_rfl) rfl (by simp [Tryz.ntmps89]) ?_; simp only [Tryz.ntmps89, Tryz.results89]; simp [go_sem]
 refine ⟨fun h => by simp [txtOk]; omega, fun h => ⟨fun h1 => ⟨fun h0 => ?_, fun h0 => ?_⟩, fun h1 => ⟨fun h2 => ?_, fun h2 => ?_⟩⟩⟩
 ·refine vcall_pure (c_trim z (by omega)) ?_ ?_
  ·simp [go_sem, digitBytes]
  ·simp [go_sem, txtOk, h1, ba_empty]
   rw [trimDg_num z (by have := mt ba_nil.mpr h0; omega)]
   simp [show z.size ≤ 20000 by omega]
 ·simp [txtOk, h1, numZ, ba_nil.mp h0]
 ·refine vcall_pure (c_nameOk z (by omega)) ?_ ?_
  ·simp [go_sem]
  ·simp [go_sem, txtOk, h2]
   omega
 ·have hs : z.size ≤ 20000 := by omega
  have sg := c_signsOk z (by simp only [maxLen]; omega)
  by_cases h3 : k = 3 ∨ k = 4 ∨ k = 5
  ·rcases h3 with rfl | rfl | rfl
   all_goals
    simp
    refine vcall_pure sg ?_ ?_
    ·simp [go_sem]
    ·simp [go_sem, txtOk, hs]
  ·have h4 : ¬ k = 3 := by omega
   have h5 : ¬ k = 4 := by omega
   have h6 : ¬ k = 5 := by omega
   simp [h4, h5, h6]
   refine ⟨fun h7 => by simp [txtOk, h7, hs, ba_empty], fun h7 => ?_⟩
   simp [txtOk, h1, h2, h7, hs]
   intros; omega
def fromS (l : List PNode) (n : Nat) : {f : Int // f ≤ n} :=
 if kidsN (nodAt l n).kind = 0 then (if (nodAt l n).a ≠ 0 ∨ (nodAt l n).b ≠ 0 then ⟨-1, by omega⟩ else ⟨n, by omega⟩)
 else if h0 : n = 0 then ⟨-1, by omega⟩
 else if kidsN (nodAt l n).kind = 1 then (if (nodAt l n).a ≠ (n : Int) - 1 ∨ (nodAt l n).b ≠ 0 then ⟨-1, by omega⟩ else match fromS l (n - 1) with | ⟨f, hf⟩ => ⟨f, by omega⟩)
 else if (nodAt l n).b ≠ (n : Int) - 1 then ⟨-1, by omega⟩
 else match fromS l (n - 1) with
  | ⟨f, hf⟩ => if h : f < 1 ∨ (nodAt l n).a ≠ f - 1 then ⟨-1, by omega⟩ else match fromS l (f - 1).toNat with | ⟨g, hg⟩ => ⟨g, by omega⟩
termination_by n
decreasing_by all_goals omega
def fromZ (l : List PNode) (i : Int) : Int := if i < 0 then -1 else (fromS l i.toNat).1
theorem kidsN_cases (k : Int) : kidsN k = 0 ∨ kidsN k = 1 ∨ kidsN k = 2 := by
 unfold kidsN; split <;> (try split) <;> simp
theorem fromZ_neg (l : List PNode) {i : Int} (h : i < 0) : fromZ l i = -1 := if_pos h
theorem fromZ_le (l : List PNode) {i : Int} (h : 0 ≤ i) : fromZ l i ≤ i := by
 unfold fromZ
 rw [if_neg (by omega)]
 have := (fromS l i.toNat).2
 omega
theorem fromZ_nat (l : List PNode) (n : Nat) : fromZ l n = (fromS l n).1 := by
 unfold fromZ
 rw [if_neg (by omega), Int.toNat_natCast]
theorem fromZ_eq (l : List PNode) (n : Nat) : fromZ l n = if kidsN (nodAt l n).kind = 0 then (if (nodAt l n).a ≠ 0 ∨ (nodAt l n).b ≠ 0 then -1 else (n : Int))
  else if kidsN (nodAt l n).kind = 1 then (if (nodAt l n).a ≠ (n : Int) - 1 ∨ (nodAt l n).b ≠ 0 then -1 else fromZ l ((n : Int) - 1))
  else if (nodAt l n).b ≠ (n : Int) - 1 then -1
  else if fromZ l ((n : Int) - 1) < 1 ∨ (nodAt l n).a ≠ fromZ l ((n : Int) - 1) - 1 then -1 else fromZ l (fromZ l ((n : Int) - 1) - 1) := by
 rw [fromZ_nat, fromS]
 by_cases h0 : kidsN (nodAt l n).kind = 0
 ·simp only [h0, if_true]
  split <;> rfl
 ·simp only [h0, if_false]
  by_cases hn : n = 0
  ·subst hn
   have e : fromZ l (((0 : Nat) : Int) - 1) = -1 := fromZ_neg l (by omega)
   simp only [e, dite_true]
   split
   ·split <;> rfl
   ·split
    ·rfl
    ·rw [if_pos (.inl (by omega))]
  ·have e : ((n : Nat) : Int) - 1 = (n - 1 : Nat) := by omega
   have e2 : fromZ l ((n - 1 : Nat) : Int) = (fromS l (n - 1)).1 := fromZ_nat l (n - 1)
   simp only [hn, dite_false]
   split
   ·split
    ·rfl
    ·rw [e, e2]
   ·split
    ·rfl
    ·simp only [e, e2]
     generalize fromS l (n - 1) = y
     obtain ⟨f, hf⟩ := y
     simp only
     split
     ·rfl
     ·rename_i h
      unfold fromZ
      rw [if_neg (by omega)]
theorem fromZ_ge (l : List PNode) (i : Int) : -1 ≤ fromZ l i := by
 have key : ∀ (g : Nat) (i : Int), i < g → -1 ≤ fromZ l i := by
  intro g
  induction g with
  | zero => intro i h; rw [fromZ_neg l (by omega)]; decide
  | succ g ih =>
   intro i h
   by_cases hi : i < 0
   ·rw [fromZ_neg l hi]; decide
   ·obtain ⟨n, rfl⟩ := Int.eq_ofNat_of_zero_le (show 0 ≤ i by omega)
    rw [fromZ_eq]
    split
    ·split <;> omega
    ·split
     ·split
      ·decide
      ·exact ih _ (by omega)
     ·split
      ·decide
      ·split
       ·decide
       ·rename_i h3
        by_cases hn : n = 0
        ·subst hn
         rw [fromZ_neg l (i := ((0 : Nat) : Int) - 1) (by omega)] at h3
         omega
        ·have := fromZ_le l (i := (n : Int) - 1) (by omega)
         exact ih _ (by omega)
 exact key (i.toNat + 1) i (by omega)
theorem fromZ_all (l : List PNode) : ∀ (n : Nat) (j : Nat), 0 ≤ fromZ l n → fromZ l n ≤ j → j ≤ n → 0 ≤ fromZ l j := by
 intro n
 induction n using Nat.strongRecOn with
 | ind n ih =>
  intro j h0 hj hn
  by_cases hjn : j = n
  ·subst hjn; exact h0
  ·rw [fromZ_eq] at h0 hj
   split at h0
   ·rename_i hk
    split at h0
    ·omega
    ·rename_i h1
     simp only [hk, if_true, if_neg h1] at hj
     omega
   ·rename_i hk
    have hn1 : ((n : Int) - 1) = ((n - 1 : Nat) : Int) := by omega
    split at h0
    ·rename_i hk1
     split at h0
     ·omega
     ·rename_i h1
      simp only [hk1, if_true, if_neg h1, if_neg (show ¬ (1 : Int) = 0 by decide)] at hj
      rw [hn1] at h0 hj
      exact ih (n - 1) (by omega) j h0 hj (by omega)
    ·rename_i hk1
     split at h0
     ·omega
     ·rename_i h1
      split at h0
      ·omega
      ·rename_i h2
       simp only [if_neg hk, if_neg hk1, if_neg h1, if_neg h2] at hj
       rw [hn1] at h0 hj h2
       have hle := fromZ_le l (i := ((n - 1 : Nat) : Int)) (by omega)
       by_cases hs : fromZ l ((n - 1 : Nat) : Int) ≤ j
       ·exact ih (n - 1) (by omega) j (by omega) hs (by omega)
       ·have e : fromZ l ((n - 1 : Nat) : Int) - 1 = ((fromZ l ((n - 1 : Nat) : Int) - 1).toNat : Int) := by omega
        rw [e] at h0 hj
        exact ih _ (by omega) j h0 hj (by omega)
def inOrd (l : List PNode) : Bool := decide (1 ≤ l.length ∧ l.length ≤ 20000) && decide (fromZ l ((l.length : Int) - 1) = 0) && (List.range l.length).all fun i => txtOk (nodAt l i)
theorem txtOk_range {o : PNode} (h : ¬ (1 ≤ o.kind ∧ o.kind ≤ 6)) : txtOk o = false := by
 have h1 : ¬ o.kind = 1 := by omega
 have h2 : ¬ o.kind = 2 := by omega
 have h3 : ¬ o.kind = 6 := by omega
 simp only [txtOk, h1, h2, h3, if_false]
 have h4 : decide (3 ≤ o.kind ∧ o.kind ≤ 5) = false := decide_eq_false (by omega)
 rw [h4]; simp
theorem c_l3From_step (l : List PNode) (hl : l.length ≤ 9223372036854775807) (i : Int) (h1 : -1 ≤ i) (h2 : i < l.length)
  (ih : ∀ j : Int, -1 ≤ j → j < i → VFun Tryz.prog 118 [.sl 4 l.length (nodCells l), .lit (.int .i64 j)] (fun av obs => obs = [] ∧ av = .lit (.int .i64 (fromZ l j)))) :
  VFun Tryz.prog 118 [.sl 4 l.length (nodCells l), .lit (.int .i64 i)] (fun av obs => obs = [] ∧ av = .lit (.int .i64 (fromZ l i))) := by
 have cl : ∀ (i : Nat) (c : AV), i < l.length → c ∈ nodCells l i → Closed c := fun i c _ h => nodClosed l i c h
 refine vfun_start Tryz.func118 (by kernel_rfl) rfl (by simp [Tryz.ntmps118]) ?_; simp only [Tryz.ntmps118, Tryz.results118]; simp [go_sem]
 refine ⟨fun h => (fromZ_neg l h).symm, fun h => ?_⟩
 obtain ⟨n, rfl⟩ := Int.eq_ofNat_of_zero_le h
 have eq := fromZ_eq l n
 have le1 : fromZ l ((n : Int) - 1) ≤ n := by
  by_cases hn : n = 0
  ·subst hn; rw [fromZ_neg l (by omega)]; decide
  ·have := fromZ_le l (i := (n : Int) - 1) (by omega)
   omega
 have le0 : 1 ≤ fromZ l ((n : Int) - 1) → fromZ l ((n : Int) - 1) ≤ (n : Int) - 1 := fun h => by
  by_cases hn : n = 0
  ·subst hn; rw [fromZ_neg l (by omega)] at h; omega
  ·exact fromZ_le l (by omega)
 have ge1 : -1 ≤ fromZ l ((n : Int) - 1) := fromZ_ge l _
 have e1 : IntKind.i64.wrap ((n : Int) - 1) = (n : Int) - 1 := wrap_i64 (by omega)
 simp [go_sem, nodCells_at]
 refine ⟨by omega, vcall_pure (c_l3Kids (nodAt l n).kind) ?_ ?_⟩
 ·simp [go_sem]
 ·simp [go_sem]
  refine ⟨fun k0 => ?_, fun k0 => vcall_pure (c_l3Kids (nodAt l n).kind) ?_ ?_⟩
  ·simp only [k0, if_true] at eq
   rw [eq]
   clear eq
   by_cases ha : (nodAt l n).a = 0 <;> by_cases hb : (nodAt l n).b = 0 <;> simp [ha, hb]
  ·simp [go_sem]
  ·simp only [k0, if_false] at eq
   simp [go_sem, e1]
   refine ⟨fun k1 => ?_, fun k1 => ?_⟩
   ·have k10 : ¬ (1 : Int) = 0 := by decide
    simp only [k1, if_true, k10, if_false] at eq
    refine ⟨fun ha => ⟨fun hb => by rw [eq, if_pos (.inr hb)], fun hb => vcall_pure (ih ((n : Int) - 1) (by omega) (by omega)) ?_ ?_⟩, fun ha => by rw [eq, if_pos (.inl ha)]⟩
    ·simp [go_sem]
     exact argSl_refl (by omega) cl
    ·simp [go_sem]
     rw [eq, if_neg (by rintro (h | h) <;> omega)]
   ·simp only [k1, if_false] at eq
    refine ⟨fun hb => by rw [eq, if_pos hb], fun hb => vcall_pure (ih ((n : Int) - 1) (by omega) (by omega)) ?_ ?_⟩
    ·simp [go_sem]
     exact argSl_refl (by omega) cl
    ·have e2 : IntKind.i64.wrap (fromZ l ((n : Int) - 1) - 1) = fromZ l ((n : Int) - 1) - 1 := wrap_i64 (by omega)
     rw [if_neg (by omega)] at eq
     by_cases hf : fromZ l ((n : Int) - 1) < 1
     ·rw [if_pos (.inl hf)] at eq
      simp [go_sem, hf, eq]
     ·simp [go_sem, hf, e2]
      refine ⟨fun ha => by rw [eq, if_pos (.inr ha)], fun ha => vcall_pure (ih (fromZ l ((n : Int) - 1) - 1) (by omega) (by omega)) ?_ ?_⟩
      ·simp [go_sem]
       exact argSl_refl (by omega) cl
      ·simp [go_sem]
       rw [eq, if_neg (by rintro (h | h) <;> omega)]
theorem c_l3From (l : List PNode) (hl : l.length ≤ 9223372036854775807) : ∀ (g : Nat) (i : Int), i < g → -1 ≤ i → i < l.length → VFun Tryz.prog 118 [.sl 4 l.length (nodCells l), .lit (.int .i64 i)] (fun av obs => obs = [] ∧ av = .lit (.int .i64 (fromZ l i))) := by
 intro g
 induction g with
 | zero => exact fun i h1 h2 h3 => c_l3From_step l hl i h2 h3 fun j h4 h5 => absurd h5 (by omega)
 | succ g ih => exact fun i h1 h2 h3 => c_l3From_step l hl i h2 h3 fun j h4 h5 => ih j (by omega) h4 (by omega)
theorem c_l3InOrder (l : List PNode) (hl : l.length ≤ 9223372036854775807) (hw : ∀ i, i < l.length → (nodAt l i).wf) : VFun Tryz.prog 80 [.agg [.sl 4 l.length (nodCells l)]] (fun av obs => obs = [] ∧ av = .lit (.bool (inOrd l))) := by
 have cl : ∀ (i : Nat) (c : AV), i < l.length → c ∈ nodCells l i → Closed c := fun i c _ h => nodClosed l i c h
 refine vfun_start Tryz.func80 (by kernel_rfl) rfl (by simp [Tryz.ntmps80]) ?_; simp only [Tryz.ntmps80, Tryz.results80]; simp [go_sem]
 have hw1 : 1 ≤ l.length → IntKind.i64.wrap ((l.length : Int) - 1) = (l.length : Int) - 1 := fun h => wrap_i64 (by omega)
 refine ⟨by omega, fun h1 => ⟨by omega, fun h2 => ⟨by omega, ?_⟩, fun h2 => ?_⟩, fun h1 => ?_⟩
 ·rw [hw1 (by omega)]
  refine vcall_pure (c_l3From l hl l.length ((l.length : Int) - 1) (by omega) (by omega) (by omega)) ?_ ?_
  ·simp [go_sem]
   exact argSl_refl (by omega) cl
  ·simp [go_sem]
   refine ⟨fun hf => by simp [inOrd, hf], fun hf => ?_⟩
   refine vc_loop (fun i : Nat => i ≤ l.length ∧ ∀ j, j < i → txtOk (nodAt l j) = true) (fun i => l.length - i) (fun i => .of [(3, .sl 4 l.length (nodCells l)), (4, .lit (.int .i64 i))] []) ⟨0, ⟨by omega, by simp⟩, ?_⟩ (fun i hi => ?_)
   ·simp [go_sem]
    exact cl
   ·simp [go_sem, nodCells_at]
    refine ⟨by omega, fun h => ⟨h, vcall_pure (c_l3TextOk (nodAt l i) (hw i h)) ?_ ?_⟩, fun h => ?_⟩
    ·simp [go_sem, PNode.cells]
    ·simp [go_sem]
     refine ⟨fun e => ?_, fun e => ⟨i + 1, ⟨by omega, fun j hj => ?_⟩, by omega, cl, wrap_succ (by omega)⟩⟩
     ·simp only [inOrd, all_false (p := fun i => txtOk (nodAt l i)) h e, Bool.and_false]
     ·rcases Nat.lt_succ_iff_lt_or_eq.mp hj with hj | rfl
      ·exact hi.2 j hj
      ·exact e
    ·simp only [inOrd, all_true (p := fun i => txtOk (nodAt l i)) (n := l.length) fun j hj => hi.2 j (by omega), hf, decide_true, Bool.and_true, decide_eq_true_eq]
     omega
 ·have : ¬ (1 ≤ l.length ∧ l.length ≤ 20000) := by omega
  simp [inOrd, this]
 ·have : ¬ (1 ≤ l.length ∧ l.length ≤ 20000) := by omega
  simp [inOrd, this]
def stN (l : List PNode) (i j : Nat) : Int := if j < i then fromZ l j else 0
def stFill (l : List PNode) (i j : Nat) : List AV := [.lit (.int .i64 (stN l i j))]
theorem stFill_at (l : List PNode) (i j : Nat) : stFill l i j = [.lit (.int .i64 (stN l i j))] := rfl
set_option maxRecDepth 100000 in
theorem c_inOrder (l : List PNode) (hl : l.length ≤ 9223372036854775807) (hw : ∀ i, i < l.length → (nodAt l i).wf) : VFun Tryz.prog 44 [.agg [.sl 4 l.length (nodCells l)]] (fun av obs => obs = [] ∧ av = .lit (.bool (inOrd l))) := by
 have cl : ∀ (i : Nat) (c : AV), i < l.length → c ∈ nodCells l i → Closed c := fun i c _ h => nodClosed l i c h
 have bad : ∀ i : Nat, i < l.length → fromZ l i < 0 → inOrd l = false := fun i hi hf => by
  simp only [inOrd, Bool.and_eq_false_iff, decide_eq_false_iff_not]
  refine .inl (.inr fun e => ?_)
  have e1 : (l.length : Int) - 1 = ((l.length - 1 : Nat) : Int) := by omega
  rw [e1] at e
  have := fromZ_all l (l.length - 1) i (by omega) (by omega) (by omega)
  omega
 have badT : ∀ i : Nat, i < l.length → txtOk (nodAt l i) = false → inOrd l = false := fun i hi e => by
  simp only [inOrd, all_false (p := fun i => txtOk (nodAt l i)) hi e, Bool.and_false]
 have badL : ¬ (1 ≤ l.length ∧ l.length ≤ 20000) → inOrd l = false := fun h => by simp [inOrd, h]
 refine vfun_start Tryz.func44 (by kernel_rfl) rfl (by simp [Tryz.ntmps44]) ?_; simp only [Tryz.ntmps44, Tryz.results44]; simp [go_sem]
 refine ⟨by omega, fun h1 => ⟨by omega, fun h2 => badL (by omega), fun h2 => ⟨by omega, by omega, by omega, by omega, ?_⟩⟩, fun h1 => badL (by omega)⟩
 refine vc_loop (fun i : Nat => i ≤ l.length ∧ ∀ j, j < i → txtOk (nodAt l j) = true ∧ 0 ≤ fromZ l j) (fun i => l.length - i)
  (fun i => .of [(3, .own 1), (21, .sl 4 l.length (nodCells l)), (22, .lit (.int .i64 l.length)), (23, .lit (.int .i64 i))] [some ⟨37, 1, 1, fun _ => [.sl 4 l.length (nodCells l)]⟩, some ⟨3, 1, l.length, stFill l i⟩]) ⟨0, ⟨by omega, by simp⟩, ?_⟩ (fun i hi => ?_)
 ·simp [go_sem, stFill, stN]
  exact cl
 ·simp [go_sem, nodCells_at]
  refine ⟨fun h => ⟨h, fun k1 => ⟨fun k6 => vcall_pure (c_textOk (nodAt l i) (hw i h)) ?_ ?_, fun k6 => badT i h (txtOk_range (by omega))⟩, fun k1 => badT i h (txtOk_range (by omega))⟩, fun h => ?_⟩
  ·simp [go_sem, PNode.cells]
  ·simp [go_sem]
   refine ⟨fun e => badT i h e, fun e => vcall_pure (c_kids (nodAt l i) (by omega)) ?_ ?_⟩
   ·simp [go_sem, PNode.cells]
   ·have hin : ∀ j : Nat, j < i → stN l i j = fromZ l j := fun j hj => if_pos hj
    have hi1 : 1 ≤ i → stN l i (i - 1) = fromZ l ((i : Int) - 1) := fun h1 => by rw [hin _ (by omega)]; congr 1; omega
    have e1 : IntKind.i64.wrap ((i : Int) - 1) = (i : Int) - 1 := wrap_i64 (by omega)
    have n1 : ((i : Int) - 1).toNat = i - 1 := by omega
    have eq := fromZ_eq l i
    have step : ∀ v : Int, v = fromZ l i → 0 ≤ v → ∃ j, (j ≤ l.length ∧ ∀ (j_1 : Nat), j_1 < j → txtOk (nodAt l j_1) = true ∧ 0 ≤ fromZ l j_1) ∧ l.length - j < l.length - i ∧
      ((∀ (i : Nat) (c : AV), i < l.length → c ∈ nodCells l i → Closed c) ∧ IntKind.i64.wrap ((i : Int) + 1) = j) ∧ (∀ (i : Nat) (c : AV), i < l.length → c ∈ nodCells l i → Closed c) ∧
      ∀ (i_1 : Nat), i_1 < l.length → updF l.length (stFill l i) i 0 [AV.lit (Value.int IntKind.i64 v)] i_1 = [AV.lit (Value.int IntKind.i64 (stN l j i_1))] := by
     rintro v rfl hv
     refine ⟨i + 1, ⟨by omega, fun j hj => ?_⟩, by omega, ⟨cl, wrap_succ (by omega)⟩, cl, fun j hj => ?_⟩
     ·rcases Nat.lt_succ_iff_lt_or_eq.mp hj with hj | rfl
      ·exact hi.2 j hj
      ·exact ⟨e, hv⟩
     ·rw [updF_at h hj]
      by_cases hji : j = i
      ·subst hji
       simp [stFill, splice, stN]
      ·rw [if_neg hji]
       simp only [stFill, stN]
       by_cases h2 : j < i
       ·rw [if_pos h2, if_pos (by omega)]
       ·rw [if_neg h2, if_neg (by omega)]
    simp [go_sem, e1, n1, stFill_at]
    refine ⟨fun k0 => ?_, fun k0 => ⟨fun k1 => ?_, fun k1 => ⟨fun k2 => ?_, fun k2 => ?_⟩⟩⟩
    ·simp only [k0, if_true] at eq
     have no : ¬ ((nodAt l i).a = 0 ∧ (nodAt l i).b = 0) → inOrd l = false := fun hn => bad i h (by rw [eq, if_pos (by omega)]; omega)
     refine ⟨fun ha => ⟨fun hb => no (by omega), fun hb => ⟨h, ?_⟩⟩, fun ha => no (by omega)⟩
     rw [if_neg (by omega)] at eq
     exact step _ eq.symm (by omega)
    ·simp only [if_neg k0, if_pos k1] at eq
     have no : ¬ (1 ≤ (i : Int) ∧ (nodAt l i).a = (i : Int) - 1 ∧ (nodAt l i).b = 0) → inOrd l = false := fun hn => bad i h (by
      rw [eq]
      split
      ·omega
      ·rw [fromZ_neg l (by omega)]; omega)
     refine ⟨fun g1 => ⟨fun ha => ⟨fun hb => no (by omega), fun hb => ?_⟩, fun ha => no (by omega)⟩, fun g1 => no (by omega)⟩
     rw [if_neg (by omega)] at eq
     have hp := (hi.2 (i - 1) (by omega)).2
     have e3 : ((i - 1 : Nat) : Int) = (i : Int) - 1 := by omega
     rw [e3] at hp
     simp only [hi1 (by omega)]
     exact ⟨g1, by omega, by omega, h, step _ eq.symm hp⟩
    ·simp only [if_neg k0, if_neg k1] at eq
     refine vc_drawn [] (.q 0 <| .q 1 <| .q 2 <| .q 3 <| .q 4 <| .q 5 <| .q 6 <| .q 7 <| .q 8 <| .q 9 <| .q 10 <| .q 11 <| .q 12 <| .q 13 <| .q 14 <| .q 15 <| .q 16 <| .q 17 <| .q 18 <| .q 19 <| .q 20 <| .q 21 <| .q 22 <| .q 23 <| .q 24 <| .done) (by kernel_rfl) ?_
     simp [go_sem, e1, n1, stFill_at]
     have lt2 : (i : Int) < 2 → fromZ l ((i : Int) - 1) < 1 := fun h2 => by
      by_cases h3 : i = 0
      ·subst h3; rw [fromZ_neg l (by omega)]; omega
      ·have := fromZ_le l (i := (i : Int) - 1) (by omega)
       omega
     have no : ¬ (2 ≤ (i : Int) ∧ (nodAt l i).b = (i : Int) - 1 ∧ (nodAt l i).a = fromZ l ((i : Int) - 1) - 1 ∧ 0 ≤ (nodAt l i).a) → inOrd l = false := fun hn => bad i h (by
      rw [eq]
      split
      ·omega
      ·split
       ·omega
       ·rename_i h1 h2
        have : ¬ (i : Int) < 2 := fun h3 => h2 (.inl (lt2 h3))
        omega)
     refine ⟨fun g2 => ⟨fun hb => ⟨by omega, by omega, by omega, ?_⟩, fun hb => no (by omega)⟩, fun g2 => no (by omega)⟩
     have hp := (hi.2 (i - 1) (by omega)).2
     have e3 : ((i - 1 : Nat) : Int) = (i : Int) - 1 := by omega
     rw [e3] at hp
     have hle := fromZ_le l (i := (i : Int) - 1) (by omega)
     simp only [hi1 (by omega), wrap_i64 (n := fromZ l ((i : Int) - 1) - 1) (by omega)]
     refine ⟨fun ha => ⟨fun h0 => no (by omega), fun h0 => ⟨h0, by omega, by omega, h, step _ ?_ ?_⟩⟩, fun ha => no (by omega)⟩
     ·rw [eq, if_neg (by omega), if_neg (by omega), hin _ (by omega), Int.toNat_of_nonneg h0, ha]
     ·rw [hin _ (by omega)]
      exact (hi.2 _ (by omega)).2
    ·have := kidsN_cases (nodAt l i).kind
     omega
  ·have hl1 : i = l.length := by omega
   subst hl1
   have e1 : IntKind.i64.wrap ((l.length : Int) - 1) = (l.length : Int) - 1 := wrap_i64 (by omega)
   have n1 : ((l.length : Int) - 1).toNat = l.length - 1 := by omega
   simp [go_sem, stFill_at, e1, n1]
   refine ⟨by omega, h1, by omega, by omega, ?_⟩
   have e3 : ((l.length - 1 : Nat) : Int) = (l.length : Int) - 1 := by omega
   have e4 : stN l l.length (l.length - 1) = fromZ l ((l.length : Int) - 1) := by unfold stN; rw [if_pos (by omega), e3]
   have hr : 1 ≤ l.length ∧ l.length ≤ 20000 := by omega
   simp only [inOrd, all_true (p := fun i => txtOk (nodAt l i)) (n := l.length) fun j hj => (hi.2 j (by omega)).1, e4, hr, and_self, decide_true, Bool.true_and, Bool.and_true, int_beq]
open Go.Proofs.YtjdmmhcogmepaaaGreatDoor.Ops (Tr)
abbrev ET := Tr POp (Int × ByteArray)
def ET.nil : ET := .leaf (0, ⟨#[]⟩)
def lay : ET → List PNode → List PNode
 | .leaf b, out => out ++ [⟨b.2, b.1, 0, 0⟩]
 | .grp e, out => lay e out ++ [⟨⟨#[]⟩, 6, (lay e out).length - 1, 0⟩]
 | .pre o e, out => lay e out ++ [⟨o.text, o.kind + 2, (lay e out).length - 1, 0⟩]
 | .post o e, out => lay e out ++ [⟨o.text, o.kind + 2, (lay e out).length - 1, 0⟩]
 | .inf o x y, out => lay y (lay x out) ++ [⟨o.text, o.kind + 2, (lay x out).length - 1, (lay y (lay x out)).length - 1⟩]
def nodRow (t : List PNode) : Option Ob := some ⟨77, 4, t.length, nodCells t⟩
theorem nod_app (t : List PNode) (o : PNode) (j : Nat) (h : j < t.length + 1) : joinF t.length (nodCells t) (fun i => [o.cells][i]?.getD []) j = nodCells (t ++ [o]) j := by
 unfold joinF nodCells
 by_cases hj : j < t.length
 ·rw [if_pos hj, List.getD_eq_getElem?_getD, List.getD_eq_getElem?_getD, List.getElem?_append_left hj]
 ·have : j = t.length := by omega
  subst this
  rw [if_neg (by omega), List.getD_eq_getElem?_getD, List.getElem?_append_right (by omega)]
  simp
theorem outAt_app {idx : Nat → Nat} {ks : List Nat} {ty : Nat} {l T : List PNode} {o : PNode} {f : Nat → List AV} (h : T = l ++ [o]) (hf : ∀ j, j < l.length + 1 → f j = nodCells (l ++ [o]) j) : OutAt idx ks ⟨ty, 4, T.length, nodCells T⟩ (some (some ⟨ty, 4, l.length + 1, f⟩)) := by
 subst h
 rw [show (l ++ [o]).length = l.length + 1 by simp]
 exact outAt_lits hf (fun j _ => nodLit _ j)
theorem outAt_same {idx : Nat → Nat} {ks : List Nat} {ty : Nat} {l T : List PNode} {f : Nat → List AV} (h : T = l) (hf : ∀ j, j < l.length → f j = nodCells l j) : OutAt idx ks ⟨ty, 4, T.length, nodCells T⟩ (some (some ⟨ty, 4, l.length, f⟩)) := by
 subst h
 exact outAt_lits hf (fun j _ => nodLit _ j)
theorem nod_appF {T : List PNode} {o : PNode} {f : Nat → List AV} {n : Nat} (hn : n = T.length) (hf : ∀ j, j < n → f j = nodCells T j) (j : Nat) (h : j < n + 1) : joinF n f (fun q => [o.cells][q]?.getD []) j = nodCells (T ++ [o]) j := by
 rw [← nod_app T o j (by omega)]
 subst hn
 unfold joinF
 by_cases hj : j < T.length
 ·rw [if_pos hj, if_pos hj, hf j hj]
 ·rw [if_neg hj, if_neg hj]
theorem outAt_appF {idx : Nat → Nat} {ks : List Nat} {ty : Nat} {T R : List PNode} {o : PNode} {f : Nat → List AV} {n : Nat} (hn : n = T.length) (h : R = T ++ [o]) (hf : ∀ j, j < n + 1 → f j = nodCells (T ++ [o]) j) : OutAt idx ks ⟨ty, 4, R.length, nodCells R⟩ (some (some ⟨ty, 4, n + 1, f⟩)) := by
 subst hn
 exact outAt_app h hf
end Go.Proofs.YtjdmmhcogmepaaaGreatDoor.V
namespace Go.Proofs.YtjdmmhcogmepaaaGreatDoor.V
open Go.RowKit
def leafN (k : Nat) : PNode := if k % 2 = 0 then ⟨(⟨#[97, 98, 99, 100, 95, 57]⟩ : ByteArray).extract (k / 2 % 4) (k / 2 % 4 + 1 + k / 8 % 3), 2, 0, 0⟩ else ⟨(⟨#[48, 49, 55, 50]⟩ : ByteArray).extract (k / 2 % 4) 4, 1, 0, 0⟩
theorem div_small {k a : Nat} (h : k < 1000000) : IntKind.i64.wrap ((k : Int) / (a : Int)) = ((k / a : Nat) : Int) := by
 have h1 : k / a ≤ k := Nat.div_le_self k a
 have h2 : (k : Int) / (a : Int) = ((k / a : Nat) : Int) := by simp
 rw [h2]
 generalize k / a = q at *
 exact wrap_i64 (by omega)
theorem quo_rem (k a m : Nat) (h : k < 1000000) : (IntKind.i64.wrap ((k : Int) / (a : Int))).tmod (m : Int) = ((k / a % m : Nat) : Int) := by
 rw [div_small h]; exact tmod_nat _ _
theorem c_l3Leaf (r : Rd) (hr : r.ok) (out : List PNode) (ho : out.length ≤ 1000000) : VProc Tryz.prog 140 [.ptr 0 2 0 0, .own 1] [rdOb r, nodRow out] [] (fun av mem maps => av = .own 2 ∧ mem = [rdOb r.nx, none, nodRow (out ++ [leafN r.v])] ∧ maps = []) := by
 have cr : ∀ (r : Rd) (i : Nat) (c : AV), i < r.n → c ∈ rdCells r.f i → Closed c := fun r i c _ h => rdClosed r.f i c h
 have c1 := c_next r hr
 have hk := Rd.v_lt hr
 generalize hK : r.v = k at *
 have e2 : (k : Int).tmod 2 = ((k % 2 : Nat) : Int) := tmod_nat k 2
 have m4 : (IntKind.i64.wrap ((k : Int) / 2)).tmod 4 = ((k / 2 % 4 : Nat) : Int) := quo_rem k 2 4 (by omega)
 have m3 : (IntKind.i64.wrap ((k : Int) / 8)).tmod 3 = ((k / 8 % 3 : Nat) : Int) := quo_rem k 8 3 (by omega)
 have b4 : k / 2 % 4 < 4 := Nat.mod_lt _ (by decide)
 have b3 : k / 8 % 3 < 3 := Nat.mod_lt _ (by decide)
 have b2 : k % 2 < 2 := Nat.mod_lt _ (by decide)
 unfold leafN
 generalize k / 2 % 4 = x at *
 generalize k / 8 % 3 = y at *
 generalize k % 2 = u at *
 have w1 : IntKind.i64.wrap ((x : Int) + 1) = ((x + 1 : Nat) : Int) := wrap_succ (by omega)
 have w2 : IntKind.i64.wrap ((x : Int) + 1 + (y : Int)) = ((x + 1 + y : Nat) : Int) := by rw [wrap_i64 (by omega)]; omega
 have eN : ((x : Int) + 1 + (y : Int)).toNat = x + 1 + y := by omega
 simp only [rdOb, nodRow] at c1 ⊢
 refine vproc_start Tryz.func140 (by kernel_rfl) rfl (by simp [Tryz.ntmps140]) ?_; simp only [Tryz.ntmps140, Tryz.results140]; simp [go_sem]
 refine vcall_share [0] c1 (by simp) ?_ ?_ trivial ?_
 ·simp [go_sem]
 ·simp [go_sem]
  exact cr r
 ·rintro av mem maps ⟨rfl, rfl, rfl⟩
  by_cases h2 : u = 0
  ·subst h2
   simp [go_sem, e2, m4, m3, w1, w2, eN]
   refine ⟨by omega, by omega, by omega, by omega, rfl, [3], [rdOb r.nx, none, nodRow (out ++ [⟨(⟨#[97, 98, 99, 100, 95, 57]⟩ : ByteArray).extract x (x + 1 + y), 2, 0, 0⟩])], by simp, by simp, by simp [go_sem], ?_, by simp [go_sem], ?_⟩
   ·simp [go_sem, rdOb, nodRow]
    refine ⟨rdOut, ?_⟩
    exact outAt_lits (fun j hj => nod_app out ⟨(⟨#[97, 98, 99, 100, 95, 57]⟩ : ByteArray).extract x (x + 1 + y), 2, 0, 0⟩ j hj) (fun j _ => nodLit _ j)
   ·simp [go_sem, rdOb, nodRow]
  ·have h2' : ¬ (u : Int) = 0 := by omega
   simp only [if_neg h2]
   simp [go_sem, e2, h2, h2', m4, m3, w1, w2, eN]
   refine ⟨by omega, by omega, by omega, rfl, [3], [rdOb r.nx, none, nodRow (out ++ [⟨(⟨#[48, 49, 55, 50]⟩ : ByteArray).extract x 4, 1, 0, 0⟩])], by simp, by simp, by simp [go_sem], ?_, by simp [go_sem], ?_⟩
   ·simp [go_sem, rdOb, nodRow]
    refine ⟨rdOut, ?_⟩
    exact outAt_lits (fun j hj => nod_app out ⟨(⟨#[48, 49, 55, 50]⟩ : ByteArray).extract x 4, 1, 0, 0⟩ j hj) (fun j _ => nodLit _ j)
   ·simp [go_sem, rdOb, nodRow]
def tab (l : List POp) : Option Ob := some ⟨133, 4, l.length, opCells l⟩
def wordT (l : List POp) (k b : Nat) : ByteArray :=
 if k % 8 < 4 ∧ 0 < l.length then (opAt l (k / 8 % l.length)).text
 else if k % 8 = 4 then ⟨#[40]⟩ else if k % 8 = 5 then ⟨#[41]⟩
 else if k % 8 = 6 then (⟨#[97, 49, 95, 98]⟩ : ByteArray).extract 0 (1 + k / 8 % 4)
 else if 240 ≤ k then l1T k else if 224 ≤ k then ⟨#[b.toUInt8]⟩
 else (⟨#[49, 48, 50, 55]⟩ : ByteArray).extract (k / 8 % 4) 4
theorem u8cell {b : Nat} (hb : b < 256) : [AV.lit (.int .u8 (IntKind.u8.wrap (b : Int)))] = byteCells ⟨#[UInt8.ofNat b]⟩ 0 := by
 have e : IntKind.u8.wrap (b : Int) = b := by
  have h8 : IntKind.u8.bits = 8 := rfl
  simp only [IntKind.wrap, h8]
  simp [IntKind.signed]
  omega
 have h2 : byteAt ⟨#[UInt8.ofNat b]⟩ 0 = ((UInt8.ofNat b).toNat : Int) := rfl
 rw [e]
 unfold byteCells
 rw [h2]
 simp
 omega
def wordTwo (l : List POp) (k : Nat) : Bool := !(decide (k % 8 < 4 ∧ 0 < l.length)) && decide (k % 8 ≠ 4 ∧ k % 8 ≠ 5 ∧ k % 8 ≠ 6) && decide (224 ≤ k ∧ k < 240)
set_option maxRecDepth 100000 in
theorem c_l2DrawWord (l : List POp) (hl : l.length ≤ 1000) (r : Rd) (hr : r.ok) : VProc Tryz.prog 105 [.ptr 0 2 0 0, .agg [.own 1]] [rdOb r, tab l] [] (fun av mem maps => av = .lit (.string (wordT l r.v r.nx.v)) ∧ mem = [rdOb (if wordTwo l r.v then r.nx.nx else r.nx), tab l] ∧ maps = []) := by
 have cr : ∀ (r : Rd) (i : Nat) (c : AV), i < r.n → c ∈ rdCells r.f i → Closed c := fun r i c _ h => rdClosed r.f i c h
 have c1 := c_next r hr
 have hk := Rd.v_lt hr
 generalize hK : r.v = k at *
 have e8 := tmod_nat k 8
 rw [show ((8 : Nat) : Int) = 8 from rfl] at e8
 simp only [rdOb, tab] at c1 ⊢
 refine vproc_start Tryz.func105 (by kernel_rfl) rfl (by simp [Tryz.ntmps105]) ?_; simp only [Tryz.ntmps105, Tryz.results105]; simp [go_sem]
 refine vcall_share [0] c1 (by simp) ?_ ?_ trivial ?_
 ·simp [go_sem]
 ·simp [go_sem]
  exact cr r
 ·rintro av mem maps ⟨rfl, rfl, rfl⟩
  have fin : ∀ (ts : List (Nat × AV)) (z : ByteArray) (rr : Rd) (x : Option Ob), vendP [] (fun av mem maps => av = .lit (.string z) ∧ mem = [some ⟨138, 2, 1, fun _ => [.sl 1 rr.n (rdCells rr.f), .lit (.int .i64 rr.p)]⟩, some ⟨133, 4, l.length, opCells l⟩] ∧ maps = []) ⟨ts, [some ⟨138, 2, 1, fun _ => [.sl 1 rr.n (rdCells rr.f), .lit (.int .i64 rr.p)]⟩, some ⟨133, 4, l.length, opCells l⟩, x], [], 2⟩ (.lit (.string z)) := by
   intro ts z rr x
   refine ⟨rfl, [], [rdOb rr, tab l], by simp, by simp, by simp [go_sem], ?_, by simp [go_sem], ?_⟩
   ·simp [go_sem, rdOb, tab]
    exact ⟨rdOut, outAt_lits (fun _ _ => rfl) (fun j _ => opLit _ j)⟩
   ·simp [go_sem, rdOb, tab]
  have fin2 : ∀ (ts : List (Nat × AV)) (z : ByteArray) (rr : Rd) (x x' : Option Ob), vendP [] (fun av mem maps => av = .lit (.string z) ∧ mem = [some ⟨138, 2, 1, fun _ => [.sl 1 rr.n (rdCells rr.f), .lit (.int .i64 rr.p)]⟩, some ⟨133, 4, l.length, opCells l⟩] ∧ maps = []) ⟨ts, [some ⟨138, 2, 1, fun _ => [.sl 1 rr.n (rdCells rr.f), .lit (.int .i64 rr.p)]⟩, some ⟨133, 4, l.length, opCells l⟩, x, x'], [], 2⟩ (.lit (.string z)) := by
   intro ts z rr x x'
   refine ⟨rfl, [], [rdOb rr, tab l], by simp, by simp, by simp [go_sem], ?_, by simp [go_sem], ?_⟩
   ·simp [go_sem, rdOb, tab]
    exact ⟨rdOut, outAt_lits (fun _ _ => rfl) (fun j _ => opLit _ j)⟩
   ·simp [go_sem, rdOb, tab]
  have ek : (k : Int).tmod 8 = ((k % 8 : Nat) : Int) := e8
  have hlt8 : k % 8 < 8 := Nat.mod_lt _ (by decide)
  have e84 : (IntKind.i64.wrap ((k : Int) / 8)).tmod 4 = ((k / 8 % 4 : Nat) : Int) := by rw [wrap_i64 (by omega), show (k : Int) / 8 = ((k / 8 : Nat) : Int) by omega]; exact tmod_nat _ 4
  by_cases hA : k % 8 < 4 ∧ 0 < l.length
  ·have h1' : (k : Int).tmod 8 < 4 := by rw [e8]; omega
   have hw : wordT l k r.nx.v = (opAt l (k / 8 % l.length)).text := by simp only [wordT, if_pos hA]
   have ht : wordTwo l k = false := by simp [wordTwo, hA]
   have ex : (IntKind.i64.wrap ((k : Int) / 8)).tmod l.length = ((k / 8 % l.length : Nat) : Int) := by rw [wrap_i64 (by omega), show (k : Int) / 8 = ((k / 8 : Nat) : Int) by omega]; exact tmod_nat _ _
   have hx := Nat.mod_lt (k / 8) hA.2
   rw [hw, ht]
   have hne : l ≠ [] := by intro e; rw [e] at hA; simp at hA
   generalize k / 8 % l.length = x at *
   have hxi : ((x : Int)).toNat = x := rfl
   simp [go_sem, h1', hA.2]
   refine ⟨by omega, ?_⟩
   refine vc_drawn [] (.q 0 <| .q 1 <| .q 2 <| .q 3 <| .q 4 <| .q 5 <| .q 6 <| .q 7 <| .q 8 <| .q 9 <| .q 10 <| .q 11 <| .done) (by kernel_rfl) ?_
   simp [go_sem, hne, ex, opCells_at]
   refine ⟨by omega, hx, ?_⟩
   exact fin _ _ _ _
  ·have hA' : ¬ ((k : Int).tmod 8 < 4 ∧ 0 < l.length) := by rw [e8]; omega
   have hgo : ∀ (z : ByteArray) (rr : Rd), wordT l k r.nx.v = z → (if wordTwo l k = true then r.nx.nx else r.nx) = rr → True := fun _ _ _ _ => trivial
   by_cases hB : k % 8 = 4
   ·have hw : wordT l k r.nx.v = ⟨#[40]⟩ := by simp only [wordT, if_neg hA, if_pos hB]
    have ht : wordTwo l k = false := by simp [wordTwo, hB]
    have h1' : ¬ (k : Int).tmod 8 < 4 := by rw [e8]; omega
    have h2' : (k : Int).tmod 8 = 4 := by rw [e8]; omega
    rw [hw, ht]
    simp [go_sem, h2']
    exact fin _ _ _ _
   ·by_cases hC : k % 8 = 5
    ·have hw : wordT l k r.nx.v = ⟨#[41]⟩ := by simp only [wordT, if_neg hA, if_neg hB, if_pos hC]
     have ht : wordTwo l k = false := by simp [wordTwo, hC]
     have h2' : (k : Int).tmod 8 = 5 := by rw [e8]; omega
     rw [hw, ht]
     simp [go_sem, h2']
     exact fin _ _ _ _
    ·by_cases hD : k % 8 = 6
     ·have hw : wordT l k r.nx.v = (⟨#[97, 49, 95, 98]⟩ : ByteArray).extract 0 (1 + k / 8 % 4) := by simp only [wordT, if_neg hA, if_neg hB, if_neg hC, if_pos hD]
      have ht : wordTwo l k = false := by simp [wordTwo, hD]
      have h2' : (k : Int).tmod 8 = 6 := by rw [e8]; omega
      rw [hw, ht]
      have hy : k / 8 % 4 < 4 := Nat.mod_lt _ (by decide)
      generalize k / 8 % 4 = y at *
      have w1 : IntKind.i64.wrap (1 + (y : Int)) = ((1 + y : Nat) : Int) := by rw [wrap_i64 (by omega)]; omega
      have w2 : ((1 : Int) + (y : Int)).toNat = 1 + y := by omega
      simp [go_sem, h2', e84, w1, w2]
      refine ⟨by omega, by omega, ?_⟩
      exact fin _ _ _ _
     ·have h4' : ¬ (k : Int).tmod 8 = 4 := by rw [e8]; omega
      have h5' : ¬ (k : Int).tmod 8 = 5 := by rw [e8]; omega
      have h6' : ¬ (k : Int).tmod 8 = 6 := by rw [e8]; omega
      have hsp : (¬ (k : Int).tmod 8 < 4) ∨ ((k : Int).tmod 8 < 4 ∧ ¬ 0 < l.length) := by rw [e8]; omega
      by_cases h240 : 240 ≤ k
      ·have h240' : (240 : Int) ≤ k := by omega
       have hw : wordT l k r.nx.v = l1T k := by simp only [wordT, if_neg hA, if_neg hB, if_neg hC, if_neg hD, if_pos h240]
       have ht : wordTwo l k = false := by simp [wordTwo]; omega
       rw [hw, ht]
       rcases hsp with hs | ⟨hs, hs2⟩
       ·simp [go_sem, hs, h4', h5', h6', h240']
        refine vcall_pure (c_l1Text k) ?_ ?_
        ·simp [go_sem]
        ·simp [go_sem]
         exact fin _ _ _ _
       ·simp [go_sem, hs, hs2, h4', h5', h6', h240']
        refine ⟨by omega, vcall_pure (c_l1Text k) ?_ ?_⟩
        ·simp [go_sem]
        ·simp [go_sem]
         exact fin _ _ _ _
      ·have h240' : ¬ (240 : Int) ≤ k := by omega
       by_cases h224 : 224 ≤ k
       ·have h224' : (224 : Int) ≤ k := by omega
        have hw : wordT l k r.nx.v = ⟨#[r.nx.v.toUInt8]⟩ := by simp only [wordT, if_neg hA, if_neg hB, if_neg hC, if_neg hD, if_neg h240, if_pos h224]
        have ht : wordTwo l k = true := by
         simp only [wordTwo, hA, decide_false, Bool.not_false, Bool.true_and]
         simp [hB, hC, hD, h224]
         omega
        have c2 := c_next r.nx (Rd.nx_ok hr)
        have hb := Rd.v_lt (Rd.nx_ok hr)
        rw [hw, ht]
        simp only [rdOb] at c2
        generalize r.nx.v = b at *
        rcases hsp with hs | ⟨hs, hs2⟩
        ·simp [go_sem, hs, h4', h5', h6', h240', h224']
         refine vcall_share [0] c2 (by simp) ?_ ?_ trivial ?_
         ·simp [go_sem]
         ·simp [go_sem]
          exact cr r.nx
         ·rintro av mem maps ⟨rfl, rfl, rfl⟩
          simp [go_sem]
          refine ⟨⟨#[UInt8.ofNat b]⟩, rfl, ?_, fin2 _ _ _ _ _⟩
          exact u8cell hb
        ·simp [go_sem, hs, hs2, h4', h5', h6', h240', h224']
         refine ⟨by omega, ?_⟩
         refine vcall_share [0] c2 (by simp) ?_ ?_ trivial ?_
         ·simp [go_sem]
         ·simp [go_sem]
          exact cr r.nx
         ·rintro av mem maps ⟨rfl, rfl, rfl⟩
          simp [go_sem]
          refine ⟨⟨#[UInt8.ofNat b]⟩, rfl, ?_, fin2 _ _ _ _ _⟩
          exact u8cell hb
       ·have h224' : ¬ (224 : Int) ≤ k := by omega
        have hw : wordT l k r.nx.v = (⟨#[49, 48, 50, 55]⟩ : ByteArray).extract (k / 8 % 4) 4 := by simp only [wordT, if_neg hA, if_neg hB, if_neg hC, if_neg hD, if_neg h240, if_neg h224]
        have ht : wordTwo l k = false := by simp [wordTwo]; omega
        rw [hw, ht]
        have hy : k / 8 % 4 < 4 := Nat.mod_lt _ (by decide)
        generalize k / 8 % 4 = y at *
        rcases hsp with hs | ⟨hs, hs2⟩
        ·simp [go_sem, hs, h4', h5', h6', h240', h224', e84]
         exact ⟨by omega, fin _ _ _ _⟩
        ·simp [go_sem, hs, hs2, h4', h5', h6', h240', h224', e84]
         exact ⟨by omega, by omega, fin _ _ _ _⟩
def grpN (n : Nat) : PNode := ⟨⟨#[]⟩, 6, (n : Int) - 1, 0⟩
def opN (o : POp) (a b : Int) : PNode := ⟨o.text, o.kind + 2, a, b⟩
def genN (l : List POp) (g : Bool) : Nat → Rd → List PNode → List PNode × Rd
 | 0, r, out => (out ++ [leafN r.nx.v], r.nx.nx)
 | d + 1, r, out =>
  if r.nx.n ≤ r.nx.p ∨ r.v % 8 = 0 ∨ l.length = 0 then (out ++ [leafN r.nx.v], r.nx.nx)
  else if g = true ∧ r.v % 8 = 1 then ((genN l g d r.nx out).1 ++ [grpN (genN l g d r.nx out).1.length], (genN l g d r.nx out).2)
  else if (opAt l (r.v / 8 % l.length)).kind = 2 then
   ((genN l g d (genN l g d r.nx out).2 (genN l g d r.nx out).1).1 ++ [opN (opAt l (r.v / 8 % l.length)) (((genN l g d r.nx out).1.length : Int) - 1) (((genN l g d (genN l g d r.nx out).2 (genN l g d r.nx out).1).1.length : Int) - 1)], (genN l g d (genN l g d r.nx out).2 (genN l g d r.nx out).1).2)
  else ((genN l g d r.nx out).1 ++ [opN (opAt l (r.v / 8 % l.length)) (((genN l g d r.nx out).1.length : Int) - 1) 0], (genN l g d r.nx out).2)
theorem gen_len (l : List POp) (g : Bool) : ∀ (d : Nat) (r : Rd) (out : List PNode), out.length < (genN l g d r out).1.length ∧ (genN l g d r out).1.length + 1 ≤ out.length + 2 ^ (d + 1)
 | 0, r, out => by simp [genN]
 | d + 1, r, out => by
  have h1 := gen_len l g d r.nx out
  have h2 := gen_len l g d (genN l g d r.nx out).2 (genN l g d r.nx out).1
  have e : 2 ^ (d + 1 + 1) = 2 * 2 ^ (d + 1) := by rw [Nat.pow_succ]; omega
  have p := Nat.one_le_two_pow (n := d)
  have e0 : 2 ^ (d + 1) = 2 * 2 ^ d := by rw [Nat.pow_succ]; omega
  rw [genN]
  split
  ·simp; omega
  ·split
   ·simp; omega
   ·split
    ·simp; omega
    ·simp; omega
theorem gen_ok {l : List POp} {g : Bool} : ∀ (d : Nat) (r : Rd) (out : List PNode), r.ok → (genN l g d r out).2.ok
 | 0, r, out, h => Rd.nx_ok (Rd.nx_ok h)
 | d + 1, r, out, h => by
  have h1 := gen_ok (l := l) (g := g) d r.nx out (Rd.nx_ok h)
  have h2 := gen_ok (l := l) (g := g) d (genN l g d r.nx out).2 (genN l g d r.nx out).1 h1
  rw [genN]
  split
  ·exact Rd.nx_ok (Rd.nx_ok h)
  ·split
   ·exact h1
   ·split
    ·exact h2
    ·exact h1
def KindsSm (l : List POp) : Prop := ∀ i, i < l.length → 0 ≤ (opAt l i).kind ∧ (opAt l i).kind ≤ 100
set_option maxRecDepth 100000 in
theorem c_l3Gen (l : List POp) (hl : l.length ≤ 1000) (hk : KindsSm l) (g : Bool) : ∀ (d : Nat) (r : Rd) (out : List PNode), d ≤ 10 → r.ok → out.length + 2 ^ (d + 1) ≤ 1000000 → VProc Tryz.prog 115 [.ptr 0 2 0 0, .agg [.own 1], .lit (.int .i64 d), .lit (.bool g), .own 2] [rdOb r, tab l, nodRow out] [] (fun av mem maps => av = .own 3 ∧ mem = [rdOb (genN l g d r out).2, tab l, none, nodRow (genN l g d r out).1] ∧ maps = []) := by
 have cr : ∀ (r : Rd) (i : Nat) (c : AV), i < r.n → c ∈ rdCells r.f i → Closed c := fun r i c _ h => rdClosed r.f i c h
 intro d
 induction d with
 | zero =>
  intro r out hd hr ho
  have c1 := c_next r hr
  have c2 := c_l3Leaf r.nx (Rd.nx_ok hr) out (by omega)
  simp only [rdOb, tab, nodRow, genN] at c1 c2 ⊢
  refine vproc_start Tryz.func115 (by kernel_rfl) rfl (by simp [Tryz.ntmps115]) ?_; simp only [Tryz.ntmps115, Tryz.results115]; simp [go_sem]
  refine vcall_share [0] c1 (by simp) ?_ ?_ trivial ?_
  ·simp [go_sem]
  ·simp [go_sem]
   exact cr r
  ·rintro av mem maps ⟨rfl, rfl, rfl⟩
   simp [go_sem]
   refine vcall_share [0, 2] c2 (by simp) ?_ ?_ trivial ?_
   ·simp [go_sem]
   ·simp [go_sem]
    exact ⟨cr r.nx, fun i _ => cellsRn_lits (nodLit _ i)⟩
   ·rintro av mem maps ⟨rfl, rfl, rfl⟩
    simp [go_sem]
    refine ⟨rfl, [4], [rdOb r.nx.nx, tab l, none, nodRow (out ++ [leafN r.nx.v])], by simp, by simp, by simp [go_sem], ?_, by simp [go_sem], ?_⟩
    ·simp [go_sem, rdOb, tab, nodRow]
     exact ⟨rdOut, outAt_lits (fun _ _ => rfl) (fun j _ => opLit _ j), outAt_lits (fun _ _ => rfl) (fun j _ => nodLit _ j)⟩
    ·simp [go_sem, rdOb, tab, nodRow]
 | succ d ih =>
  intro r out hd hr ho
  have hn := Rd.nx_ok hr
  have c1 := c_next r hr
  have p2 := Nat.one_le_two_pow (n := d + 1 + 1)
  have c2 := c_l3Leaf r.nx hn out (by omega)
  have c3 := c_left r.nx hn
  have hv := Rd.v_lt hr
  have e8 := tmod_nat r.v 8
  rw [show ((8 : Nat) : Int) = 8 from rfl] at e8
  have b8 : r.v % 8 < 8 := Nat.mod_lt _ (by decide)
  have hd0 : ¬ ((d : Int) + 1 = 0) := by omega
  obtain ⟨Q, hQ⟩ : ∃ Q, genN l g (d + 1) r out = Q := ⟨_, rfl⟩
  rw [hQ]
  rw [genN] at hQ
  simp only [rdOb, tab, nodRow] at c1 c2 c3 ⊢
  refine vproc_start Tryz.func115 (by kernel_rfl) rfl (by simp [Tryz.ntmps115]) ?_; simp only [Tryz.ntmps115, Tryz.results115]; simp [go_sem]
  refine vcall_share [0] c1 (by simp) ?_ ?_ trivial ?_
  ·simp [go_sem]
  ·simp [go_sem]
   exact cr r
  ·rintro av mem maps ⟨rfl, rfl, rfl⟩
   simp [go_sem, hd0]
   refine vcall_share [0] c3 (by simp) ?_ ?_ trivial ?_
   ·simp [go_sem]
   ·simp [go_sem]
    exact cr r.nx
   ·rintro av mem maps ⟨rfl, rfl, rfl⟩
    by_cases hc1 : r.nx.n ≤ r.nx.p
    ·have e1 : r.nx.n - r.nx.p = 0 := by omega
     rw [if_pos (.inl hc1)] at hQ
     subst hQ
     simp [go_sem, e1]
     refine vcall_share [0, 2] c2 (by simp) ?_ ?_ trivial ?_
     ·simp [go_sem]
     ·simp [go_sem]
      exact ⟨cr r.nx, fun i _ => cellsRn_lits (nodLit _ i)⟩
     ·rintro av mem maps ⟨rfl, rfl, rfl⟩
      simp [go_sem]
      refine ⟨rfl, [4], [rdOb r.nx.nx, tab l, none, nodRow (out ++ [leafN r.nx.v])], by simp, by simp, by simp [go_sem], ?_, by simp [go_sem], ?_⟩
      ·simp [go_sem, rdOb, tab, nodRow]
       exact ⟨rdOut, outAt_lits (fun _ _ => rfl) (fun j _ => opLit _ j), outAt_lits (fun _ _ => rfl) (fun j _ => nodLit _ j)⟩
      ·simp [go_sem, rdOb, tab, nodRow]
    ·have e1 : ¬ (r.nx.n - r.nx.p = 0) := by omega
     by_cases hc2 : r.v % 8 = 0
     ·have h2' : (r.v : Int).tmod 8 = 0 := by rw [e8, hc2]; rfl
      rw [if_pos (.inr (.inl hc2))] at hQ
      subst hQ
      simp [go_sem, e1, h2']
      refine vcall_share [0, 2] c2 (by simp) ?_ ?_ trivial ?_
      ·simp [go_sem]
      ·simp [go_sem]
       exact ⟨cr r.nx, fun i _ => cellsRn_lits (nodLit _ i)⟩
      ·rintro av mem maps ⟨rfl, rfl, rfl⟩
       simp [go_sem]
       refine ⟨rfl, [4], [rdOb r.nx.nx, tab l, none, nodRow (out ++ [leafN r.nx.v])], by simp, by simp, by simp [go_sem], ?_, by simp [go_sem], ?_⟩
       ·simp [go_sem, rdOb, tab, nodRow]
        exact ⟨rdOut, outAt_lits (fun _ _ => rfl) (fun j _ => opLit _ j), outAt_lits (fun _ _ => rfl) (fun j _ => nodLit _ j)⟩
       ·simp [go_sem, rdOb, tab, nodRow]
     ·have h2' : ¬ (r.v : Int).tmod 8 = 0 := by rw [e8]; omega
      by_cases hc3 : l.length = 0
      ·rw [if_pos (.inr (.inr hc3))] at hQ
       subst hQ
       have hc3' : l = [] := List.eq_nil_of_length_eq_zero hc3
       simp [go_sem, e1, h2']
       refine ⟨by omega, fun _ => ?_, fun h => absurd hc3' h⟩
       refine vcall_share [0, 2] c2 (by simp) ?_ ?_ trivial ?_
       ·simp [go_sem]
       ·simp [go_sem]
        exact ⟨cr r.nx, fun i _ => cellsRn_lits (nodLit _ i)⟩
       ·rintro av mem maps ⟨rfl, rfl, rfl⟩
        simp [go_sem]
        refine ⟨rfl, [4], [rdOb r.nx.nx, tab l, none, nodRow (out ++ [leafN r.nx.v])], by simp, by simp, by simp [go_sem], ?_, by simp [go_sem], ?_⟩
        ·simp [go_sem, rdOb, tab, nodRow]
         exact ⟨rdOut, outAt_lits (fun _ _ => rfl) (fun j _ => opLit _ j), outAt_lits (fun _ _ => rfl) (fun j _ => nodLit _ j)⟩
        ·simp [go_sem, rdOb, tab, nodRow]
      ·rw [if_neg (by rintro (h | h | h) <;> omega)] at hQ
       have hc3' : ¬ l = [] := fun e => hc3 (by rw [e]; rfl)
       have hp := gen_len l g d r.nx out
       have hgo := gen_ok (l := l) (g := g) d r.nx out hn
       have e0 : 2 ^ (d + 1 + 1) = 2 * 2 ^ (d + 1) := by rw [Nat.pow_succ]; omega
       have ih1 := ih r.nx out (by omega) hn (by omega)
       have ed : IntKind.i64.wrap (d : Int) = d := wrap_i64 (by omega)
       have cont1 : r.v % 8 = 1 → (r.v : Int).tmod 8 = 1 := fun h => by rw [e8, h]; rfl
       have cont2 : r.v % 8 ≠ 1 → ¬ (r.v : Int).tmod 8 = 1 := fun h => by rw [e8]; omega
       generalize genN l g d r.nx out = q at *
       have wq : IntKind.i64.wrap ((q.1.length : Int) - 1) = (q.1.length : Int) - 1 := wrap_i64 (by omega)
       simp only [rdOb, tab, nodRow] at ih1
       by_cases hc4 : g = true ∧ r.v % 8 = 1
       ·rw [if_pos hc4] at hQ
        subst hQ
        obtain ⟨hg, h1⟩ := hc4
        have h1' := cont1 h1
        simp [go_sem, e1, hc3', hg, h1', ed]
        rw [hg] at ih1
        refine ⟨by omega, ?_⟩
        refine vcall_share [0, 1, 2] ih1 (by simp) ?_ ?_ trivial ?_
        ·simp [go_sem]
        ·simp [go_sem]
         exact ⟨cr r.nx, fun i _ => cellsRn_lits (opLit _ i), fun i _ => cellsRn_lits (nodLit _ i)⟩
        ·rintro av mem maps ⟨rfl, rfl, rfl⟩
         simp [go_sem, wq]
         refine ⟨by omega, by omega, by omega, ?_⟩
         refine ⟨rfl, [6], [rdOb q.2, tab l, none, nodRow (q.1 ++ [grpN q.1.length])], by simp, by simp, by simp [go_sem], ?_, by simp [go_sem], ?_⟩
         ·simp [go_sem, rdOb, tab, nodRow]
          exact ⟨rdOut, outAt_lits (fun _ _ => rfl) (fun j _ => opLit _ j), outAt_lits (fun j hj => nod_app q.1 (grpN q.1.length) j hj) (fun j _ => nodLit _ j)⟩
         ·simp [go_sem, rdOb, tab, nodRow]
       ·rw [if_neg hc4] at hQ
        have ex : (IntKind.i64.wrap ((r.v : Int) / 8)).tmod l.length = ((r.v / 8 % l.length : Nat) : Int) := quo_rem r.v 8 l.length (by omega)
        have hx : r.v / 8 % l.length < l.length := Nat.mod_lt _ (by omega)
        have hkx := hk _ hx
        generalize r.v / 8 % l.length = x at *
        have wk : IntKind.i64.wrap ((opAt l x).kind + 2) = (opAt l x).kind + 2 := wrap_i64 (by omega)
        have hgc : g = false ∨ (g = true ∧ ¬ (r.v : Int).tmod 8 = 1) := by
         cases g with
         | false => exact .inl rfl
         | true => exact .inr ⟨rfl, cont2 fun h => hc4 ⟨rfl, h⟩⟩
        rcases hgc with hg | ⟨hg, h1'⟩
        case' inl => simp [go_sem, e1, h2', hc3', hg]
        case' inr => simp [go_sem, e1, h2', hc3', hg, h1']
        all_goals
         rw [hg] at ih1
         refine ⟨by omega, vc_drawn [11] (.q 0 <| .q 1 <| .q 2 <| .q 3 <| .q 4 <| .q 5 <| .q 6 <| .q 7 <| .q 8 <| .q 9 <| .or 10 (.or 11 (.done) (.nil)) (.nil)) (by kernel_rfl) ?_⟩
         simp [go_sem, hc3', ex, opCells_at, wk, ed]
         refine ⟨by omega, hx, ?_⟩
         refine vcall_share [0, 1, 2] ih1 (by simp) ?_ ?_ trivial ?_
         ·simp [go_sem]
         ·simp [go_sem]
          exact ⟨cr r.nx, fun i _ => cellsRn_lits (opLit _ i), fun i _ => cellsRn_lits (nodLit _ i)⟩
         ·rintro av mem maps ⟨rfl, rfl, rfl⟩
          by_cases h2 : (opAt l x).kind = 2
          ·rw [if_pos h2] at hQ
           have ih2 := ih q.2 q.1 (by omega) hgo (by omega)
           have hp2 := gen_len l g d q.2 q.1
           rw [hg] at ih2 hQ hp2
           generalize genN l _ d q.2 q.1 = q2 at *
           have wq2 : IntKind.i64.wrap ((q2.1.length : Int) - 1) = (q2.1.length : Int) - 1 := wrap_i64 (by omega)
           subst hQ
           simp only [rdOb, tab, nodRow] at ih2
           simp [go_sem, wq, h2, ed]
           refine ⟨by omega, ?_⟩
           refine vcall_share [0, 1, 6] ih2 (by simp) ?_ ?_ trivial ?_
           ·simp [go_sem]
           ·simp [go_sem]
            exact ⟨cr q.2, fun i _ => cellsRn_lits (opLit _ i), fun i _ => cellsRn_lits (nodLit _ i)⟩
           ·rintro av mem maps ⟨rfl, rfl, rfl⟩
            have hoN : opN (opAt l x) ((q.1.length : Int) - 1) ((q2.1.length : Int) - 1) = ⟨(opAt l x).text, 4, (q.1.length : Int) - 1, (q2.1.length : Int) - 1⟩ := by simp [opN, h2]
            simp [go_sem, wq2]
            refine ⟨by omega, by omega, by omega, ?_⟩
            refine ⟨rfl, [9], [rdOb q2.2, tab l, none, nodRow (q2.1 ++ [opN (opAt l x) ((q.1.length : Int) - 1) ((q2.1.length : Int) - 1)])], by simp, by simp, by simp [go_sem], ?_, by simp [go_sem], ?_⟩
            ·simp [go_sem, rdOb, tab, nodRow]
             exact ⟨rdOut, outAt_lits (fun _ _ => rfl) (fun j _ => opLit _ j), outAt_lits (fun j hj => by rw [hoN]; exact nod_app q2.1 ⟨(opAt l x).text, 4, (q.1.length : Int) - 1, (q2.1.length : Int) - 1⟩ j hj) (fun j _ => nodLit _ j)⟩
            ·simp [go_sem, rdOb, tab, nodRow]
          ·rw [if_neg h2] at hQ
           subst hQ
           simp [go_sem, wq, h2]
           refine ⟨by omega, by omega, by omega, ?_⟩
           refine ⟨rfl, [8], [rdOb q.2, tab l, none, nodRow (q.1 ++ [opN (opAt l x) ((q.1.length : Int) - 1) 0])], by simp, by simp, by simp [go_sem], ?_, by simp [go_sem], ?_⟩
           ·simp [go_sem, rdOb, tab, nodRow]
            exact ⟨rdOut, outAt_lits (fun _ _ => rfl) (fun j _ => opLit _ j), outAt_lits (fun j hj => nod_app q.1 (opN (opAt l x) ((q.1.length : Int) - 1) 0) j hj) (fun j _ => nodLit _ j)⟩
           ·simp [go_sem, rdOb, tab, nodRow]
def drawTree (l : List POp) (g : Bool) (r : Rd) : List PNode × Rd := genN l g (2 + r.v % 5) r.nx []
theorem pow_small {d : Nat} (h : d ≤ 6) : 2 ^ (d + 1) ≤ 128 := by
 have := Nat.pow_le_pow_right (n := 2) (by omega) (show d + 1 ≤ 7 by omega)
 omega
theorem drawTree_len (l : List POp) (g : Bool) (r : Rd) : 0 < (drawTree l g r).1.length ∧ (drawTree l g r).1.length ≤ 128 := by
 have := gen_len l g (2 + r.v % 5) r.nx []
 have h : r.v % 5 < 5 := Nat.mod_lt _ (by decide)
 have := pow_small (d := 2 + r.v % 5) (by omega)
 simp only [List.length_nil, Nat.zero_add] at *
 unfold drawTree
 omega
set_option maxRecDepth 100000 in
theorem c_l3DrawTree (l : List POp) (hl : l.length ≤ 1000) (hk : KindsSm l) (g : Bool) (r : Rd) (hr : r.ok) : VProc Tryz.prog 75 [.ptr 0 2 0 0, .agg [.own 1], .lit (.bool g)] [rdOb r, tab l] [] (fun av mem maps => av = .agg [.own 2] ∧ mem = [rdOb (drawTree l g r).2, tab l, nodRow (drawTree l g r).1] ∧ maps = []) := by
 have cr : ∀ (r : Rd) (i : Nat) (c : AV), i < r.n → c ∈ rdCells r.f i → Closed c := fun r i c _ h => rdClosed r.f i c h
 have hn := Rd.nx_ok hr
 have c1 := c_next r hr
 have e5 := tmod_nat r.v 5
 rw [show ((5 : Nat) : Int) = 5 from rfl] at e5
 have b5 : r.v % 5 < 5 := Nat.mod_lt _ (by decide)
 have hp := pow_small (d := 2 + r.v % 5) (by omega)
 have hlen := drawTree_len l g r
 unfold drawTree at hlen ⊢
 generalize r.v % 5 = u at *
 have w : IntKind.i64.wrap (2 + (u : Int)) = ((2 + u : Nat) : Int) := by rw [wrap_i64 (by omega)]; omega
 have c2 := c_l3Gen l hl hk g (2 + u) r.nx [] (by omega) hn (by simp; omega)
 generalize genN l g (2 + u) r.nx [] = q at *
 simp only [rdOb, tab, nodRow, List.length_nil] at c1 c2 ⊢
 refine vproc_start Tryz.func75 (by kernel_rfl) rfl (by simp [Tryz.ntmps75]) ?_; simp only [Tryz.ntmps75, Tryz.results75]; simp [go_sem]
 refine vcall_share [0] c1 (by simp) ?_ ?_ trivial ?_
 ·simp [go_sem]
 ·simp [go_sem]
  exact cr r
 ·rintro av mem maps ⟨rfl, rfl, rfl⟩
  simp [go_sem, e5, w]
  refine vcall_share [0, 1, 4] c2 (by simp) ?_ ?_ trivial ?_
  ·simp [go_sem]
  ·simp [go_sem]
   exact ⟨cr r.nx, fun i _ => cellsRn_lits (opLit _ i)⟩
  ·rintro av mem maps ⟨rfl, rfl, rfl⟩
   simp [go_sem]
   refine ⟨rfl, [5], [rdOb q.2, tab l, nodRow q.1], by simp, by simp, by simp [go_sem], ?_, by simp [go_sem], ?_⟩
   ·simp [go_sem, rdOb, tab, nodRow]
    exact ⟨rdOut, outAt_lits (fun _ _ => rfl) (fun j _ => opLit _ j), outAt_lits (fun _ _ => rfl) (fun j _ => nodLit _ j)⟩
   ·simp [go_sem, rdOb, tab, nodRow]
def minusOp : POp := ⟨⟨#[45]⟩, 1, 9, 0⟩
theorem c_l3Minus : VFun Tryz.prog 66 [] (fun av obs => av = .agg [.own 0] ∧ obs = [⟨133, 4, 1, opCells [minusOp]⟩]) := by
 refine vfun_start Tryz.func66 (by kernel_rfl) rfl (by simp [Tryz.ntmps66]) ?_; simp only [Tryz.ntmps66, Tryz.results66]; simp [go_sem]
 refine obsSame_one.mpr ⟨⟨133, 4, 1, opCells [minusOp]⟩, ⟨rfl, rfl, rfl, fun j hj => ?_⟩, rfl⟩
 obtain rfl : j = 0 := by simp only at hj; omega
 exact ⟨rfl, rfl⟩
def sgn (i : Nat) : UInt8 := ([43, 45, 42, 47, 60, 62, 61, 33, 38, 124] : List UInt8).getD i 0
theorem sgn_at : ∀ j, j < 10 → byteAt ⟨#[43, 45, 42, 47, 60, 62, 61, 33, 38, 124]⟩ j = ((sgn j).toNat : Int) := by
 intro j hj
 rcases (by omega : j = 0 ∨ j = 1 ∨ j = 2 ∨ j = 3 ∨ j = 4 ∨ j = 5 ∨ j = 6 ∨ j = 7 ∨ j = 8 ∨ j = 9) with h | h | h | h | h | h | h | h | h | h <;> subst h <;> rfl
def bigOp (v i : Nat) : POp := ⟨⟨#[sgn (i % 10), sgn (i / 10 % 10), sgn (i / 100)]⟩, 2, 1 + (i / 3 : Nat), 1 + ((i / 3 + v / 2) % 3 : Nat)⟩
def bigTab (v : Nat) : Nat → List POp
 | 0 => []
 | i + 1 => bigTab v i ++ [bigOp v i]
theorem bigTab_len (v : Nat) : ∀ i, (bigTab v i).length = i
 | 0 => rfl
 | i + 1 => by simp [bigTab, bigTab_len v i]
@[go_sem] theorem quiet_sb {x : Operand} : quiet4 Tryz.prog (.convert 34 9 x) = true := by simp only [quiet4, Tryz.underlying34, Tryz.underlying9]
def spoilOp (o : POp) (k : Nat) (r2 : Rd) : POp :=
 if k % 8 = 0 then { o with text := (⟨#[43, 45, 43, 45, 43, 45, 43, 45, 43, 45, 43, 45, 43, 45, 43, 45, 43]⟩ : ByteArray).extract 0 (16 + k / 8 % 2) }
 else if k % 8 = 1 then { o with text := o.text ++ ⟨#[UInt8.ofNat k]⟩ }
 else if k % 8 = 2 then { o with text := ⟨#[]⟩ }
 else if k % 8 = 3 then { o with level := 1001 * (k / 8 % 2 : Nat) }
 else if k % 8 = 4 then { o with kind := (k / 8 % 5 : Nat) }
 else if k % 8 = 5 then { o with side := (k / 8 % 5 : Nat) - 1 }
 else drawOp r2 false
def spoilBig (l : List POp) (k : Nat) : Bool := decide (k % 8 = 7 ∨ l.length = 0)
def spoilTab (l : List POp) (r : Rd) : List POp := if spoilBig l r.v then bigTab r.nx.v (500 + r.nx.v % 2) else l.set (r.nx.v % l.length) (spoilOp (opAt l (r.nx.v % l.length)) r.v r.nx.nx)
def spoilRd (l : List POp) (r : Rd) : Rd := if spoilBig l r.v then r.nx.nx else if r.v % 8 = 6 then r.nx.nx.nx.nx else r.nx.nx
set_option maxHeartbeats 4000000 in
set_option maxRecDepth 100000 in
theorem c_l1SpoilTableW (l : List POp) (hl : l.length ≤ 1000) (hz : ∀ i, i < l.length → (opAt l i).text.size ≤ 100) (r : Rd) (hr : r.okw) : VProc Tryz.prog 65 [.ptr 0 2 0 0, .agg [.own 1]] [rdOb r, tab l] [] (fun av mem maps => maps = [] ∧ ((spoilBig l r.v = true ∧ av = .agg [.own 2] ∧ mem = [rdOb (spoilRd l r), tab l, tab (spoilTab l r)]) ∨ (spoilBig l r.v = false ∧ av = .agg [.own 1] ∧ mem = [rdOb (spoilRd l r), tab (spoilTab l r)]))) := by
 have cr : ∀ (r : Rd) (i : Nat) (c : AV), i < r.n → c ∈ rdCells r.f i → Closed c := fun r i c _ h => rdClosed r.f i c h
 have c1 := c_nextW r hr
 have c2 := c_nextW r.nx (Rd.nx_okw hr)
 have c3 := c_l1DrawOpW r.nx.nx (Rd.nx_okw (Rd.nx_okw hr)) false
 have hk := Rd.v_ltw hr
 have hv := Rd.v_ltw (Rd.nx_okw hr)
 unfold spoilTab spoilRd
 generalize hK : r.v = k at *
 generalize hV : r.nx.v = v at *
 have e8 := tmod_nat k 8
 rw [show ((8 : Nat) : Int) = 8 from rfl] at e8
 simp only [rdOb, tab, POp.cells] at c1 c2 c3 ⊢
 refine vproc_start Tryz.func65 (by kernel_rfl) rfl (by simp [Tryz.ntmps65]) ?_; simp only [Tryz.ntmps65, Tryz.results65]; simp [go_sem]
 refine vcall_share [0] c1 (by simp) ?_ ?_ trivial ?_
 ·simp [go_sem]
 ·simp [go_sem]
  exact cr r
 ·rintro av mem maps ⟨rfl, rfl, rfl⟩
  simp [go_sem]
  refine vcall_share [0] c2 (by simp) ?_ ?_ trivial ?_
  ·simp [go_sem]
  ·simp [go_sem]
   exact cr r.nx
  ·rintro av mem maps ⟨rfl, rfl, rfl⟩
   cases hB : spoilBig l k with
   | true =>
    have hB' := hB
    simp only [spoilBig, decide_eq_true_eq] at hB'
    have hsp : ((k : Int).tmod 8 = 7) ∨ (¬ (k : Int).tmod 8 = 7 ∧ l = []) := by
     rcases hB' with h | h
     ·exact .inl (by rw [e8]; omega)
     ·by_cases h7 : (k : Int).tmod 8 = 7
      ·exact .inl h7
      ·exact .inr ⟨h7, List.eq_nil_of_length_eq_zero h⟩
    have e2 : (v : Int).tmod 2 = ((v % 2 : Nat) : Int) := tmod_nat v 2
    have hv2 : v % 2 < 2 := Nat.mod_lt _ (by decide)
    generalize v % 2 = c at *
    have w1 : IntKind.i64.wrap (500 + (c : Int)) = ((500 + c : Nat) : Int) := by rw [wrap_i64 (by omega)]; omega
    have hlen0 : ∀ h : l = [], ((l.length : Int) == 0) = true := fun h => by rw [h]; rfl
    rcases hsp with h7 | ⟨h7, hnil⟩
    case' inl => simp [go_sem, h7, e2, w1]
    case' inr =>
     have h0 := hlen0 hnil
     simp [go_sem, h7, h0, e2, w1]
     refine ⟨by omega, ?_⟩
    all_goals
     refine vc_loopE (fun i : Nat => i ≤ 500 + c) (fun i => 500 + c - i) (fun i => ⟨[(4, .ptr 2 1 0 0), (6, .lit (.int .i64 v)), (7, .lit (.int .i64 (500 + c : Nat))), (8, .ptr 3 1 0 0), (9, .lit (.int .i64 i))], [rdOb r.nx.nx, tab l, some ⟨30, 1, 1, fun _ => [.lit (.slice none 0 0)]⟩, some ⟨30, 1, 1, fun _ => [.own 4]⟩, some ⟨133, 4, i, opCells (bigTab v i)⟩], [], 2⟩) ⟨0, by omega, ?_⟩ (fun i hi => ?_)
     ·refine ent_ks [0, 1, 3, 5, 4] (by simp) (by simp) (by simp) (by decide) (by simp [go_sem]) ?_ ?_
      ·simp [go_sem]
      ·simp [go_sem, rdOb, tab]
       exact ⟨cr r.nx.nx, .inl fun i _ c hc => opClosed l i c hc⟩
     ·have i1 : (i : Int).tmod 10 = ((i % 10 : Nat) : Int) := tmod_nat i 10
      have i2 : (IntKind.i64.wrap ((i : Int) / 10)).tmod 10 = ((i / 10 % 10 : Nat) : Int) := by rw [wrap_i64 (by omega), show (i : Int) / 10 = ((i / 10 : Nat) : Int) by omega]; exact tmod_nat _ 10
      have i3 : IntKind.i64.wrap ((i : Int) / 100) = ((i / 100 : Nat) : Int) := by rw [wrap_i64 (by omega)]; omega
      have i4 : IntKind.i64.wrap ((i : Int) / 3) = ((i / 3 : Nat) : Int) := by rw [wrap_i64 (by omega)]; omega
      have i5 : IntKind.i64.wrap ((v : Int) / 2) = ((v / 2 : Nat) : Int) := by rw [wrap_i64 (by omega)]; omega
      have i6 : IntKind.i64.wrap (((i / 3 : Nat) : Int) + ((v / 2 : Nat) : Int)) = ((i / 3 + v / 2 : Nat) : Int) := by rw [wrap_i64 (by omega)]; omega
      have i7 : (((i / 3 + v / 2 : Nat) : Int)).tmod 3 = (((i / 3 + v / 2) % 3 : Nat) : Int) := tmod_nat _ 3
      have i8 : IntKind.i64.wrap (1 + ((i / 3 : Nat) : Int)) = 1 + ((i / 3 : Nat) : Int) := wrap_i64 (by omega)
      have b7 : (i / 3 + v / 2) % 3 < 3 := Nat.mod_lt _ (by decide)
      have i9 : IntKind.i64.wrap (1 + (((i / 3 + v / 2) % 3 : Nat) : Int)) = 1 + (((i / 3 + v / 2) % 3 : Nat) : Int) := wrap_i64 (by omega)
      have b1 : i % 10 < 10 := Nat.mod_lt _ (by decide)
      have b2 : i / 10 % 10 < 10 := Nat.mod_lt _ (by decide)
      have hop : bigTab v (i + 1) = bigTab v i ++ [bigOp v i] := rfl
      simp only [bigOp] at hop
      generalize (i / 3 + v / 2) % 3 = m7 at *
      generalize (i / 3 + v / 2) = m6 at *
      generalize i / 3 = m3 at *
      have b3 : i / 100 < 10 ∨ ¬ i < 500 + c := by omega
      generalize i / 100 = m2 at *
      generalize i / 10 % 10 = m1 at *
      generalize i % 10 = m0 at *
      generalize v / 2 = m5 at *
      simp [go_sem, rdOb, tab]
      refine ⟨fun hlt => ?_, fun hge => ?_⟩
      ·have b3' : m2 < 10 := by omega
       refine vc_drawn [] (.q 0 <| .q 1 <| .q 2 <| .q 3 <| .q 4 <| .q 5 <| .q 6 <| .q 7 <| .q 8 <| .q 9 <| .or 10 (.q 11 <| .q 12 <| .done) (.nil)) (by kernel_rfl) ?_
       simp [go_sem, i1, i2, i3, i4, i5, i6, i7, i8, i9]
       have q0 := sgn_at m0 b1
       have q1 := sgn_at m1 b2
       have q2 := sgn_at m2 b3'
       refine ⟨by omega, by omega, by omega, ⟨#[sgn m0, sgn m1, sgn m2]⟩, rfl, fun j hj => ?_, by omega, by omega, i + 1, by omega, by omega, ?_⟩
       ·rw [q0, q1, q2]
        rcases (by omega : j = 0 ∨ j = 1 ∨ j = 2) with h | h | h <;> subst h <;> rfl
       ·refine ent_ks [0, 1, 2, 3, 7] (by simp) (by simp) (by simp) (by decide) (by simp [go_sem]) ?_ ?_
        ·simp [go_sem]
         exact wrap_succ (by omega)
        ·have hlen := bigTab_len v i
         have eqrow : ∀ (g : Nat → List AV), g 0 = [.lit (.string ⟨#[sgn m0, sgn m1, sgn m2]⟩), .lit (.int .i64 2), .lit (.int .i64 (1 + (m3 : Nat))), .lit (.int .i64 (1 + (m7 : Nat)))] → ∀ j, j < i + 1 → joinF i (opCells (bigTab v i)) g j = opCells (bigTab v (i + 1)) j := fun g hg j hj => by
          rw [hop, ← opCells_one _ _ j (by rw [hlen]; exact hj), hlen]
          unfold joinF
          by_cases hl : j < i
          ·rw [if_pos hl, if_pos hl]
          ·have e0 : j - i = 0 := by omega
           rw [if_neg hl, if_neg hl, e0, hg]
           rfl
         simp [go_sem]
         refine ⟨cr r.nx.nx, .inl fun i _ c hc => opClosed l i c hc, .inr fun j hj => ?_⟩
         rw [eqrow _ rfl j hj]
         exact cellsRn_lits (opLit _ j)
      ·have ei : i = 500 + c := by omega
       refine ⟨rfl, [4], [rdOb r.nx.nx, tab l, tab (bigTab v i)], by simp, by simp, by simp [go_sem], ?_, by simp [go_sem], ?_⟩
       ·simp [go_sem, rdOb, tab, bigTab_len]
        exact ⟨rdOut, outAt_lits (fun _ _ => rfl) (fun j _ => opLit _ j), outAt_lits (fun _ _ => rfl) (fun j _ => opLit _ j)⟩
       ·simp [go_sem, rdOb, tab, ei]
   | false =>
    have hB' := hB
    simp only [spoilBig, decide_eq_false_iff_not, not_or] at hB'
    have h7 : ¬ (k : Int).tmod 8 = 7 := by rw [e8]; omega
    have hne : l ≠ [] := by intro e; rw [e] at hB'; simp at hB'
    have ev : (v : Int).tmod l.length = ((v % l.length : Nat) : Int) := tmod_nat _ _
    have hx := Nat.mod_lt v (show 0 < l.length by omega)
    generalize v % l.length = x at *
    have hxi : ((x : Int)).toNat = x := rfl
    have e82 : (IntKind.i64.wrap ((k : Int) / 8)).tmod 2 = ((k / 8 % 2 : Nat) : Int) := by rw [wrap_i64 (by omega), show (k : Int) / 8 = ((k / 8 : Nat) : Int) by omega]; exact tmod_nat _ 2
    have e85 : (IntKind.i64.wrap ((k : Int) / 8)).tmod 5 = ((k / 8 % 5 : Nat) : Int) := by rw [wrap_i64 (by omega), show (k : Int) / 8 = ((k / 8 : Nat) : Int) by omega]; exact tmod_nat _ 5
    have b2 : k / 8 % 2 < 2 := Nat.mod_lt _ (by decide)
    have b5 : k / 8 % 5 < 5 := Nat.mod_lt _ (by decide)
    have hlt8 : k % 8 < 8 := Nat.mod_lt _ (by decide)
    have fin : ∀ (ts : List (Nat × AV)) (o' : POp) (rr : Rd) (xs : List (Option Ob)), spoilOp (opAt l x) k r.nx.nx = o' → (if k % 8 = 6 then r.nx.nx.nx.nx else r.nx.nx) = rr →
      vendP [] (fun av mem maps => maps = [] ∧ av = AV.agg [AV.own 1] ∧ mem = [some ⟨138, 2, 1, fun _ => [.sl 1 (if k % 8 = 6 then r.nx.nx.nx.nx else r.nx.nx).n (rdCells (if k % 8 = 6 then r.nx.nx.nx.nx else r.nx.nx).f), .lit (.int .i64 (if k % 8 = 6 then r.nx.nx.nx.nx else r.nx.nx).p)]⟩, some ⟨133, 4, l.length, opCells (l.set x (spoilOp (opAt l x) k r.nx.nx))⟩])
      ⟨ts, some ⟨138, 2, 1, fun _ => [.sl 1 rr.n (rdCells rr.f), .lit (.int .i64 rr.p)]⟩ :: some ⟨133, 4, l.length, updF l.length (opCells l) x 0 [.lit (.string o'.text), .lit (.int .i64 o'.kind), .lit (.int .i64 o'.level), .lit (.int .i64 o'.side)]⟩ :: xs, [], 2⟩ (.agg [.own 1]) := by
     intro ts o' rr xs ho hrr
     rw [ho, hrr]
     refine ⟨rfl, [], [rdOb rr, some ⟨133, 4, l.length, opCells (l.set x o')⟩], by simp, by simp, by simp [go_sem], ?_, by simp [go_sem], ?_⟩
     ·simp [go_sem, rdOb]
      refine ⟨rdOut, outAt_lits (fun j hj' => ?_) (fun j _ => opLit _ j)⟩
      have eqr : updF l.length (opCells l) x 0 [.lit (.string o'.text), .lit (.int .i64 o'.kind), .lit (.int .i64 o'.level), .lit (.int .i64 o'.side)] j = opCells (l.set x o') j := by
       rw [updF_at hx hj']
       by_cases hjx : j = x
       ·subst hjx
        have e1 : opAt (l.set j o') j = o' := by
         unfold opAt
         rw [List.getD_eq_getElem?_getD, List.getElem?_set_self hj']
         rfl
        rw [if_pos rfl, opCells_at, opCells_at, e1]
        rfl
       ·have e1 : opAt (l.set x o') j = opAt l j := by
         unfold opAt
         rw [List.getD_eq_getElem?_getD, List.getElem?_set_ne (fun e => hjx e.symm), ← List.getD_eq_getElem?_getD]
        rw [if_neg hjx, opCells_at, opCells_at, e1]
      exact eqr
     ·simp [go_sem, rdOb]
    obtain ⟨so, hso⟩ : ∃ so, so = spoilOp (opAt l x) k r.nx.nx := ⟨_, rfl⟩
    rw [← hso] at fin ⊢
    simp only [spoilOp] at hso
    generalize k / 8 % 2 = y2 at *
    generalize k / 8 % 5 = y5 at *
    by_cases h0 : k % 8 = 0
    ·have h0' : (k : Int).tmod 8 = 0 := by rw [e8]; omega
     have w1 : IntKind.i64.wrap (16 + (y2 : Int)) = ((16 + y2 : Nat) : Int) := by rw [wrap_i64 (by omega)]; omega
     have w2 : ((16 : Int) + (y2 : Int)).toNat = 16 + y2 := by omega
     simp [go_sem, h7, hne, ev, hxi, opCells_at, h0', e82, w1, w2]
     refine ⟨by omega, hx, by omega, by omega, hx, ?_⟩
     exact fin _ _ _ _ (hso.trans (if_pos h0)) (if_neg (by omega))
    ·have h0' : ¬ (k : Int).tmod 8 = 0 := by rw [e8]; omega
     by_cases h1 : k % 8 = 1
     ·have h1' : (k : Int).tmod 8 = 1 := by rw [e8]; omega
      simp [go_sem, h7, hne, ev, hxi, opCells_at, h0', h1']
      have hzx := hz x hx
      have hz1 : (⟨#[UInt8.ofNat k]⟩ : ByteArray).size = 1 := rfl
      refine ⟨by omega, hx, ⟨#[UInt8.ofNat k]⟩, rfl, u8cell hk, _, fun w => if_neg (by omega), ?_⟩
      simp [go_sem, hne, hxi, opCells_at]
      refine ⟨hx, ?_⟩
      exact fin _ _ _ _ (hso.trans ((if_neg h0).trans <| if_pos h1)) (if_neg (by omega))
     ·have h1' : ¬ (k : Int).tmod 8 = 1 := by rw [e8]; omega
      by_cases h2 : k % 8 = 2
      ·have h2' : (k : Int).tmod 8 = 2 := by rw [e8]; omega
       simp [go_sem, h7, hne, ev, hxi, opCells_at, h0', h1', h2']
       refine ⟨by omega, hx, ?_⟩
       exact fin _ _ _ _ (hso.trans ((if_neg h0).trans <| (if_neg h1).trans <| if_pos h2)) (if_neg (by omega))
      ·have h2' : ¬ (k : Int).tmod 8 = 2 := by rw [e8]; omega
       by_cases h3 : k % 8 = 3
       ·have h3' : (k : Int).tmod 8 = 3 := by rw [e8]; omega
        have w1 : IntKind.i64.wrap (1001 * (y2 : Int)) = 1001 * y2 := wrap_i64 (by omega)
        simp [go_sem, h7, hne, ev, hxi, opCells_at, h0', h1', h2', h3', e82, w1]
        refine ⟨by omega, hx, ?_⟩
        exact fin _ _ _ _ (hso.trans ((if_neg h0).trans <| (if_neg h1).trans <| (if_neg h2).trans <| if_pos h3)) (if_neg (by omega))
       ·have h3' : ¬ (k : Int).tmod 8 = 3 := by rw [e8]; omega
        by_cases h4 : k % 8 = 4
        ·have h4' : (k : Int).tmod 8 = 4 := by rw [e8]; omega
         simp [go_sem, h7, hne, ev, hxi, opCells_at, h0', h1', h2', h3', h4', e85]
         refine ⟨by omega, hx, ?_⟩
         exact fin _ _ _ _ (hso.trans ((if_neg h0).trans <| (if_neg h1).trans <| (if_neg h2).trans <| (if_neg h3).trans <| if_pos h4)) (if_neg (by omega))
        ·have h4' : ¬ (k : Int).tmod 8 = 4 := by rw [e8]; omega
         by_cases h5 : k % 8 = 5
         ·have h5' : (k : Int).tmod 8 = 5 := by rw [e8]; omega
          have w1 : IntKind.i64.wrap ((y5 : Int) - 1) = y5 - 1 := wrap_i64 (by omega)
          simp [go_sem, h7, hne, ev, hxi, opCells_at, h0', h1', h2', h3', h4', h5', e85, w1]
          refine ⟨by omega, hx, ?_⟩
          exact fin _ _ _ _ (hso.trans ((if_neg h0).trans <| (if_neg h1).trans <| (if_neg h2).trans <| (if_neg h3).trans <| (if_neg h4).trans <| if_pos h5)) (if_neg (by omega))
         ·have h5' : ¬ (k : Int).tmod 8 = 5 := by rw [e8]; omega
          have h6 : k % 8 = 6 := by omega
          simp [go_sem, h7, hne, ev, hxi, opCells_at, h0', h1', h2', h3', h4', h5']
          refine ⟨by omega, hx, ?_⟩
          refine vcall_share [0] c3 (by simp) ?_ ?_ trivial ?_
          ·simp [go_sem]
          ·simp [go_sem]
           exact cr r.nx.nx
          ·rintro av mem maps ⟨rfl, rfl, rfl⟩
           simp [go_sem, hne, hxi]
           refine ⟨by omega, ?_⟩
           exact fin _ _ _ _ (hso.trans ((if_neg h0).trans <| (if_neg h1).trans <| (if_neg h2).trans <| (if_neg h3).trans <| (if_neg h4).trans <| if_neg h5)) (if_pos h6)
end Go.Proofs.YtjdmmhcogmepaaaGreatDoor.V
