import Derived.Test.YtjdmmhcogmepaaaGreatDoorMT
import Derived.Test.YtjdmmhcogmepaaaGreatDoorMB
import Derived.Test.YtjdmmhcogmepaaaGreatDoorShelf
import Derived.DeepKeys5
import Derived.Shelf.Strings.Builder1
import Derived.Shelf.Strings.SlTrimAscii
set_option linter.unusedVariables false
set_option linter.unusedSimpArgs false
set_option linter.constructorNameAsVariable false
namespace Go.Proofs.YtjdmmhcogmepaaaGreatDoor.V
open Go.RowKit
theorem vfun_lit {P : Program} {f : FuncId} {vs : List Value} {v : Value} (hf : FnOk P f) (h : ∀ w, Calls P f vs.toArray w fun e w' => e = .returned v ∧ w' = w) : VFun P f (vs.map .lit) (fun av obs => obs = [] ∧ av = .lit v) := by
 refine ⟨hf, fun w us hl hu => ?_⟩
 have e : us = vs := by
  have hl' : vs.length = us.length := by simpa using hl
  apply List.ext_getElem hl'.symm
  intro j h1 h2
  have := hu j (.lit vs[j]) us[j] (by simp [h2]) (List.getElem?_eq_getElem h1)
  generalize us[j] = x at this
  generalize vs[j] = y at this
  cases this
  rfl
 subst e
 refine (h w).mono fun e w' ⟨he, hw⟩ => ?_
 subst he; subst hw
 exact ⟨v, rfl, World.grownBy.refl _ _, fun _ => undef, .lit v, [], ⟨rfl, rfl⟩, rfl, fun ob h => by simp at h, ⟨fun k ob h => by simp at h, fun k ob h => by simp at h, fun k h => by simp at h, fun k k' ob ob' h => by simp at h⟩, .lit v⟩
theorem wrap_i64 {n : Int} (h : -9223372036854775808 ≤ n ∧ n ≤ 9223372036854775807) : IntKind.i64.wrap n = n := by
 rw [IntKind.wrap_i64]; omega
theorem wrap_succ {i : Nat} (h : i < 9223372036854775807) : IntKind.i64.wrap ((i : Int) + 1) = ((i + 1 : Nat) : Int) := by
 rw [wrap_i64 (by omega)]; omega
def signBytes : ByteArray := { data := #[43, 45, 42, 47, 60, 62, 61, 33, 38, 124, 94, 126, 63, 58, 64, 37, 36, 46] }
def isSg (c : Int) : Bool := (List.range 18).any fun i => byteAt signBytes i = c
theorem signSize : signBytes.size = 18 := rfl
theorem isSg_false {c : Int} (h : ∀ j, j < 18 → ¬byteAt signBytes j = c) : isSg c = false := by simpa [isSg] using h
theorem isSg_true {c : Int} {i : Nat} (h : i < 18) (e : byteAt signBytes i = c) : isSg c = true := by simpa [isSg] using ⟨i, h, e⟩
theorem c_l1IsSign (c : Int) : VFun Tryz.prog 138 [.lit (.int .u8 c)] (fun av obs => obs = [] ∧ av = .lit (.bool (isSg c))) := by
 refine vfun_start Tryz.func138 (by kernel_rfl) rfl (by simp [Tryz.ntmps138]) ?_; simp only [Tryz.ntmps138, Tryz.results138]; simp [go_sem]
 refine vc_loop (fun i : Nat => i ≤ 18 ∧ ∀ j, j < i → ¬byteAt signBytes j = c) (fun i => 18 - i) (fun i => .of [(0, .lit (.int .u8 c)), (2, .lit (.bool false)), (3, .lit (.string signBytes)), (4, .lit (.int .i64 i))] []) ⟨0, ?_, ?_⟩ (fun i hi => ?_)
 ·simp
 ·simp [go_sem, signBytes]
 ·simp [go_sem, signSize]
  refine ⟨fun h => ⟨h, fun e => isSg_true (by omega) e, fun e => ⟨i + 1, ⟨⟨by omega, fun j hj => ?_⟩, by omega, wrap_succ (by omega)⟩⟩⟩, fun h => isSg_false fun j hj => hi.2 j (by omega)⟩
  rcases Nat.lt_succ_iff_lt_or_eq.mp hj with hj | rfl
  ·exact hi.2 j hj
  ·exact e
theorem byteAt_range (z : ByteArray) (i : Nat) : 0 ≤ byteAt z i ∧ byteAt z i < 256 := by
 unfold byteAt
 split
 ·rename_i h
  have := (z[i]'h).toNat_lt
  omega
 ·omega
theorem signKey : (List.range 256).all (fun n => decide (0 ≤ Lib.indexByte signBytes.data.toList n.toUInt8) == isSg n) = true := by kernel_rfl
theorem indexSign (c : Int) (h : 0 ≤ c ∧ c < 256) : decide (0 ≤ Lib.indexByte signBytes.data.toList c.toNat.toUInt8) = isSg c := by
 have := List.all_eq_true.mp signKey c.toNat (List.mem_range.mpr (by omega))
 have e : ((c.toNat : Nat) : Int) = c := by omega
 rw [beq_iff_eq, e] at this
 exact this
theorem c_isSign (c : Int) (h : 0 ≤ c ∧ c < 256) : VFun Tryz.prog 141 [.lit (.int .u8 c)] (fun av obs => obs = [] ∧ av = .lit (.bool (isSg c))) := by
 refine vfun_start Tryz.func141 (by kernel_rfl) rfl (by simp [Tryz.ntmps141]) ?_; simp only [Tryz.ntmps141, Tryz.results141]; simp [go_sem]
 refine vcall_pure (vfun_lit (vs := [.string signBytes, .int .u8 c]) ⟨_, Tryz.func152, rfl, rfl⟩ (fun w => Tryz.strings_IndexByte signBytes c w)) ?_ ?_
 ·simp [go_sem, signBytes]
 ·simp [go_sem]
  exact indexSign c h
def sgAll (z : ByteArray) : Bool := (List.range z.size).all fun i => isSg (byteAt z i)
def sgOk (z : ByteArray) : Bool := sgAll z && decide (1 ≤ z.size) && decide (z.size ≤ 16)
theorem sgAll_false {z : ByteArray} {i : Nat} (h : i < z.size) (e : isSg (byteAt z i) = false) : sgAll z = false := by
 simp [sgAll]; exact ⟨i, h, e⟩
theorem sgAll_true {z : ByteArray} (h : ∀ i, i < z.size → isSg (byteAt z i) = true) : sgAll z = true := by simpa [sgAll] using h
theorem c_l1Signs (z : ByteArray) (hz : z.size ≤ maxLen) : VFun Tryz.prog 116 [.lit (.string z)] (fun av obs => obs = [] ∧ av = .lit (.bool (sgOk z))) := by
 refine vfun_start Tryz.func116 (by kernel_rfl) rfl (by simp [Tryz.ntmps116]) ?_; simp only [Tryz.ntmps116, Tryz.results116]; simp [go_sem]
 simp only [maxLen] at hz
 refine vc_loop (fun i : Nat => i ≤ z.size ∧ ∀ j, j < i → isSg (byteAt z j) = true) (fun i => z.size - i) (fun i => .of [(0, .lit (.string z)), (2, .lit (.bool false)), (3, .lit (.int .i64 i))] []) ⟨0, ?_, ?_⟩ (fun i hi => ?_)
 ·simp
 ·simp [go_sem]
 ·simp [go_sem]
  refine ⟨fun h => ⟨h, vcall_pure (c_l1IsSign (byteAt z i)) ?_ ?_⟩, fun h => ?_⟩
  ·simp [go_sem]
  ·simp [go_sem]
   refine ⟨fun e => ?_, fun e => ⟨i + 1, ⟨⟨by omega, fun j hj => ?_⟩, by omega, wrap_succ (by omega)⟩⟩⟩
   ·simp [sgOk, sgAll_false h e]
   ·rcases Nat.lt_succ_iff_lt_or_eq.mp hj with hj | rfl
    ·exact hi.2 j hj
    ·exact e
  ·have e := sgAll_true (z := z) fun j hj => hi.2 j (by omega)
   have h2 : ((z.size : Int) ≤ 16) ↔ z.size ≤ 16 := by omega
   simp [sgOk, e, h2]
   refine ⟨fun h => ?_, fun h => by omega⟩
   have h1 : 1 ≤ z.size := by omega
   simp [h1]
theorem c_signsOk (z : ByteArray) (hz : z.size ≤ maxLen) : VFun Tryz.prog 120 [.lit (.string z)] (fun av obs => obs = [] ∧ av = .lit (.bool (sgOk z))) := by
 refine vfun_start Tryz.func120 (by kernel_rfl) rfl (by simp [Tryz.ntmps120]) ?_; simp only [Tryz.ntmps120, Tryz.results120]; simp [go_sem]
 simp only [maxLen] at hz
 have h2 : (16 < (z.size : Int)) ↔ 16 < z.size := by omega
 have h1 : ((z.size : Int) < 1) ↔ z.size < 1 := by omega
 simp only [h1, h2]
 refine ⟨fun h3 => ⟨fun h4 => ?_, fun h4 => ?_⟩, fun h3 => ?_⟩
 ·simp [sgOk, h4]
 ·refine vc_loop (fun i : Nat => i ≤ z.size ∧ ∀ j, j < i → isSg (byteAt z j) = true) (fun i => z.size - i) (fun i => .of [(0, .lit (.string z)), (2, .lit (.bool false)), (13, .lit (.int .i64 z.size)), (14, .lit (.int .i64 i))] []) ⟨0, ?_, ?_⟩ (fun i hi => ?_)
  ·simp
  ·simp [go_sem]
  ·simp [go_sem]
   refine ⟨fun h => ⟨h, vcall_pure (c_isSign (byteAt z i) (byteAt_range z i)) ?_ ?_⟩, fun h => ?_⟩
   ·simp [go_sem]
   ·simp [go_sem]
    refine ⟨fun e => ?_, fun e => ⟨i + 1, ⟨⟨by omega, fun j hj => ?_⟩, by omega, wrap_succ (by omega)⟩⟩⟩
    ·simp [sgOk, sgAll_false h e]
    ·rcases Nat.lt_succ_iff_lt_or_eq.mp hj with hj | rfl
     ·exact hi.2 j hj
     ·exact e
   ·have e := sgAll_true (z := z) fun j hj => hi.2 j (by omega)
    simp [sgOk, e]
    omega
 ·simp [sgOk]
  omega
structure POp where
 text : ByteArray
 kind : Int
 level : Int
 side : Int
def POp.cells (o : POp) : List AV := [.lit (.string o.text), .lit (.int .i64 o.kind), .lit (.int .i64 o.level), .lit (.int .i64 o.side)]
def POp.wf (o : POp) : Prop := o.text.size ≤ maxLen
def opOk (o : POp) : Bool := sgOk o.text && decide (1 ≤ o.level ∧ o.level ≤ 1000 ∧ ((o.kind = 2 ∧ 1 ≤ o.side ∧ o.side ≤ 3) ∨ ((o.kind = 1 ∨ o.kind = 3) ∧ o.side = 0)))
theorem int_beq (a b : Int) : (a == b) = decide (a = b) := by
 rw [Bool.eq_iff_iff]; simp
theorem c_l1OpOk (o : POp) (ho : o.wf) : VFun Tryz.prog 78 [.agg o.cells] (fun av obs => obs = [] ∧ av = .lit (.bool (opOk o))) := by
 obtain ⟨z, kind, level, side⟩ := o
 simp only [POp.cells]
 refine vfun_start Tryz.func78 (by kernel_rfl) rfl (by simp [Tryz.ntmps78]) ?_; simp only [Tryz.ntmps78, Tryz.results78]; simp [go_sem]
 refine vcall_pure (c_l1Signs z ho) ?_ ?_
 ·simp [go_sem]
 ·simp (maxSteps := 1000000) [go_sem]
  cases hs : sgOk z
  ·simp [opOk, hs]
  ·simp only [opOk, hs, int_beq, Bool.true_and, decide_eq_decide, decide_eq_true_eq, decide_eq_false_iff_not, true_implies, reduceCtorEq, false_implies, and_true, true_and]
   omega
theorem c_opOk (o : POp) (ho : o.wf) : VFun Tryz.prog 86 [.agg o.cells] (fun av obs => obs = [] ∧ av = .lit (.bool (opOk o))) := by
 obtain ⟨z, kind, level, side⟩ := o
 simp only [POp.cells]
 refine vfun_start Tryz.func86 (by kernel_rfl) rfl (by simp [Tryz.ntmps86]) ?_; simp only [Tryz.ntmps86, Tryz.results86]; simp [go_sem]
 refine vcall_pure (c_signsOk z ho) ?_ ?_
 ·simp [go_sem]
 ·simp (maxSteps := 1000000) [go_sem]
  cases hs : sgOk z
  ·simp [opOk, hs]
  ·simp only [opOk, hs, int_beq, Bool.true_and, decide_eq_decide, decide_eq_true_eq, decide_eq_false_iff_not, true_implies, reduceCtorEq, false_implies, and_true, true_and]
   omega
def hole (o : POp) (second : Bool) : Int := if opOk o = false ∨ (second = true ∧ o.kind ≠ 2) then 0 else if o.kind = 2 ∧ (o.side = 3 ∨ (decide (o.side = 1) = second)) then o.level + 1 else o.level
theorem opOk_level {o : POp} (h : opOk o = true) : 1 ≤ o.level ∧ o.level ≤ 1000 := by
 simp [opOk] at h; omega
theorem c_l1Hole (o : POp) (ho : o.wf) (b : Bool) : VFun Tryz.prog 85 [.agg o.cells, .lit (.bool b)] (fun av obs => obs = [] ∧ av = .lit (.int .i64 (hole o b))) := by
 have hc := c_l1OpOk o ho
 have hl := @opOk_level o
 obtain ⟨z, kind, level, side⟩ := o
 simp only [POp.cells] at hc ⊢
 refine vfun_start Tryz.func85 (by kernel_rfl) rfl (by simp [Tryz.ntmps85]) ?_; simp only [Tryz.ntmps85, Tryz.results85]; simp [go_sem]
 refine vcall_pure hc ?_ ?_
 ·simp [go_sem]
 ·simp (maxSteps := 1000000) [go_sem]
  have hw : opOk ⟨z, kind, level, side⟩ = true → IntKind.i64.wrap (level + 1) = level + 1 := fun h => wrap_i64 (by have := hl h; simp only at this; omega)
  clear hc hl ho
  simp only [hole, int_beq]
  generalize opOk ⟨z, kind, level, side⟩ = q at hw ⊢
  cases q
  ·simp
  ·simp only [hw rfl]
   by_cases h1 : kind = 2 <;> by_cases h2 : side = 3 <;> by_cases h3 : side = 1 <;> cases b <;> simp [h1, h2, h3]
theorem c_Hole (o : POp) (ho : o.wf) (b : Bool) : VFun Tryz.prog 92 [.agg o.cells, .lit (.bool b)] (fun av obs => obs = [] ∧ av = .lit (.int .i64 (hole o b))) := by
 have hc := c_opOk o ho
 have hl := @opOk_level o
 obtain ⟨z, kind, level, side⟩ := o
 simp only [POp.cells] at hc ⊢
 refine vfun_start Tryz.func92 (by kernel_rfl) rfl (by simp [Tryz.ntmps92]) ?_; simp only [Tryz.ntmps92, Tryz.results92]; simp [go_sem]
 refine vcall_pure hc ?_ ?_
 ·simp [go_sem]
 ·simp (maxSteps := 1000000) [go_sem]
  have hw : opOk ⟨z, kind, level, side⟩ = true → IntKind.i64.wrap (level + 1) = level + 1 := fun h => wrap_i64 (by have := hl h; simp only at this; omega)
  clear hc hl ho
  simp only [hole, int_beq]
  generalize opOk ⟨z, kind, level, side⟩ = q at hw ⊢
  cases q
  ·simp
  ·simp only [hw rfl]
   by_cases h1 : kind = 2 <;> by_cases h2 : side = 3 <;> by_cases h3 : side = 1 <;> cases b <;> simp [h1, h2, h3]
theorem laidOut : laidOutB Tryz.prog = true := by kernel_rfl
theorem fullSlices : ∀ t e, t < Tryz.prog.types.size → Tryz.prog.underlying t = some (.slice e) → 0 < Tryz.prog.cellsOf e := slices_full_of Tryz.prog (by kernel_rfl)
theorem own : ownKnob Tryz.prog.godebug = none := by kernel_rfl
theorem each_of {α : Type} {p : α → Bool} {l : List α} (h : l.all p = true) : ∀ x, x ∈ l → p x = true := List.all_eq_true.mp h
structure PTok where
 kind : Int
 gap : ByteArray
 text : ByteArray
 deriving Inhabited
def PTok.cells (o : PTok) : List AV := [.lit (.int .i64 o.kind), .lit (.string o.gap), .lit (.string o.text)]
def tokCells (l : List PTok) (i : Nat) : List AV := (l.getD i default).cells
theorem tokClosed (l : List PTok) (i : Nat) (c : AV) (h : c ∈ tokCells l i) : Closed c := by
 simp [tokCells, PTok.cells] at h
 rcases h with rfl | rfl | rfl <;> exact .lit _
def tokSize (o : PTok) : Nat := o.gap.size + o.text.size
def tokSum (l : List PTok) : Nat := (l.map tokSize).sum
theorem tokSum_take (l : List PTok) (i : Nat) (h : i < l.length) : tokSum (l.take (i + 1)) = tokSum (l.take i) + tokSize (l.getD i default) := by
 unfold tokSum
 rw [List.take_add_one, List.getElem?_eq_getElem h, List.map_append, List.sum_append_nat, List.getD_eq_getElem?_getD, List.getElem?_eq_getElem h]
 simp only [Option.toList_some, List.map_cons, List.map_nil, List.sum_cons, List.sum_nil, Option.getD_some, Nat.add_zero]
theorem byteAt_app (a b : ByteArray) (i : Nat) (h : i < a.size + b.size) : byteAt (a ++ b) i = if i < a.size then byteAt a i else byteAt b (i - a.size) := by
 have hs : i < (a ++ b).size := by rw [ByteArray.size_append]; exact h
 unfold byteAt
 rw [dif_pos hs]
 by_cases h1 : i < a.size
 ·rw [if_pos h1, dif_pos h1, ByteArray.getElem_append_left h1]
 ·rw [if_neg h1, dif_pos (by omega), ByteArray.getElem_append_right (by omega)]
theorem join_bytes (a b : ByteArray) (i : Nat) (h : i < a.size + b.size) : joinF a.size (byteCells a) (byteCells b) i = byteCells (a ++ b) i := by
 unfold joinF byteCells
 rw [byteAt_app a b i h]
 by_cases h1 : i < a.size <;> simp [h1]
theorem byteOne (z : ByteArray) (i : Nat) : (byteCells z i).all oneAV = true := rfl
def rend (l : List PTok) : ByteArray := l.foldl (fun b o => b ++ o.gap ++ o.text) ByteArray.empty
theorem rend_size_from (l : List PTok) : ∀ b : ByteArray, (l.foldl (fun b o => b ++ o.gap ++ o.text) b).size = b.size + tokSum l := by
 induction l with
 | nil => intro b; simp [tokSum]
 | cons o l ih =>
  intro b
  simp only [List.foldl_cons]
  rw [ih]
  simp only [ByteArray.size_append, tokSum, List.map_cons, List.sum_cons, tokSize]
  omega
theorem rend_size (l : List PTok) : (rend l).size = tokSum l := by
 unfold rend
 rw [rend_size_from]
 simp
theorem tokSum_take_le (l : List PTok) (i : Nat) : tokSum (l.take i) ≤ tokSum l := by
 unfold tokSum
 rw [List.map_take]
 exact take_sum_le _ _
theorem ba_beq (a b : ByteArray) : (a == b) = decide (a = b) := by
 rw [Bool.eq_iff_iff, decide_eq_true_iff]
 exact MapKept.bytes_beq a b
theorem ba_toList (a b : ByteArray) : a.toList = b.toList ↔ a = b := by
 constructor
 ·intro h
  rw [Go.ByteArray.toList_eq, Go.ByteArray.toList_eq] at h
  exact ByteArray.ext (Array.toList_inj.1 h)
 ·rintro rfl; rfl
theorem argSl_refl {mem : List (Option Ob)} {sz n : Nat} {f : Nat → List AV} (hsz : 0 < sz) (h : ∀ (i : Nat) c, i < n → c ∈ f i → Closed c) : ArgSl mem (.sl sz n f) sz n f :=
 ⟨hsz, f, by simp [contents], fun i hi => ⟨rfl, fun c hc => h i c hi hc⟩⟩
theorem argSl_own {mem : List (Option Ob)} {k sz n ty : Nat} {f : Nat → List AV} (hk : mem[k]? = some (some ⟨ty, sz, n, f⟩)) (hsz : 0 < sz) (h : ∀ (i : Nat) c, i < n → c ∈ f i → Closed c) : ArgSl mem (.own k) sz n f :=
 ⟨hsz, f, by simp [contents, hk], fun i hi => ⟨rfl, fun c hc => h i c hi hc⟩⟩
instance : Inhabited POp := ⟨⟨⟨#[]⟩, 0, 0, 0⟩⟩
def opCells (l : List POp) (i : Nat) : List AV := (l.getD i default).cells
theorem opClosed (l : List POp) (i : Nat) (c : AV) (h : c ∈ opCells l i) : Closed c := by
 simp [opCells, POp.cells] at h
 rcases h with rfl | rfl | rfl | rfl <;> exact .lit _
theorem opLit (l : List POp) (i : Nat) : (opCells l i).all isLit = true := rfl
def zeroOp : List AV := [.lit (.string ⟨#[]⟩), .lit (.int .i64 0), .lit (.int .i64 0), .lit (.int .i64 0)]
def opEq (a b : POp) : Bool := a.text == b.text && a.kind == b.kind && a.level == b.level && a.side == b.side
def opAt (l : List POp) (i : Nat) : POp := l.getD i default
theorem opCells_at (l : List POp) (i : Nat) : opCells l i = [.lit (.string (opAt l i).text), .lit (.int .i64 (opAt l i).kind), .lit (.int .i64 (opAt l i).level), .lit (.int .i64 (opAt l i).side)] := rfl
def sortN (o : POp) : Int := if o.kind = 1 then 2 else if o.kind = 3 then 1 else o.side
theorem c_l1Sort (o : POp) : VFun Tryz.prog 117 [.agg o.cells] (fun av obs => obs = [] ∧ av = .lit (.int .i64 (sortN o))) := by
 obtain ⟨z, kind, level, side⟩ := o
 simp only [POp.cells]
 refine vfun_start Tryz.func117 (by kernel_rfl) rfl (by simp [Tryz.ntmps117]) ?_; simp only [Tryz.ntmps117, Tryz.results117]; simp [go_sem]
 simp only [sortN, int_beq, decide_eq_true_eq, decide_eq_false_iff_not]
 by_cases h1 : kind = 1 <;> by_cases h2 : kind = 3 <;> simp [h1, h2]
theorem c_sortOf (o : POp) : VFun Tryz.prog 88 [.agg o.cells] (fun av obs => obs = [] ∧ av = .lit (.int .i64 (sortN o))) := by
 obtain ⟨z, kind, level, side⟩ := o
 simp only [POp.cells]
 refine vfun_start Tryz.func88 (by kernel_rfl) rfl (by simp [Tryz.ntmps88]) ?_; simp only [Tryz.ntmps88, Tryz.results88]; simp [go_sem]
 simp only [sortN, int_beq, decide_eq_true_eq, decide_eq_false_iff_not]
 by_cases h1 : kind = 1 <;> by_cases h2 : kind = 3 <;> simp [h1, h2]
theorem c_placeOf (o : POp) : VFun Tryz.prog 87 [.agg o.cells] (fun av obs => obs = [] ∧ av = .agg [.lit (.string o.text), .lit (.bool (o.kind == 1))]) := by
 obtain ⟨z, kind, level, side⟩ := o
 simp only [POp.cells]
 refine vfun_start Tryz.func87 (by kernel_rfl) rfl (by simp [Tryz.ntmps87]) ?_; simp only [Tryz.ntmps87, Tryz.results87]; simp [go_sem]
def clash (a b : POp) (code : Int) : Bool := if code = 3 then decide (a.text = b.text) && decide ((a.kind == 1) = (b.kind == 1)) else decide (a.level = b.level) && decide (sortN a ≠ sortN b)
theorem c_l1Clash (a b : POp) (code : Int) : VFun Tryz.prog 79 [.agg a.cells, .agg b.cells, .lit (.int .i64 code)] (fun av obs => obs = [] ∧ av = .lit (.bool (clash a b code))) := by
 have ca := c_l1Sort a
 have cb := c_l1Sort b
 obtain ⟨z, k, l, s⟩ := a
 obtain ⟨z', k', l', s'⟩ := b
 simp only [POp.cells] at ca cb ⊢
 refine vfun_start Tryz.func79 (by kernel_rfl) rfl (by simp [Tryz.ntmps79]) ?_; simp only [Tryz.ntmps79, Tryz.results79]; simp [go_sem]
 simp only [ba_toList]
 refine ⟨fun h => ⟨fun h1 => ?_, fun h1 => ?_⟩, fun h => ?_⟩
 ·subst h1
  simp only [clash, if_pos h, decide_true, Bool.true_and]
  generalize (k == 1) = x
  generalize (k' == 1) = y
  cases x <;> cases y <;> rfl
 ·simp [clash, h, h1]
 ·by_cases hl : l = l'
  ·subst hl
   refine vc_drawn [] (.q 0 <| .q 1 <| .q 2 <| .q 3 <| .q 4 <| .q 5 <| .q 6 <| .q 8 <| .or 7 (.or 9 (.q 10 <| .q 11 <| .q 12 <| .done) (.nil)) (.nil)) (by kernel_rfl) ?_
   simp [go_sem]
   refine vcallV_pure ca ?_ ?_
   ·simp [go_sem]
   ·simp [go_sem]
    refine vcallV_pure cb ?_ ?_
    ·simp [go_sem]
    ·simp [go_sem, clash, h]
     simp only [int_beq, bne, Bool.not_eq_true', decide_eq_false_iff_not, decide_not]
  ·refine vc_drawn [] (.q 0 <| .q 1 <| .q 2 <| .q 3 <| .q 4 <| .q 5 <| .q 6 <| .q 8 <| .or 7 (.or 9 (.q 10 <| .q 11 <| .q 12 <| .done) (.nil)) (.nil)) (by kernel_rfl) ?_
   have e : (l == l') = false := by simp [hl]
   simp [go_sem, e]
   simp [clash, h, hl]
def tblClash (l : List POp) (code : Int) : Bool := (List.range l.length).any fun i => (List.range i).any fun j => clash (opAt l i) (opAt l j) code
theorem tblClash_iff (l : List POp) (code : Int) : tblClash l code = true ↔ ∃ i, i < l.length ∧ ∃ j, j < i ∧ clash (opAt l i) (opAt l j) code = true := by
 simp [tblClash]
def tblOps (l : List POp) : Bool := (List.range l.length).all fun i => opOk (opAt l i)
def tblOk (l : List POp) : Int := if 500 < l.length then 1 else if tblOps l = false then 2 else if tblClash l 3 = true then 3 else if tblClash l 4 = true then 4 else 0
def opsWf (l : List POp) : Prop := ∀ i, i < l.length → (opAt l i).wf
theorem c_specTableOk (l : List POp) (hl : l.length ≤ 9223372036854775807) (hw : opsWf l) : VFun Tryz.prog 39 [.agg [.sl 4 l.length (opCells l)]] (fun av obs => obs = [] ∧ av = .lit (.int .i64 (tblOk l))) := by
 refine vfun_start Tryz.func39 (by kernel_rfl) rfl (by simp [Tryz.ntmps39]) ?_; simp only [Tryz.ntmps39, Tryz.results39]; simp [go_sem]
 refine ⟨by omega, fun h1 => ?_, fun h1 => ?_⟩
 ·simp [tblOk]; omega
 ·refine vc_loop (fun i : Nat => i ≤ l.length ∧ ∀ j, j < i → opOk (opAt l j) = true) (fun i => l.length - i) (fun i => .of [(1, .ptr 0 1 0 0), (3, .lit (.int .i64 l.length)), (4, .lit (.int .i64 i))] [some ⟨30, 1, 1, fun _ => [.sl 4 l.length (opCells l)]⟩]) ⟨0, ⟨by omega, by simp⟩, ?_⟩ (fun i hi => ?_)
  ·simp [go_sem]
   exact fun i c _ h => opClosed l i c h
  ·simp [go_sem, opCells_at]
   have cl : ∀ (i : Nat) (c : AV), i < l.length → c ∈ opCells l i → Closed c := fun i c _ h => opClosed l i c h
   refine ⟨fun h => ⟨h, vcall_pure (c_l1OpOk (opAt l i) (hw i h)) ?_ ?_⟩, fun h => ?_⟩
   ·simp [go_sem, POp.cells]
   ·simp [go_sem]
    refine ⟨fun e => ?_, fun e => ⟨i + 1, ⟨by omega, fun j hj => ?_⟩, by omega, wrap_succ (by omega), cl⟩⟩
    ·have : tblOps l = false := by
      simp only [tblOps, List.all_eq_false, List.mem_range]
      exact ⟨i, h, by rw [e]; simp⟩
     simp only [tblOk, this, if_neg (show ¬ 500 < l.length by omega), if_true]
    ·rcases Nat.lt_succ_iff_lt_or_eq.mp hj with hj | rfl
     ·exact hi.2 j hj
     ·exact e
   ·have hok : tblOps l = true := by
     simp only [tblOps, List.all_eq_true, List.mem_range]
     exact fun j hj => hi.2 j (by omega)
    clear hi h
    refine vc_loop (fun c : Nat => c ≤ 2 ∧ ∀ q : Nat, q < c → tblClash l (3 + q) = false) (fun c => 2 - c) (fun c => .of [(1, .ptr 0 1 0 0), (3, .lit (.int .i64 l.length)), (5, .lit (.int .i64 (3 + c)))] [some ⟨30, 1, 1, fun _ => [.sl 4 l.length (opCells l)]⟩]) ⟨0, ⟨by omega, by simp⟩, ?_⟩ (fun c hc => ?_)
    ·simp [go_sem]
     exact cl
    ·simp [go_sem]
     refine ⟨fun h => ?_, fun h => ?_⟩
     ·refine vc_loop (fun i : Nat => i ≤ l.length ∧ ∀ i', i' < i → ∀ j, j < i' → clash (opAt l i') (opAt l j) (3 + c) = false) (fun i => l.length - i) (fun i => .of [(1, .ptr 0 1 0 0), (3, .lit (.int .i64 l.length)), (5, .lit (.int .i64 (3 + c))), (6, .lit (.int .i64 i))] [some ⟨30, 1, 1, fun _ => [.sl 4 l.length (opCells l)]⟩]) ⟨0, ⟨by omega, by simp⟩, ?_⟩ (fun i hi => ?_)
      ·simp [go_sem]
       exact cl
      ·simp [go_sem]
       refine ⟨fun h2 => ?_, fun h2 => ?_⟩
       ·refine vc_loop (fun j : Nat => j ≤ i ∧ ∀ j', j' < j → clash (opAt l i) (opAt l j') (3 + c) = false) (fun j => i - j) (fun j => .of [(1, .ptr 0 1 0 0), (3, .lit (.int .i64 l.length)), (5, .lit (.int .i64 (3 + c))), (6, .lit (.int .i64 i)), (7, .lit (.int .i64 j))] [some ⟨30, 1, 1, fun _ => [.sl 4 l.length (opCells l)]⟩]) ⟨0, ⟨by omega, by simp⟩, ?_⟩ (fun j hj => ?_)
        ·simp [go_sem]
         exact cl
        ·simp [go_sem]
         refine ⟨fun h3 => ?_, fun h3 => ?_⟩
         ·refine vc_drawn [] (.q 0 <| .q 1 <| .q 2 <| .q 3 <| .q 4 <| .q 5 <| .q 6 <| .q 7 <| .q 8 <| .q 9 <| .q 10 <| .or 11 (.done) (.nil)) (by kernel_rfl) ?_
          simp [go_sem, opCells_at]
          refine ⟨h2, by omega, vcallV_pure (c_l1Clash (opAt l i) (opAt l j) (3 + c)) ?_ ?_⟩
          ·simp [go_sem, POp.cells]
          ·simp [go_sem]
           refine ⟨fun e => ?_, fun e => ⟨j + 1, ⟨by omega, fun j' hj' => ?_⟩, by omega, wrap_succ (by omega), cl⟩⟩
           ·have hcl : tblClash l (3 + c) = true := (tblClash_iff l _).2 ⟨i, h2, j, h3, e⟩
            rcases (by omega : c = 0 ∨ c = 1) with rfl | rfl
            ·have h4 : tblClash l 3 = true := hcl
             simp only [tblOk, hok, h4, if_neg (show ¬ 500 < l.length by omega)]
             rfl
            ·have h4 : tblClash l 4 = true := hcl
             have h5 : tblClash l 3 = false := hc.2 0 (by omega)
             simp only [tblOk, hok, h4, h5, if_neg (show ¬ 500 < l.length by omega)]
             rfl
           ·rcases Nat.lt_succ_iff_lt_or_eq.mp hj' with hj' | rfl
            ·exact hj.2 j' hj'
            ·exact e
         ·refine ⟨i + 1, ⟨by omega, fun i' hi' j' hj' => ?_⟩, by omega, wrap_succ (by omega), cl⟩
          rcases Nat.lt_succ_iff_lt_or_eq.mp hi' with hi' | rfl
          ·exact hi.2 i' hi' j' hj'
          ·exact hj.2 j' (by omega)
       ·refine ⟨c + 1, ⟨by omega, fun q hq => ?_⟩, by omega, ?_, cl⟩
        ·rcases Nat.lt_succ_iff_lt_or_eq.mp hq with hq | rfl
         ·exact hc.2 q hq
         ·rw [Bool.eq_false_iff]
          intro e
          obtain ⟨i', h4, j', h5, h6⟩ := (tblClash_iff l _).1 e
          rw [hi.2 i' (by omega) j' h5] at h6
          cases h6
        ·rw [wrap_i64 (by omega)]; omega
     ·have : c = 2 := by omega
      subst this
      have h4 : tblClash l 3 = false := hc.2 0 (by omega)
      have h5 : tblClash l 4 = false := hc.2 1 (by omega)
      simp only [tblOk, hok, h4, h5, if_neg (show ¬ 500 < l.length by omega)]
      rfl
open Go.Maps (Keyed)
open Classical in
theorem mget_mput : ∀ (es : List (Value × Value)) (x u y : Value), mget (mput es x u) y = if x = y then some u else mget es y
 | [], x, u, y => by
  simp only [mput, mget]
 | (k, v) :: r, x, u, y => by
  simp only [mput]
  by_cases h : k = x
  ·subst h
   rw [if_pos rfl]
   simp only [mget]
   split <;> rfl
  ·rw [if_neg h]
   simp only [mget]
   by_cases h2 : k = y
   ·subst h2
    rw [if_pos rfl, if_neg (fun e : x = k => h e.symm)]
    simp [mget]
   ·rw [if_neg h2, if_neg h2]
    exact mget_mput r x u y
theorem keyOf_struct {P : Program} {k : TypeId} {fs : Array Field} {cs : Array Value} (hu : P.underlying k = some (.struct fs)) (hkt : P.keyType k = true) (hc : cs.size = P.cellsOf k) (hn : fs.all (·.name != "_") = true) (hsz : 1 ≤ P.types.size)
  (hm : ∀ d, ∃ lss, (fs.toList.mapM fun f => P.keyLits (d + 1) f.type ((cs.toList.drop f.offset).take (P.cellsOf f.type))) = some lss) : ∃ l, keyOf P k (.agg cs) = some l := by
 obtain ⟨n, hn1⟩ : ∃ n, P.types.size = n + 1 := ⟨P.types.size - 1, by omega⟩
 obtain ⟨lss, hl⟩ := hm n
 have h1 : P.keyLits (P.types.size + 1) k cs.toList = some lss.flatten := by
  rw [hn1]
  unfold Program.keyLits
  simp only [hu, Array.length_toList, hc, hn, and_self, if_true, hl, Option.map_some]
 refine ⟨.string (keyBytes lss.flatten), ?_⟩
 unfold keyOf
 rw [hu]
 simp only [hkt, Value.formed, hu, hc, beq_self_eq_true, Bool.and_self, if_true, Value.cells, h1, Option.map_some]
theorem keyLits_str {P : Program} {t : TypeId} (hu : P.underlying t = some .string) {z : ByteArray} (h : z.size ≤ maxLen) (d : Nat) : P.keyLits (d + 1) t [.string z] = some [.string z.data.toList] := by
 unfold Program.keyLits; simp only [hu, if_pos h]
theorem keyLits_bool {P : Program} {t : TypeId} (hu : P.underlying t = some .bool) {b : Bool} (d : Nat) : P.keyLits (d + 1) t [.bool b] = some [.bool b] := by
 unfold Program.keyLits; simp only [hu]
theorem int_wf {n : Int} (h : -9223372036854775808 ≤ n ∧ n ≤ 9223372036854775807) : (Lit.int .i64 n).wf = true := by
 simp only [Lit.wf, IntKind.min, IntKind.max, IntKind.bits, IntKind.signed, decide_eq_true_eq, Bool.and_eq_true]
 exact h
theorem size1 : 1 ≤ Tryz.prog.types.size := of_decide_eq_true (by kernel_rfl)
theorem rowPlace : (151 : TypeId) < Tryz.prog.types.size := of_decide_eq_true (by kernel_rfl)
theorem co_place : Tryz.prog.cellsOf 151 = 2 := by kernel_rfl
theorem co_string : Tryz.prog.cellsOf 9 = 1 := by kernel_rfl
theorem co_bool : Tryz.prog.cellsOf 4 = 1 := by kernel_rfl
theorem keyedPlace : Keyed Tryz.prog 151 := Keyed.of_law (deep_law_laid laidOut (m := 2) (by omega) rowPlace (by kernel_rfl) (by kernel_rfl))
theorem keyedInt : Keyed Tryz.prog 3 := Go.Maps.int_keyed Tryz.underlying3
theorem keyedString : Keyed Tryz.prog 9 := Go.Maps.string_keyed Tryz.underlying9
theorem keyInt {n : Int} (h : -9223372036854775808 ≤ n ∧ n ≤ 9223372036854775807) : ∃ l, keyOf Tryz.prog 3 (.int .i64 n) = some l :=
 ⟨_, Go.Maps.keyOf_int_mk Tryz.underlying3 (int_wf h)⟩
theorem keyString {z : ByteArray} (h : z.size ≤ maxLen) : ∃ l, keyOf Tryz.prog 9 (.string z) = some l := ⟨_, Go.WideMaps.keyOf_string_mk Tryz.underlying9 h⟩
theorem keyPlace {z : ByteArray} {b : Bool} (h : z.size ≤ maxLen) : ∃ l, keyOf Tryz.prog 151 (.agg #[.string z, .bool b]) = some l := by
 refine keyOf_struct Tryz.underlying151 (by kernel_rfl) co_place.symm (by kernel_rfl) size1 fun d => ?_
 simp only [List.mapM_cons, List.mapM_nil, co_string, co_bool, List.drop_zero, List.take_succ_cons, List.take_zero, List.drop_succ_cons, keyLits_str Tryz.underlying9 h, keyLits_bool Tryz.underlying4]
 exact ⟨_, rfl⟩
theorem zeroInt : zeroIs Tryz.prog 3 (.int .i64 0) := fun w => Tryz.zeroValue3 w
def placeV (o : POp) : Value := .agg #[.string o.text, .bool (o.kind == 1)]
theorem placeV_fold (o : POp) : Value.agg #[.string o.text, .bool (o.kind == 1)] = placeV o := rfl
theorem placeV_eq {a b : POp} : placeV a = placeV b ↔ clash a b 3 = true := by
 simp only [placeV, clash, if_true, Value.agg.injEq, Bool.and_eq_true, decide_eq_true_eq, Array.mk.injEq, List.cons.injEq, Value.string.injEq, Value.bool.injEq, and_true]
def SeenIs (l : List POp) (i : Nat) (es : List (Value × Value)) : Prop := (∀ j, j < i → (mget es (placeV (opAt l j))).isSome = true) ∧ ∀ x v, mget es x = some v → ∃ j, j < i ∧ x = placeV (opAt l j)
def SortsIs (l : List POp) (i : Nat) (es : List (Value × Value)) : Prop := (∀ j, j < i → mget es (.int .i64 (opAt l j).level) = some (.int .i64 (sortN (opAt l j)))) ∧ ∀ x v, mget es x = some v → ∃ j, j < i ∧ x = .int .i64 (opAt l j).level
theorem c_TableOk (l : List POp) (hl : l.length ≤ 9223372036854775807) (hw : opsWf l) : VFun Tryz.prog 42 [.agg [.sl 4 l.length (opCells l)]] (fun av obs => obs = [] ∧ av = .lit (.int .i64 (tblOk l))) := by
 have cl : ∀ (i : Nat) (c : AV), i < l.length → c ∈ opCells l i → Closed c := fun i c _ h => opClosed l i c h
 refine vfun_start Tryz.func42 (by kernel_rfl) rfl (by simp [Tryz.ntmps42]) ?_; simp only [Tryz.ntmps42, Tryz.results42]; simp [go_sem]
 refine ⟨by omega, fun h1 => ?_, fun h1 => ?_⟩
 ·simp [tblOk]; omega
 ·have hmax : ¬ 500 < l.length := by omega
  refine ⟨by omega, ?_⟩
  refine vc_loop (fun i : Nat => i ≤ l.length ∧ ∀ j, j < i → opOk (opAt l j) = true) (fun i => l.length - i) (fun i => .of [(1, .ptr 0 1 0 0), (20, .sl 4 l.length (opCells l)), (21, .lit (.int .i64 l.length)), (22, .lit (.int .i64 i))] [some ⟨30, 1, 1, fun _ => [.sl 4 l.length (opCells l)]⟩]) ⟨0, ⟨by omega, by simp⟩, ?_⟩ (fun i hi => ?_)
  ·simp [go_sem]
   exact cl
  ·simp [go_sem, opCells_at]
   refine ⟨fun h => ⟨h, vcall_pure (c_opOk (opAt l i) (hw i h)) ?_ ?_⟩, fun h => ?_⟩
   ·simp [go_sem, POp.cells]
   ·simp [go_sem]
    refine ⟨fun e => ?_, fun e => ⟨i + 1, ⟨by omega, fun j hj => ?_⟩, by omega, ⟨⟨cl, wrap_succ (by omega)⟩, cl⟩⟩⟩
    ·have : tblOps l = false := by
      simp only [tblOps, List.all_eq_false, List.mem_range]
      exact ⟨i, h, by rw [e]; simp⟩
     simp only [tblOk, this, if_neg hmax, if_true]
    ·rcases Nat.lt_succ_iff_lt_or_eq.mp hj with hj | rfl
     ·exact hi.2 j hj
     ·exact e
   ·have hok : tblOps l = true := by
     simp only [tblOps, List.all_eq_true, List.mem_range]
     exact fun j hj => hi.2 j (by omega)
    have hop : ∀ j, j < l.length → opOk (opAt l j) = true := fun j hj => hi.2 j (by omega)
    clear hi h
    refine fun b => ⟨by omega, ?_⟩
    refine vc_loop (fun p : Nat × List (Value × Value) => p.1 ≤ l.length ∧ SeenIs l p.1 p.2 ∧ ∀ i', i' < p.1 → ∀ j, j < i' → clash (opAt l i') (opAt l j) 3 = false) (fun p => l.length - p.1)
     (fun p => ⟨[(1, .ptr 0 1 0 0), (5, .lit (.map (some b))), (32, .sl 4 l.length (opCells l)), (33, .lit (.int .i64 l.length)), (34, .lit (.int .i64 p.1))], [some ⟨30, 1, 1, fun _ => [.sl 4 l.length (opCells l)]⟩], [(b, ⟨151, p.2⟩)], 0⟩) ⟨(0, []), ⟨by omega, ⟨by simp, by simp [mget]⟩, by simp⟩, ?_⟩ (fun p hp => ?_)
    ·simp [go_sem]
     exact cl
    ·obtain ⟨i, es⟩ := p
     simp only at hp
     simp [go_sem, opCells_at]
     refine ⟨fun h => ⟨h, vcall_val (c_placeOf (opAt l i)) ?_ ?_ ?_⟩, fun h => ?_⟩
     ·simp [go_sem, POp.cells]
     ·simp [go_sem]
     ·simp [go_sem]
      refine vlookK_use keyedPlace (keyPlace (hw i h)) _ zeroInt ?_
      simp [go_sem]
      simp only [placeV_fold]
      have hno : ∀ (h0 : (mget es (placeV (opAt l i))).isSome = true), tblClash l 3 = true := by
       intro h0
       obtain ⟨v, hv⟩ := Option.isSome_iff_exists.1 h0
       obtain ⟨j, hj, e⟩ := hp.2.1.2 _ v hv
       exact (tblClash_iff l _).2 ⟨i, h, j, hj, placeV_eq.1 e⟩
      refine ⟨fun h0 => ?_, fun h0 => ?_⟩
      ·simp only [tblOk, hok, hno h0, if_neg hmax]
       rfl
      ·refine vcall_val (c_placeOf (opAt l i)) ?_ ?_ ?_
       ·simp [go_sem, POp.cells]
       ·simp [go_sem]
       ·simp [go_sem]
        refine vmsetK_use keyedPlace (keyPlace (hw i h)) ?_
        simp [go_sem]
        simp only [placeV_fold]
        refine ⟨i + 1, mput es (placeV (opAt l i)) (.int .i64 i), ⟨by omega, ⟨fun j hj => ?_, fun x v hv => ?_⟩, fun i' hi' j hj => ?_⟩, by omega, rfl, ⟨cl, wrap_succ (by omega)⟩, cl⟩
        ·rw [mget_mput]
         split
         ·rfl
         ·rename_i hne
          rcases Nat.lt_succ_iff_lt_or_eq.mp hj with hj | rfl
          ·exact hp.2.1.1 j hj
          ·exact absurd rfl hne
        ·rw [mget_mput] at hv
         split at hv
         ·rename_i e
          exact ⟨i, by omega, e.symm⟩
         ·obtain ⟨j, hj, e⟩ := hp.2.1.2 x v hv
          exact ⟨j, by omega, e⟩
        ·rcases Nat.lt_succ_iff_lt_or_eq.mp hi' with hi' | rfl
         ·exact hp.2.2 i' hi' j hj
         ·rw [Bool.eq_false_iff]
          intro e
          have h5 := hp.2.1.1 j hj
          rw [← placeV_eq.2 e, h0] at h5
          cases h5
     ·have hc3 : tblClash l 3 = false := by
       rw [Bool.eq_false_iff]
       intro e
       obtain ⟨i', h4, j', h5, h6⟩ := (tblClash_iff l _).1 e
       rw [hp.2.2 i' (by omega) j' h5] at h6
       cases h6
      clear hp h
      refine fun b2 hb2 => ⟨by omega, ?_⟩
      refine vc_loop (fun p : Nat × List (Value × Value) => p.1 ≤ l.length ∧ SortsIs l p.1 p.2 ∧ ∀ i', i' < p.1 → ∀ j, j < i' → clash (opAt l i') (opAt l j) 4 = false) (fun p => l.length - p.1)
       (fun p => ⟨[(1, .ptr 0 1 0 0), (10, .lit (.map (some b2))), (54, .sl 4 l.length (opCells l)), (55, .lit (.int .i64 l.length)), (56, .lit (.int .i64 p.1))], [some ⟨30, 1, 1, fun _ => [.sl 4 l.length (opCells l)]⟩], [(b2, ⟨3, p.2⟩)], 0⟩) ⟨(0, []), ⟨by omega, ⟨by simp, by simp [mget]⟩, by simp⟩, ?_⟩ (fun p hp => ?_)
      ·simp [go_sem]
       exact cl
      ·obtain ⟨i, es⟩ := p
       simp only at hp
       simp [go_sem, opCells_at]
       refine ⟨fun h => ⟨h, ?_⟩, fun h => ?_⟩
       ·have hlv := opOk_level (hop i h)
        have hki := keyInt (n := (opAt l i).level) (by omega)
        refine vlookK_use keyedInt hki _ zeroInt ?_
        have step : ∀ (h4 : ∀ j, j < i → clash (opAt l i) (opAt l j) 4 = false), SortsIs l (i + 1) (mput es (.int .i64 (opAt l i).level) (.int .i64 (sortN (opAt l i)))) ∧ ∀ i', i' < i + 1 → ∀ j, j < i' → clash (opAt l i') (opAt l j) 4 = false := by
         intro h4
         refine ⟨⟨fun j hj => ?_, fun x v hv => ?_⟩, fun i' hi' j hj => ?_⟩
         ·rw [mget_mput]
          rcases Nat.lt_succ_iff_lt_or_eq.mp hj with hj | rfl
          ·split
           ·rename_i e
            simp only [Value.int.injEq, true_and] at e
            have := h4 j hj
            simp only [clash, e, decide_true, Bool.true_and, show ((4 : Int) = 3) = False by decide, if_false, decide_eq_false_iff_not, ne_eq, Classical.not_not] at this
            rw [this]
           ·exact hp.2.1.1 j hj
          ·rw [if_pos rfl]
         ·rw [mget_mput] at hv
          split at hv
          ·rename_i e
           exact ⟨i, by omega, e.symm⟩
          ·obtain ⟨j, hj, e⟩ := hp.2.1.2 x v hv
           exact ⟨j, by omega, e⟩
         ·rcases Nat.lt_succ_iff_lt_or_eq.mp hi' with hi' | rfl
          ·exact hp.2.2 i' hi' j hj
          ·exact h4 j hj
        cases hm : mget es (.int .i64 (opAt l i).level) with
        | none =>
         simp [go_sem]
         have h4 : ∀ j, j < i → clash (opAt l i) (opAt l j) 4 = false := by
          intro j hj
          simp only [clash, show ((4 : Int) = 3) = False by decide, if_false, Bool.and_eq_false_iff, decide_eq_false_iff_not]
          refine .inl fun e => ?_
          have := hp.2.1.1 j hj
          rw [← e, hm] at this
          cases this
         refine vc_drawn [5] (.q 0 <| .q 1 <| .q 2 <| .q 3 <| .or 4 (.or 5 (.done) (.nil)) (.nil)) (by kernel_rfl) ?_
         simp [go_sem]
         refine vcallV_pure (c_sortOf (opAt l i)) ?_ ?_
         ·simp [go_sem, POp.cells]
         ·simp [go_sem]
          refine vmsetK_use keyedInt hki ?_
          simp [go_sem]
          obtain ⟨s1, s2⟩ := step h4
          exact ⟨i + 1, _, ⟨by omega, s1, s2⟩, by omega, rfl, ⟨cl, wrap_succ (by omega)⟩, cl⟩
        | some v =>
         obtain ⟨j, hj, e⟩ := hp.2.1.2 _ v hm
         simp only [Value.int.injEq, true_and] at e
         have hv : v = .int .i64 (sortN (opAt l j)) := by
          have := hp.2.1.1 j hj
          rw [← e, hm] at this
          exact Option.some.inj this
         subst hv
         simp [go_sem]
         refine vcall_pure (c_sortOf (opAt l i)) ?_ ?_
         ·simp [go_sem, POp.cells]
         ·simp [go_sem]
          refine ⟨fun hne => ?_, fun heq => ?_⟩
          ·have hc4 : tblClash l 4 = true := by
            refine (tblClash_iff l _).2 ⟨i, h, j, hj, ?_⟩
            simp only [clash, show ((4 : Int) = 3) = False by decide, if_false, Bool.and_eq_true, decide_eq_true_eq]
            exact ⟨e, fun e2 => hne e2.symm⟩
           simp only [tblOk, hok, hc3, hc4, if_neg hmax]
           rfl
          ·have h4 : ∀ j, j < i → clash (opAt l i) (opAt l j) 4 = false := by
            intro j' hj'
            simp only [clash, show ((4 : Int) = 3) = False by decide, if_false, Bool.and_eq_false_iff, decide_eq_false_iff_not]
            by_cases e2 : (opAt l i).level = (opAt l j').level
            ·refine .inr fun h5 => h5 ?_
             have := hp.2.1.1 j' hj'
             rw [← e2, hm] at this
             simp only [Option.some.injEq, Value.int.injEq, true_and] at this
             rw [← heq, this]
            ·exact .inl e2
           refine vc_drawn [5] (.q 0 <| .q 1 <| .q 2 <| .q 3 <| .or 4 (.or 5 (.done) (.nil)) (.nil)) (by kernel_rfl) ?_
           simp [go_sem]
           refine vcallV_pure (c_sortOf (opAt l i)) ?_ ?_
           ·simp [go_sem, POp.cells]
           ·simp [go_sem]
            refine vmsetK_use keyedInt hki ?_
            simp [go_sem]
            obtain ⟨s1, s2⟩ := step h4
            exact ⟨i + 1, _, ⟨by omega, s1, s2⟩, by omega, rfl, ⟨cl, wrap_succ (by omega)⟩, cl⟩
       ·have hc4 : tblClash l 4 = false := by
         rw [Bool.eq_false_iff]
         intro e
         obtain ⟨i', h4, j', h5, h6⟩ := (tblClash_iff l _).1 e
         rw [hp.2.2 i' (by omega) j' h5] at h6
         cases h6
        simp only [tblOk, hok, hc3, hc4, if_neg hmax]
        rfl
end Go.Proofs.YtjdmmhcogmepaaaGreatDoor.V
namespace Go.Proofs.YtjdmmhcogmepaaaGreatDoor.V
open Go.RowKit
def AVIn (a b : AV) : Prop := ∀ (w : World) (ok : Nat → Prop) (hd : Nat → Value) (m : Nat) (v : Value), Rep w ok hd m a v → Rep w ok hd m b v
theorem avIn_sl {sz n : Nat} {f g : Nat → List AV} (h : ∀ i, i < n → f i = g i) : AVIn (.sl sz n f) (.sl sz n g) := by
 intro w ok hd m v hr
 cases hr with
 | sl _ _ _ A c u hc hm hsz hl ha hr => exact .sl sz n g A c u hc hm hsz (fun i hi => by rw [← h i hi]; exact hl i hi) ha fun i j a hi hj => hr i j a hi (by rw [h i hi]; exact hj)
def ArgsIn : List AV → List AV → Prop
 | [], [] => True
 | a :: r, b :: r' => AVIn a b ∧ ArgsIn r r'
 | _, _ => False
theorem argsIn_get : ∀ {l l' : List AV}, ArgsIn l l' → l.length = l'.length ∧ ∀ (j : Nat) a b, l[j]? = some a → l'[j]? = some b → AVIn a b
 | [], [], _ => ⟨rfl, fun j a b h => by simp at h⟩
 | a :: r, b :: r', h => by
  obtain ⟨h1, h2⟩ := argsIn_get h.2
  refine ⟨by simp [h1], fun j x y hx hy => ?_⟩
  cases j with
  | zero =>
   simp only [List.getElem?_cons_zero, Option.some.injEq] at hx hy
   subst hx; subst hy; exact h.1
  | succ j => exact h2 j x y (by simpa using hx) (by simpa using hy)
 | [], _ :: _, h => h.elim
 | _ :: _, [], h => h.elim
theorem VFun.congr {P : Program} {f : FuncId} {args args' : List AV} {R : AV → List Ob → Prop} (h : VFun P f args' R) (ha : ArgsIn args args') : VFun P f args R := by
 obtain ⟨h1, h2⟩ := argsIn_get ha
 refine ⟨h.1, fun w vs hl hv => h.2 w vs (by omega) fun j b u hb hu => ?_⟩
 have hj : j < args.length := by have := (List.getElem?_eq_some_iff.1 hb).1; omega
 exact h2 j _ b (List.getElem?_eq_getElem hj) hb _ _ _ _ _ (hv j _ u (List.getElem?_eq_getElem hj) hu)
theorem map_lits {g : Nat → Nat} : ∀ {l : List AV}, l.all isLit = true → l.map (ren1 g) = l
 | [], _ => rfl
 | a :: r, h => by
  simp only [List.all_cons, Bool.and_eq_true] at h
  simp only [List.map_cons, map_lits h.2]
  cases a <;> simp [isLit] at h
  rfl
theorem flat_lits : ∀ {l : List AV}, l.all isLit = true → l.all flat1 = true
 | [], _ => rfl
 | a :: r, h => by
  simp only [List.all_cons, Bool.and_eq_true] at h ⊢
  refine ⟨?_, flat_lits h.2⟩
  cases a <;> simp [isLit] at h
  rfl
theorem outAt_lits {idx : Nat → Nat} {ks : List Nat} {ty sz n : Nat} {f f' : Nat → List AV} (h : ∀ i, i < n → f i = f' i) (hl : ∀ i, i < n → (f' i).all isLit = true) : OutAt idx ks ⟨ty, sz, n, f'⟩ (some (some ⟨ty, sz, n, f⟩)) := by
 refine ⟨rfl, rfl, rfl, fun i hi => ⟨?_, flatC_all (flat_lits (hl i hi)), fun c hc q hq => ?_⟩⟩
 ·simp only
  rw [h i hi]; exact map_lits (hl i hi)
 ·simp only at hc
  rw [h i hi] at hc
  have := List.all_eq_true.1 (hl i hi) c hc
  cases c <;> simp [isLit] at this
  simp [owns1] at hq
@[go_sem] theorem opCells_ren {g : Nat → Nat} {l : List POp} {i : Nat} : (opCells l i).map (ren1 g) = opCells l i := map_lits rfl
theorem cellsRn_lits {f : Nat → Nat} {m : Nat} : ∀ {l : List AV}, l.all isLit = true → CellsRn f m l l
 | [], _ => trivial
 | a :: r, h => by
  simp only [List.all_cons, Bool.and_eq_true] at h
  exact ⟨.closed _ (.of_lit h.1), cellsRn_lits h.2⟩
def tokAt (l : List PTok) (i : Nat) : PTok := l.getD i default
theorem tokCells_at (l : List PTok) (i : Nat) : tokCells l i = [.lit (.int .i64 (tokAt l i).kind), .lit (.string (tokAt l i).gap), .lit (.string (tokAt l i).text)] := rfl
def isDg (c : Int) : Bool := decide (48 ≤ c) && decide (c ≤ 57)
def isLt (c : Int) : Bool := decide ((97 ≤ c ∧ c ≤ 122) ∨ (65 ≤ c ∧ c ≤ 90) ∨ c = 95)
def isBl (c : Int) : Bool := decide (c = 32 ∨ c = 9 ∨ c = 10)
theorem c_l2Digit (c : Int) : VFun Tryz.prog 151 [.lit (.int .u8 c)] (fun av obs => obs = [] ∧ av = .lit (.bool (isDg c))) := by
 refine vfun_start Tryz.func151 (by kernel_rfl) rfl (by simp [Tryz.ntmps151]) ?_; simp only [Tryz.ntmps151, Tryz.results151]; simp [go_sem]
 by_cases h1 : 48 ≤ c <;> by_cases h2 : c ≤ 57 <;> simp [isDg, h1, h2] <;> omega
theorem c_isDigit (c : Int) : VFun Tryz.prog 123 [.lit (.int .u8 c)] (fun av obs => obs = [] ∧ av = .lit (.bool (isDg c))) := by
 refine vfun_start Tryz.func123 (by kernel_rfl) rfl (by simp [Tryz.ntmps123]) ?_; simp only [Tryz.ntmps123, Tryz.results123]; simp [go_sem]
 by_cases h1 : 48 ≤ c <;> by_cases h2 : c ≤ 57 <;> simp [isDg, h1, h2] <;> omega
theorem c_l2Letter (c : Int) : VFun Tryz.prog 150 [.lit (.int .u8 c)] (fun av obs => obs = [] ∧ av = .lit (.bool (isLt c))) := by
 refine vfun_start Tryz.func150 (by kernel_rfl) rfl (by simp [Tryz.ntmps150]) ?_; simp only [Tryz.ntmps150, Tryz.results150]; simp [go_sem]
 simp only [isLt, int_beq, decide_eq_decide, decide_eq_true_eq]
 omega
theorem c_isLetter (c : Int) : VFun Tryz.prog 124 [.lit (.int .u8 c)] (fun av obs => obs = [] ∧ av = .lit (.bool (isLt c))) := by
 refine vfun_start Tryz.func124 (by kernel_rfl) rfl (by simp [Tryz.ntmps124]) ?_; simp only [Tryz.ntmps124, Tryz.results124]; simp [go_sem]
 simp only [isLt, int_beq, decide_eq_decide, decide_eq_true_eq]
 omega
def numZ (z : ByteArray) : Bool := ((List.range z.size).all fun i => isDg (byteAt z i)) && decide (0 < z.size)
def namAt (z : ByteArray) (i : Nat) : Bool := isLt (byteAt z i) || (decide (i ≠ 0) && isDg (byteAt z i))
def namZ (z : ByteArray) : Bool := ((List.range z.size).all fun i => namAt z i) && decide (0 < z.size)
theorem all_false {p : Nat → Bool} {n i : Nat} (h : i < n) (e : p i = false) : (List.range n).all p = false := by
 simp only [List.all_eq_false, List.mem_range]
 exact ⟨i, h, by rw [e]; simp⟩
theorem all_true {p : Nat → Bool} {n : Nat} (h : ∀ i, i < n → p i = true) : (List.range n).all p = true := by
 simp only [List.all_eq_true, List.mem_range]
 exact h
theorem c_l2IsNumber (z : ByteArray) (hz : z.size ≤ 9223372036854775807) : VFun Tryz.prog 133 [.lit (.string z)] (fun av obs => obs = [] ∧ av = .lit (.bool (numZ z))) := by
 refine vfun_start Tryz.func133 (by kernel_rfl) rfl (by simp [Tryz.ntmps133]) ?_; simp only [Tryz.ntmps133, Tryz.results133]; simp [go_sem]
 refine vc_loop (fun i : Nat => i ≤ z.size ∧ ∀ j, j < i → isDg (byteAt z j) = true) (fun i => z.size - i) (fun i => .of [(0, .lit (.string z)), (3, .lit (.int .i64 i))] []) ⟨0, ⟨by omega, by simp⟩, ?_⟩ (fun i hi => ?_)
 ·simp [go_sem]
 ·simp [go_sem]
  refine ⟨fun h => ⟨h, vcall_pure (c_l2Digit (byteAt z i)) ?_ ?_⟩, fun h => ?_⟩
  ·simp [go_sem]
  ·simp [go_sem]
   refine ⟨fun e => ?_, fun e => ⟨i + 1, ⟨by omega, fun j hj => ?_⟩, by omega, wrap_succ (by omega)⟩⟩
   ·simp only [numZ, all_false (p := fun i => isDg (byteAt z i)) h e, Bool.false_and]
   ·rcases Nat.lt_succ_iff_lt_or_eq.mp hj with hj | rfl
    ·exact hi.2 j hj
    ·exact e
  ·simp only [numZ, all_true (p := fun i => isDg (byteAt z i)) (n := z.size) fun j hj => hi.2 j (by omega), Bool.true_and]
theorem c_l2IsName (z : ByteArray) (hz : z.size ≤ 9223372036854775807) : VFun Tryz.prog 134 [.lit (.string z)] (fun av obs => obs = [] ∧ av = .lit (.bool (namZ z))) := by
 refine vfun_start Tryz.func134 (by kernel_rfl) rfl (by simp [Tryz.ntmps134]) ?_; simp only [Tryz.ntmps134, Tryz.results134]; simp [go_sem]
 refine vc_loop (fun i : Nat => i ≤ z.size ∧ ∀ j, j < i → namAt z j = true) (fun i => z.size - i) (fun i => .of [(0, .lit (.string z)), (3, .lit (.int .i64 i))] []) ⟨0, ⟨by omega, by simp⟩, ?_⟩ (fun i hi => ?_)
 ·simp [go_sem]
 ·simp [go_sem]
  refine ⟨fun h => ⟨h, vcall_pure (c_l2Letter (byteAt z i)) ?_ ?_⟩, fun h => ?_⟩
  ·simp [go_sem]
  ·have step : namAt z i = true → ∃ j : Nat, (j ≤ z.size ∧ ∀ q, q < j → namAt z q = true) ∧ z.size - j < z.size - i ∧ IntKind.i64.wrap ((i : Int) + 1) = j := fun e => ⟨i + 1, ⟨by omega, fun j hj => by
    rcases Nat.lt_succ_iff_lt_or_eq.mp hj with hj | rfl
    ·exact hi.2 j hj
    ·exact e⟩, by omega, wrap_succ (by omega)⟩
   have bad : namAt z i = false → namZ z = false := fun e => by simp only [namZ, all_false (p := fun i => namAt z i) h e, Bool.false_and]
   simp [go_sem]
   refine ⟨fun e1 => ⟨fun h0 => ⟨h, vcall_pure (c_l2Digit (byteAt z i)) ?_ ?_⟩, fun h0 => bad (by subst h0; simp [namAt, e1])⟩, fun e1 => step (by simp [namAt, e1])⟩
   ·simp [go_sem]
   ·simp [go_sem]
    exact ⟨fun e2 => bad (by simp [namAt, e1, e2]), fun e2 => step (by simp [namAt, e1, e2, h0])⟩
  ·simp only [namZ, all_true (p := fun i => namAt z i) (n := z.size) fun j hj => hi.2 j (by omega), Bool.true_and]
def opHas (l : List POp) (z : ByteArray) (kd : Int) : Bool := (List.range l.length).any fun i => decide ((opAt l i).text = z) && decide ((opAt l i).kind = kd)
def isOpZ (l : List POp) (z : ByteArray) : Bool := opHas l z 1 || opHas l z 2 || opHas l z 3
def kindZ (l : List POp) (z : ByteArray) : Int := if numZ z then 1 else if namZ z then 2 else if z = ⟨#[40]⟩ then 4 else if z = ⟨#[41]⟩ then 5 else if isOpZ l z then 3 else 6
def alnum (c : Int) : Bool := isLt c || isDg c
def run (p : Int → Bool) (z : ByteArray) (j : Nat) : Nat := if h : j < z.size then if p (byteAt z j) then 1 + run p z (j + 1) else 0 else 0
termination_by z.size - j
theorem run_end {p : Int → Bool} {z : ByteArray} {j : Nat} (h : z.size ≤ j) : run p z j = 0 := by rw [run, dif_neg (by omega)]
theorem run_yes {p : Int → Bool} {z : ByteArray} {j : Nat} (h : j < z.size) (e : p (byteAt z j) = true) : run p z j = 1 + run p z (j + 1) := by
 conv => lhs; rw [run]
 rw [dif_pos h, if_pos e]
theorem run_no {p : Int → Bool} {z : ByteArray} {j : Nat} (h : j < z.size) (e : p (byteAt z j) = false) : run p z j = 0 := by rw [run, dif_pos h, if_neg (by rw [e]; simp)]
theorem run_le (p : Int → Bool) (z : ByteArray) (j : Nat) (h : j ≤ z.size) : j + run p z j ≤ z.size := by
 rcases Nat.lt_or_ge j z.size with h1 | h1
 ·cases e : p (byteAt z j)
  ·rw [run_no h1 e]; omega
  ·have := run_le p z (j + 1) (by omega)
   rw [run_yes h1 e]; omega
 ·rw [run_end h1]; omega
termination_by z.size - j
def reachZ (z : ByteArray) (i : Nat) : Nat := if isSg (byteAt z i) then (if z.size - i < 16 then z.size - i else 16) else if alnum (byteAt z i) then 1 + run alnum z (i + 1) else 1
def longF (l : List POp) (z : ByteArray) (i : Nat) : Nat → Nat
 | 0 => 1
 | n + 1 => if n = 0 then 1 else if kindZ l (z.extract i (i + (n + 1))) ≠ 6 then n + 1 else longF l z i n
def longest (l : List POp) (z : ByteArray) (i : Nat) : Nat := longF l z i (reachZ z i)
theorem reachZ_le (z : ByteArray) (i : Nat) (hi : i < z.size) : 1 ≤ reachZ z i ∧ i + reachZ z i ≤ z.size := by
 unfold reachZ
 split
 ·split <;> omega
 ·split
  ·have := run_le alnum z (i + 1) (by omega)
   omega
  ·omega
def opsHas (l : List POp) (n : Nat) (o : POp) : Bool := (List.range n).any fun i => opEq (opAt l i) o
theorem argSl_sub {mem : List (Option Ob)} {k sz lo n N ty : Nat} {f f' : Nat → List AV} (hk : mem[k]? = some (some ⟨ty, sz, N, f⟩)) (hsz : 0 < sz) (hn : lo + n ≤ N) (h : ∀ i, i < n → f (lo + i) = f' i ∧ ∀ c, c ∈ f' i → Closed c) : ArgSl mem (.sub k sz lo n) sz n f' :=
 ⟨hsz, fun i => f (lo + i), by simp [contents, hk, hn], h⟩
def uniq (l : List POp) : Nat → List POp
 | 0 => []
 | i + 1 => if opsHas l i (opAt l i) then uniq l i else uniq l i ++ [opAt l i]
theorem opAt_app (a b : List POp) (i : Nat) : opAt (a ++ b) i = if i < a.length then opAt a i else opAt b (i - a.length) := by
 unfold opAt
 by_cases h : i < a.length
 ·rw [if_pos h, List.getD_eq_getElem?_getD, List.getD_eq_getElem?_getD, List.getElem?_append_left h]
 ·rw [if_neg h, List.getD_eq_getElem?_getD, List.getD_eq_getElem?_getD, List.getElem?_append_right (by omega)]
theorem opCells_app (a b : List POp) (i : Nat) : opCells (a ++ b) i = joinF a.length (opCells a) (opCells b) i := by
 unfold joinF
 simp only [opCells_at, opAt_app]
 split <;> rfl
theorem opCells_one (l : List POp) (o : POp) (i : Nat) (h : i < l.length + 1) : joinF l.length (opCells l) (fun _ => o.cells) i = opCells (l ++ [o]) i := by
 rw [opCells_app]
 unfold joinF
 split
 ·rfl
 ·have : i - l.length = 0 := by omega
  rw [this]; rfl
@[go_sem] theorem opOne (l : List POp) (i : Nat) : (opCells l i).all oneAV = true := rfl
open Go.Maps (Keyed)
def i64 (n : Int) : Prop := -9223372036854775808 ≤ n ∧ n ≤ 9223372036854775807
def opV (o : POp) : Value := .agg #[.string o.text, .int .i64 o.kind, .int .i64 o.level, .int .i64 o.side]
theorem opV_fold (o : POp) : Value.agg #[.string o.text, .int .i64 o.kind, .int .i64 o.level, .int .i64 o.side] = opV o := rfl
end Go.Proofs.YtjdmmhcogmepaaaGreatDoor.V
namespace Go.Proofs.YtjdmmhcogmepaaaGreatDoor.V
open Go.RowKit
theorem longF_ge (l : List POp) (z : ByteArray) (i : Nat) : ∀ n, 1 ≤ longF l z i n
 | 0 => by simp [longF]
 | n + 1 => by
  unfold longF
  split
  ·omega
  ·split
   ·omega
   ·exact longF_ge l z i n
theorem longF_le (l : List POp) (z : ByteArray) (i : Nat) : ∀ n, longF l z i n ≤ n ∨ longF l z i n = 1
 | 0 => by simp [longF]
 | n + 1 => by
  unfold longF
  split
  ·omega
  ·split
   ·omega
   ·rcases longF_le l z i n with h | h <;> omega
theorem longest_ge (l : List POp) (z : ByteArray) (i : Nat) : 1 ≤ longest l z i := longF_ge _ _ _ _
theorem longest_le (l : List POp) (z : ByteArray) (i : Nat) (hi : i < z.size) : i + longest l z i ≤ z.size := by
 have := reachZ_le z i hi
 unfold longest
 rcases longF_le l z i (reachZ z i) with h | h <;> omega
def lexFrom (l : List POp) (z : ByteArray) (f : Nat) : List PTok :=
 if h : f + run isBl z f < z.size then
  ⟨kindZ l (z.extract (f + run isBl z f) (f + run isBl z f + longest l z (f + run isBl z f))), z.extract f (f + run isBl z f), z.extract (f + run isBl z f) (f + run isBl z f + longest l z (f + run isBl z f))⟩ ::
   lexFrom l z (f + run isBl z f + longest l z (f + run isBl z f))
 else [⟨7, z.extract f (f + run isBl z f), ⟨#[]⟩⟩]
termination_by z.size - f
decreasing_by
 have := longest_ge l z (f + run isBl z f)
 omega
theorem lexFrom_end {l : List POp} {z : ByteArray} {f i : Nat} (hi : i = f + run isBl z f) (h : ¬ i < z.size) : lexFrom l z f = [⟨7, z.extract f i, ⟨#[]⟩⟩] := by
 subst hi; rw [lexFrom, dif_neg h]
theorem lexFrom_go {l : List POp} {z : ByteArray} {f i : Nat} (hi : i = f + run isBl z f) (h : i < z.size) : lexFrom l z f = ⟨kindZ l (z.extract i (i + longest l z i)), z.extract f i, z.extract i (i + longest l z i)⟩ :: lexFrom l z (i + longest l z i) := by
 subst hi; rw [lexFrom, dif_pos h]
def lexOk (l : List POp) (z : ByteArray) : Bool := decide (tblOk l = 0) && decide (z.size ≤ 20000)
def lexZ (l : List POp) (z : ByteArray) : List PTok := if lexOk l z then lexFrom l z 0 else []
theorem tokAt_app (a b : List PTok) (i : Nat) : tokAt (a ++ b) i = if i < a.length then tokAt a i else tokAt b (i - a.length) := by
 unfold tokAt
 by_cases h : i < a.length
 ·rw [if_pos h, List.getD_eq_getElem?_getD, List.getD_eq_getElem?_getD, List.getElem?_append_left h]
 ·rw [if_neg h, List.getD_eq_getElem?_getD, List.getD_eq_getElem?_getD, List.getElem?_append_right (by omega)]
theorem tokCells_one (l : List PTok) (o : PTok) (i : Nat) (h : i < l.length + 1) : joinF l.length (tokCells l) (fun _ => o.cells) i = tokCells (l ++ [o]) i := by
 unfold joinF
 simp only [tokCells_at, tokAt_app]
 split
 ·rfl
 ·have : i - l.length = 0 := by omega
  rw [this]; rfl
theorem tok_app1 (toks : List PTok) (k : Int) (g x : ByteArray) (i : Nat) (hi : i < toks.length + 1) : joinF toks.length (tokCells toks) (fun i => [[AV.lit (.int .i64 k), AV.lit (.string g), AV.lit (.string x)]][i]?.getD []) i = tokCells (toks ++ [⟨k, g, x⟩]) i := by
 rw [← tokCells_one toks ⟨k, g, x⟩ i hi]
 unfold joinF
 split
 ·rfl
 ·have : i - toks.length = 0 := by omega
  rw [this]; rfl
@[go_sem] theorem tokOne (l : List PTok) (i : Nat) : (tokCells l i).all oneAV = true := rfl
def textHas (l : List POp) (z : ByteArray) : Bool := (List.range l.length).any fun j => decide ((opAt l j).text = z)
def opFront (l : List POp) (z : ByteArray) : Nat → Int × Nat
 | 0 => (6, 1)
 | k + 1 => if textHas l (z.extract 0 (k + 1)) then (3, k + 1) else opFront l z k
def front (l : List POp) (z : ByteArray) : Int × Nat :=
 if isDg (byteAt z 0) then (1, 1 + run isDg z 1) else if isLt (byteAt z 0) then (2, 1 + run alnum z 1) else if byteAt z 0 = 40 then (4, 1) else if byteAt z 0 = 41 then (5, 1) else opFront l z (if z.size < 16 then z.size else 16)
theorem byteAt_extract {z : ByteArray} {i e j : Nat} (he : e ≤ z.size) (hj : i + j < e) : byteAt (z.extract i e) j = byteAt z (i + j) := by
 unfold byteAt
 have h1 : j < (z.extract i e).size := by rw [ByteArray.size_extract]; omega
 rw [dif_pos h1, dif_pos (show i + j < z.size by omega)]
 rw [ByteArray.getElem_extract]
theorem extract_extract0 (z : ByteArray) (i k : Nat) (h : i + k ≤ z.size) : (z.extract i z.size).extract 0 k = z.extract i (i + k) := by
 rw [ByteArray.extract_extract]
 congr 1
 omega
theorem size_ext {z : ByteArray} {i n : Nat} (h : i + n ≤ z.size) : (z.extract i (i + n)).size = n := by rw [ByteArray.size_extract]; omega
theorem run_extract (p : Int → Bool) (z : ByteArray) (i : Nat) (j : Nat) : run p (z.extract i z.size) j = run p z (i + j) := by
 by_cases h : i + j < z.size
 ·have h1 : j < (z.extract i z.size).size := by rw [ByteArray.size_extract]; omega
  have e := byteAt_extract (z := z) (i := i) (e := z.size) (j := j) (by omega) h
  cases hp : p (byteAt z (i + j))
  ·rw [run_no h1 (by rw [e]; exact hp), run_no h hp]
  ·rw [run_yes h1 (by rw [e]; exact hp), run_yes h hp, run_extract p z i (j + 1)]; rfl
 ·rw [run_end (by rw [ByteArray.size_extract]; omega), run_end (by omega)]
termination_by z.size - (i + j)
theorem run_all (p : Int → Bool) (z : ByteArray) (j : Nat) (k : Nat) (h : k < run p z j) : p (byteAt z (j + k)) = true := by
 by_cases h1 : j < z.size
 ·cases hp : p (byteAt z j)
  ·rw [run_no h1 hp] at h; omega
  ·cases k with
   | zero => exact hp
   | succ k =>
    rw [run_yes h1 hp] at h
    have := run_all p z (j + 1) k (by omega)
    rw [show j + (k + 1) = j + 1 + k by omega]; exact this
 ·rw [run_end (by omega)] at h; omega
termination_by z.size - j
theorem run_stop (p : Int → Bool) (z : ByteArray) (j : Nat) (h : j + run p z j < z.size) : p (byteAt z (j + run p z j)) = false := by
 have h1 : j < z.size := by omega
 cases hp : p (byteAt z j)
 ·rw [run_no h1 hp]; exact hp
 ·rw [run_yes h1 hp] at h ⊢
  have := run_stop p z (j + 1) (by omega)
  rw [show j + (1 + run p z (j + 1)) = j + 1 + run p z (j + 1) by omega]; exact this
termination_by z.size - j
theorem run_mono {p q : Int → Bool} (hpq : ∀ c, p c = true → q c = true) (z : ByteArray) (j : Nat) : run p z j ≤ run q z j := by
 by_cases h1 : j < z.size
 ·cases hp : p (byteAt z j)
  ·rw [run_no h1 hp]; omega
  ·rw [run_yes h1 hp, run_yes h1 (hpq _ hp)]
   have := run_mono hpq z (j + 1)
   omega
 ·rw [run_end (by omega)]; omega
termination_by z.size - j
theorem sign_apart : (List.range 256).all (fun n => !isSg n || !(isDg n || isLt n || (n : Int) == 40 || (n : Int) == 41)) = true := by kernel_rfl
theorem digit_apart : (List.range 256).all (fun n => !isDg n || !(isLt n || (n : Int) == 40 || (n : Int) == 41)) = true := by kernel_rfl
theorem letter_apart : (List.range 256).all (fun n => !isLt n || !((n : Int) == 40 || (n : Int) == 41)) = true := by kernel_rfl
theorem of_range {f : Int → Bool} (h : (List.range 256).all (fun n => f n) = true) {c : Int} (hc : 0 ≤ c ∧ c < 256) : f c = true := by
 obtain ⟨n, rfl⟩ : ∃ n : Nat, c = n := ⟨c.toNat, by omega⟩
 exact List.all_eq_true.1 h n (List.mem_range.2 (by omega))
theorem isSg_no {c : Int} (hc : 0 ≤ c ∧ c < 256) (h : isDg c = true ∨ isLt c = true ∨ c = 40 ∨ c = 41) : isSg c = false := by
 have := of_range (f := fun n => !isSg n || !(isDg n || isLt n || n == 40 || n == 41)) sign_apart hc
 simp at this
 rcases h with h | h | rfl | rfl <;> simp_all
theorem isDg_no {c : Int} (hc : 0 ≤ c ∧ c < 256) (h : isDg c = true) : isLt c = false ∧ c ≠ 40 ∧ c ≠ 41 := by
 have := of_range (f := fun n => !isDg n || !(isLt n || n == 40 || n == 41)) digit_apart hc
 simp [h] at this
 exact ⟨this.1.1, this.1.2, this.2⟩
theorem isLt_no {c : Int} (hc : 0 ≤ c ∧ c < 256) (h : isLt c = true) : c ≠ 40 ∧ c ≠ 41 := by
 have := of_range (f := fun n => !isLt n || !(n == 40 || n == 41)) letter_apart hc
 simp [h] at this
 exact this
theorem numZ_no {s : ByteArray} (h0 : 0 < s.size) (h : isDg (byteAt s 0) = false) : numZ s = false := by
 unfold numZ; rw [all_false h0 h]; rfl
theorem namZ_no {s : ByteArray} (h0 : 0 < s.size) (h : isLt (byteAt s 0) = false) : namZ s = false := by
 unfold namZ; rw [all_false h0 (by simp [namAt, h])]; rfl
theorem byte_ne {s : ByteArray} {b : UInt8} (h : byteAt s 0 ≠ b.toNat) : s ≠ ⟨#[b]⟩ := by
 rintro rfl
 exact h rfl
theorem byte_one {s : ByteArray} {b : UInt8} (h1 : s.size = 1) (h : byteAt s 0 = b.toNat) : s = ⟨#[b]⟩ := by
 obtain ⟨⟨l⟩⟩ := s
 match l, h1 with
 | [x], _ =>
  have h2 : ((x.toNat : Nat) : Int) = b.toNat := h
  have h3 : x = b := UInt8.toNat_inj.1 (by omega)
  rw [h3]
theorem isOpZ_has {l : List POp} (hok : tblOps l = true) (s : ByteArray) : isOpZ l s = textHas l s := by
 have hop : ∀ j, j < l.length → opOk (opAt l j) = true := by simpa [tblOps] using hok
 rw [Bool.eq_iff_iff]
 simp only [isOpZ, opHas, textHas, Bool.or_eq_true, List.any_eq_true, List.mem_range, Bool.and_eq_true, decide_eq_true_eq]
 constructor
 ·rintro ((⟨j, h1, h2, _⟩ | ⟨j, h1, h2, _⟩) | ⟨j, h1, h2, _⟩) <;> exact ⟨j, h1, h2⟩
 ·rintro ⟨j, h1, h2⟩
  have hk : (opAt l j).kind = 1 ∨ (opAt l j).kind = 2 ∨ (opAt l j).kind = 3 := by
   have := hop j h1
   simp [opOk] at this
   omega
  rcases hk with h | h | h
  ·exact .inl (.inl ⟨j, h1, h2, h⟩)
  ·exact .inl (.inr ⟨j, h1, h2, h⟩)
  ·exact .inr ⟨j, h1, h2, h⟩
theorem textHas_no {l : List POp} (hok : tblOps l = true) {s : ByteArray} (h0 : 0 < s.size) (h : isSg (byteAt s 0) = false) : textHas l s = false := by
 have hop : ∀ j, j < l.length → opOk (opAt l j) = true := by simpa [tblOps] using hok
 simp only [textHas, List.any_eq_false, List.mem_range, decide_eq_true_eq]
 rintro j hj rfl
 have := hop j hj
 simp only [opOk, sgOk, sgAll, Bool.and_eq_true, List.all_eq_true, List.mem_range] at this
 have := this.1.1.1 0 h0
 rw [h] at this
 cases this
theorem textHas_none {l : List POp} (hok : tblOps l = true) {s : ByteArray} (h0 : s.size = 0) : textHas l s = false := by
 have hop : ∀ j, j < l.length → opOk (opAt l j) = true := by simpa [tblOps] using hok
 simp only [textHas, List.any_eq_false, List.mem_range, decide_eq_true_eq]
 rintro j hj rfl
 have := hop j hj
 simp only [opOk, sgOk, Bool.and_eq_true, decide_eq_true_eq] at this
 omega
theorem longF_eq {l : List POp} {z : ByteArray} {i m : Nat} (h1 : 1 ≤ m) (hm : m = 1 ∨ kindZ l (z.extract i (i + m)) ≠ 6) : ∀ N, m ≤ N → (∀ n, m < n → n ≤ N → kindZ l (z.extract i (i + n)) = 6) → longF l z i N = m
 | 0, h, _ => by omega
 | N + 1, h, h2 => by
  unfold longF
  by_cases e : m = N + 1
  ·subst e
   split
   ·omega
   ·rename_i hN
    rw [if_pos (hm.resolve_left (by omega))]
  ·rw [if_neg (by omega), if_neg (by rw [h2 (N + 1) (by omega) (by omega)]; simp)]
   exact longF_eq h1 hm N (by omega) fun n a b => h2 n a (by omega)
theorem opFront_none {l : List POp} {s : ByteArray} : ∀ K, (∀ k, k ≤ K → textHas l (s.extract 0 k) = false) → opFront l s K = (6, 1)
 | 0, _ => rfl
 | K + 1, h => by
  unfold opFront
  rw [if_neg (by rw [h (K + 1) (by omega)]; simp)]
  exact opFront_none K fun k hk => h k (by omega)
theorem opFront_long {l : List POp} {z : ByteArray} {i : Nat} (hk : ∀ n, 1 ≤ n → i + n ≤ z.size → kindZ l (z.extract i (i + n)) = if textHas l (z.extract i (i + n)) then 3 else 6) : ∀ N, i + (N + 1) ≤ z.size → opFront l (z.extract i z.size) (N + 1) = (kindZ l (z.extract i (i + longF l z i (N + 1))), longF l z i (N + 1))
 | 0, h => by
  have e : longF l z i (0 + 1) = 1 := by simp [longF]
  rw [e, hk 1 (by omega) (by omega)]
  simp only [opFront, extract_extract0 z i (0 + 1) (by omega)]
  cases textHas l (z.extract i (i + (0 + 1))) <;> rfl
 | N + 1, h => by
  have ih := opFront_long hk N (by omega)
  have h1 := hk (N + 1 + 1) (by omega) (by omega)
  unfold opFront
  rw [extract_extract0 z i (N + 1 + 1) (by omega)]
  cases ht : textHas l (z.extract i (i + (N + 1 + 1)))
  ·rw [ht] at h1
   have e : longF l z i (N + 1 + 1) = longF l z i (N + 1) := by
    conv => lhs; unfold longF
    rw [if_neg (by omega), if_neg (by rw [h1]; simp)]
   rw [e, ← ih]; rfl
  ·rw [ht] at h1
   have e : longF l z i (N + 1 + 1) = N + 1 + 1 := by
    conv => lhs; unfold longF
    rw [if_neg (by omega), if_pos (by rw [h1]; decide)]
   rw [e, h1]; rfl
theorem front_eq (l : List POp) (hok : tblOps l = true) (z : ByteArray) (i : Nat) (hi : i < z.size) : front l (z.extract i z.size) = (kindZ l (z.extract i (i + longest l z i)), longest l z i) := by
 have hr := byteAt_range z i
 have e0 : byteAt (z.extract i z.size) 0 = byteAt z i := byteAt_extract (by omega) (by omega)
 have b0 : ∀ n, 1 ≤ n → i + n ≤ z.size → byteAt (z.extract i (i + n)) 0 = byteAt z i := fun n h1 h2 => byteAt_extract (by omega) (by omega)
 have hs : (z.extract i z.size).size = z.size - i := by rw [ByteArray.size_extract]; omega
 unfold front
 rw [e0, run_extract, run_extract, hs]
 cases hd : isDg (byteAt z i) with
 | true =>
  obtain ⟨a1, a2, a3⟩ := isDg_no hr hd
  have a4 := isSg_no hr (.inl hd)
  have hN : reachZ z i = 1 + run alnum z (i + 1) := by simp [reachZ, a4, alnum, hd]
  have hle := run_mono (p := isDg) (q := alnum) (fun c h => by simp [alnum, h]) z (i + 1)
  have hrl := reachZ_le z i hi
  have kd : ∀ n, 1 ≤ n → i + n ≤ z.size → kindZ l (z.extract i (i + n)) = if numZ (z.extract i (i + n)) then 1 else 6 := by
   intro n h1 h2
   have hsz := size_ext h2
   have q1 : namZ (z.extract i (i + n)) = false := namZ_no (by omega) (by rw [b0 n h1 h2]; exact a1)
   have q2 : z.extract i (i + n) ≠ ⟨#[40]⟩ := byte_ne (by rw [b0 n h1 h2]; exact a2)
   have q3 : z.extract i (i + n) ≠ ⟨#[41]⟩ := byte_ne (by rw [b0 n h1 h2]; exact a3)
   have q4 : isOpZ l (z.extract i (i + n)) = false := by rw [isOpZ_has hok]; exact textHas_no hok (by omega) (by rw [b0 n h1 h2]; exact a4)
   simp only [kindZ, q1, q4, if_neg q2, if_neg q3]
   rfl
  have hlong : longest l z i = 1 + run isDg z (i + 1) := by
   unfold longest
   have hnum : kindZ l (z.extract i (i + (1 + run isDg z (i + 1)))) = 1 := by
    rw [kd _ (by omega) (by omega), if_pos]
    have hsz := size_ext (z := z) (i := i) (n := 1 + run isDg z (i + 1)) (by omega)
    simp only [numZ, Bool.and_eq_true, decide_eq_true_eq]
    refine ⟨all_true fun j hj => ?_, by omega⟩
    rw [hsz] at hj
    rw [byteAt_extract (by omega) (by omega)]
    cases j with
    | zero => exact hd
    | succ j =>
     have := run_all isDg z (i + 1) j (by omega)
     rw [show i + (j + 1) = i + 1 + j by omega]; exact this
   refine longF_eq (by omega) (.inr (by rw [hnum]; decide)) _ (by omega) fun n h1 h2 => ?_
   rw [kd n (by omega) (by omega), if_neg]
   have hst := run_stop isDg z (i + 1) (by omega)
   have hsz := size_ext (z := z) (i := i) (n := n) (by omega)
   unfold numZ
   rw [all_false (i := 1 + run isDg z (i + 1)) (by omega) (by rw [byteAt_extract (by omega) (by omega), show i + (1 + run isDg z (i + 1)) = i + 1 + run isDg z (i + 1) by omega]; exact hst)]
   simp
  rw [if_pos rfl, hlong]
  refine Prod.ext ?_ rfl
  rw [kd _ (by omega) (by omega), if_pos]
  have hsz := size_ext (z := z) (i := i) (n := 1 + run isDg z (i + 1)) (by omega)
  simp only [numZ, Bool.and_eq_true, decide_eq_true_eq]
  refine ⟨all_true fun j hj => ?_, by omega⟩
  rw [hsz] at hj
  rw [byteAt_extract (by omega) (by omega)]
  cases j with
  | zero => exact hd
  | succ j =>
   have := run_all isDg z (i + 1) j (by omega)
   rw [show i + (j + 1) = i + 1 + j by omega]; exact this
 | false =>
  rw [if_neg (by simp)]
  cases hl : isLt (byteAt z i) with
  | true =>
   obtain ⟨a2, a3⟩ := isLt_no hr hl
   have a4 := isSg_no hr (.inr (.inl hl))
   have hN : reachZ z i = 1 + run alnum z (i + 1) := by simp [reachZ, a4, alnum, hl]
   have hrl := reachZ_le z i hi
   have hk : kindZ l (z.extract i (i + (1 + run alnum z (i + 1)))) = 2 := by
    have hsz := size_ext (z := z) (i := i) (n := 1 + run alnum z (i + 1)) (by omega)
    have q1 : numZ (z.extract i (i + (1 + run alnum z (i + 1)))) = false := numZ_no (by omega) (by rw [b0 _ (by omega) (by omega)]; exact hd)
    have q2 : namZ (z.extract i (i + (1 + run alnum z (i + 1)))) = true := by
     simp only [namZ, Bool.and_eq_true, decide_eq_true_eq]
     refine ⟨all_true fun j hj => ?_, by omega⟩
     rw [hsz] at hj
     unfold namAt
     rw [byteAt_extract (by omega) (by omega)]
     cases j with
     | zero => simp [hl]
     | succ j =>
      have := run_all alnum z (i + 1) j (by omega)
      rw [show i + (j + 1) = i + 1 + j by omega]
      simpa [alnum] using this
    simp only [kindZ, q1, q2]; rfl
   have hlong : longest l z i = 1 + run alnum z (i + 1) := by
    unfold longest
    rw [hN]
    exact longF_eq (by omega) (.inr (by rw [hk]; decide)) _ (by omega) fun n h1 h2 => by omega
   rw [if_pos rfl, hlong, hk]
  | false =>
   rw [if_neg (by simp)]
   have kd : ∀ n, 1 ≤ n → i + n ≤ z.size → kindZ l (z.extract i (i + n)) = if z.extract i (i + n) = ⟨#[40]⟩ then 4 else if z.extract i (i + n) = ⟨#[41]⟩ then 5 else if textHas l (z.extract i (i + n)) then 3 else 6 := by
    intro n h1 h2
    have hsz := size_ext h2
    have q1 : numZ (z.extract i (i + n)) = false := numZ_no (by omega) (by rw [b0 n h1 h2]; exact hd)
    have q2 : namZ (z.extract i (i + n)) = false := namZ_no (by omega) (by rw [b0 n h1 h2]; exact hl)
    simp only [kindZ, q1, q2, isOpZ_has hok]
    rfl
   have reach1 : isSg (byteAt z i) = false → reachZ z i = 1 := fun h => by simp [reachZ, h, alnum, hd, hl]
   have long1 : isSg (byteAt z i) = false → longest l z i = 1 := fun h => by rw [longest, reach1 h]; simp [longF]
   by_cases h40 : byteAt z i = 40
   ·rw [if_pos h40, long1 (isSg_no hr (.inr (.inr (.inl h40)))), kd 1 (by omega) (by omega), if_pos (byte_one (size_ext (by omega)) (by rw [b0 1 (by omega) (by omega)]; exact h40))]
   ·rw [if_neg h40]
    by_cases h41 : byteAt z i = 41
    ·rw [if_pos h41, long1 (isSg_no hr (.inr (.inr (.inr h41)))), kd 1 (by omega) (by omega), if_neg (byte_ne (by rw [b0 1 (by omega) (by omega)]; exact h40)), if_pos (byte_one (size_ext (by omega)) (by rw [b0 1 (by omega) (by omega)]; exact h41))]
    ·rw [if_neg h41]
     have kd' : ∀ n, 1 ≤ n → i + n ≤ z.size → kindZ l (z.extract i (i + n)) = if textHas l (z.extract i (i + n)) then 3 else 6 := by
      intro n h1 h2
      rw [kd n h1 h2, if_neg (byte_ne (by rw [b0 n h1 h2]; exact h40)), if_neg (byte_ne (by rw [b0 n h1 h2]; exact h41))]
     cases hsg : isSg (byteAt z i) with
     | true =>
      have hN : reachZ z i = if z.size - i < 16 then z.size - i else 16 := by simp [reachZ, hsg]
      have hrl := reachZ_le z i hi
      unfold longest
      rw [← hN]
      obtain ⟨N, hN2⟩ : ∃ N, reachZ z i = N + 1 := ⟨reachZ z i - 1, by omega⟩
      rw [hN2]
      exact opFront_long kd' N (by omega)
     | false =>
      rw [long1 hsg, kd' 1 (by omega) (by omega), textHas_no hok (by rw [size_ext (by omega)]; omega) (by rw [b0 1 (by omega) (by omega)]; exact hsg)]
      refine opFront_none _ fun k hk => ?_
      have hk2 : k ≤ z.size - i := by split at hk <;> omega
      rw [extract_extract0 z i k (by omega)]
      cases k with
      | zero => exact textHas_none hok (by rw [size_ext (by omega)])
      | succ k => exact textHas_no hok (by rw [size_ext (by omega)]; omega) (by rw [b0 _ (by omega) (by omega)]; exact hsg)
open Go.Maps (Keyed)
def AtIs (l : List POp) (i : Nat) (es : List (Value × Value)) : Prop := (∀ j, j < i → (mget es (placeV (opAt l j))).isSome = true) ∧ ∀ x v, mget es x = some v → ∃ j, j < i ∧ x = placeV (opAt l j) ∧ v = opV (opAt l j)
def TextIs (l : List POp) (i : Nat) (es : List (Value × Value)) : Prop := (∀ j, j < i → (mget es (.string (opAt l j).text)).isSome = true) ∧ ∀ x v, mget es x = some v → (∃ j, j < i ∧ x = .string (opAt l j).text) ∧ ∃ n, v = .int .i64 n
theorem atIs_step {l : List POp} {i : Nat} {es : List (Value × Value)} (h : AtIs l i es) : AtIs l (i + 1) (mput es (placeV (opAt l i)) (opV (opAt l i))) := by
 refine ⟨fun j hj => ?_, fun x v hv => ?_⟩
 ·rw [mget_mput]
  split
  ·rfl
  ·rename_i hne
   rcases Nat.lt_succ_iff_lt_or_eq.mp hj with hj | rfl
   ·exact h.1 j hj
   ·exact absurd rfl hne
 ·rw [mget_mput] at hv
  split at hv
  ·rename_i e
   cases hv
   exact ⟨i, by omega, e.symm, rfl⟩
  ·obtain ⟨j, hj, e⟩ := h.2 x v hv
   exact ⟨j, by omega, e⟩
theorem textIs_step {l : List POp} {i : Nat} {es : List (Value × Value)} (h : TextIs l i es) (n : Int) : TextIs l (i + 1) (mput es (.string (opAt l i).text) (.int .i64 n)) := by
 refine ⟨fun j hj => ?_, fun x v hv => ?_⟩
 ·rw [mget_mput]
  split
  ·rfl
  ·rename_i hne
   rcases Nat.lt_succ_iff_lt_or_eq.mp hj with hj | rfl
   ·exact h.1 j hj
   ·exact absurd rfl hne
 ·rw [mget_mput] at hv
  split at hv
  ·rename_i e
   cases hv
   exact ⟨⟨i, by omega, e.symm⟩, n, rfl⟩
  ·obtain ⟨⟨j, hj, e⟩, m⟩ := h.2 x v hv
   exact ⟨⟨j, by omega, e⟩, m⟩
theorem c_indexOf (l : List POp) (hl : l.length ≤ 9223372036854775807) (hw : opsWf l) : VProc Tryz.prog 43 [.agg [.sl 4 l.length (opCells l)]] [] [] (fun av mem maps => ∃ b1 b2 e1 e2, av = .agg [.lit (.map (some b1)), .lit (.map (some b2))] ∧ mem = [] ∧ maps = [(b2, ⟨9, e2⟩), (b1, ⟨151, e1⟩)] ∧ b1 ≠ b2 ∧ AtIs l l.length e1 ∧ TextIs l l.length e2) := by
 have cl : ∀ (i : Nat) (c : AV), i < l.length → c ∈ opCells l i → Closed c := fun i c _ h => opClosed l i c h
 refine vproc_start Tryz.func43 (by kernel_rfl) rfl (by simp [Tryz.ntmps43]) ?_; simp only [Tryz.ntmps43, Tryz.results43]; simp [go_sem]
 refine fun b1 b2 hb => ⟨by omega, ?_⟩
 have hb' : ¬ b2 = b1 := fun e => hb e.symm
 refine vc_loop (fun p : Nat × List (Value × Value) × List (Value × Value) => p.1 ≤ l.length ∧ AtIs l p.1 p.2.1 ∧ TextIs l p.1 p.2.2) (fun p => l.length - p.1)
  (fun p => ⟨[(2, .ptr 1 2 0 0), (3, .ptr 2 2 0 0), (10, .sl 4 l.length (opCells l)), (11, .lit (.int .i64 l.length)), (12, .lit (.int .i64 p.1))],
   [none, some ⟨70, 2, 1, fun _ => [.lit (.map none), .lit (.map none)]⟩, some ⟨70, 2, 1, fun _ => [.lit (.map (some b1)), .lit (.map (some b2))]⟩], [(b2, ⟨9, p.2.2⟩), (b1, ⟨151, p.2.1⟩)], 0⟩) ⟨(0, [], []), ⟨by omega, ⟨by simp, by simp [mget]⟩, by simp, by simp [mget]⟩, ?_⟩ (fun p hp => ?_)
 ·simp [go_sem]
  exact ⟨fun e => hb e.symm, cl⟩
 ·obtain ⟨i, e1, e2⟩ := p
  simp only at hp
  simp [go_sem, opCells_at]
  refine ⟨fun h => ⟨h, vc_drawn [5] (.q 0 <| .q 1 <| .q 2 <| .q 4 <| .or 3 (.or 5 (.done) (.nil)) (.nil)) (by kernel_rfl) ?_⟩, fun h => ?_⟩
  ·simp [go_sem]
   refine vcallV_val (c_placeOf (opAt l i)) ?_ ?_ ?_
   ·simp [go_sem, POp.cells]
   ·simp [go_sem]
   ·simp [go_sem, hb, hb']
    refine vmsetK_use keyedPlace (keyPlace (hw i h)) ?_
    simp [go_sem, hb, hb']
    simp only [placeV_fold, opV_fold]
    refine vlookK_use keyedString (keyString (hw i h)) _ zeroInt ?_
    have fin : ∀ n : Int, ∃ j es1 es2, (j ≤ l.length ∧ AtIs l j es1 ∧ TextIs l j es2) ∧ l.length - j < l.length - i ∧ (mput e2 (.string (opAt l i).text) (.int .i64 n) = es2 ∧ mput e1 (placeV (opAt l i)) (opV (opAt l i)) = es1) ∧ ((∀ (i : Nat) (c : AV), i < l.length → c ∈ opCells l i → Closed c) ∧ IntKind.i64.wrap ((i : Int) + 1) = j) := fun n =>
     ⟨i + 1, _, _, ⟨by omega, atIs_step hp.2.1, textIs_step hp.2.2 n⟩, by omega, ⟨rfl, rfl⟩, cl, wrap_succ (by omega)⟩
    cases hm : mget e2 (.string (opAt l i).text) with
    | none =>
     simp [go_sem, hb, hb']
     refine vmsetK_use keyedString (keyString (hw i h)) ?_
     simp [go_sem, hb, hb']
     exact fin _
    | some v =>
     obtain ⟨_, n, rfl⟩ := hp.2.2.2 _ _ hm
     simp [go_sem, hb, hb']
     refine vmsetK_use keyedString (keyString (hw i h)) ?_
     simp [go_sem, hb, hb']
     exact fin _
  ·have hi : i = l.length := by omega
   subst hi
   refine ⟨rfl, [], [], by simp, by simp, by simp [go_sem], by simp [go_sem], by simp [go_sem], ?_⟩
   simp [go_sem]
   exact ⟨b1, b2, ⟨rfl, rfl⟩, e1, e2, ⟨⟨rfl, rfl⟩, rfl, rfl⟩, hb, hp.2⟩
theorem textIs_has {l : List POp} {es : List (Value × Value)} (h : TextIs l l.length es) (z : ByteArray) : (mget es (.string z)).isSome = textHas l z := by
 cases e : textHas l z with
 | true =>
  simp only [textHas, List.any_eq_true, List.mem_range, decide_eq_true_eq] at e
  obtain ⟨j, hj, rfl⟩ := e
  exact h.1 j hj
 | false =>
  rw [Bool.eq_false_iff]
  intro h1
  obtain ⟨v, hv⟩ := Option.isSome_iff_exists.1 h1
  obtain ⟨⟨j, hj, e2⟩, _⟩ := h.2 _ v hv
  simp only [textHas, List.any_eq_false, List.mem_range, decide_eq_true_eq] at e
  simp only [Value.string.injEq] at e2
  exact e j hj e2.symm
theorem c_front (l : List POp) (b1 b2 : Nat) (es e1 : List (Value × Value)) (h : TextIs l l.length es) (hb : ¬ b1 = b2) (z : ByteArray) (hz : 0 < z.size ∧ z.size ≤ 1048576) : VProc Tryz.prog 93 [.agg [.lit (.map (some b1)), .lit (.map (some b2))], .lit (.string z)] [] [(b2, ⟨9, es⟩)] (fun av mem maps => av = .tup [.lit (.int .i64 (front l z).1), .lit (.int .i64 (front l z).2)] ∧ mem = [] ∧ maps = [(b2, ⟨9, es⟩)]) := by
 refine vproc_start Tryz.func93 (by kernel_rfl) rfl (by simp [Tryz.ntmps93]) ?_; simp only [Tryz.ntmps93, Tryz.results93]; simp [go_sem]
 have fin : ∀ (t : List (Nat × AV)) (m : List (Option Ob)) (k : Int) (n : Nat), front l z = (k, n) → vendP [(b2, ⟨9, es⟩)] (fun av mem maps => av = .tup [.lit (.int .i64 (front l z).1), .lit (.int .i64 (front l z).2)] ∧ mem = [] ∧ maps = [(b2, ⟨9, es⟩)]) ⟨t, m, [(b2, ⟨9, es⟩)], 0⟩ (.tup [.lit (.int .i64 k), .lit (.int .i64 n)]) := by
  intro t m k n h3
  refine ⟨rfl, [], [], by simp, by simp, by simp [go_sem], by simp [go_sem], by simp [go_sem], ?_⟩
  simp [go_sem, h3]
 refine ⟨hz.1, vcall_pure (c_isDigit (byteAt z 0)) ?_ ?_⟩
 ·simp [go_sem]
 ·simp [go_sem]
  refine ⟨fun e1 => ?_, fun e1 => vcall_pure (c_isLetter (byteAt z 0)) ?_ ?_⟩
  ·refine vc_loop (fun n : Nat => 1 ≤ n ∧ n ≤ z.size ∧ 1 + run isDg z 1 = n + run isDg z n) (fun n => z.size - n) (fun n => ⟨[(1, .lit (.string z)), (6, .lit (.int .i64 n))], [], [(b2, ⟨9, es⟩)], 0⟩) ⟨1, ⟨by omega, by omega, rfl⟩, ?_⟩ (fun n hn => ?_)
   ·simp [go_sem]
   ·simp [go_sem]
    refine ⟨fun h1 => ⟨h1, vcall_pure (c_isDigit (byteAt z n)) ?_ ?_⟩, fun h1 => ?_⟩
    ·simp [go_sem]
    ·simp [go_sem]
     refine ⟨fun e => ⟨n + 1, ⟨by omega, by omega, ?_⟩, by omega, wrap_succ (by omega)⟩, fun e => fin _ _ _ _ ?_⟩
     ·rw [hn.2.2, run_yes h1 e]; omega
     ·simp only [front, e1, if_true, hn.2.2, run_no h1 e]; rfl
    ·refine fin _ _ _ _ ?_
     simp only [front, e1, if_true, hn.2.2, run_end (show z.size ≤ n by omega)]; rfl
  ·simp [go_sem]
  ·simp [go_sem]
   refine ⟨fun e2 => ?_, fun e2 => ⟨fun e3 => fin _ _ _ 1 ?_, fun e3 => ⟨fun e4 => fin _ _ _ 1 ?_, fun e4 => ?_⟩⟩⟩
   ·refine vc_loop (fun n : Nat => 1 ≤ n ∧ n ≤ z.size ∧ 1 + run alnum z 1 = n + run alnum z n) (fun n => z.size - n) (fun n => ⟨[(1, .lit (.string z)), (6, .lit (.int .i64 n))], [], [(b2, ⟨9, es⟩)], 0⟩) ⟨1, ⟨by omega, by omega, rfl⟩, ?_⟩ (fun n hn => ?_)
    ·simp [go_sem]
    ·simp [go_sem]
     have done_ : n < z.size → alnum (byteAt z n) = true → ∃ m : Nat, (1 ≤ m ∧ m ≤ z.size ∧ 1 + run alnum z 1 = m + run alnum z m) ∧ z.size - m < z.size - n ∧ IntKind.i64.wrap ((n : Int) + 1) = m := fun h1 e => ⟨n + 1, ⟨by omega, by omega, by rw [hn.2.2, run_yes h1 e]; omega⟩, by omega, wrap_succ (by omega)⟩
     refine ⟨fun h1 => ⟨h1, vcall_pure (c_isLetter (byteAt z n)) ?_ ?_⟩, fun h1 => ?_⟩
     ·simp [go_sem]
     ·cases eL : isLt (byteAt z n) with
      | true =>
       simp [go_sem]
       exact done_ h1 (by simp [alnum, eL])
      | false =>
       simp [go_sem]
       refine ⟨h1, vcall_pure (c_isDigit (byteAt z n)) ?_ ?_⟩
       ·simp [go_sem]
       ·simp [go_sem]
        refine ⟨fun e => done_ h1 (by simp [alnum, e]), fun e => fin _ _ _ _ ?_⟩
        simp only [front, e1, e2, if_true, hn.2.2, run_no h1 (show alnum (byteAt z n) = false by simp [alnum, eL, e])]; rfl
     ·refine fin _ _ _ _ ?_
      simp only [front, e1, e2, if_true, hn.2.2, run_end (show z.size ≤ n by omega)]; rfl
   ·simp only [front, e1, e2, e3]; rfl
   ·simp only [front, e1, e2, e3, e4]; rfl
   ·have hf : ∀ k : Nat, opFront l z (if z.size < 16 then z.size else 16) = opFront l z k → front l z = opFront l z k := fun k hk => by
     simp only [front, e1, e2, if_neg e3, if_neg e4, hk]; rfl
    refine vc_loop (fun k : Nat => k ≤ z.size ∧ opFront l z (if z.size < 16 then z.size else 16) = opFront l z k) (fun k => k) (fun k => ⟨[(1, .lit (.string z)), (2, .ptr 0 2 0 0), (8, .lit (.int .i64 k))], [some ⟨70, 2, 1, fun _ => [.lit (.map (some b1)), .lit (.map (some b2))]⟩], [(b2, ⟨9, es⟩)], 0⟩) ⟨_, ⟨?_, rfl⟩, ?_⟩ (fun k hk => ?_)
    ·split <;> omega
    ·simp [go_sem]
     split <;> split <;> omega
    ·simp [go_sem]
     refine ⟨fun h1 => vc_drawn [] (.q 0 <| .q 1 <| .q 2 <| .q 3 <| .q 4 <| .q 5 <| .q 6 <| .q 7 <| .q 8 <| .q 9 <| .q 10 <| .done) (by kernel_rfl) ?_, fun h1 => ?_⟩
     ·simp [go_sem]
      refine ⟨hk.1, ?_⟩
      refine vlookK_use keyedString (keyString (by rw [ByteArray.size_extract]; simp only [maxLen]; omega)) _ zeroInt ?_
      simp [go_sem, textIs_has h]
      obtain ⟨m, rfl⟩ : ∃ m, k = m + 1 := ⟨k - 1, by omega⟩
      cases ht : textHas l (z.extract 0 (m + 1)) with
      | true =>
       simp [go_sem]
       refine fin _ _ 3 (m + 1) ?_
       rw [hf _ hk.2]
       simp only [opFront, ht, if_true]
      | false =>
       simp [go_sem]
       refine ⟨m, ⟨by omega, ?_⟩, by omega, wrap_i64 (by omega)⟩
       rw [hk.2]
       simp only [opFront, ht]
       rfl
     ·subst h1
      refine fin _ _ 6 1 ?_
      rw [hf _ hk.2]; rfl
end Go.Proofs.YtjdmmhcogmepaaaGreatDoor.V
namespace Go.Proofs.YtjdmmhcogmepaaaGreatDoor.V
open Go.RowKit
def intAt (l : List Int) (i : Nat) : Int := l.getD i 0
def intCells (l : List Int) (i : Nat) : List AV := [.lit (.int .i64 (intAt l i))]
theorem intCells_at (l : List Int) (i : Nat) : intCells l i = [.lit (.int .i64 (intAt l i))] := rfl
theorem intClosed (l : List Int) (i : Nat) (c : AV) (h : c ∈ intCells l i) : Closed c := by
 simp [intCells] at h
 subst h
 exact .lit _
def stAt (l : List POp) (t : List PTok) : Nat → Bool
 | 0 => false
 | i + 1 => decide ((tokAt t i).kind = 1) || decide ((tokAt t i).kind = 2) || decide ((tokAt t i).kind = 5) || (decide ((tokAt t i).kind = 3) && stAt l t i && opHas l (tokAt t i).text 3)
def openAt (t : List PTok) : Nat → Int
 | 0 => 0
 | i + 1 => openAt t i + (if (tokAt t i).kind = 4 then 1 else 0) - (if (tokAt t i).kind = 5 then 1 else 0)
theorem openAt_le (t : List PTok) : ∀ i : Nat, -(i : Int) ≤ openAt t i ∧ openAt t i ≤ i
 | 0 => by simp [openAt]
 | i + 1 => by
  have := openAt_le t i
  simp only [openAt]
  split <;> split <;> omega
def roleAt (l : List POp) (t : List PTok) (i : Nat) (b : Bool) : Int :=
 if b = false then
  if (tokAt t i).kind = 1 ∨ (tokAt t i).kind = 2 ∨ (tokAt t i).kind = 4 then 0
  else if (tokAt t i).kind = 3 ∧ opHas l (tokAt t i).text 1 = true then 1 else -1
 else if (tokAt t i).kind = 3 ∧ opHas l (tokAt t i).text 2 = true then 2
 else if (tokAt t i).kind = 3 ∧ opHas l (tokAt t i).text 3 = true then 3
 else if (tokAt t i).kind = 5 ∧ 0 < openAt t i then 0
 else if (tokAt t i).kind = 7 ∧ openAt t i = 0 ∧ i + 1 = t.length then 0 else -1
def rolesUp (l : List POp) (t : List PTok) (n : Nat) : List Int := (List.range n).map fun i => roleAt l t i (stAt l t i)
def boolCells (f : Nat → Bool) (i : Nat) : List AV := [.lit (.bool (f i))]
@[go_sem] theorem boolOne (f : Nat → Bool) (i : Nat) : (boolCells f i).all oneAV = true := rfl
def firstBad (l : List POp) (t : List PTok) : Option Nat := (List.range t.length).find? fun i => decide (roleAt l t i (stAt l t i) < 0)
def endsOk (t : List PTok) : Bool := decide (t.length ≠ 0) && decide ((tokAt t (t.length - 1)).kind = 7)
def rolesZ (l : List POp) (t : List PTok) : List Int × Int :=
 if tblOk l ≠ 0 then ([], 0) else match firstBad l t with
  | some i => ([], i)
  | none => if endsOk t then (rolesUp l t t.length, -1) else ([], t.length)
theorem firstBad_some {l : List POp} {t : List PTok} {i : Nat} (hi : i < t.length) (h : ∀ j, j < i → 0 ≤ roleAt l t j (stAt l t j)) (hb : roleAt l t i (stAt l t i) < 0) : firstBad l t = some i := by
 unfold firstBad
 rw [List.find?_range_eq_some]
 refine ⟨by simpa using hb, by simpa using hi, fun j hj => ?_⟩
 simpa using h j hj
theorem firstBad_none {l : List POp} {t : List PTok} (h : ∀ j, j < t.length → 0 ≤ roleAt l t j (stAt l t j)) : firstBad l t = none := by
 unfold firstBad
 rw [List.find?_eq_none]
 intro j hj
 have := h j (by simpa using hj)
 simp only [decide_eq_true_eq]
 omega
theorem rolesUp_succ (l : List POp) (t : List PTok) (n : Nat) : rolesUp l t (n + 1) = rolesUp l t n ++ [roleAt l t n (stAt l t n)] := by simp [rolesUp, List.range_succ]
theorem rolesUp_len (l : List POp) (t : List PTok) (n : Nat) : (rolesUp l t n).length = n := by simp [rolesUp]
theorem int_app1 (a : List Int) (x : Int) (i : Nat) (hi : i < a.length + 1) : joinF a.length (intCells a) (fun q => [[AV.lit (.int .i64 x)]][q]?.getD []) i = intCells (a ++ [x]) i := by
 unfold joinF
 split
 ·rename_i h
  simp [intCells, intAt, List.getD_eq_getElem?_getD, List.getElem?_append_left h]
 ·have e : i = a.length := by omega
  subst e
  simp [intCells, intAt, List.getD_eq_getElem?_getD]
@[go_sem] theorem intOne (a : List Int) (i : Nat) : (intCells a i).all oneAV = true := rfl
open Go.Maps (Keyed)
def noOp : POp := ⟨⟨#[]⟩, 0, 0, 0⟩
theorem zeroOpV : zeroIs Tryz.prog 133 (opV noOp) := fun w => Tryz.zeroValue133 w
def Uniq (l : List POp) : Prop := ∀ i j, i < l.length → j < l.length → (opAt l i).text = (opAt l j).text → ((opAt l i).kind == 1) = ((opAt l j).kind == 1) → opAt l i = opAt l j
theorem uniq_of_ok {l : List POp} (h : tblOk l = 0) : Uniq l := by
 have hc : tblClash l 3 = false := by
  unfold tblOk at h
  cases hh : tblClash l 3
  ·rfl
  ·rw [hh] at h
   split at h
   ·cases h
   ·split at h
    ·cases h
    ·simp at h
 intro i j hi hj e1 e2
 have no : ∀ i j, i < l.length → j < i → clash (opAt l i) (opAt l j) 3 = true → False := fun i j hi hj hcl => by
  have := (tblClash_iff l 3).2 ⟨i, hi, j, hj, hcl⟩
  rw [hc] at this
  cases this
 rcases Nat.lt_trichotomy i j with hlt | rfl | hlt
 ·exact (no j i hj hlt (by simp [clash, e1, e2])).elim
 ·rfl
 ·exact (no i j hi hlt (by simp [clash, e1, e2])).elim
theorem at_cases {l : List POp} {es : List (Value × Value)} (h : AtIs l l.length es) (z : ByteArray) (pre : Bool) :
  (mget es (.agg #[.string z, .bool pre]) = none ∧ ∀ j, j < l.length → ¬ ((opAt l j).text = z ∧ ((opAt l j).kind == 1) = pre)) ∨
  ∃ j, j < l.length ∧ mget es (.agg #[.string z, .bool pre]) = some (opV (opAt l j)) ∧ (opAt l j).text = z ∧ ((opAt l j).kind == 1) = pre := by
 cases hm : mget es (.agg #[.string z, .bool pre]) with
 | none =>
  refine .inl ⟨rfl, fun j hj e => ?_⟩
  have := h.1 j hj
  rw [placeV, e.1, e.2, hm] at this
  cases this
 | some v =>
  obtain ⟨j, hj, e1, e2⟩ := h.2 _ _ hm
  simp only [placeV, Value.agg.injEq, Array.mk.injEq, List.cons.injEq, Value.string.injEq, Value.bool.injEq, and_true] at e1
  exact .inr ⟨j, hj, by rw [e2], e1.1.symm, e1.2.symm⟩
theorem opHas_iff (l : List POp) (z : ByteArray) (k : Int) : opHas l z k = true ↔ ∃ j, j < l.length ∧ (opAt l j).text = z ∧ (opAt l j).kind = k := by
 simp [opHas]
theorem c_of (l : List POp) (hu : Uniq l) (b1 b2 : Nat) (es : List (Value × Value)) (h : AtIs l l.length es) (z : ByteArray) (hz : z.size ≤ maxLen) (k : Int) : VProc Tryz.prog 91 [.agg [.lit (.map (some b1)), .lit (.map (some b2))], .lit (.string z), .lit (.int .i64 k)] [] [(b1, ⟨151, es⟩)] (fun av mem maps => (∃ o : POp, av = .tup [.agg o.cells, .lit (.bool (opHas l z k))] ∧ (opHas l z k = true → ∃ j, j < l.length ∧ o = opAt l j ∧ o.text = z ∧ o.kind = k)) ∧ mem = [] ∧ maps = [(b1, ⟨151, es⟩)]) := by
 have fin : ∀ (t : List (Nat × AV)) (m : List (Option Ob)) (o : POp), (opHas l z k = true → ∃ j, j < l.length ∧ o = opAt l j ∧ o.text = z ∧ o.kind = k) → vendP [(b1, ⟨151, es⟩)] (fun av mem maps => (∃ o : POp, av = .tup [.agg o.cells, .lit (.bool (opHas l z k))] ∧ (opHas l z k = true → ∃ j, j < l.length ∧ o = opAt l j ∧ o.text = z ∧ o.kind = k)) ∧ mem = [] ∧ maps = [(b1, ⟨151, es⟩)]) ⟨t, m, [(b1, ⟨151, es⟩)], 0⟩ (.tup [.agg o.cells, .lit (.bool (opHas l z k))]) := by
  intro t m o ho
  refine ⟨rfl, [], [], by simp, by simp, by simp [go_sem, POp.cells], by simp [go_sem], by simp [go_sem], ?_⟩
  simp only [POp.cells]
  exact ⟨⟨o, rfl, ho⟩, by simp [go_sem], by simp⟩
 refine vproc_start Tryz.func91 (by kernel_rfl) rfl (by simp [Tryz.ntmps91]) ?_; simp only [Tryz.ntmps91, Tryz.results91]; simp [go_sem]
 refine vlookK_use keyedPlace (keyPlace hz) _ zeroOpV ?_
 rcases at_cases h z (k == 1) with ⟨h1, h3⟩ | ⟨j, hj, h1, h3, h4⟩
 ·rw [h1]
  have hno : opHas l z k = false := by
   rw [Bool.eq_false_iff]
   intro e
   obtain ⟨j, hj, e1, e2⟩ := (opHas_iff l z k).1 e
   exact h3 j hj ⟨e1, by rw [e2]⟩
  simp [go_sem, opV, noOp]
  refine vc_drawnE (⟨[(6, .ptr 0 4 0 0), (7, .lit (.bool false))], [some ⟨133, 4, 1, fun _ => noOp.cells⟩], [(b1, ⟨151, es⟩)], 0⟩) [8] (.q 0 <| .q 1 <| .q 2 <| .or 3 (.or 4 (.or 5 (.or 6 (.or 7 (.or 8 (.q 9 <| .done) (.nil)) (.or 8 (.q 7 <| .q 9 <| .done) (.nil))) (.or 8 (.q 6 <| .q 7 <| .q 9 <| .done) (.nil))) (.or 8 (.q 5 <| .q 6 <| .q 7 <| .q 9 <| .done) (.nil))) (.or 5 (.or 4 (.or 6 (.or 7 (.or 8 (.q 9 <| .done) (.nil)) (.or 8 (.q 7 <| .q 9 <| .done) (.nil))) (.or 8 (.q 6 <| .q 7 <| .q 9 <| .done) (.nil))) (.or 8 (.q 4 <| .q 6 <| .q 7 <| .q 9 <| .done) (.nil))) (.or 8 (.q 4 <| .q 5 <| .q 6 <| .q 7 <| .q 9 <| .done) (.nil)))) (.or 5 (.or 3 (.or 4 (.or 6 (.or 7 (.or 8 (.q 9 <| .done) (.nil)) (.or 8 (.q 7 <| .q 9 <| .done) (.nil))) (.or 8 (.q 6 <| .q 7 <| .q 9 <| .done) (.nil))) (.or 8 (.q 4 <| .q 6 <| .q 7 <| .q 9 <| .done) (.nil))) (.or 8 (.q 3 <| .q 4 <| .q 6 <| .q 7 <| .q 9 <| .done) (.nil))) (.or 8 (.q 3 <| .q 4 <| .q 5 <| .q 6 <| .q 7 <| .q 9 <| .done) (.nil)))) (by kernel_rfl) ?_ ?_
  ·simp [go_sem]
   repeat' apply And.intro
   all_goals
    refine ent_ks [1] (by simp) (by simp) (by simp) (by simp) (by simp [go_sem]) ?_ ?_
    ·simp [go_sem]
    ·simp [go_sem, noOp, POp.cells]
  ·have := fin [(6, .ptr 0 4 0 0), (7, .lit (.bool false))] [some ⟨133, 4, 1, fun _ => noOp.cells⟩] noOp (fun e => by rw [hno] at e; cases e)
   rw [hno] at this ⊢
   simp only [POp.cells, noOp] at this
   simp [go_sem, noOp, POp.cells] at this ⊢
   exact this
 ·rw [h1]
  have hyes : opHas l z k = ((opAt l j).kind == k) := by
   rw [Bool.eq_iff_iff, opHas_iff]
   simp only [beq_iff_eq]
   constructor
   ·rintro ⟨j', hj', e1, e2⟩
    have := hu j' j hj' hj (by rw [e1, h3]) (by rw [e2, h4])
    rw [← this]; exact e2
   ·exact fun e => ⟨j, hj, h3, e⟩
  have hfin := fin [(6, .ptr 0 4 0 0), (7, .lit (.bool ((opAt l j).kind == k)))] [some ⟨133, 4, 1, fun _ => (opAt l j).cells⟩] (opAt l j) (fun e => ⟨j, hj, rfl, h3, by rw [hyes] at e; simpa using e⟩)
  rw [hyes] at hfin ⊢
  simp [go_sem, opV]
  refine vc_drawnE (⟨[(6, .ptr 0 4 0 0), (7, .lit (.bool ((opAt l j).kind == k)))], [some ⟨133, 4, 1, fun _ => (opAt l j).cells⟩], [(b1, ⟨151, es⟩)], 0⟩) [8] (.q 0 <| .q 1 <| .q 2 <| .or 3 (.or 4 (.or 5 (.or 6 (.or 7 (.or 8 (.q 9 <| .done) (.nil)) (.or 8 (.q 7 <| .q 9 <| .done) (.nil))) (.or 8 (.q 6 <| .q 7 <| .q 9 <| .done) (.nil))) (.or 8 (.q 5 <| .q 6 <| .q 7 <| .q 9 <| .done) (.nil))) (.or 5 (.or 4 (.or 6 (.or 7 (.or 8 (.q 9 <| .done) (.nil)) (.or 8 (.q 7 <| .q 9 <| .done) (.nil))) (.or 8 (.q 6 <| .q 7 <| .q 9 <| .done) (.nil))) (.or 8 (.q 4 <| .q 6 <| .q 7 <| .q 9 <| .done) (.nil))) (.or 8 (.q 4 <| .q 5 <| .q 6 <| .q 7 <| .q 9 <| .done) (.nil)))) (.or 5 (.or 3 (.or 4 (.or 6 (.or 7 (.or 8 (.q 9 <| .done) (.nil)) (.or 8 (.q 7 <| .q 9 <| .done) (.nil))) (.or 8 (.q 6 <| .q 7 <| .q 9 <| .done) (.nil))) (.or 8 (.q 4 <| .q 6 <| .q 7 <| .q 9 <| .done) (.nil))) (.or 8 (.q 3 <| .q 4 <| .q 6 <| .q 7 <| .q 9 <| .done) (.nil))) (.or 8 (.q 3 <| .q 4 <| .q 5 <| .q 6 <| .q 7 <| .q 9 <| .done) (.nil)))) (by kernel_rfl) ?_ ?_
  ·simp [go_sem]
   repeat' apply And.intro
   all_goals
    refine ent_ks [1] (by simp) (by simp) (by simp) (by simp) (by simp [go_sem]) ?_ ?_
    ·simp [go_sem]
    ·simp [go_sem, POp.cells]
  ·simp only [POp.cells] at hfin
   simp [go_sem, POp.cells] at hfin ⊢
   exact hfin
end Go.Proofs.YtjdmmhcogmepaaaGreatDoor.V
namespace Go.Proofs.YtjdmmhcogmepaaaGreatDoor.V
open Go.RowKit
theorem tblOk_ops {l : List POp} (h : tblOk l = 0) : tblOps l = true := by
 unfold tblOk at h
 split at h
 ·cases h
 ·split at h
  ·cases h
  ·simp_all
theorem c_Lex (l : List POp) (hl : l.length ≤ 9223372036854775807) (hw : opsWf l) (z : ByteArray) (hz : z.size ≤ 1048576) : VFun Tryz.prog 49 [.agg [.sl 4 l.length (opCells l)], .lit (.string z)] (fun av obs => (lexOk l z = false ∧ av = .tup [.lit (.slice none 0 0), .lit (.bool false)] ∧ obs = []) ∨ (lexOk l z = true ∧ av = .tup [.own 0, .lit (.bool true)] ∧ obs = [⟨88, 3, (lexZ l z).length, tokCells (lexZ l z)⟩])) := by
 have cl : ∀ (i : Nat) (c : AV), i < l.length → c ∈ opCells l i → Closed c := fun i c _ h => opClosed l i c h
 refine vfun_start Tryz.func49 (by kernel_rfl) rfl (by simp [Tryz.ntmps49]) ?_; simp only [Tryz.ntmps49, Tryz.results49]; simp [go_sem]
 refine vcall_pure (c_TableOk l hl hw) ?_ ?_
 ·simp [go_sem]
  exact argSl_refl (by omega) cl
 ·simp [go_sem]
  refine ⟨fun h0 => ⟨fun h1 => by simp [lexOk]; omega, fun h1 => ?_⟩, fun h0 => by simp [lexOk, h0]⟩
  have hok : lexOk l z = true := by simp [lexOk, h0]; omega
  have hops := tblOk_ops h0
  have hz2 : z.size ≤ 20000 := by omega
  refine vcall_share [] (c_indexOf l hl hw) (by simp) ?_ ?_ ?_ ?_
  ·simp [go_sem]
   exact cl
  ·simp [go_sem]
  ·simp [go_sem]
  ·rintro av mem maps ⟨b1, b2, e1, e2, rfl, rfl, rfl, hb, hat, htx⟩
   have hb' : ¬ b2 = b1 := fun e => hb e.symm
   simp [go_sem]
   refine vc_loopE (fun p : List PTok × Nat => p.2 ≤ z.size ∧ p.1.length ≤ p.2 ∧ lexFrom l z 0 = p.1 ++ lexFrom l z p.2) (fun p => z.size - p.2) (fun p => ⟨[(1, .lit (.string z)), (6, .ptr 0 2 0 0), (7, .own 1), (8, .lit (.int .i64 p.2))], [some ⟨70, 2, 1, fun _ => [.lit (.map (some b1)), .lit (.map (some b2))]⟩, some ⟨88, 3, p.1.length, tokCells p.1⟩], [(b2, ⟨9, e2⟩), (b1, ⟨151, e1⟩)], 0⟩) ⟨([], 0), ⟨by omega, by simp, by simp⟩, ?_⟩ (fun p hp => ?_)
   ·refine ent_ks [1, 2] (by simp) (by simp) (by simp) (by simp) (by simp [go_sem, hb']) ?_ ?_
    ·simp [go_sem]
    ·simp [go_sem]
   ·obtain ⟨toks, f⟩ := p
    obtain ⟨hp1, hp2, hp3⟩ := hp
    simp only at hp1 hp2 hp3
    simp [go_sem]
    refine vc_loop (fun j : Nat => f ≤ j ∧ j ≤ z.size ∧ f + run isBl z f = j + run isBl z j) (fun j => z.size - j) (fun j => ⟨[(1, .lit (.string z)), (6, .ptr 0 2 0 0), (7, .own 1), (8, .lit (.int .i64 f)), (9, .lit (.int .i64 j))], [some ⟨70, 2, 1, fun _ => [.lit (.map (some b1)), .lit (.map (some b2))]⟩, some ⟨88, 3, toks.length, tokCells toks⟩], [(b2, ⟨9, e2⟩), (b1, ⟨151, e1⟩)], 0⟩) ⟨f, ⟨by omega, by omega, by omega⟩, ?_⟩ (fun j hj => ?_)
    ·simp [go_sem]
     exact ⟨hb', fun i _ c h => .closed _ (tokClosed _ i c h)⟩
    ·obtain ⟨hj1, hj2, hj3⟩ := hj
     have tl : ∀ (i : Nat), i < toks.length → ∀ (c : AV), c ∈ tokCells toks i → Bd 2 c := fun i _ c h => .closed _ (tokClosed _ i c h)
     by_cases hlt : j < z.size
     ·have again : isBl (byteAt z j) = true → ∃ j_1 : Nat, (f ≤ j_1 ∧ j_1 ≤ z.size ∧ f + run isBl z f = j_1 + run isBl z j_1) ∧ z.size - j_1 < z.size - j ∧ ¬b2 = b1 ∧ IntKind.i64.wrap ((j : Int) + 1) = j_1 ∧ ∀ (i : Nat), i < toks.length → ∀ (c : AV), c ∈ tokCells toks i → Bd 2 c := fun e =>
       ⟨j + 1, ⟨by omega, by omega, by rw [hj3, run_yes hlt e]; omega⟩, by omega, hb', wrap_succ (by omega), tl⟩
      cases hbl : isBl (byteAt z j) with
      | true =>
       have hc : byteAt z j = 32 ∨ byteAt z j = 9 ∨ byteAt z j = 10 := by
        simpa [isBl, or_assoc] using hbl
       rcases hc with e | e | e
       ·simp [go_sem, hlt, e]
        exact again hbl
       ·simp [go_sem, hlt, e]
        exact again hbl
       ·simp [go_sem, hlt, e]
        exact again hbl
      | false =>
       have hc : (byteAt z j == 32) = false ∧ (byteAt z j == 9) = false ∧ (byteAt z j == 10) = false := by
        simp only [isBl, decide_eq_false_iff_not, not_or] at hbl
        simp [hbl]
       have hj4 : j = f + run isBl z f := by rw [hj3, run_no hlt hbl]; rfl
       simp [go_sem, hlt, hc]
       refine vc_drawn [4] (.q 0 <| .q 1 <| .q 2 <| .q 3 <| .or 4 (.q 5 <| .q 6 <| .q 7 <| .q 8 <| .q 9 <| .done) (.nil)) (by kernel_rfl) ?_
       simp [go_sem, hlt, hc]
       have hfr := front_eq l hops z j hlt
       have hle := longest_le l z j hlt
       have hge := longest_ge l z j
       refine ⟨by omega, vcall_share [] (c_front l b1 b2 e2 e1 htx hb (z.extract j z.size) (by rw [ByteArray.size_extract]; omega)) (by simp) ?_ ?_ ?_ ?_⟩
       ·simp [go_sem]
       ·simp [go_sem]
       ·simp [go_sem]
       ·rintro av mem maps ⟨rfl, rfl, rfl⟩
        rw [hfr]
        simp [go_sem]
        refine vc_drawn [14] (.q 0 <| .q 1 <| .q 2 <| .q 3 <| .q 4 <| .q 5 <| .q 6 <| .q 7 <| .q 8 <| .q 9 <| .q 10 <| .q 11 <| .q 12 <| .or 13 (.or 14 (.q 15 <| .done) (.nil)) (.nil)) (by kernel_rfl) ?_
        simp [go_sem]
        simp only [wrap_i64 (n := (j : Int) + longest l z j) (by omega), show ((j : Int) + longest l z j).toNat = j + longest l z j by omega]
        have hn : lexFrom l z f = ⟨kindZ l (z.extract j (j + longest l z j)), z.extract f j, z.extract j (j + longest l z j)⟩ :: lexFrom l z (j + longest l z j) := lexFrom_go hj4 hlt
        refine ⟨by omega, by omega, by omega, by omega, by omega, by omega, toks ++ [⟨kindZ l (z.extract j (j + longest l z j)), z.extract f j, z.extract j (j + longest l z j)⟩], j + longest l z j, ⟨by omega, by simp; omega, by rw [hp3, hn]; simp⟩, by omega, ?_⟩
        refine ent_ks [0, 3] (by simp) (by simp) (by simp) (by simp) (by simp [go_sem, hb']) ?_ ?_
        ·simp [go_sem]
        ·simp [go_sem]
         exact .inl fun i hi => ⟨tok_app1 _ _ _ _ _ hi, fun c h => tokClosed _ i c h⟩
     ·have hj5 : j = z.size := by omega
      subst hj5
      have hj4 : z.size = f + run isBl z f := by rw [hj3, run_end (by omega)]; rfl
      simp [go_sem]
      refine ⟨hp1, by omega, by omega, ?_, hok⟩
      have e3 : lexZ l z = toks ++ [⟨7, z.extract f z.size, ⟨#[]⟩⟩] := by
       simp only [lexZ, hok, if_true, hp3]
       rw [lexFrom_end hj4 (by omega)]
      rw [e3]
      exact obsSame_one.mpr ⟨⟨88, 3, toks.length + 1, tokCells (toks ++ [⟨7, z.extract f z.size, ⟨#[]⟩⟩])⟩, ⟨rfl, rfl, rfl, fun i hi => ⟨tok_app1 _ _ _ _ _ hi, rfl⟩⟩, by simp⟩
theorem VFun.adopt {P : Program} {f : FuncId} {args : List AV} {R R' : AV → List Ob → Prop} (h : VFun P f args R) (ty sz : Nat) (hsz : 0 < sz) (g : Nat → List AV)
  (hr : ∀ av obs, R av obs → R' av obs ∨ ∃ x, av = .tup [.lit (.slice none 0 0), .lit x] ∧ obs = [] ∧ R' (.tup [.own 0, .lit x]) [⟨ty, sz, 0, g⟩]) : VFun P f args R' := by
 refine ⟨h.1, fun w vs hl hv => (h.2 w vs hl hv).mono fun e w' ⟨v, e1, gr, hd, av, obs, r, fl, hlit, hm, hrep⟩ => ?_⟩
 rcases hr av obs r with r' | ⟨x, rfl, rfl, r'⟩
 ·exact ⟨v, e1, gr, hd, av, obs, r', fl, hlit, hm, hrep⟩
 ·refine ⟨v, e1, gr, fun _ => .slice none 0 0, _, _, r', rfl, fun ob ho i hi => ?_, ⟨fun k ob hk b hb => ?_, fun k ob hk => ?_, fun k hk => ⟨none, 0, 0, rfl⟩, fun k k' o o' hk hk' hne => .inl rfl⟩, ?_⟩
  ·simp only [List.mem_singleton] at ho
   subst ho
   simp at hi
  ·simp [Value.ownBlock] at hb
  ·cases k with
   | zero =>
    simp only [List.map_cons, List.map_nil, List.getElem?_cons_zero, Option.some.injEq] at hk
    subst hk
    exact ⟨hsz, [], ⟨by simp, .inl ⟨rfl, rfl⟩⟩, fun i hi => by simp at hi⟩
   | succ k => simp at hk
  ·cases hrep with
   | tup _ us hl2 hr2 =>
    match us, hl2 with
    | [u1, u2], _ =>
     have q1 := hr2 0 _ u1 rfl rfl
     have q2 := hr2 1 _ u2 rfl rfl
     cases q1
     cases q2
     refine .tup _ [.slice none 0 0, x] rfl fun j a u ha hu => ?_
     match j with
     | 0 =>
      simp only [List.getElem?_cons_zero, Option.some.injEq] at ha hu
      subst ha; subst hu
      exact .own (hd := fun _ => .slice none 0 0) 0 (by simp)
     | 1 =>
      simp only [List.getElem?_cons_succ, List.getElem?_cons_zero, Option.some.injEq] at ha hu
      subst ha; subst hu
      exact .lit _
     | j + 2 => simp at ha
theorem lexFrom_len (l : List POp) (z : ByteArray) (f : Nat) (h : f ≤ z.size) : (lexFrom l z f).length + f ≤ z.size + 1 := by
 by_cases hi : f + run isBl z f < z.size
 ·rw [lexFrom_go rfl hi]
  have h1 := longest_ge l z (f + run isBl z f)
  have h2 := longest_le l z (f + run isBl z f) hi
  have := lexFrom_len l z (f + run isBl z f + longest l z (f + run isBl z f)) h2
  simp only [List.length_cons]
  omega
 ·rw [lexFrom_end rfl hi]
  simp
  omega
termination_by z.size - f
set_option maxRecDepth 10000 in
theorem c_Roles (l : List POp) (hl : l.length ≤ 9223372036854775807) (hw : opsWf l) (t : List PTok) (ht : t.length ≤ 1048576) (hz : ∀ i, i < t.length → (tokAt t i).text.size ≤ maxLen) : VFun Tryz.prog 50 [.agg [.sl 4 l.length (opCells l)], .sl 3 t.length (tokCells t)] (fun av obs => (∃ x, rolesZ l t = ([], x) ∧ av = .tup [.lit (.slice none 0 0), .lit (.int .i64 x)] ∧ obs = []) ∨ (av = .tup [.own 0, .lit (.int .i64 (rolesZ l t).2)] ∧ obs = [⟨3, 1, (rolesZ l t).1.length, intCells (rolesZ l t).1⟩])) := by
 have cl : ∀ (i : Nat) (c : AV), i < l.length → c ∈ opCells l i → Closed c := fun i c _ h => opClosed l i c h
 have clt : ∀ (i : Nat) (c : AV), i < t.length → c ∈ tokCells t i → Closed c := fun i c _ h => tokClosed t i c h
 refine vfun_start Tryz.func50 (by kernel_rfl) rfl (by simp [Tryz.ntmps50]) ?_; simp only [Tryz.ntmps50, Tryz.results50]; simp [go_sem]
 refine vcall_pure (c_TableOk l hl hw) ?_ ?_
 ·simp [go_sem]
  exact argSl_refl (by omega) cl
 ·simp [go_sem]
  refine ⟨fun h0 => by simp [rolesZ, h0], fun h0 => ?_⟩
  have hu := uniq_of_ok h0
  have nil_ : ∀ x, rolesZ l t = ([], x) → rolesZ l t = ([], x) ∨ False := fun x h => .inl h
  refine vcall_share [] (c_indexOf l hl hw) (by simp) ?_ ?_ ?_ ?_
  ·simp [go_sem]
   exact cl
  ·simp [go_sem]
  ·simp [go_sem]
  ·rintro av mem maps ⟨b1, b2, e1, e2, rfl, rfl, rfl, hb, hat, htx⟩
   have hb' : ¬ b2 = b1 := fun e => hb e.symm
   simp [go_sem]
   refine ⟨by omega, by omega, by omega, by omega, ?_⟩
   refine vc_loopE (fun i : Nat => i ≤ t.length ∧ (∀ j, j < i → 0 ≤ roleAt l t j (stAt l t j)) ∧ (∀ j, j < i → (tokAt t j).kind ≠ 7) ∧ 0 ≤ openAt t i) (fun i => t.length - i) (fun i => ⟨[(1, .sl 3 t.length (tokCells t)), (6, .ptr 0 2 0 0), (7, .own 1), (8, .lit (.bool !(stAt l t i))), (9, .lit (.int .i64 (openAt t i))), (27, .sl 3 t.length (tokCells t)), (28, .lit (.int .i64 t.length)), (29, .lit (.int .i64 i))], [some ⟨70, 2, 1, fun _ => [.lit (.map (some b1)), .lit (.map (some b2))]⟩, some ⟨3, 1, (rolesUp l t i).length, intCells (rolesUp l t i)⟩], [(b2, ⟨9, e2⟩), (b1, ⟨151, e1⟩)], 0⟩) ⟨0, ⟨by omega, by simp, by simp, by simp [openAt]⟩, ?_⟩ (fun i hi => ?_)
   ·refine ent_ks [1, 2] (by simp) (by simp) (by simp) (by simp) (by simp [go_sem, hb']) ?_ ?_
    ·simp [go_sem, stAt, openAt]
     exact clt
    ·simp [go_sem, rolesUp]
   ·obtain ⟨h1, h2, h3, h4⟩ := hi
    have hop := openAt_le t i
    have hlen := rolesUp_len l t i
    have hsucc := rolesUp_succ l t i
    by_cases h : i < t.length
    ·have bad : roleAt l t i (stAt l t i) < 0 → rolesZ l t = ([], (i : Int)) := fun e => by
      have := firstBad_some h h2 e
      simp [rolesZ, h0, this]
     have next : 0 ≤ roleAt l t i (stAt l t i) → (tokAt t i).kind ≠ 7 → 0 ≤ openAt t (i + 1) → i + 1 ≤ t.length ∧ (∀ j, j < i + 1 → 0 ≤ roleAt l t j (stAt l t j)) ∧ (∀ j, j < i + 1 → (tokAt t j).kind ≠ 7) ∧ 0 ≤ openAt t (i + 1) := fun a1 a2 a3 => by
      refine ⟨by omega, fun j hj => ?_, fun j hj => ?_, a3⟩
      ·rcases Nat.lt_succ_iff_lt_or_eq.mp hj with hj | rfl
       ·exact h2 j hj
       ·exact a1
      ·rcases Nat.lt_succ_iff_lt_or_eq.mp hj with hj | rfl
       ·exact h3 j hj
       ·exact a2
     have app : ∀ (r : Int), roleAt l t i (stAt l t i) = r → ∀ j, j < i + 1 → joinF i (intCells (rolesUp l t i)) (fun q => [[AV.lit (.int .i64 r)]][q]?.getD []) j = intCells (rolesUp l t i ++ [roleAt l t i (stAt l t i)]) j := fun r e j hj => by
      have := int_app1 (rolesUp l t i) (roleAt l t i (stAt l t i)) j (by rw [hlen]; exact hj)
      rw [hlen, e] at this
      rw [e]; exact this
     cases hst : stAt l t i with
     | false =>
      rw [hst] at bad app
      by_cases k1 : (tokAt t i).kind = 1
      ·have hst' : stAt l t (i + 1) = true := by simp [stAt, hst, k1]
       have ho' : openAt t (i + 1) = openAt t i := by simp [openAt, k1]
       simp [go_sem, tokCells_at, h, hst, k1, hlen]
       refine ⟨by omega, by omega, i + 1, next (by rw [hst]; simp [roleAt, k1]) (by omega) (by rw [ho']; omega), by omega, ?_⟩
       refine ent_ks [0, 4] (by simp) (by simp) (by simp) (by simp) (by simp [go_sem, hb', hb]) ?_ ?_
       ·simp [go_sem, hst', ho']
        exact ⟨clt, wrap_succ (by omega)⟩
       ·simp [go_sem, hsucc, hlen, hst]
        exact .inl fun j hj => ⟨app 0 (by simp [roleAt, k1]) j hj, intClosed _ _⟩
      ·by_cases k2 : (tokAt t i).kind = 2
       ·have hst' : stAt l t (i + 1) = true := by simp [stAt, hst, k2]
        have ho' : openAt t (i + 1) = openAt t i := by simp [openAt, k2]
        simp [go_sem, tokCells_at, h, hst, k2, hlen]
        refine ⟨by omega, by omega, i + 1, next (by rw [hst]; simp [roleAt, k2]) (by omega) (by rw [ho']; omega), by omega, ?_⟩
        refine ent_ks [0, 4] (by simp) (by simp) (by simp) (by simp) (by simp [go_sem, hb', hb]) ?_ ?_
        ·simp [go_sem, hst', ho']
         exact ⟨clt, wrap_succ (by omega)⟩
        ·simp [go_sem, hsucc, hlen, hst]
         exact .inl fun j hj => ⟨app 0 (by simp [roleAt, k2]) j hj, intClosed _ _⟩
       ·by_cases k4 : (tokAt t i).kind = 4
        ·have hst' : stAt l t (i + 1) = false := by simp [stAt, hst, k4]
         have ho' : openAt t (i + 1) = openAt t i + 1 := by simp [openAt, k4]
         simp [go_sem, tokCells_at, h, hst, k4, hlen]
         refine ⟨by omega, by omega, i + 1, next (by rw [hst]; simp [roleAt, k4]) (by omega) (by rw [ho']; omega), by omega, ?_⟩
         refine ent_ks [0, 4] (by simp) (by simp) (by simp) (by simp) (by simp [go_sem, hb', hb]) ?_ ?_
         ·simp [go_sem, hst', ho']
          exact ⟨clt, wrap_i64 (by omega), clt, wrap_succ (by omega)⟩
         ·simp [go_sem, hsucc, hlen, hst]
          exact .inl fun j hj => ⟨app 0 (by simp [roleAt, k4]) j hj, intClosed _ _⟩
        ·by_cases k3 : (tokAt t i).kind = 3
         ·simp [go_sem, tokCells_at, h, hst, k3, hlen]
          refine vcall_share [] (c_of l hu b1 b2 e1 hat (tokAt t i).text (hz i h) 1) (by simp) ?_ ?_ ?_ ?_
          ·simp [go_sem]
          ·simp [go_sem]
          ·simp [go_sem, hb']
          ·rintro av mem maps ⟨⟨o1, rfl, ho1⟩, rfl, rfl⟩
           cases hp : opHas l (tokAt t i).text 1 with
           | false =>
            simp [go_sem, hp, POp.cells]
            exact bad (by simp [roleAt, k3, hp])
           | true =>
            have hst' : stAt l t (i + 1) = false := by simp [stAt, hst, k3]
            have ho' : openAt t (i + 1) = openAt t i := by simp [openAt, k3]
            simp [go_sem, hp, hlen, POp.cells]
            refine ⟨by omega, by omega, i + 1, next (by rw [hst]; simp [roleAt, k3, hp]) (by omega) (by rw [ho']; omega), by omega, ?_⟩
            refine ent_ks [0, 5] (by simp) (by simp) (by simp) (by simp) (by simp [go_sem, hb', hb]) ?_ ?_
            ·simp [go_sem, hst', ho']
             exact ⟨clt, wrap_succ (by omega)⟩
            ·simp [go_sem, hsucc, hlen, hst]
             exact .inl fun j hj => ⟨app 1 (by simp [roleAt, k3, hp]) j hj, intClosed _ _⟩
         ·have q1 : ((tokAt t i).kind == 1) = false := by simpa using k1
          have q2 : ((tokAt t i).kind == 2) = false := by simpa using k2
          have q3 : ((tokAt t i).kind == 3) = false := by simpa using k3
          have q4 : ((tokAt t i).kind == 4) = false := by simpa using k4
          simp [go_sem, tokCells_at, h, hst, q1, q2, q3, q4, hlen]
          exact bad (by simp [roleAt, k1, k2, k3, k4])
     | true =>
      rw [hst] at bad app
      by_cases k3 : (tokAt t i).kind = 3
      ·simp [go_sem, tokCells_at, h, hst, k3, hlen]
       refine vcall_share [] (c_of l hu b1 b2 e1 hat (tokAt t i).text (hz i h) 2) (by simp) ?_ ?_ ?_ ?_
       ·simp [go_sem]
       ·simp [go_sem]
       ·simp [go_sem, hb']
       ·rintro av mem maps ⟨⟨o2, rfl, ho2⟩, rfl, rfl⟩
        cases hp : opHas l (tokAt t i).text 2 with
        | true =>
         have hno : opHas l (tokAt t i).text 3 = false := by
          rw [Bool.eq_false_iff]
          intro e
          obtain ⟨j, hj, e3, e4⟩ := (opHas_iff _ _ _).1 e
          obtain ⟨j', hj', e5, e6⟩ := (opHas_iff _ _ _).1 hp
          have := hu j j' hj hj' (by rw [e3, e5]) (by rw [e4, e6]; rfl)
          rw [this, e6] at e4
          cases e4
         have hst' : stAt l t (i + 1) = false := by simp [stAt, hst, k3, hno]
         have ho' : openAt t (i + 1) = openAt t i := by simp [openAt, k3]
         simp [go_sem, hp, hlen, POp.cells]
         refine ⟨by omega, by omega, i + 1, next (by rw [hst]; simp [roleAt, k3, hp]) (by omega) (by rw [ho']; omega), by omega, ?_⟩
         refine ent_ks [0, 5] (by simp) (by simp) (by simp) (by simp) (by simp [go_sem, hb', hb]) ?_ ?_
         ·simp [go_sem, hst', ho']
          exact ⟨clt, wrap_succ (by omega)⟩
         ·simp [go_sem, hsucc, hlen, hst]
          exact .inl fun j hj => ⟨app 2 (by simp [roleAt, k3, hp]) j hj, intClosed _ _⟩
        | false =>
         simp [go_sem, hp, POp.cells]
         refine vcall_share [] (c_of l hu b1 b2 e1 hat (tokAt t i).text (hz i h) 3) (by simp) ?_ ?_ ?_ ?_
         ·simp [go_sem]
         ·simp [go_sem]
         ·simp [go_sem, hb']
         ·rintro av mem maps ⟨⟨o3, rfl, ho3⟩, rfl, rfl⟩
          cases hq : opHas l (tokAt t i).text 3 with
          | true =>
           have hst' : stAt l t (i + 1) = true := by simp [stAt, hst, k3, hq]
           have ho' : openAt t (i + 1) = openAt t i := by simp [openAt, k3]
           simp [go_sem, hq, hlen, POp.cells]
           refine ⟨by omega, by omega, i + 1, next (by rw [hst]; simp [roleAt, k3, hp, hq]) (by omega) (by rw [ho']; omega), by omega, ?_⟩
           refine ent_ks [0, 6] (by simp) (by simp) (by simp) (by simp) (by simp [go_sem, hb', hb]) ?_ ?_
           ·simp [go_sem, hst', ho']
            exact ⟨clt, wrap_succ (by omega)⟩
           ·simp [go_sem, hsucc, hlen, hst]
            exact .inl fun j hj => ⟨app 3 (by simp [roleAt, k3, hp, hq]) j hj, intClosed _ _⟩
          | false =>
           simp [go_sem, hq, POp.cells]
           exact bad (by simp [roleAt, k3, hp, hq])
      ·have q3 : ((tokAt t i).kind == 3) = false := by simpa using k3
       by_cases k5 : (tokAt t i).kind = 5
       ·by_cases hpos : 0 < openAt t i
        ·have hst' : stAt l t (i + 1) = true := by simp [stAt, k5]
         have ho' : openAt t (i + 1) = openAt t i - 1 := by simp [openAt, k5]
         simp [go_sem, tokCells_at, h, hst, k5, hpos, hlen]
         refine ⟨by omega, by omega, i + 1, next (by rw [hst]; simp [roleAt, k5, hpos]) (by omega) (by rw [ho']; omega), by omega, ?_⟩
         refine ent_ks [0, 4] (by simp) (by simp) (by simp) (by simp) (by simp [go_sem, hb', hb]) ?_ ?_
         ·simp [go_sem, hst', ho']
          exact ⟨clt, wrap_i64 (by omega), clt, wrap_succ (by omega)⟩
         ·simp [go_sem, hsucc, hlen, hst]
          exact .inl fun j hj => ⟨app 0 (by simp [roleAt, k5, hpos]) j hj, intClosed _ _⟩
        ·have e0 : openAt t i = 0 := by omega
         simp [go_sem, tokCells_at, h, hst, k5, e0, hlen]
         exact bad (by simp [roleAt, k5, e0])
       ·have q5 : ((tokAt t i).kind == 5) = false := by simpa using k5
        by_cases k7 : (tokAt t i).kind = 7
        ·by_cases e0 : openAt t i = 0
         ·by_cases elast : i + 1 = t.length
          ·have ew : IntKind.i64.wrap ((t.length : Int) - 1) = i := by rw [wrap_i64 (by omega)]; omega
           simp [go_sem, tokCells_at, h, hst, k7, e0, hlen, ew]
           have hr0 : roleAt l t i true = 0 := by simp [roleAt, k7, e0, elast]
           have hn := firstBad_none (l := l) (t := t) fun j hj => by
            rcases Nat.lt_succ_iff_lt_or_eq.mp (show j < i + 1 by omega) with hj | rfl
            ·exact h2 j hj
            ·rw [hst, hr0]; omega
           have hlast : t.length - 1 = i := by omega
           have hzz : rolesZ l t = (rolesUp l t (i + 1), -1) := by
            have hne : endsOk t = true := by
             simp only [endsOk, hlast, k7, Bool.and_eq_true, decide_eq_true_eq]
             exact ⟨by omega, trivial⟩
            simp [rolesZ, h0, hn, hne, elast]
           rw [hzz]
           refine ⟨by omega, by omega, by omega, ?_, rfl⟩
           refine obsSame_one.mpr ⟨⟨3, 1, i + 1, intCells (rolesUp l t (i + 1))⟩, ⟨rfl, rfl, rfl, fun j hj => ⟨?_, rfl⟩⟩, by rw [rolesUp_len]⟩
           have := app 0 hr0 j hj
           rw [hsucc, hst]
           exact this
          ·have ew : ((i : Int) == IntKind.i64.wrap ((t.length : Int) - 1)) = false := by rw [wrap_i64 (by omega)]; simp; omega
           simp [go_sem, tokCells_at, h, hst, k7, e0, hlen, ew]
           exact ⟨by omega, bad (by simp [roleAt, k7, e0, elast])⟩
         ·have q0 : (openAt t i == 0) = false := by simpa using e0
          simp [go_sem, tokCells_at, h, hst, k7, q0, hlen]
          exact bad (by simp [roleAt, k7, e0])
        ·have q7 : ((tokAt t i).kind == 7) = false := by simpa using k7
         simp [go_sem, tokCells_at, h, hst, q3, q5, q7, hlen]
         exact bad (by simp [roleAt, k3, k5, k7])
    ·have e : i = t.length := by omega
     simp [go_sem, h]
     refine ⟨by omega, ?_⟩
     have hn := firstBad_none (l := l) (t := t) fun j hj => h2 j (by omega)
     have hne : endsOk t = false := by
      rw [Bool.eq_false_iff]
      intro e2
      simp only [endsOk, Bool.and_eq_true, decide_eq_true_eq] at e2
      exact h3 (t.length - 1) (by omega) e2.2
     simp [rolesZ, h0, hn, hne]
def bp (u : Bool) : AV := if u then .ptr 0 2 0 0 else .lit (.pointer none)
theorem c_RolesO (l : List POp) (hl : l.length ≤ 9223372036854775807) (hw : opsWf l) (t : List PTok) (ht : t.length ≤ 1048576) (hz : ∀ i, i < t.length → (tokAt t i).text.size ≤ maxLen) : VFun Tryz.prog 50 [.agg [.sl 4 l.length (opCells l)], .sl 3 t.length (tokCells t)] (fun av obs => av = .tup [.own 0, .lit (.int .i64 (rolesZ l t).2)] ∧ obs = [⟨3, 1, (rolesZ l t).1.length, intCells (rolesZ l t).1⟩]) := by
 refine (c_Roles l hl hw t ht hz).adopt 3 1 (by omega) (intCells []) fun av obs h => ?_
 rcases h with ⟨x, h1, rfl, rfl⟩ | h1
 ·refine .inr ⟨_, rfl, rfl, ?_⟩
  rw [h1]
  exact ⟨rfl, rfl⟩
 ·exact .inl h1
end Go.Proofs.YtjdmmhcogmepaaaGreatDoor.V
namespace Go.Proofs.YtjdmmhcogmepaaaGreatDoor.Ops
structure Lv where
 lev : Int
 srt : Int
def Lv.h1 (a : Lv) : Int := if a.srt = 1 then a.lev else a.lev + 1
def Lv.h2 (a : Lv) : Int := if a.srt = 2 then a.lev else a.lev + 1
inductive Tr (α β : Type) where
 | leaf (b : β)
 | grp (t : Tr α β)
 | pre (o : α) (t : Tr α β)
 | post (o : α) (t : Tr α β)
 | inf (o : α) (l r : Tr α β)
inductive Tk (α β : Type) where
 | leaf (b : β)
 | pre (o : α)
 | inf (o : α)
 | post (o : α)
 | opn
 | cls
variable {α β : Type} (v : α → Lv)
def Tr.level : Tr α β → Int
 | .leaf _ => 1001
 | .grp _ => 1001
 | .pre o _ => (v o).lev
 | .post o _ => (v o).lev
 | .inf o _ _ => (v o).lev
def Tr.yield : Tr α β → List (Tk α β)
 | .leaf b => [.leaf b]
 | .grp t => .opn :: (t.yield ++ [.cls])
 | .pre o t => .pre o :: t.yield
 | .post o t => t.yield ++ [.post o]
 | .inf o l r => l.yield ++ .inf o :: r.yield
def Tr.Adm : Tr α β → Prop
 | .leaf _ => True
 | .grp t => t.Adm
 | .pre o t => (v o).h2 ≤ t.level v ∧ t.Adm
 | .post o t => (v o).h1 ≤ t.level v ∧ t.Adm
 | .inf o l r => (v o).h1 ≤ l.level v ∧ (v o).h2 ≤ r.level v ∧ l.Adm ∧ r.Adm
def Tr.All (p : α → Prop) : Tr α β → Prop
 | .leaf _ => True
 | .grp t => t.All p
 | .pre o t => p o ∧ (v o).srt = 2 ∧ t.All p
 | .post o t => p o ∧ (v o).srt = 1 ∧ t.All p
 | .inf o l r => p o ∧ l.All p ∧ r.All p
structure Good (p : α → Prop) : Prop where
 low : ∀ a, p a → 1 ≤ (v a).lev
 high : ∀ a, p a → (v a).lev ≤ 1000
 one : ∀ a b, p a → p b → (v a).lev = (v b).lev → (v a).srt = (v b).srt
abbrev Res (α β : Type) := Option (Option (Tr α β × List (Tk α β)))
def firstF (ope : Int → List (Tk α β) → Res α β) (ts : List (Tk α β)) : Res α β :=
 match ts with
 | .leaf b :: r => some (some (.leaf b, r))
 | .opn :: r =>
  match ope 0 r with
  | none => none
  | some none => some none
  | some (some (t, rest)) =>
   match rest with
   | .cls :: r' => some (some (.grp t, r'))
   | _ => some none
 | .pre o :: r =>
  match ope (v o).h2 r with
  | none => none
  | some none => some none
  | some (some (t, rest)) => some (some (.pre o t, rest))
 | _ => some none
def loopF (ope : Int → List (Tk α β) → Res α β) (lp : Int → Tr α β → List (Tk α β) → Res α β) (m : Int) (l : Tr α β) (ts : List (Tk α β)) : Res α β :=
 match ts with
 | .inf o :: r =>
  if (v o).lev < m then some (some (l, ts))
  else if l.level v < (v o).h1 then some (some (l, ts))
  else
   match ope (v o).h2 r with
   | none => none
   | some none => some none
   | some (some (t, rest)) => lp m (.inf o l t) rest
 | .post o :: r =>
  if (v o).lev < m then some (some (l, ts))
  else if l.level v < (v o).h1 then some (some (l, ts))
  else lp m (.post o l) r
 | _ => some (some (l, ts))
mutual
def operand : Nat → Int → List (Tk α β) → Res α β
 | 0, _, _ => none
 | n + 1, m, ts =>
  match first n ts with
  | none => none
  | some none => some none
  | some (some (l, rest)) => if l.level v < m then some none else loop n m l rest
def first : Nat → List (Tk α β) → Res α β
 | 0, _ => none
 | n + 1, ts => firstF v (operand n) ts
def loop : Nat → Int → Tr α β → List (Tk α β) → Res α β
 | 0, _, _, _ => none
 | n + 1, m, l, ts => loopF v (operand n) (loop n) m l ts
end
theorem mono_all (n : Nat) :
  (∀ m (ts : List (Tk α β)) r, operand v n m ts = some r → operand v (n + 1) m ts = some r) ∧
  (∀ (ts : List (Tk α β)) r, first v n ts = some r → first v (n + 1) ts = some r) ∧
  (∀ m (l : Tr α β) ts r, loop v n m l ts = some r → loop v (n + 1) m l ts = some r) := by
 induction n with
 | zero => exact ⟨fun _ _ _ h => by simp [operand] at h, fun _ _ h => by simp [first] at h, fun _ _ _ _ h => by simp [loop] at h⟩
 | succ n ih =>
  obtain ⟨iho, ihf, ihl⟩ := ih
  refine ⟨fun m ts r h => ?_, fun ts r h => ?_, fun m l ts r h => ?_⟩
  ·rw [operand] at h ⊢
   cases hf : first v n ts with
   | none => rw [hf] at h; simp at h
   | some x =>
    rw [ihf _ _ hf]; rw [hf] at h
    cases x with
    | none => exact h
    | some y =>
     obtain ⟨l, rest⟩ := y
     simp only at h ⊢
     split
     ·rename_i hl; rw [if_pos hl] at h; exact h
     ·rename_i hl; rw [if_neg hl] at h; exact ihl _ _ _ _ h
  ·rw [first] at h ⊢; unfold firstF at h ⊢
   split at h
   ·exact h
   ·rename_i r0
    cases ho : operand v n 0 r0 with
    | none => rw [ho] at h; simp at h
    | some x => rw [iho _ _ _ ho]; rw [ho] at h; exact h
   ·rename_i o r0
    cases ho : operand v n (v o).h2 r0 with
    | none => rw [ho] at h; simp at h
    | some x => rw [iho _ _ _ ho]; rw [ho] at h; exact h
   ·exact h
  ·rw [loop] at h ⊢; unfold loopF at h ⊢
   split at h
   ·rename_i o r0
    split
    ·rename_i hc; rw [if_pos hc] at h; exact h
    ·rename_i hc; rw [if_neg hc] at h
     split
     ·rename_i hd; rw [if_pos hd] at h; exact h
     ·rename_i hd; rw [if_neg hd] at h
      cases ho : operand v n (v o).h2 r0 with
      | none => rw [ho] at h; simp at h
      | some x =>
       rw [iho _ _ _ ho]; rw [ho] at h
       cases x with
       | none => exact h
       | some y => exact ihl _ _ _ _ h
   ·rename_i o r0
    split
    ·rename_i hc; rw [if_pos hc] at h; exact h
    ·rename_i hc; rw [if_neg hc] at h
     split
     ·rename_i hd; rw [if_pos hd] at h; exact h
     ·rename_i hd; rw [if_neg hd] at h; exact ihl _ _ _ _ h
   ·exact h
theorem operand_le {n n' : Nat} (h : n ≤ n') {m} {ts : List (Tk α β)} {r} (e : operand v n m ts = some r) : operand v n' m ts = some r := by
 induction h with
 | refl => exact e
 | step _ ih => exact (mono_all v _).1 _ _ _ ih
theorem first_le {n n' : Nat} (h : n ≤ n') {ts : List (Tk α β)} {r} (e : first v n ts = some r) : first v n' ts = some r := by
 induction h with
 | refl => exact e
 | step _ ih => exact (mono_all v _).2.1 _ _ ih
theorem loop_le {n n' : Nat} (h : n ≤ n') {m} {l : Tr α β} {ts : List (Tk α β)} {r} (e : loop v n m l ts = some r) : loop v n' m l ts = some r := by
 induction h with
 | refl => exact e
 | step _ ih => exact (mono_all v _).2.2 _ _ _ _ ih
theorem sound_all (n : Nat) :
  (∀ m (ts : List (Tk α β)) t rest, operand v n m ts = some (some (t, rest)) → ts = t.yield ++ rest ∧ t.Adm v ∧ m ≤ t.level v) ∧
  (∀ (ts : List (Tk α β)) t rest, first v n ts = some (some (t, rest)) → ts = t.yield ++ rest ∧ t.Adm v) ∧
  (∀ m (l : Tr α β) ts t rest, loop v n m l ts = some (some (t, rest)) → l.Adm v → m ≤ l.level v → l.yield ++ ts = t.yield ++ rest ∧ t.Adm v ∧ m ≤ t.level v) := by
 induction n with
 | zero => exact ⟨fun _ _ _ _ h => by simp [operand] at h, fun _ _ _ h => by simp [first] at h, fun _ _ _ _ _ h => by simp [loop] at h⟩
 | succ n ih =>
  obtain ⟨iho, ihf, ihl⟩ := ih
  refine ⟨fun m ts t rest h => ?_, fun ts t rest h => ?_, fun m l ts t rest h ha hm => ?_⟩
  ·rw [operand] at h
   cases hf : first v n ts with
   | none => rw [hf] at h; simp at h
   | some x =>
    rw [hf] at h
    cases x with
    | none => simp at h
    | some y =>
     obtain ⟨l, r0⟩ := y
     simp only at h
     split at h
     ·simp at h
     ·rename_i hl
      obtain ⟨h1, h2⟩ := ihf _ _ _ hf
      obtain ⟨h3, h4, h5⟩ := ihl _ _ _ _ _ h h2 (by omega)
      exact ⟨by rw [h1, h3], h4, h5⟩
  ·rw [first] at h; unfold firstF at h
   split at h
   ·simp only [Option.some.injEq, Prod.mk.injEq] at h
    obtain ⟨rfl, rfl⟩ := h
    exact ⟨rfl, trivial⟩
   ·rename_i r0
    cases ho : operand v n 0 r0 with
    | none => rw [ho] at h; simp at h
    | some x =>
     rw [ho] at h
     cases x with
     | none => simp at h
     | some y =>
      obtain ⟨t0, r1⟩ := y
      simp only at h
      split at h
      ·simp only [Option.some.injEq, Prod.mk.injEq] at h
       obtain ⟨rfl, rfl⟩ := h
       obtain ⟨h1, h2, _⟩ := iho _ _ _ _ ho
       refine ⟨?_, h2⟩
       rw [h1]; simp [Tr.yield]
      ·simp at h
   ·rename_i o r0
    cases ho : operand v n (v o).h2 r0 with
    | none => rw [ho] at h; simp at h
    | some x =>
     rw [ho] at h
     cases x with
     | none => simp at h
     | some y =>
      obtain ⟨t0, r1⟩ := y
      simp only [Option.some.injEq, Prod.mk.injEq] at h
      obtain ⟨rfl, rfl⟩ := h
      obtain ⟨h1, h2, h3⟩ := iho _ _ _ _ ho
      refine ⟨?_, h3, h2⟩
      rw [h1]; simp [Tr.yield]
   ·simp at h
  ·rw [loop] at h; unfold loopF at h
   split at h
   ·rename_i o r0
    split at h
    ·simp only [Option.some.injEq, Prod.mk.injEq] at h
     obtain ⟨rfl, rfl⟩ := h
     exact ⟨rfl, ha, hm⟩
    ·rename_i hc
     split at h
     ·simp only [Option.some.injEq, Prod.mk.injEq] at h
      obtain ⟨rfl, rfl⟩ := h
      exact ⟨rfl, ha, hm⟩
     ·rename_i hd
      cases ho : operand v n (v o).h2 r0 with
      | none => rw [ho] at h; simp at h
      | some x =>
       rw [ho] at h
       cases x with
       | none => simp at h
       | some y =>
        obtain ⟨t0, r1⟩ := y
        obtain ⟨h1, h2, h3⟩ := iho _ _ _ _ ho
        obtain ⟨h4, h5, h6⟩ := ihl _ _ _ _ _ h ⟨by omega, h3, ha, h2⟩ (by simp only [Tr.level]; omega)
        refine ⟨?_, h5, h6⟩
        rw [← h4, h1]; simp [Tr.yield]
   ·rename_i o r0
    split at h
    ·simp only [Option.some.injEq, Prod.mk.injEq] at h
     obtain ⟨rfl, rfl⟩ := h
     exact ⟨rfl, ha, hm⟩
    ·rename_i hc
     split at h
     ·simp only [Option.some.injEq, Prod.mk.injEq] at h
      obtain ⟨rfl, rfl⟩ := h
      exact ⟨rfl, ha, hm⟩
     ·rename_i hd
      obtain ⟨h4, h5, h6⟩ := ihl _ _ _ _ _ h ⟨by omega, ha⟩ (by simp only [Tr.level]; omega)
      refine ⟨?_, h5, h6⟩
      rw [← h4]; simp [Tr.yield]
   ·simp only [Option.some.injEq, Prod.mk.injEq] at h
    obtain ⟨rfl, rfl⟩ := h
    exact ⟨rfl, ha, hm⟩
def Stop (m : Int) : List (Tk α β) → Prop
 | .inf o :: _ => (v o).lev < m
 | .post o :: _ => (v o).lev < m
 | _ => True
def Edge : Tr α β → List (Tk α β) → Prop
 | .pre o t, r => Stop v (v o).h2 r ∧ Edge t r
 | .inf o _ t, r => Stop v (v o).h2 r ∧ Edge t r
 | _, _ => True
theorem Edge.of_low {t : Tr α β} {r : List (Tk α β)} {m : Int} (ha : t.Adm v) (hm : m ≤ t.level v) (hs : Stop v m r) : Edge v t r := by
 induction t generalizing m with
 | leaf b => trivial
 | grp t => trivial
 | post o t => trivial
 | pre o t ih =>
  have h2 : (v o).lev ≤ (v o).h2 := by unfold Lv.h2; split <;> omega
  simp only [Tr.level] at hm
  have hs' : Stop v (v o).h2 r := by
   unfold Stop at hs ⊢
   split <;> simp_all <;> omega
  exact ⟨hs', ih ha.2 ha.1 hs'⟩
 | inf o l t _ ih =>
  have h2 : (v o).lev ≤ (v o).h2 := by unfold Lv.h2; split <;> omega
  simp only [Tr.level] at hm
  have hs' : Stop v (v o).h2 r := by
   unfold Stop at hs ⊢
   split <;> simp_all <;> omega
  exact ⟨hs', ih ha.2.2.2 ha.2.1 hs'⟩
theorem Edge.of_op {p : α → Prop} (hg : Good v p) {t : Tr α β} {x : α} {tk : Tk α β} {r : List (Tk α β)} (hp : t.All v p) (hx : p x) (htk : tk = .inf x ∨ tk = .post x)
  (ha : t.Adm v) (hm : (v x).h1 ≤ t.level v) : Edge v t (tk :: r) := by
 have stop : ∀ m, (v x).lev < m → Stop v m (tk :: r) := by
  intro m h
  rcases htk with rfl | rfl <;> exact h
 have e1 : (v x).lev ≤ (v x).h1 := by unfold Lv.h1; split <;> omega
 have key : ∀ o, p o → (v x).h1 ≤ (v o).lev → (v x).lev < (v o).h2 := by
  intro o ho h
  by_cases he : (v x).lev = (v o).lev
  ·have hs := hg.one x o hx ho he
   unfold Lv.h1 at h
   unfold Lv.h2
   split at h
   ·rename_i h1
    rw [if_neg (by omega)]; omega
   ·omega
  ·have : (v o).lev ≤ (v o).h2 := by unfold Lv.h2; split <;> omega
   omega
 cases t with
 | leaf b => trivial
 | grp t => trivial
 | post o t => trivial
 | pre o t =>
  have hs : Stop v (v o).h2 (tk :: r) := stop _ (key o hp.1 hm)
  exact ⟨hs, Edge.of_low v ha.2 ha.1 hs⟩
 | inf o l t =>
  have hs : Stop v (v o).h2 (tk :: r) := stop _ (key o hp.1 hm)
  exact ⟨hs, Edge.of_low v ha.2.2.2 ha.2.1 hs⟩
theorem loop_stop {m : Int} {l : Tr α β} {r : List (Tk α β)} (hs : Stop v m r) : loop v 1 m l r = some (some (l, r)) := by
 rw [loop]; unfold loopF
 split
 ·exact if_pos hs
 ·exact if_pos hs
 ·rfl
theorem complete {p : α → Prop} (hg : Good v p) (t : Tr α β) : ∀ (m : Int) (rest : List (Tk α β)) (n : Nat) (res : Option (Tr α β × List (Tk α β))), t.All v p → t.Adm v → m ≤ t.level v → Edge v t rest →
  loop v n m t rest = some res → ∃ n', operand v n' m (t.yield ++ rest) = some res := by
 induction t with
 | leaf b =>
  intro m rest n res _ _ hm _ h
  refine ⟨n + 2, ?_⟩
  rw [operand]
  have e : first v (n + 1) (Tr.yield (.leaf b) ++ rest) = some (some (.leaf b, rest)) := by rw [first]; unfold firstF; rfl
  rw [e]; simp only
  rw [if_neg (by omega)]
  exact loop_le v (by omega) h
 | grp t ih =>
  intro m rest n res hp ha hm _ h
  obtain ⟨n', h'⟩ := ih 0 (.cls :: rest) 1 _ hp ha (by
   cases t <;> simp only [Tr.level] <;> first | omega | (have := hg.low _ hp.1; omega)) (Edge.of_low v (m := t.level v) ha (by omega) trivial) (loop_stop v trivial)
  refine ⟨n + n' + 3, ?_⟩
  rw [operand]
  have e : first v (n + n' + 2) (Tr.yield (.grp t) ++ rest) = some (some (.grp t, rest)) := by
   rw [first]; unfold firstF
   simp only [Tr.yield, List.cons_append, List.append_assoc, List.nil_append]
   rw [operand_le v (by omega) h']
  rw [e]; simp only
  rw [if_neg (by omega)]
  exact loop_le v (by omega) h
 | pre o t ih =>
  intro m rest n res hp ha hm he h
  obtain ⟨n', h'⟩ := ih (v o).h2 rest 1 _ hp.2.2 ha.2 ha.1 he.2 (loop_stop v he.1)
  refine ⟨n + n' + 3, ?_⟩
  rw [operand]
  have e : first v (n + n' + 2) (Tr.yield (.pre o t) ++ rest) = some (some (.pre o t, rest)) := by
   rw [first]; unfold firstF
   simp only [Tr.yield, List.cons_append]
   rw [operand_le v (by omega) h']
  rw [e]; simp only
  rw [if_neg (by omega)]
  exact loop_le v (by omega) h
 | post o t ih =>
  intro m rest n res hp ha hm he h
  simp only [Tr.level] at hm
  have e1 : (v o).lev ≤ (v o).h1 := by unfold Lv.h1; split <;> omega
  have ha1 := ha.1
  have hl : loop v (n + 1) m t (.post o :: rest) = some res := by
   rw [loop]; unfold loopF; simp only
   rw [if_neg (by omega), if_neg (by omega)]
   exact h
  obtain ⟨n', h'⟩ := ih m (.post o :: rest) (n + 1) res hp.2.2 ha.2 (by omega) (Edge.of_op v hg hp.2.2 hp.1 (.inr rfl) ha.2 ha.1) hl
  exact ⟨n', by simpa [Tr.yield] using h'⟩
 | inf o l r ihl ihr =>
  intro m rest n res hp ha hm he h
  simp only [Tr.level] at hm
  have e1 : (v o).lev ≤ (v o).h1 := by unfold Lv.h1; split <;> omega
  have ha1 := ha.1
  obtain ⟨n2, h2⟩ := ihr (v o).h2 rest 1 _ hp.2.2 ha.2.2.2 ha.2.1 he.2 (loop_stop v he.1)
  have hl : loop v (n + n2 + 1) m l (.inf o :: (r.yield ++ rest)) = some res := by
   rw [loop]; unfold loopF; simp only
   rw [if_neg (by omega), if_neg (by omega), operand_le v (by omega) h2]
   exact loop_le v (by omega) h
  obtain ⟨n', h'⟩ := ihl m (.inf o :: (r.yield ++ rest)) (n + n2 + 1) res hp.2.1 ha.2.2.1 (by omega) (Edge.of_op v hg hp.2.1 hp.1 (.inl rfl) ha.2.2.1 ha.1) hl
  exact ⟨n', by simpa [Tr.yield] using h'⟩
theorem level_low {p : α → Prop} (hg : Good v p) {t : Tr α β} (hp : t.All v p) : 1 ≤ t.level v := by
 cases t <;> simp only [Tr.level] <;> first | omega | exact hg.low _ hp.1
theorem fuel_all (n : Nat) :
  (∀ m (ts : List (Tk α β)), 2 * ts.length + 2 ≤ n → ∃ r, operand v n m ts = some r) ∧
  (∀ (ts : List (Tk α β)), 2 * ts.length + 1 ≤ n → ∃ r, first v n ts = some r ∧ ∀ t rest, r = some (t, rest) → rest.length < ts.length) ∧
  (∀ m (l : Tr α β) ts, 2 * ts.length + 1 ≤ n → ∃ r, loop v n m l ts = some r) := by
 have shorter : ∀ k m (ts : List (Tk α β)) t rest, operand v k m ts = some (some (t, rest)) → rest.length < ts.length := by
  intro k m ts t rest h
  have := ((sound_all v k).1 _ _ _ _ h).1
  have ht : 0 < (t.yield).length := by cases t <;> simp [Tr.yield] <;> omega
  rw [this, List.length_append]; omega
 induction n with
 | zero => exact ⟨fun _ _ h => by omega, fun _ h => by omega, fun _ _ _ h => by omega⟩
 | succ n ih =>
  obtain ⟨iho, ihf, ihl⟩ := ih
  refine ⟨fun m ts h => ?_, fun ts h => ?_, fun m l ts h => ?_⟩
  ·obtain ⟨r, hr, hlt⟩ := ihf ts (by omega)
   rw [operand, hr]
   cases r with
   | none => exact ⟨_, rfl⟩
   | some y =>
    obtain ⟨l, rest⟩ := y
    have := hlt _ _ rfl
    simp only
    split
    ·exact ⟨_, rfl⟩
    ·exact ihl _ _ _ (by omega)
  ·rw [first]; unfold firstF
   split
   ·exact ⟨_, rfl, fun t rest h => by
     simp only [Option.some.injEq, Prod.mk.injEq] at h
     obtain ⟨_, rfl⟩ := h
     simp⟩
   ·rename_i r0
    simp only [List.length_cons] at h
    obtain ⟨x, hx⟩ := iho 0 r0 (by omega)
    rw [hx]
    cases x with
    | none => exact ⟨_, rfl, fun _ _ h => by simp at h⟩
    | some y =>
     obtain ⟨t0, r1⟩ := y
     have := shorter _ _ _ _ _ hx
     simp only
     split
     ·exact ⟨_, rfl, fun t rest h => by
       simp only [Option.some.injEq, Prod.mk.injEq] at h
       obtain ⟨_, rfl⟩ := h
       simp only [List.length_cons] at this ⊢
       omega⟩
     ·exact ⟨_, rfl, fun _ _ h => by simp at h⟩
   ·rename_i o r0
    simp only [List.length_cons] at h
    obtain ⟨x, hx⟩ := iho (v o).h2 r0 (by omega)
    rw [hx]
    cases x with
    | none => exact ⟨_, rfl, fun _ _ h => by simp at h⟩
    | some y =>
     obtain ⟨t0, r1⟩ := y
     have := shorter _ _ _ _ _ hx
     exact ⟨_, rfl, fun t rest h => by
      simp only [Option.some.injEq, Prod.mk.injEq] at h
      obtain ⟨_, rfl⟩ := h
      simp only [List.length_cons]
      omega⟩
   ·exact ⟨_, rfl, fun _ _ h => by simp at h⟩
  ·rw [loop]; unfold loopF
   split
   ·rename_i o r0
    simp only [List.length_cons] at h
    split
    ·exact ⟨_, rfl⟩
    ·split
     ·exact ⟨_, rfl⟩
     ·obtain ⟨x, hx⟩ := iho (v o).h2 r0 (by omega)
      rw [hx]
      cases x with
      | none => exact ⟨_, rfl⟩
      | some y =>
       obtain ⟨t0, r1⟩ := y
       have := shorter _ _ _ _ _ hx
       exact ihl _ _ _ (by omega)
   ·rename_i o r0
    simp only [List.length_cons] at h
    split
    ·exact ⟨_, rfl⟩
    ·split
     ·exact ⟨_, rfl⟩
     ·exact ihl _ _ _ (by omega)
   ·exact ⟨_, rfl⟩
theorem whole {p : α → Prop} (hg : Good v p) (t : Tr α β) (hp : t.All v p) (ts : List (Tk α β)) :
  operand v (2 * ts.length + 2) 0 ts = some (some (t, [])) ↔ t.Adm v ∧ t.yield = ts := by
 constructor
 ·intro h
  obtain ⟨h1, h2, _⟩ := (sound_all v _).1 _ _ _ _ h
  exact ⟨h2, by rw [h1]; simp⟩
 ·rintro ⟨ha, rfl⟩
  have := level_low v hg hp
  obtain ⟨n', h'⟩ := complete v hg t 0 [] 1 _ hp ha (by omega) (Edge.of_low v (m := t.level v) ha (by omega) trivial) (loop_stop v trivial)
  rw [List.append_nil] at h'
  obtain ⟨r, hr⟩ := (fuel_all v (2 * t.yield.length + 2)).1 0 t.yield (by omega)
  rw [hr]
  have h1 := operand_le v (Nat.le_max_left n' (2 * t.yield.length + 2)) h'
  have h2 := operand_le v (Nat.le_max_right n' (2 * t.yield.length + 2)) hr
  rw [h1] at h2
  exact h2.symm
end Go.Proofs.YtjdmmhcogmepaaaGreatDoor.Ops
namespace Go.Proofs.YtjdmmhcogmepaaaGreatDoor.Ops
variable {α β : Type} (v : α → Lv)
def Tk.op? : Tk α β → Option α
 | .pre o => some o
 | .inf o => some o
 | .post o => some o
 | _ => none
def Tk.turn : Tk α β → Int
 | .opn => 1
 | .cls => -1
 | _ => 0
def better (best : Option (Nat × α)) (x : Nat × α) : Option (Nat × α) :=
 match best with
 | none => some x
 | some b => if (v x.2).lev < (v b.2).lev ∨ ((v x.2).lev = (v b.2).lev ∧ (v x.2).srt ≠ 2) then some x else some b
def root : List (Tk α β) → Nat → Int → Option (Nat × α) → Option (Nat × α)
 | [], _, _, best => best
 | tk :: r, i, d, best =>
  if d + tk.turn = 0 then
   match tk.op? with
   | none => root r (i + 1) (d + tk.turn) best
   | some o => root r (i + 1) (d + tk.turn) (better v best (i, o))
  else root r (i + 1) (d + tk.turn) best
def buildF (bl : List (Tk α β) → Option (Tr α β)) (s : List (Tk α β)) : Option (Tr α β) :=
 match root v s 0 0 none with
 | none =>
  match s with
  | .opn :: r => (bl r.dropLast).map .grp
  | .leaf b :: _ => some (.leaf b)
  | _ => none
 | some (i, _) =>
  match s[i]? with
  | some (.pre o) =>
   if i ≠ 0 then none
   else match bl (s.drop 1) with
    | none => none
    | some t => if (v o).h2 ≤ t.level v then some (.pre o t) else none
  | some (.post o) =>
   if i + 1 ≠ s.length then none
   else match bl (s.take i) with
    | none => none
    | some t => if (v o).h1 ≤ t.level v then some (.post o t) else none
  | some (.inf o) =>
   match bl (s.take i) with
   | none => none
   | some l =>
    match bl (s.drop (i + 1)) with
    | none => none
    | some r => if (v o).h1 ≤ l.level v ∧ (v o).h2 ≤ r.level v then some (.inf o l r) else none
  | _ => none
def build : Nat → List (Tk α β) → Option (Tr α β)
 | 0, _ => none
 | n + 1, s => buildF v (build n) s
def Tr.tops : Tr α β → Nat → List (Nat × α)
 | .leaf _, _ => []
 | .grp _, _ => []
 | .pre o t, i => (i, o) :: t.tops (i + 1)
 | .post o t, i => t.tops i ++ [(i + t.yield.length, o)]
 | .inf o l r, i => l.tops i ++ (i + l.yield.length, o) :: r.tops (i + l.yield.length + 1)
theorem root_skip {tk : Tk α β} {r : List (Tk α β)} {i : Nat} {d d' : Int} {best} (e : d + tk.turn = d') (h : d' ≠ 0) : root v (tk :: r) i d best = root v r (i + 1) d' best := by
 subst e; rw [root, if_neg h]
theorem root_none_ {tk : Tk α β} {r : List (Tk α β)} {i : Nat} {d d' : Int} {best} (e : d + tk.turn = d') (h : tk.op? = none) : root v (tk :: r) i d best = root v r (i + 1) d' best := by
 subst e; rw [root]; split
 ·rw [h]
 ·rfl
theorem root_take {tk : Tk α β} {r : List (Tk α β)} {i : Nat} {best} {o : α} (e : tk.turn = 0) (h : tk.op? = some o) : root v (tk :: r) i 0 best = root v r (i + 1) 0 (better v best (i, o)) := by
 rw [root, e, if_pos (by omega), h]; rfl
theorem root_deep (t : Tr α β) : ∀ (rest : List (Tk α β)) (i : Nat) (d : Int) best, 0 < d → root v (t.yield ++ rest) i d best = root v rest (i + t.yield.length) d best := by
 induction t with
 | leaf b =>
  intro rest i d best h
  simp only [Tr.yield, List.cons_append, List.nil_append, List.length_cons, List.length_nil]
  rw [root_skip v (d' := d) (by simp [Tk.turn]) (by omega)]
 | grp t ih =>
  intro rest i d best h
  simp only [Tr.yield, List.cons_append, List.append_assoc, List.nil_append, List.length_cons, List.length_append, List.length_nil]
  rw [root_skip v (d' := d + 1) (by simp [Tk.turn]) (by omega), ih _ _ _ _ (by omega), root_skip v (d' := d) (by simp [Tk.turn]; omega) (by omega)]
  rw [show i + 1 + t.yield.length + 1 = i + (t.yield.length + (0 + 1) + 1) by omega]
 | pre o t ih =>
  intro rest i d best h
  simp only [Tr.yield, List.cons_append, List.length_cons]
  rw [root_skip v (d' := d) (by simp [Tk.turn]) (by omega), ih _ _ _ _ (by omega)]
  rw [show i + 1 + t.yield.length = i + (t.yield.length + 1) by omega]
 | post o t ih =>
  intro rest i d best h
  simp only [Tr.yield, List.append_assoc, List.cons_append, List.nil_append, List.length_append, List.length_cons, List.length_nil]
  rw [ih _ _ _ _ h, root_skip v (d' := d) (by simp [Tk.turn]) (by omega)]
  rw [show i + t.yield.length + 1 = i + (t.yield.length + (0 + 1)) by omega]
 | inf o l r ihl ihr =>
  intro rest i d best h
  simp only [Tr.yield, List.append_assoc, List.cons_append, List.length_append, List.length_cons]
  rw [ihl _ _ _ _ h, root_skip v (d' := d) (by simp [Tk.turn]) (by omega), ihr _ _ _ _ (by omega)]
  rw [show i + l.yield.length + 1 + r.yield.length = i + (l.yield.length + (r.yield.length + 1)) by omega]
theorem root_flat (t : Tr α β) : ∀ (rest : List (Tk α β)) (i : Nat) best, root v (t.yield ++ rest) i 0 best = root v rest (i + t.yield.length) 0 ((t.tops i).foldl (better v) best) := by
 induction t with
 | leaf b =>
  intro rest i best
  simp only [Tr.yield, List.cons_append, List.nil_append, List.length_cons, List.length_nil, Tr.tops, List.foldl_nil]
  rw [root_none_ v (d' := 0) (by simp [Tk.turn]) rfl]
 | grp t ih =>
  intro rest i best
  simp only [Tr.yield, List.cons_append, List.append_assoc, List.nil_append, List.length_cons, List.length_append, List.length_nil, Tr.tops, List.foldl_nil]
  rw [root_none_ v (d' := 1) (by simp [Tk.turn]) rfl, root_deep v t _ _ _ _ (by omega), root_none_ v (d' := 0) (by simp [Tk.turn]) rfl]
  rw [show i + 1 + t.yield.length + 1 = i + (t.yield.length + (0 + 1) + 1) by omega]
 | pre o t ih =>
  intro rest i best
  simp only [Tr.yield, List.cons_append, List.length_cons, Tr.tops, List.foldl_cons]
  rw [root_take v (o := o) rfl rfl, ih]
  rw [show i + 1 + t.yield.length = i + (t.yield.length + 1) by omega]
 | post o t ih =>
  intro rest i best
  simp only [Tr.yield, List.append_assoc, List.cons_append, List.nil_append, List.length_append, List.length_cons, List.length_nil, Tr.tops, List.foldl_append, List.foldl_cons, List.foldl_nil]
  rw [ih, root_take v (o := o) rfl rfl]
  rw [show i + t.yield.length + 1 = i + (t.yield.length + (0 + 1)) by omega]
 | inf o l r ihl ihr =>
  intro rest i best
  simp only [Tr.yield, List.append_assoc, List.cons_append, List.length_append, List.length_cons, Tr.tops, List.foldl_append, List.foldl_cons]
  rw [ihl, root_take v (o := o) rfl rfl, ihr]
  rw [show i + l.yield.length + 1 + r.yield.length = i + (l.yield.length + (r.yield.length + 1)) by omega]
theorem root_yield (t : Tr α β) : root v t.yield 0 0 none = (t.tops 0).foldl (better v) none := by
 have := root_flat v t [] 0 none
 rw [List.append_nil] at this
 rw [this]; rfl
theorem tops_all {p : α → Prop} (t : Tr α β) : ∀ i, t.All v p → ∀ x ∈ t.tops i, p x.2 := by
 induction t with
 | leaf b => intro i _ x h; simp [Tr.tops] at h
 | grp t _ => intro i _ x h; simp [Tr.tops] at h
 | pre o t ih =>
  intro i hp x h
  simp only [Tr.tops, List.mem_cons] at h
  rcases h with rfl | h
  ·exact hp.1
  ·exact ih _ hp.2.2 x h
 | post o t ih =>
  intro i hp x h
  simp only [Tr.tops, List.mem_append, List.mem_cons, List.not_mem_nil, or_false] at h
  rcases h with h | rfl
  ·exact ih _ hp.2.2 x h
  ·exact hp.1
 | inf o l r ihl ihr =>
  intro i hp x h
  simp only [Tr.tops, List.mem_append, List.mem_cons] at h
  rcases h with h | rfl | h
  ·exact ihl _ hp.2.1 x h
  ·exact hp.1
  ·exact ihr _ hp.2.2 x h
theorem tops_high (t : Tr α β) : ∀ i, t.Adm v → ∀ x ∈ t.tops i, t.level v ≤ (v x.2).lev := by
 have le1 : ∀ o, (v o).lev ≤ (v o).h1 := by intro o; unfold Lv.h1; split <;> omega
 have le2 : ∀ o, (v o).lev ≤ (v o).h2 := by intro o; unfold Lv.h2; split <;> omega
 induction t with
 | leaf b => intro i _ x h; simp [Tr.tops] at h
 | grp t _ => intro i _ x h; simp [Tr.tops] at h
 | pre o t ih =>
  intro i ha x h
  simp only [Tr.tops, List.mem_cons] at h
  simp only [Tr.level]
  rcases h with rfl | h
  ·exact Int.le_refl _
  ·have := ih _ ha.2 x h; have := ha.1; have := le2 o; omega
 | post o t ih =>
  intro i ha x h
  simp only [Tr.tops, List.mem_append, List.mem_cons, List.not_mem_nil, or_false] at h
  simp only [Tr.level]
  rcases h with h | rfl
  ·have := ih _ ha.2 x h; have := ha.1; have := le1 o; omega
  ·exact Int.le_refl _
 | inf o l r ihl ihr =>
  intro i ha x h
  simp only [Tr.tops, List.mem_append, List.mem_cons] at h
  simp only [Tr.level]
  rcases h with h | rfl | h
  ·have := ihl _ ha.2.2.1 x h; have := ha.1; have := le1 o; omega
  ·exact Int.le_refl _
  ·have := ihr _ ha.2.2.2 x h; have := ha.2.1; have := le2 o; omega
theorem fold_mem (l : List (Nat × α)) : ∀ best, (l.foldl (better v) best = best) ∨ ∃ x ∈ l, l.foldl (better v) best = some x := by
 induction l with
 | nil => intro best; exact .inl rfl
 | cons y l ih =>
  intro best
  simp only [List.foldl_cons]
  have hb : better v best y = best ∨ better v best y = some y := by
   unfold better
   cases best with
   | none => exact .inr rfl
   | some b => simp only; split; exact .inr rfl; exact .inl rfl
  rcases ih (better v best y) with h | ⟨x, hx, h⟩
  ·rcases hb with hb | hb
   ·rw [hb] at h; rw [hb]; exact .inl h
   ·rw [h]; exact .inr ⟨y, List.mem_cons_self, hb⟩
  ·exact .inr ⟨x, List.mem_cons_of_mem _ hx, h⟩
theorem fold_stays (l : List (Nat × α)) (b : Nat × α) (h : ∀ x ∈ l, ¬ ((v x.2).lev < (v b.2).lev ∨ ((v x.2).lev = (v b.2).lev ∧ (v x.2).srt ≠ 2))) : l.foldl (better v) (some b) = some b := by
 induction l with
 | nil => rfl
 | cons y l ih =>
  simp only [List.foldl_cons]
  have : better v (some b) y = some b := by
   unfold better; simp only; rw [if_neg (h y List.mem_cons_self)]
  rw [this]
  exact ih fun x hx => h x (List.mem_cons_of_mem _ hx)
theorem fold_gives (l : List (Nat × α)) (y : Nat × α) (h : ∀ x ∈ l, (v y.2).h1 ≤ (v x.2).lev) : better v (l.foldl (better v) none) y = some y := by
 rcases fold_mem v l none with e | ⟨x, hx, e⟩
 ·rw [e]; rfl
 ·rw [e]; unfold better; simp only
  have := h x hx
  rw [if_pos]
  unfold Lv.h1 at this
  split at this
  ·rename_i hs
   by_cases he : (v y.2).lev = (v x.2).lev
   ·exact .inr ⟨he, by omega⟩
   ·exact .inl (by omega)
  ·exact .inl (by omega)
theorem fold_right {p : α → Prop} (hg : Good v p) (l : List (Nat × α)) (y : Nat × α) (hy : p y.2) (hl : ∀ x ∈ l, p x.2) (h : ∀ x ∈ l, (v y.2).h2 ≤ (v x.2).lev) : l.foldl (better v) (some y) = some y := by
 refine fold_stays v l y fun x hx => ?_
 have h1 := h x hx
 have h2 := hg.one x.2 y.2 (hl x hx) hy
 unfold Lv.h2 at h1
 split at h1 <;> omega
theorem root_pre {p : α → Prop} (hg : Good v p) (o : α) (t : Tr α β) (hp : (Tr.pre o t).All v p) (ha : (Tr.pre o t).Adm v) : root v (Tr.pre o t).yield 0 0 none = some (0, o) := by
 rw [root_yield]
 simp only [Tr.tops, List.foldl_cons]
 refine fold_right v hg _ (0, o) hp.1 (tops_all v t _ hp.2.2) fun x hx => ?_
 have := tops_high v t _ ha.2 x hx
 have := ha.1
 simp only; omega
theorem root_post (o : α) (t : Tr α β) (ha : (Tr.post o t).Adm v) : root v (Tr.post o t).yield 0 0 none = some (t.yield.length, o) := by
 rw [root_yield]
 simp only [Tr.tops, List.foldl_append, List.foldl_cons, List.foldl_nil, Nat.zero_add]
 refine fold_gives v _ (t.yield.length, o) fun x hx => ?_
 have := tops_high v t _ ha.2 x hx
 have := ha.1
 simp only; omega
theorem root_inf {p : α → Prop} (hg : Good v p) (o : α) (l r : Tr α β) (hp : (Tr.inf o l r).All v p) (ha : (Tr.inf o l r).Adm v) : root v (Tr.inf o l r).yield 0 0 none = some (l.yield.length, o) := by
 rw [root_yield]
 simp only [Tr.tops, List.foldl_append, List.foldl_cons, Nat.zero_add]
 rw [fold_gives v _ (l.yield.length, o) fun x hx => ?_]
 ·refine fold_right v hg _ (l.yield.length, o) hp.1 (tops_all v r _ hp.2.2) fun x hx => ?_
  have := tops_high v r _ ha.2.2.2 x hx
  have := ha.2.1
  simp only; omega
 ·have := tops_high v l _ ha.2.2.1 x hx
  have := ha.1
  simp only; omega
theorem yield_pos (t : Tr α β) : 0 < t.yield.length := by cases t <;> simp [Tr.yield] <;> omega
theorem build_complete {p : α → Prop} (hg : Good v p) (t : Tr α β) : ∀ n, t.yield.length ≤ n → t.All v p → t.Adm v → build v n t.yield = some t := by
 induction t with
 | leaf b =>
  intro n hn _ _
  obtain ⟨n, rfl⟩ : ∃ m, n = m + 1 := ⟨n - 1, by simp [Tr.yield] at hn; omega⟩
  rw [build]; unfold buildF; rw [root_yield]; rfl
 | grp t ih =>
  intro n hn hp ha
  obtain ⟨n, rfl⟩ : ∃ m, n = m + 1 := ⟨n - 1, by simp [Tr.yield] at hn; omega⟩
  rw [build]; unfold buildF; rw [root_yield]
  show (build v n (t.yield ++ [Tk.cls]).dropLast).map Tr.grp = _
  rw [List.dropLast_concat, ih n (by simp [Tr.yield] at hn; omega) hp ha]; rfl
 | pre o t ih =>
  intro n hn hp ha
  obtain ⟨n, rfl⟩ : ∃ m, n = m + 1 := ⟨n - 1, by simp [Tr.yield] at hn; omega⟩
  rw [build]; unfold buildF; rw [root_pre v hg o t hp ha]
  simp only [Tr.yield, List.getElem?_cons_zero, List.drop_succ_cons, List.drop_zero]
  rw [ih n (by simp [Tr.yield] at hn; omega) hp.2.2 ha.2]
  simp only [ne_eq, not_true_eq_false, if_false]
  rw [if_pos ha.1]
 | post o t ih =>
  intro n hn hp ha
  have := yield_pos t
  obtain ⟨n, rfl⟩ : ∃ m, n = m + 1 := ⟨n - 1, by simp [Tr.yield] at hn; omega⟩
  rw [build]; unfold buildF; rw [root_post v o t ha]
  simp only [Tr.yield]
  rw [List.getElem?_append_right (Nat.le_refl _), Nat.sub_self, List.take_left]
  simp only [List.getElem?_cons_zero, List.length_append, List.length_cons, List.length_nil]
  rw [ih n (by simp [Tr.yield] at hn; omega) hp.2.2 ha.2]
  simp only
  rw [if_neg (by omega), if_pos ha.1]
 | inf o l r ihl ihr =>
  intro n hn hp ha
  have := yield_pos l
  have := yield_pos r
  obtain ⟨n, rfl⟩ : ∃ m, n = m + 1 := ⟨n - 1, by simp [Tr.yield] at hn; omega⟩
  rw [build]; unfold buildF; rw [root_inf v hg o l r hp ha]
  simp only [Tr.yield]
  rw [List.getElem?_append_right (Nat.le_refl _), Nat.sub_self, List.take_left]
  simp only [List.getElem?_cons_zero]
  rw [show l.yield ++ Tk.inf o :: r.yield = (l.yield ++ [Tk.inf o]) ++ r.yield by simp, List.drop_left' (by simp)]
  rw [ihl n (by simp [Tr.yield] at hn; omega) hp.2.1 ha.2.2.1, ihr n (by simp [Tr.yield] at hn; omega) hp.2.2 ha.2.2.2]
  simp only
  rw [if_pos ⟨ha.1, ha.2.1⟩]
def OF (s : List (Tk α β)) : Prop := ∃ t : Tr α β, t.yield = s
theorem of_pre {o : α} {w : List (Tk α β)} (h : OF (.pre o :: w)) : OF w := by
 obtain ⟨t, ht⟩ := h
 induction t generalizing w with
 | leaf b => simp [Tr.yield] at ht
 | grp t => simp [Tr.yield] at ht
 | pre p t => simp only [Tr.yield, List.cons.injEq] at ht; exact ⟨t, ht.2⟩
 | post p t ih =>
  simp only [Tr.yield] at ht
  rcases List.append_eq_cons_iff.1 ht with ⟨h1, _⟩ | ⟨w1, h1, h2⟩
  ·have := yield_pos t; rw [h1] at this; simp at this
  ·obtain ⟨t', ht'⟩ := ih h1
   exact ⟨.post p t', by rw [h2]; simp [Tr.yield, ht']⟩
 | inf p l r ih _ =>
  simp only [Tr.yield] at ht
  rcases List.append_eq_cons_iff.1 ht with ⟨h1, _⟩ | ⟨w1, h1, h2⟩
  ·have := yield_pos l; rw [h1] at this; simp at this
  ·obtain ⟨t', ht'⟩ := ih h1
   exact ⟨.inf p t' r, by rw [h2]; simp [Tr.yield, ht']⟩
theorem of_post {o : α} {u : List (Tk α β)} (h : OF (u ++ [.post o])) : OF u := by
 obtain ⟨t, ht⟩ := h
 induction t generalizing u with
 | leaf b =>
  have h2 := congrArg List.getLast? ht
  simp [Tr.yield] at h2
 | grp t =>
  have h2 := congrArg List.getLast? ht
  simp only [Tr.yield, ← List.cons_append, List.getLast?_append, List.getLast?_singleton, Option.some_or] at h2
  simp at h2
 | post p t =>
  simp only [Tr.yield] at ht
  exact ⟨t, (List.append_inj' ht rfl).1⟩
 | pre p t ih =>
  simp only [Tr.yield] at ht
  cases u with
  | nil =>
   simp at ht
  | cons x u =>
   simp only [List.cons_append, List.cons.injEq] at ht
   obtain ⟨t', ht'⟩ := ih ht.2
   exact ⟨.pre p t', by rw [← ht.1]; simp [Tr.yield, ht']⟩
 | inf p l r _ ih =>
  simp only [Tr.yield] at ht
  rw [show l.yield ++ Tk.inf p :: r.yield = (l.yield ++ [Tk.inf p]) ++ r.yield by simp] at ht
  rcases List.append_eq_append_iff.1 ht with ⟨a', h1, h2⟩ | ⟨c', h1, h2⟩
  ·obtain ⟨t', ht'⟩ := ih h2
   exact ⟨.inf p l t', by rw [h1]; simp [Tr.yield, ht']⟩
  ·have := yield_pos r
   cases c' with
   | nil =>
    simp only [List.append_nil, List.nil_append] at h1 h2
    obtain ⟨t', ht'⟩ := ih (u := []) (by simpa using h2.symm)
    have := yield_pos t'
    rw [ht'] at this; simp at this
   | cons x c' =>
    have h3 := congrArg List.length h2
    simp only [List.length_append, List.length_cons, List.length_nil] at h3
    omega
def depth (s : List (Tk α β)) : Int := (s.map Tk.turn).sum
theorem depth_append (a b : List (Tk α β)) : depth (a ++ b) = depth a + depth b := by unfold depth; rw [List.map_append, List.sum_append_int]
theorem depth_cons (a : Tk α β) (b : List (Tk α β)) : depth (a :: b) = a.turn + depth b := by simp [depth]
theorem depth_yield (t : Tr α β) : depth t.yield = 0 := by
 induction t with
 | leaf b => simp [Tr.yield, depth, Tk.turn]
 | grp t ih => simp only [Tr.yield, depth_cons, depth_append, ih, Tk.turn]; simp [depth]
 | pre o t ih => simp only [Tr.yield, depth_cons, ih, Tk.turn]; rfl
 | post o t ih => simp only [Tr.yield, depth_append, depth_cons, ih, Tk.turn]; rfl
 | inf o l r ihl ihr => simp only [Tr.yield, depth_append, depth_cons, ihl, ihr, Tk.turn]; rfl
theorem depth_begin (t : Tr α β) : ∀ u w, t.yield = u ++ w → 0 ≤ depth u := by
 induction t with
 | leaf b =>
  intro u w h
  rcases u with _ | ⟨x, u⟩
  ·simp [depth]
  ·simp only [Tr.yield, List.cons_append, List.cons.injEq] at h
   obtain ⟨rfl, h⟩ := h
   have : u = [] := by simpa using (List.append_eq_nil_iff.1 h.symm).1
   subst this; simp [depth, Tk.turn]
 | grp t ih =>
  intro u w h
  rcases u with _ | ⟨x, u⟩
  ·simp [depth]
  ·simp only [Tr.yield, List.cons_append, List.cons.injEq] at h
   obtain ⟨rfl, h⟩ := h
   rw [depth_cons]
   rcases List.append_eq_append_iff.1 h with ⟨a', h1, h2⟩ | ⟨c', h1, h2⟩
   ·rw [h1, depth_append, depth_yield]
    have : a' = [] ∨ a' = [.cls] := by
     rcases a' with _ | ⟨y, a'⟩
     ·exact .inl rfl
     ·simp only [List.cons_append, List.cons.injEq] at h2
      obtain ⟨rfl, h2⟩ := h2
      have : a' = [] := by simpa using (List.append_eq_nil_iff.1 h2.symm).1
      subst this; exact .inr rfl
    rcases this with rfl | rfl <;> simp [depth, Tk.turn]
   ·have := ih u c' h1
    simp only [Tk.turn]; omega
 | pre o t ih =>
  intro u w h
  rcases u with _ | ⟨x, u⟩
  ·simp [depth]
  ·simp only [Tr.yield, List.cons_append, List.cons.injEq] at h
   obtain ⟨rfl, h⟩ := h
   rw [depth_cons]
   have := ih u w h
   simp only [Tk.turn]; omega
 | post o t ih =>
  intro u w h
  simp only [Tr.yield] at h
  rcases List.append_eq_append_iff.1 h with ⟨a', h1, h2⟩ | ⟨c', h1, h2⟩
  ·rw [h1, depth_append, depth_yield]
   rcases a' with _ | ⟨y, a'⟩
   ·simp [depth]
   ·simp only [List.cons_append, List.cons.injEq] at h2
    obtain ⟨rfl, h2⟩ := h2
    have : a' = [] := by simpa using (List.append_eq_nil_iff.1 h2.symm).1
    subst this; simp [depth, Tk.turn]
  ·exact ih u c' h1
 | inf o l r ihl ihr =>
  intro u w h
  simp only [Tr.yield] at h
  rcases List.append_eq_append_iff.1 h with ⟨a', h1, h2⟩ | ⟨c', h1, h2⟩
  ·rw [h1, depth_append, depth_yield]
   rcases a' with _ | ⟨y, a'⟩
   ·simp [depth]
   ·simp only [List.cons_append, List.cons.injEq] at h2
    obtain ⟨rfl, h2⟩ := h2
    rw [depth_cons]
    have := ihr a' w h2
    simp only [Tk.turn]; omega
  ·exact ihl u c' h1
theorem of_inf {o : α} {u w : List (Tk α β)} (h : OF (u ++ .inf o :: w)) (hd : depth u = 0) : OF u ∧ OF w := by
 obtain ⟨t, ht⟩ := h
 induction t generalizing u w with
 | leaf b =>
  exfalso
  rcases u with _ | ⟨x, u⟩
  ·simp [Tr.yield] at ht
  ·simp [Tr.yield] at ht
 | grp t ih =>
  exfalso
  rcases u with _ | ⟨x, u⟩
  ·simp [Tr.yield] at ht
  ·simp only [Tr.yield, List.cons_append, List.cons.injEq] at ht
   obtain ⟨rfl, h⟩ := ht
   rw [depth_cons] at hd
   rcases List.append_eq_append_iff.1 h with ⟨a', h1, h2⟩ | ⟨c', h1, h2⟩
   ·rcases a' with _ | ⟨y, a'⟩
    ·simp at h2
    ·simp only [List.cons_append, List.cons.injEq] at h2
     have := (List.append_eq_nil_iff.1 h2.2.symm).2
     simp at this
   ·have := depth_begin t u c' h1
    simp only [Tk.turn] at hd; omega
 | pre p t ih =>
  rcases u with _ | ⟨x, u⟩
  ·simp [Tr.yield] at ht
  ·simp only [Tr.yield, List.cons_append, List.cons.injEq] at ht
   obtain ⟨rfl, h⟩ := ht
   rw [depth_cons] at hd
   obtain ⟨⟨t1, e1⟩, h2⟩ := ih (by simp only [Tk.turn] at hd; omega) h
   exact ⟨⟨.pre p t1, by simp [Tr.yield, e1]⟩, h2⟩
 | post p t ih =>
  simp only [Tr.yield] at ht
  rcases List.append_eq_append_iff.1 ht with ⟨a', h1, h2⟩ | ⟨c', h1, h2⟩
  ·exfalso
   rcases a' with _ | ⟨y, a'⟩
   ·simp at h2
   ·simp only [List.cons_append, List.cons.injEq] at h2
    have := (List.append_eq_nil_iff.1 h2.2.symm).2
    simp at this
  ·rcases c' with _ | ⟨y, c'⟩
   ·simp at h2
   ·simp only [List.cons_append, List.cons.injEq] at h2
    obtain ⟨rfl, h2⟩ := h2
    obtain ⟨h3, ⟨t1, e1⟩⟩ := ih hd h1
    exact ⟨h3, ⟨.post p t1, by rw [h2]; simp [Tr.yield, e1]⟩⟩
 | inf p l r ihl ihr =>
  simp only [Tr.yield] at ht
  rcases List.append_eq_append_iff.1 ht with ⟨a', h1, h2⟩ | ⟨c', h1, h2⟩
  ·rcases a' with _ | ⟨y, a'⟩
   ·simp only [List.append_nil, List.nil_append, List.cons.injEq] at h1 h2
    exact ⟨⟨l, h1.symm⟩, ⟨r, h2.2⟩⟩
   ·simp only [List.cons_append, List.cons.injEq] at h2
    obtain ⟨rfl, h2⟩ := h2
    rw [h1, depth_append, depth_yield, depth_cons] at hd
    obtain ⟨⟨t1, e1⟩, h4⟩ := ihr (by simp only [Tk.turn] at hd; omega) h2
    exact ⟨⟨.inf p l t1, by rw [h1]; simp [Tr.yield, e1]⟩, h4⟩
  ·rcases c' with _ | ⟨y, c'⟩
   ·simp only [List.append_nil, List.nil_append, List.cons.injEq] at h1 h2
    exact ⟨⟨l, h1⟩, ⟨r, h2.2.symm⟩⟩
   ·simp only [List.cons_append, List.cons.injEq] at h2
    obtain ⟨rfl, h2⟩ := h2
    obtain ⟨h3, ⟨t1, e1⟩⟩ := ihl hd h1
    exact ⟨h3, ⟨.inf p t1 r, by rw [h2]; simp [Tr.yield, e1]⟩⟩
theorem root_at (s : List (Tk α β)) : ∀ (i : Nat) (d : Int) best (j : Nat) (o : α), root v s i d best = some (j, o) → best = some (j, o) ∨ ∃ u tk w, s = u ++ tk :: w ∧ tk.op? = some o ∧ d + depth u = 0 ∧ j = i + u.length := by
 induction s with
 | nil => intro i d best j o h; exact .inl h
 | cons tk r ih =>
  intro i d best j o h
  rw [root] at h
  have go : ∀ best', root v r (i + 1) (d + tk.turn) best' = some (j, o) → best' = some (j, o) ∨ ∃ u t w, tk :: r = u ++ t :: w ∧ t.op? = some o ∧ d + depth u = 0 ∧ j = i + u.length := by
   intro best' h'
   rcases ih _ _ _ _ _ h' with h' | ⟨u, t, w, h1, h2, h3, h4⟩
   ·exact .inl h'
   ·exact .inr ⟨tk :: u, t, w, by rw [h1]; rfl, h2, by rw [depth_cons]; omega, by rw [List.length_cons]; omega⟩
  split at h
  rotate_left
  ·exact go _ h
  ·rename_i hd
   split at h
   ·exact go _ h
   ·rename_i o' ho
    rcases go _ h with h | h
    ·have : better v best (i, o') = best ∨ better v best (i, o') = some (i, o') := by
      unfold better
      cases best with
      | none => exact .inr rfl
      | some b => simp only; split; exact .inr rfl; exact .inl rfl
     rcases this with e | e
     ·rw [e] at h; exact .inl h
     ·rw [e] at h
      simp only [Option.some.injEq, Prod.mk.injEq] at h
      obtain ⟨rfl, rfl⟩ := h
      refine .inr ⟨[], tk, r, rfl, ho, ?_, by simp⟩
      have : tk.turn = 0 := by cases tk <;> simp [Tk.op?] at ho <;> rfl
      rw [this] at hd
      simp [depth]; omega
    ·exact .inr h
theorem better_some (best : Option (Nat × α)) (x : Nat × α) : ∃ y, better v best x = some y := by
 unfold better
 cases best with
 | none => exact ⟨_, rfl⟩
 | some b => simp only; split; exact ⟨_, rfl⟩; exact ⟨_, rfl⟩
theorem fold_some (l : List (Nat × α)) : ∀ x, ∃ y, l.foldl (better v) (some x) = some y := by
 induction l with
 | nil => intro x; exact ⟨x, rfl⟩
 | cons z l ih =>
  intro x
  obtain ⟨y, hy⟩ := better_some v (some x) z
  simp only [List.foldl_cons, hy]
  exact ih y
theorem root_none (t : Tr α β) (h : root v t.yield 0 0 none = none) : (∃ b, t = .leaf b) ∨ ∃ t', t = .grp t' := by
 rw [root_yield] at h
 cases t with
 | leaf b => exact .inl ⟨b, rfl⟩
 | grp t => exact .inr ⟨t, rfl⟩
 | pre o t =>
  simp only [Tr.tops, List.foldl_cons] at h
  obtain ⟨y, hy⟩ := better_some v none (0, o)
  rw [hy] at h
  obtain ⟨z, hz⟩ := fold_some v (t.tops (0 + 1)) y
  rw [hz] at h; simp at h
 | post o t =>
  simp only [Tr.tops, List.foldl_append, List.foldl_cons, List.foldl_nil] at h
  obtain ⟨y, hy⟩ := better_some v (List.foldl (better v) none (t.tops 0)) (0 + t.yield.length, o)
  rw [hy] at h; simp at h
 | inf o l r =>
  simp only [Tr.tops, List.foldl_append, List.foldl_cons] at h
  obtain ⟨y, hy⟩ := better_some v (List.foldl (better v) none (l.tops 0)) (0 + l.yield.length, o)
  rw [hy] at h
  obtain ⟨z, hz⟩ := fold_some v (r.tops (0 + l.yield.length + 1)) y
  rw [hz] at h; simp at h
theorem build_sound (n : Nat) : ∀ (s : List (Tk α β)) (t : Tr α β), OF s → build v n s = some t → t.Adm v ∧ t.yield = s := by
 induction n with
 | zero => intro s t _ h; simp [build] at h
 | succ n ih =>
  intro s t hof h
  rw [build] at h; unfold buildF at h
  cases hr : root v s 0 0 none with
  | none =>
   rw [hr] at h; simp only at h
   obtain ⟨t0, rfl⟩ := hof
   rcases root_none v t0 hr with ⟨b, rfl⟩ | ⟨t1, rfl⟩
   ·simp only [Tr.yield, Option.some.injEq] at h
    subst h; exact ⟨trivial, rfl⟩
   ·simp only [Tr.yield, List.dropLast_concat] at h
    cases hb : build v n t1.yield with
    | none => rw [hb] at h; simp at h
    | some t2 =>
     rw [hb] at h
     simp only [Option.map_some, Option.some.injEq] at h
     subst h
     obtain ⟨h1, h2⟩ := ih _ _ ⟨t1, rfl⟩ hb
     exact ⟨h1, by simp [Tr.yield, h2]⟩
  | some x =>
   obtain ⟨i, o⟩ := x
   rw [hr] at h; simp only at h
   rcases root_at v s _ _ _ _ _ hr with h0 | ⟨u, tk, w, rfl, ho, hd, rfl⟩
   ·simp at h0
   ·rw [List.getElem?_append_right (by omega)] at h
    simp only [Nat.zero_add, Nat.sub_self, List.getElem?_cons_zero] at h
    rw [Int.zero_add] at hd
    have hdr : (u ++ tk :: w).drop (u.length + 1) = w := by
     rw [show u ++ tk :: w = (u ++ [tk]) ++ w by simp, List.drop_left' (by simp)]
    rw [List.take_left, hdr] at h
    split at h
    ·rename_i p hp
     simp only [Option.some.injEq] at hp
     subst hp
     split at h
     ·simp at h
     ·rename_i hu
      have hu' : u = [] := List.eq_nil_of_length_eq_zero (by omega)
      subst hu'
      simp only [List.nil_append, List.drop_succ_cons, List.drop_zero] at h hof ⊢
      cases hb : build v n w with
      | none => rw [hb] at h; simp at h
      | some t2 =>
       rw [hb] at h; simp only at h
       split at h
       ·rename_i hc
        simp only [Option.some.injEq] at h
        subst h
        obtain ⟨h1, h2⟩ := ih _ _ (of_pre hof) hb
        exact ⟨⟨hc, h1⟩, by simp [Tr.yield, h2]⟩
       ·simp at h
    ·rename_i p hp
     simp only [Option.some.injEq] at hp
     subst hp
     split at h
     ·simp at h
     ·rename_i hw
      have hw' : w = [] := List.eq_nil_of_length_eq_zero (by simp only [List.length_append, List.length_cons] at hw; omega)
      subst hw'
      cases hb : build v n u with
      | none => rw [hb] at h; simp at h
      | some t2 =>
       rw [hb] at h; simp only at h
       split at h
       ·rename_i hc
        simp only [Option.some.injEq] at h
        subst h
        obtain ⟨h1, h2⟩ := ih _ _ (of_post hof) hb
        exact ⟨⟨hc, h1⟩, by simp [Tr.yield, h2]⟩
       ·simp at h
    ·rename_i p hp
     simp only [Option.some.injEq] at hp
     subst hp
     obtain ⟨ofu, ofw⟩ := of_inf hof hd
     cases hb : build v n u with
     | none => rw [hb] at h; simp at h
     | some t2 =>
      rw [hb] at h; simp only at h
      cases hb' : build v n w with
      | none => rw [hb'] at h; simp at h
      | some t3 =>
       rw [hb'] at h; simp only at h
       split at h
       ·rename_i hc
        simp only [Option.some.injEq] at h
        subst h
        obtain ⟨h1, h2⟩ := ih _ _ ofu hb
        obtain ⟨h3, h4⟩ := ih _ _ ofw hb'
        exact ⟨⟨hc.1, hc.2, h1, h3⟩, by simp [Tr.yield, h2, h4]⟩
       ·simp at h
    ·rename_i h1 h2 h3
     cases tk with
     | pre p => exact absurd rfl (h1 p)
     | post p => exact absurd rfl (h2 p)
     | inf p => exact absurd rfl (h3 p)
     | leaf b => simp [Tk.op?] at ho
     | opn => simp [Tk.op?] at ho
     | cls => simp [Tk.op?] at ho
def Fit : Bool → Nat → List (Tk α β) → Prop
 | false, d, [] => d = 0
 | true, _, [] => False
 | true, d, .leaf _ :: r => Fit false d r
 | true, d, .opn :: r => Fit true (d + 1) r
 | true, d, .pre _ :: r => Fit true d r
 | false, d, .inf _ :: r => Fit true d r
 | false, d, .post _ :: r => Fit false d r
 | false, d + 1, .cls :: r => Fit false d r
 | _, _, _ => False
theorem fit_of (n : Nat) :
  (∀ d (ts : List (Tk α β)), ts.length < n → Fit true d ts → ∃ t : Tr α β, ∃ rest, ts = t.yield ++ rest ∧ ((rest = [] ∧ d = 0) ∨ ∃ r d', rest = .cls :: r ∧ d = d' + 1 ∧ Fit false d' r)) ∧
  (∀ d (t0 : Tr α β) (ts : List (Tk α β)), ts.length < n → Fit false d ts → ∃ t : Tr α β, ∃ rest, t0.yield ++ ts = t.yield ++ rest ∧ ((rest = [] ∧ d = 0) ∨ ∃ r d', rest = .cls :: r ∧ d = d' + 1 ∧ Fit false d' r)) := by
 induction n with
 | zero => exact ⟨fun _ _ h => by omega, fun _ _ _ h => by omega⟩
 | succ n ih =>
  obtain ⟨ih1, ih2⟩ := ih
  refine ⟨fun d ts hl h => ?_, fun d t0 ts hl h => ?_⟩
  ·rcases ts with _ | ⟨tk, r⟩
   ·simp [Fit] at h
   ·simp only [List.length_cons] at hl
    cases tk with
    | leaf b =>
     simp only [Fit] at h
     exact ih2 d (.leaf b) r (by omega) h
    | opn =>
     simp only [Fit] at h
     obtain ⟨t1, rest, e, hr⟩ := ih1 _ _ (by omega) h
     rcases hr with ⟨_, h0⟩ | ⟨r', d', h1, h2, h3⟩
     ·omega
     ·obtain rfl : d' = d := by omega
      obtain ⟨t, rest', e', hr'⟩ := ih2 _ (.grp t1) r' (by
       have := congrArg List.length e
       rw [h1] at this
       simp at this; omega) h3
      refine ⟨t, rest', ?_, hr'⟩
      rw [← e', e, h1]; simp [Tr.yield]
    | pre o =>
     simp only [Fit] at h
     obtain ⟨t1, rest, e, hr⟩ := ih1 _ _ (by omega) h
     exact ⟨.pre o t1, rest, by rw [e]; simp [Tr.yield], hr⟩
    | inf o => simp [Fit] at h
    | post o => simp [Fit] at h
    | cls => simp [Fit] at h
  ·rcases ts with _ | ⟨tk, r⟩
   ·simp only [Fit] at h
    exact ⟨t0, [], rfl, .inl ⟨rfl, h⟩⟩
   ·simp only [List.length_cons] at hl
    cases tk with
    | leaf b => simp [Fit] at h
    | opn => simp [Fit] at h
    | pre o => simp [Fit] at h
    | inf o =>
     simp only [Fit] at h
     obtain ⟨t1, rest, e, hr⟩ := ih1 _ _ (by omega) h
     exact ⟨.inf o t0 t1, rest, by rw [e]; simp [Tr.yield], hr⟩
    | post o =>
     simp only [Fit] at h
     obtain ⟨t, rest, e, hr⟩ := ih2 _ (.post o t0) r (by omega) h
     exact ⟨t, rest, by rw [← e]; simp [Tr.yield], hr⟩
    | cls =>
     cases d with
     | zero => simp [Fit] at h
     | succ d =>
      simp only [Fit] at h
      exact ⟨t0, _, rfl, .inr ⟨r, d, rfl, rfl, h⟩⟩
theorem OF.of_fit {ts : List (Tk α β)} (h : Fit true 0 ts) : OF ts := by
 obtain ⟨t, rest, e, hr⟩ := (fit_of (ts.length + 1)).1 0 ts (by omega) h
 rcases hr with ⟨rfl, _⟩ | ⟨_, _, _, h0, _⟩
 ·exact ⟨t, by rw [e, List.append_nil]⟩
 ·omega
theorem build_eq_operand {p : α → Prop} (hg : Good v p) (s : List (Tk α β)) (hs : OF s) (hall : ∀ t : Tr α β, t.yield = s → t.All v p) (t : Tr α β) :
  build v s.length s = some t ↔ operand v (2 * s.length + 2) 0 s = some (some (t, [])) := by
 constructor
 ·intro h
  obtain ⟨h1, h2⟩ := build_sound v _ s t hs h
  exact (whole v hg t (hall t h2) s).2 ⟨h1, h2⟩
 ·intro h
  obtain ⟨h1, h2, _⟩ := (sound_all v _).1 _ _ _ _ h
  have h2' : t.yield = s := by rw [h1]; simp
  rw [← h2']
  exact build_complete v hg t _ (by omega) (hall t h2') h2
end Go.Proofs.YtjdmmhcogmepaaaGreatDoor.Ops
namespace Go.Proofs.YtjdmmhcogmepaaaGreatDoor.V
open Go.RowKit
open Go.Maps (Keyed)
open Go.Proofs.YtjdmmhcogmepaaaGreatDoor.Ops (Tr Tk)
abbrev PT := Tr POp (Int × ByteArray)
def highT : PT → Int
 | .leaf _ => 1
 | .grp e => 1 + highT e
 | .pre _ e => 1 + highT e
 | .post _ e => 1 + highT e
 | .inf _ x y => 1 + max (highT x) (highT y)
def partP : PT → Value
 | .leaf b => .iface 193 (.agg #[.int .i64 b.1, .string b.2, .int .i64 0, .int .i64 0])
 | .grp e => .iface 212 (.agg #[partP e, .int .i64 (1 + highT e)])
 | .pre o e => .iface 164 (.agg #[.string o.text, .int .i64 o.kind, .int .i64 o.level, .int .i64 o.side, .nilIface, partP e, .int .i64 (1 + highT e)])
 | .post o e => .iface 164 (.agg #[.string o.text, .int .i64 o.kind, .int .i64 o.level, .int .i64 o.side, partP e, .nilIface, .int .i64 (1 + highT e)])
 | .inf o x y => .iface 164 (.agg #[.string o.text, .int .i64 o.kind, .int .i64 o.level, .int .i64 o.side, partP x, partP y, .int .i64 (1 + max (highT x) (highT y))])
def lvlP : PT → Int
 | .leaf _ => 1001
 | .grp _ => 1001
 | .pre o _ => o.level
 | .post o _ => o.level
 | .inf o _ _ => o.level
theorem highT_pos : ∀ e : PT, 1 ≤ highT e
 | .leaf _ => by simp [highT]
 | .grp e => by have := highT_pos e; simp only [highT]; omega
 | .pre _ e => by have := highT_pos e; simp only [highT]; omega
 | .post _ e => by have := highT_pos e; simp only [highT]; omega
 | .inf _ x y => by have := highT_pos x; simp only [highT]; omega
theorem highT_yield : ∀ e : PT, highT e ≤ e.yield.length
 | .leaf _ => by simp [highT, Tr.yield]
 | .grp e => by have := highT_yield e; simp [highT, Tr.yield]; omega
 | .pre _ e => by have := highT_yield e; simp [highT, Tr.yield]; omega
 | .post _ e => by have := highT_yield e; simp [highT, Tr.yield]; omega
 | .inf _ x y => by have := highT_yield x; have := highT_yield y; simp [highT, Tr.yield]; omega
def PartIs (v : Value) (lv hi : Int) : Prop := ∃ T u, v = .iface T u ∧ (∃ f, methOf Tryz.prog T "loop.example/s0059/impl.level" = some f ∧ VFun Tryz.prog f [.lit u] (fun av obs => obs = [] ∧ av = .lit (.int .i64 lv))) ∧ ∃ f, methOf Tryz.prog T "loop.example/s0059/impl.height" = some f ∧ VFun Tryz.prog f [.lit u] (fun av obs => obs = [] ∧ av = .lit (.int .i64 hi))
theorem partP_iface (e : PT) : ∃ T u, partP e = .iface T u := by cases e <;> exact ⟨_, _, rfl⟩
def isIfP (v : Value) : Prop := v = .nilIface ∨ ∃ t u, v = .iface t u
theorem c_leaf_levelP (a c d : Int) (b : ByteArray) : VFun Tryz.prog 185 [.lit (.agg #[.int .i64 a, .string b, .int .i64 c, .int .i64 d])] (fun av obs => obs = [] ∧ av = .lit (.int .i64 1001)) := by
 refine vfun_start Tryz.func185 (by kernel_rfl) rfl (by simp [Tryz.ntmps185]) ?_; simp only [Tryz.ntmps185, Tryz.results185]; simp [go_sem]
theorem c_leaf_heightP (a c d : Int) (b : ByteArray) : VFun Tryz.prog 184 [.lit (.agg #[.int .i64 a, .string b, .int .i64 c, .int .i64 d])] (fun av obs => obs = [] ∧ av = .lit (.int .i64 1)) := by
 refine vfun_start Tryz.func184 (by kernel_rfl) rfl (by simp [Tryz.ntmps184]) ?_; simp only [Tryz.ntmps184, Tryz.results184]; simp [go_sem]
theorem c_group_levelP (a : Value) (ha : isIfP a) (c : Int) : VFun Tryz.prog 188 [.lit (.agg #[a, .int .i64 c])] (fun av obs => obs = [] ∧ av = .lit (.int .i64 1001)) := by
 refine vfun_start Tryz.func188 (by kernel_rfl) rfl (by simp [Tryz.ntmps188]) ?_; simp only [Tryz.ntmps188, Tryz.results188]; simp [go_sem]
 rcases ha with rfl | ⟨_, _, rfl⟩ <;> rfl
theorem c_group_heightP (a : Value) (ha : isIfP a) (c : Int) : VFun Tryz.prog 187 [.lit (.agg #[a, .int .i64 c])] (fun av obs => obs = [] ∧ av = .lit (.int .i64 c)) := by
 refine vfun_start Tryz.func187 (by kernel_rfl) rfl (by simp [Tryz.ntmps187]) ?_; simp only [Tryz.ntmps187, Tryz.results187]; simp [go_sem]
 rcases ha with rfl | ⟨_, _, rfl⟩ <;> rfl
theorem c_applied_levelP (o : POp) (a b : Value) (ha : isIfP a) (hb : isIfP b) (c : Int) : VFun Tryz.prog 182 [.lit (.agg #[.string o.text, .int .i64 o.kind, .int .i64 o.level, .int .i64 o.side, a, b, .int .i64 c])] (fun av obs => obs = [] ∧ av = .lit (.int .i64 o.level)) := by
 refine vfun_start Tryz.func182 (by kernel_rfl) rfl (by simp [Tryz.ntmps182]) ?_; simp only [Tryz.ntmps182, Tryz.results182]; simp [go_sem]
 constructor
 ·rcases ha with rfl | ⟨_, _, rfl⟩ <;> rfl
 ·rcases hb with rfl | ⟨_, _, rfl⟩ <;> rfl
theorem c_applied_heightP (o : POp) (a b : Value) (ha : isIfP a) (hb : isIfP b) (c : Int) : VFun Tryz.prog 181 [.lit (.agg #[.string o.text, .int .i64 o.kind, .int .i64 o.level, .int .i64 o.side, a, b, .int .i64 c])] (fun av obs => obs = [] ∧ av = .lit (.int .i64 c)) := by
 refine vfun_start Tryz.func181 (by kernel_rfl) rfl (by simp [Tryz.ntmps181]) ?_; simp only [Tryz.ntmps181, Tryz.results181]; simp [go_sem]
 constructor
 ·rcases ha with rfl | ⟨_, _, rfl⟩ <;> rfl
 ·rcases hb with rfl | ⟨_, _, rfl⟩ <;> rfl
theorem mo_leaf_l : methOf Tryz.prog 193 "loop.example/s0059/impl.level" = some 185 := by kernel_rfl
theorem mo_leaf_h : methOf Tryz.prog 193 "loop.example/s0059/impl.height" = some 184 := by kernel_rfl
theorem mo_group_l : methOf Tryz.prog 212 "loop.example/s0059/impl.level" = some 188 := by kernel_rfl
theorem mo_group_h : methOf Tryz.prog 212 "loop.example/s0059/impl.height" = some 187 := by kernel_rfl
theorem mo_applied_l : methOf Tryz.prog 164 "loop.example/s0059/impl.level" = some 182 := by kernel_rfl
theorem mo_applied_h : methOf Tryz.prog 164 "loop.example/s0059/impl.height" = some 181 := by kernel_rfl
theorem partIs (e : PT) : PartIs (partP e) (lvlP e) (highT e) := by
 have hi : ∀ e : PT, isIfP (partP e) := fun e => .inr (partP_iface e)
 cases e with
 | leaf b => exact ⟨_, _, rfl, ⟨_, mo_leaf_l, c_leaf_levelP _ _ _ _⟩, _, mo_leaf_h, c_leaf_heightP _ _ _ _⟩
 | grp e => exact ⟨_, _, rfl, ⟨_, mo_group_l, c_group_levelP _ (hi e) _⟩, _, mo_group_h, c_group_heightP _ (hi e) _⟩
 | pre o e => exact ⟨_, _, rfl, ⟨_, mo_applied_l, c_applied_levelP o _ _ (.inl rfl) (hi e) _⟩, _, mo_applied_h, c_applied_heightP o _ _ (.inl rfl) (hi e) _⟩
 | post o e => exact ⟨_, _, rfl, ⟨_, mo_applied_l, c_applied_levelP o _ _ (hi e) (.inl rfl) _⟩, _, mo_applied_h, c_applied_heightP o _ _ (hi e) (.inl rfl) _⟩
 | inf o x y => exact ⟨_, _, rfl, ⟨_, mo_applied_l, c_applied_levelP o _ _ (hi x) (hi y) _⟩, _, mo_applied_h, c_applied_heightP o _ _ (hi x) (hi y) _⟩
def pOb (b1 b2 b3 b4 : Nat) (t : List PTok) (i : Nat) : Option Ob := some ⟨161, 6, 1, fun _ => [.lit (.map (some b1)), .lit (.map (some b2)), .sl 3 t.length (tokCells t), .lit (.int .i64 i), .lit (.map (some b3)), .lit (.map (some b4))]⟩
theorem pOut {idx : Nat → Nat} {ks : List Nat} {b1 b2 b3 b4 n ty : Nat} {t : List PTok} {i : Int} : OutAt idx ks ⟨ty, 6, 1, fun _ => [.lit (.map (some b1)), .lit (.map (some b2)), .sl 3 n (tokCells t), .lit (.int .i64 i), .lit (.map (some b3)), .lit (.map (some b4))]⟩ (some (some ⟨ty, 6, 1, fun _ => [.lit (.map (some b1)), .lit (.map (some b2)), .sl 3 n (tokCells t), .lit (.int .i64 i), .lit (.map (some b3)), .lit (.map (some b4))]⟩)) :=
 ⟨rfl, rfl, rfl, fun i hi => ⟨rfl, fun c hc => by
  simp at hc
  rcases hc with rfl | rfl | rfl | rfl | rfl | rfl
  ·exact .inl rfl
  ·exact .inl rfl
  ·exact .inr ⟨⟨_, _, _, rfl⟩, .sl _ _ _ fun i c _ h => tokClosed t i c h⟩
  ·exact .inl rfl
  ·exact .inl rfl
  ·exact .inl rfl, fun c hc q hq => by
  simp at hc
  rcases hc with rfl | rfl | rfl | rfl | rfl | rfl <;> simp [owns1] at hq⟩⟩
theorem c_pnext (b1 b2 b3 b4 : Nat) (t : List PTok) (ht : t.length ≤ 1048576) (i : Nat) (hi : i < t.length) : VProc Tryz.prog 149 [.ptr 0 6 0 0] [pOb b1 b2 b3 b4 t i] [] (fun av mem maps => av = .agg (tokAt t i).cells ∧ mem = [pOb b1 b2 b3 b4 t (i + 1)] ∧ maps = []) := by
 have ew : IntKind.i64.wrap ((i : Int) + 1) = ((i + 1 : Nat) : Int) := wrap_succ (by omega)
 simp only [pOb, PTok.cells]
 refine vproc_start Tryz.func149 (by kernel_rfl) rfl (by simp [Tryz.ntmps149]) ?_; simp only [Tryz.ntmps149, Tryz.results149]; simp [go_sem]
 refine vc_drawn [11] (.q 0 <| .q 1 <| .q 2 <| .q 3 <| .q 4 <| .q 5 <| .q 6 <| .q 7 <| .q 8 <| .q 9 <| .or 10 (.or 11 (.done) (.nil)) (.nil)) (by kernel_rfl) ?_
 simp [go_sem, tokCells_at, hi, ew]
 refine ⟨rfl, [], [pOb b1 b2 b3 b4 t (i + 1)], by simp, by simp, by simp [go_sem], ?_, by simp [go_sem], ?_⟩
 ·simp [go_sem, pOb]
  exact pOut
 ·simp [go_sem, pOb]
theorem c_behind (l : List POp) (b1 b2 b3 b4 : Nat) (t : List PTok) (i : Nat) (hu : Uniq l) (es : List (Value × Value)) (h : AtIs l l.length es) (j : Nat) (hj : j < l.length) (hk : (opAt l j).kind ≠ 1) (hz : (opAt l j).text.size ≤ maxLen) :
  VProc Tryz.prog 126 [.ptr 0 6 0 0, .lit (.string (opAt l j).text)] [pOb b1 b2 b3 b4 t i] [(b1, ⟨151, es⟩)] (fun av mem maps => av = .agg (opAt l j).cells ∧ mem = [pOb b1 b2 b3 b4 t i] ∧ maps = [(b1, ⟨151, es⟩)]) := by
 have hget : mget es (.agg #[.string (opAt l j).text, .bool false]) = some (opV (opAt l j)) := by
  rcases at_cases h (opAt l j).text false with ⟨_, h2⟩ | ⟨j', hj', h1, h2, h3⟩
  ·exact absurd ⟨rfl, by simpa using hk⟩ (h2 j hj)
  ·rw [h1, hu j' j hj' hj h2 (by rw [h3]; simpa using hk)]
 simp only [pOb, POp.cells]
 refine vproc_start Tryz.func126 (by kernel_rfl) rfl (by simp [Tryz.ntmps126]) ?_; simp only [Tryz.ntmps126, Tryz.results126]; simp [go_sem]
 refine vlookK_use keyedPlace (keyPlace hz) _ zeroOpV ?_
 rw [hget]
 simp [go_sem, opV]
 refine ⟨rfl, [], [pOb b1 b2 b3 b4 t i], by simp, by simp, by simp [go_sem], ?_, by simp [go_sem], ?_⟩
 ·simp [go_sem, pOb]
  exact pOut
 ·simp [go_sem, pOb]
end Go.Proofs.YtjdmmhcogmepaaaGreatDoor.V
namespace Go.Proofs.YtjdmmhcogmepaaaGreatDoor.V
open Go.RowKit
open Go.Maps (Keyed)
open Go.Proofs.YtjdmmhcogmepaaaGreatDoor.Ops (Tr Tk Lv Res)
abbrev TkP := Tk POp (Int × ByteArray)
def lvO (o : POp) : Lv := ⟨o.level, sortN o⟩
theorem lvlP_eq (e : PT) : lvlP e = e.level lvO := by cases e <;> rfl
theorem hole_h1 {o : POp} (h : opOk o = true) (hk : o.kind ≠ 1) : hole o false = (lvO o).h1 := by
 unfold hole Lv.h1 lvO sortN
 rw [h]
 simp only [Bool.true_eq_false, Bool.false_eq_true, false_and, or_self, if_false, if_neg hk]
 have h3 : o.kind = 2 ∨ o.kind = 3 := by simp [opOk] at h; omega
 rcases h3 with h3 | h3
 ·have hs : 1 ≤ o.side ∧ o.side ≤ 3 := by simp [opOk] at h; omega
  rw [h3]
  by_cases h1 : o.side = 1
  ·simp [h1]
  ·simp [h1]
 ·rw [h3]; simp
theorem hole_h2p {o : POp} (h : opOk o = true) (hk : o.kind = 1) : hole o false = (lvO o).h2 := by
 unfold hole Lv.h2 lvO sortN
 rw [h, hk]
 simp
theorem hole_h2i {o : POp} (h : opOk o = true) (hk : o.kind = 2) : hole o true = (lvO o).h2 := by
 unfold hole Lv.h2 lvO sortN
 rw [h, hk]
 have hs : 1 ≤ o.side ∧ o.side ≤ 3 := by simp [opOk] at h; omega
 rcases (by omega : o.side = 1 ∨ o.side = 2 ∨ o.side = 3) with h1 | h1 | h1 <;> simp [h1]
def TokIs (l : List POp) (k : PTok) : TkP → Prop
 | .leaf b => (k.kind = 1 ∨ k.kind = 2) ∧ b = (k.kind, k.text)
 | .opn => k.kind = 4
 | .cls => k.kind = 5
 | .pre o => k.kind = 3 ∧ o.text = k.text ∧ o.kind = 1 ∧ ∃ j, j < l.length ∧ opAt l j = o
 | .inf o => k.kind = 3 ∧ o.text = k.text ∧ o.kind = 2 ∧ ∃ j, j < l.length ∧ opAt l j = o
 | .post o => k.kind = 3 ∧ o.text = k.text ∧ o.kind = 3 ∧ ∃ j, j < l.length ∧ opAt l j = o
def ToksAre (l : List POp) (t : List PTok) : Nat → List TkP → Prop
 | i, [] => i + 1 = t.length ∧ (tokAt t i).kind = 7
 | i, tk :: r => TokIs l (tokAt t i) tk ∧ ToksAre l t (i + 1) r
theorem toksAre_len {l : List POp} {t : List PTok} : ∀ {ts : List TkP} {i : Nat}, ToksAre l t i ts → i + ts.length + 1 = t.length
 | [], i, h => by simpa using h.1
 | tk :: r, i, h => by
  have := toksAre_len h.2
  simp only [List.length_cons]; omega
theorem toksAre_drop {l : List POp} {t : List PTok} : ∀ {u ts : List TkP} {i : Nat}, ToksAre l t i (u ++ ts) → ToksAre l t (i + u.length) ts
 | [], ts, i, h => by simpa using h
 | tk :: u, ts, i, h => by
  have := toksAre_drop (u := u) h.2
  simp only [List.length_cons]
  rw [show i + (u.length + 1) = i + 1 + u.length by omega]; exact this
theorem toksAre_rest {l : List POp} {t : List PTok} {u ts : List TkP} {i : Nat} (h : ToksAre l t i (u ++ ts)) : ToksAre l t (t.length - 1 - ts.length) ts := by
 have h1 := toksAre_drop h
 have h2 := toksAre_len h
 simp only [List.length_append] at h2
 rw [show t.length - 1 - ts.length = i + u.length by omega]; exact h1
open Go.Proofs.YtjdmmhcogmepaaaGreatDoor.Ops (Fit) in
theorem fit_yield : ∀ (e : PT) (d : Nat) (rest : List TkP), Fit true d (e.yield ++ rest) → Fit false d rest
 | .leaf b, d, rest, h => by simpa [Tr.yield, Fit] using h
 | .grp e, d, rest, h => by
  simp only [Tr.yield, List.cons_append, List.append_assoc, List.nil_append, Fit] at h
  have := fit_yield e (d + 1) _ h
  simpa [Fit] using this
 | .pre o e, d, rest, h => by
  simp only [Tr.yield, List.cons_append, Fit] at h
  exact fit_yield e d rest h
 | .post o e, d, rest, h => by
  simp only [Tr.yield, List.append_assoc, List.cons_append, List.nil_append] at h
  have := fit_yield e d _ h
  simpa [Fit] using this
 | .inf o x y, d, rest, h => by
  simp only [Tr.yield, List.append_assoc, List.cons_append, List.nil_append] at h
  have := fit_yield x d _ h
  simp only [Fit] at this
  exact fit_yield y d rest this
def vsP (bp : Nat) (bo : Nat → Nat) : Nat → Value
 | 0 => .pointer (some ⟨bp, 0, none⟩)
 | j + 1 => .pointer (some ⟨bo j, 0, none⟩)
def asP (lo : List POp) : Nat → AV
 | 0 => .bptr [.ptr 0 6 0 0]
 | j + 1 => .bptr (opAt lo j).cells
theorem rnP (lo : List POp) (i : Nat) : Rn (fun j => [0].getD j 0) 1 (asP lo i) (asP lo i) := by
 cases i with
 | zero =>
  refine .bptr _ _ rfl fun j a b h1 h2 => ?_
  match j with
  | 0 =>
   simp only [List.getElem?_cons_zero, Option.some.injEq] at h1 h2
   subst h1; subst h2
   exact .ptr 0 6 0 0 (by omega)
  | j + 1 => simp at h1
 | succ j => exact .closed _ (.bptr _ fun c hc => by
   simp [POp.cells] at hc
   rcases hc with rfl | rfl | rfl | rfl <;> exact .lit _)
structure PMaps (l lo : List POp) (bp : Nat) (bo : Nat → Nat) (esA esN esL : List (Value × Value)) : Prop where
 uniq : Uniq l
 ok : ∀ j, j < l.length → opOk (opAt l j) = true
 wf : opsWf l
 at_ : AtIs l l.length esA
 nud : ∀ j, j < l.length → (opAt l j).kind = 1 → ∃ q, q < lo.length ∧ opAt lo q = opAt l j ∧ mget esN (.string (opAt l j).text) = some (.func (.func 94) #[] #[vsP bp bo 0, vsP bp bo (q + 1)])
 led2 : ∀ j, j < l.length → (opAt l j).kind = 2 → mget esL (.string (opAt l j).text) = some (.func (.func 96) #[] #[vsP bp bo 0])
 led3 : ∀ j, j < l.length → (opAt l j).kind = 3 → mget esL (.string (opAt l j).text) = some (.func (.func 97) #[] #[])
def mapsP (b1 b3 b4 : Nat) (esA esN esL : List (Value × Value)) : List (Nat × Mp) := [(b1, ⟨151, esA⟩), (b3, ⟨9, esN⟩), (b4, ⟨9, esL⟩)]
def noTreeV : Value := .iface 168 (.agg #[])
theorem VProcG.maps {P : Program} {f : FuncId} {args : List AV} {N : Nat} {vs0 : Nat → Value} {as0 : Nat → AV} {mem0 : List (Option Ob)} {maps0 : List (Nat × Mp)} {R : AV → List (Option Ob) → Prop} (h : VProcG P f args N vs0 as0 mem0 maps0 (fun av mem maps => R av mem ∧ MapsLe maps maps0)) : VProcG P f args N vs0 as0 mem0 maps0 (fun av mem maps => R av mem ∧ maps = maps0) :=
 ⟨h.1, fun w vs hd0 hl hv hg hm hmp ht => (h.2 w vs hd0 hl hv hg hm hmp ht).mono fun e w' ⟨v, e1, g, hd, av, mem, maps, ⟨r, hle⟩, po, hf, hmr, hmap, hrep⟩ => ⟨v, e1, g, hd, av, mem, maps0, ⟨r, rfl⟩, ⟨po.len, po.flat, po.cells, fun b hb => hb⟩, hf, hmr, fun b mp hb => hmap b mp (mapsLe_get hle (b, mp) (lkm_mem hb)), hrep⟩⟩
end Go.Proofs.YtjdmmhcogmepaaaGreatDoor.V
namespace Go.Proofs.YtjdmmhcogmepaaaGreatDoor.V
open Go.RowKit
open Go.Maps (Keyed)
open Go.Proofs.YtjdmmhcogmepaaaGreatDoor.Ops (Tr Tk Lv Res)
structure PEnv where
 l : List POp
 lo : List POp
 t : List PTok
 bp : Nat
 bo : Nat → Nat
 b1 : Nat
 b2 : Nat
 b3 : Nat
 b4 : Nat
 esA : List (Value × Value)
 esN : List (Value × Value)
 esL : List (Value × Value)
 maps : PMaps l lo bp bo esA esN esL
 len : t.length ≤ 1048576
 txt : ∀ i, i < t.length → (tokAt t i).text.size ≤ maxLen
 n13 : b1 ≠ b3
 n14 : b1 ≠ b4
 n34 : b3 ≠ b4
namespace PEnv
variable (E : PEnv)
def ob (i : Nat) : Option Ob := pOb E.b1 E.b2 E.b3 E.b4 E.t i
def mps : List (Nat × Mp) := mapsP E.b1 E.b3 E.b4 E.esA E.esN E.esL
def at_ (rest : List TkP) : Nat := E.t.length - 1 - rest.length
def Rt (u : Value) (j : Nat) (av : AV) (mem : List (Option Ob)) (maps : List (Nat × Mp)) : Prop := (av = .lit u ∧ mem = [E.ob j]) ∧ MapsLe maps E.mps
def Ans (f : FuncId) (args : List AV) (i : Nat) : Option (PT × List TkP) → Prop
 | some (e, rest) => VProcG Tryz.prog f args (E.lo.length + 1) (vsP E.bp E.bo) (asP E.lo) [E.ob i] E.mps (fun av mem maps => (av = .lit (partP e) ∧ mem = [E.ob (E.at_ rest)]) ∧ maps = E.mps)
 | none => VDies Tryz.prog f noTreeV args (E.lo.length + 1) (vsP E.bp E.bo) (asP E.lo) [E.ob i] E.mps
theorem Ans.mk {E : PEnv} {f : FuncId} {args : List AV} {i : Nat} {e : PT} {rest : List TkP} (h : VProcG Tryz.prog f args (E.lo.length + 1) (vsP E.bp E.bo) (asP E.lo) [E.ob i] E.mps (E.Rt (partP e) (E.at_ rest))) : E.Ans f args i (some (e, rest)) := VProcG.maps h
theorem mpsLe (M : List (Nat × Mp)) : MapsLe (E.mps ++ M) E.mps := by
 have h1 := E.n13
 have h2 := E.n14
 have h3 := E.n34
 simp [mps, mapsP, MapsLe, lkm, h1, h2, h3, Ne.symm h1, Ne.symm h2, Ne.symm h3]
theorem fin_ {u v : Value} {i j : Nat} (M : List (Nat × Mp)) {r : List (Option Ob)} {tm : List (Nat × AV)} (hv : v = u) (hij : i = j) : vendP E.mps (E.Rt u j) ⟨tm, E.ob i :: r, E.mps ++ M, 1⟩ (.lit v) := by
 subst hv; subst hij
 refine ⟨rfl, [], [E.ob i], by simp, by simp, by simp [go_sem], ?_, fun b hb => ?_, ⟨⟨rfl, rfl⟩, E.mpsLe M⟩⟩
 ·simp only [ob, pOb]
  simp [go_sem]
  exact pOut
 ·cases hq : lkm E.mps b with
  | none => rw [hq] at hb; simp at hb
  | some mp => rw [mapsLe_get (E.mpsLe M) (b, mp) (lkm_mem hq)]; rfl
end PEnv
theorem an_post (E : PEnv) (e : PT) (o : POp) (rest : List TkP) (hl : highT e < 2 ^ 62) : E.Ans 97 [.lit (partP e), .agg o.cells] (E.at_ rest) (some (.post o e, rest)) := by
 refine .mk ?_
 obtain ⟨T, u, hT, _, fh, hh, ch⟩ := partIs e
 have ew : IntKind.i64.wrap (1 + highT e) = 1 + highT e := wrap_i64 (by have := highT_pos e; omega)
 simp only [PEnv.ob, pOb, PEnv.mps, mapsP, POp.cells]
 refine vprocG_start Tryz.func97 (by kernel_rfl) rfl (by simp [Tryz.ntmps97]) ?_; simp only [Tryz.ntmps97, Tryz.results97]; simp [go_sem]
 refine vc_drawn [] (.q 0 <| .q 1 <| .q 2 <| .or 3 (.q 4 <| .q 5 <| .q 6 <| .q 7 <| .done) (.nil)) (by kernel_rfl) ?_
 simp [go_sem]
 rw [hT]
 simp [go_sem, hh]
 refine vcallV_pure ch ?_ ?_
 ·simp [go_sem]
 ·simp [go_sem, ew]
  exact E.fin_ [] (by simp only [partP, hT]) rfl
theorem an_pre (E : PEnv) (k : PTok) (q : Nat) (hq : q < E.lo.length) (hw : (opAt E.lo q).wf) (i : Nat) (e : PT) (rest : List TkP) (hl : highT e < 2 ^ 62) (ho : E.Ans 95 [.ptr 0 6 0 0, .lit (.int .i64 (hole (opAt E.lo q) false))] i (some (e, rest))) : E.Ans 94 [.agg k.cells, .lit (vsP E.bp E.bo 0), .lit (vsP E.bp E.bo (q + 1))] i (some (.pre (opAt E.lo q) e, rest)) := by
 refine .mk ?_
 obtain ⟨T, u, hT, _, fh, hh, ch⟩ := partIs e
 have ew : IntKind.i64.wrap (1 + highT e) = 1 + highT e := wrap_i64 (by have := highT_pos e; omega)
 have cH := c_Hole _ hw false
 simp only [PEnv.ob, pOb, PEnv.mps, mapsP, PTok.cells, vsP, POp.cells] at cH ⊢
 refine vprocG_start Tryz.func94 (by kernel_rfl) rfl (by simp [Tryz.ntmps94]) ?_; simp only [Tryz.ntmps94, Tryz.results94]; simp [go_sem]
 refine vc_drawn [3] (.q 0 <| .q 1 <| .or 2 (.or 3 (.q 4 <| .done) (.nil)) (.nil)) (by kernel_rfl) ?_
 simp [go_sem]
 refine vloadF_of 17 0 rfl (by omega) rfl rfl ?_
 simp [go_sem]
 refine vloadF_of 17 (q + 1) rfl (by omega) rfl rfl ?_
 simp [go_sem, POp.cells]
 refine vcallV_pure cH ?_ ?_
 ·simp [go_sem]
 ·simp [go_sem]
  refine vcall_tell [0] 17 ho (by simp) rfl (fun i _ => rnP E.lo i) ?_ ?_ ?_ ?_
  ·simp [go_sem]
  ·simp [go_sem, PEnv.ob, pOb]
   exact fun i c _ h => tokClosed E.t i c h
  ·exact E.mpsLe []
  ·rintro av mem maps ⟨⟨rfl, rfl⟩, rfl⟩
   simp only [PEnv.ob, pOb, PEnv.mps, mapsP]
   simp [go_sem]
   refine vc_drawn [] (.q 0 <| .q 1 <| .q 2 <| .or 3 (.q 4 <| .q 5 <| .q 6 <| .q 7 <| .done) (.nil)) (by kernel_rfl) ?_
   simp [go_sem]
   refine vloadF_of 17 (q + 1) rfl (by omega) rfl rfl ?_
   simp [go_sem, POp.cells]
   rw [hT]
   simp [go_sem, hh]
   refine vcallV_pure ch ?_ ?_
   ·simp [go_sem]
   ·simp [go_sem, ew]
    exact E.fin_ E.mps (by simp only [partP, hT]) rfl
theorem an_pre_dies (E : PEnv) (k : PTok) (q : Nat) (hq : q < E.lo.length) (hw : (opAt E.lo q).wf) (i : Nat) (ho : E.Ans 95 [.ptr 0 6 0 0, .lit (.int .i64 (hole (opAt E.lo q) false))] i none) : E.Ans 94 [.agg k.cells, .lit (vsP E.bp E.bo 0), .lit (vsP E.bp E.bo (q + 1))] i none := by
 have cH := c_Hole _ hw false
 simp only [PEnv.Ans, PEnv.ob, pOb, PEnv.mps, mapsP, PTok.cells, vsP, POp.cells] at cH ho ⊢
 refine vdies_start Tryz.func94 (by kernel_rfl) rfl (by simp [Tryz.ntmps94]) ?_; simp only [Tryz.ntmps94, startG, startP, List.length_cons, List.length_nil, List.length_singleton]
 refine vd_snd ?_
 simp [go_sem]
 refine vd_fst (vd_drawn [3] (.q 0 <| .q 1 <| .or 2 (.or 3 (.q 4 <| .done) (.nil)) (.nil)) (by kernel_rfl) ?_)
 simp [go_sem]
 refine vloadF_of 17 0 rfl (by omega) rfl rfl ?_
 simp [go_sem]
 refine vloadF_of 17 (q + 1) rfl (by omega) rfl rfl ?_
 simp [go_sem, POp.cells]
 refine vcallV_pure cH ?_ ?_
 ·simp [go_sem]
 ·simp [go_sem]
  refine vdcall_tell [0] 17 ho (by simp) rfl (fun i _ => rnP E.lo i) ?_ ?_ (E.mpsLe []) (E.mpsLe [])
  ·simp [go_sem]
  ·simp [go_sem, PEnv.ob, pOb]
   exact fun i c _ h => tokClosed E.t i c h
theorem an_inf (E : PEnv) (o : POp) (hw : o.wf) (i : Nat) (x e : PT) (rest : List TkP) (hlx : highT x < 2 ^ 61) (hl : highT e < 2 ^ 61) (ho : E.Ans 95 [.ptr 0 6 0 0, .lit (.int .i64 (hole o true))] i (some (e, rest))) : E.Ans 96 [.lit (partP x), .agg o.cells, .lit (vsP E.bp E.bo 0)] i (some (.inf o x e, rest)) := by
 refine .mk ?_
 obtain ⟨T, u, hT, _, fh, hh, ch⟩ := partIs e
 obtain ⟨T', u', hT', _, fh', hh', ch'⟩ := partIs x
 have ew : IntKind.i64.wrap (1 + max (highT x) (highT e)) = 1 + max (highT x) (highT e) := wrap_i64 (by have := highT_pos e; have := highT_pos x; omega)
 have cH := c_Hole _ hw true
 simp only [PEnv.ob, pOb, PEnv.mps, mapsP, vsP, POp.cells] at cH ⊢
 refine vprocG_start Tryz.func96 (by kernel_rfl) rfl (by simp [Tryz.ntmps96]) ?_; simp only [Tryz.ntmps96, Tryz.results96]; simp [go_sem]
 refine vc_drawn [3] (.q 0 <| .q 1 <| .or 2 (.or 3 (.q 4 <| .done) (.nil)) (.nil)) (by kernel_rfl) ?_
 simp [go_sem]
 refine vloadF_of 22 0 rfl (by omega) rfl rfl ?_
 simp [go_sem]
 refine vcallV_pure cH ?_ ?_
 ·simp [go_sem]
 ·simp [go_sem]
  refine vcall_tell [0] 22 ho (by simp) rfl (fun i _ => rnP E.lo i) ?_ ?_ ?_ ?_
  ·simp [go_sem]
  ·simp [go_sem, PEnv.ob, pOb]
   exact fun i c _ h => tokClosed E.t i c h
  ·exact E.mpsLe []
  ·rintro av mem maps ⟨⟨rfl, rfl⟩, rfl⟩
   simp only [PEnv.ob, pOb, PEnv.mps, mapsP]
   simp [go_sem]
   refine vc_drawn [] (.q 0 <| .q 1 <| .q 2 <| .q 3 <| .q 5 <| .or 4 (.or 6 (.q 7 <| .q 8 <| .q 9 <| .q 10 <| .q 11 <| .done) (.nil)) (.nil)) (by kernel_rfl) ?_
   simp [go_sem]
   rw [hT, hT']
   simp [go_sem, hh, hh']
   refine vcallV_pure ch' ?_ ?_
   ·simp [go_sem]
   ·simp [go_sem, hh]
    refine vcallV_pure ch ?_ ?_
    ·simp [go_sem]
    ·simp [go_sem, ew]
     have em : (if highT x < highT e then highT e else highT x) = max (highT x) (highT e) := by split <;> omega
     exact E.fin_ E.mps (by simp only [partP, hT, hT', em, ew]) rfl
theorem an_inf_dies (E : PEnv) (o : POp) (hw : o.wf) (i : Nat) (x : PT) (ho : E.Ans 95 [.ptr 0 6 0 0, .lit (.int .i64 (hole o true))] i none) : E.Ans 96 [.lit (partP x), .agg o.cells, .lit (vsP E.bp E.bo 0)] i none := by
 have cH := c_Hole _ hw true
 simp only [PEnv.Ans, PEnv.ob, pOb, PEnv.mps, mapsP, vsP, POp.cells] at cH ho ⊢
 refine vdies_start Tryz.func96 (by kernel_rfl) rfl (by simp [Tryz.ntmps96]) ?_; simp only [Tryz.ntmps96, startG, startP, List.length_cons, List.length_nil, List.length_singleton]
 refine vd_snd ?_
 simp [go_sem]
 refine vd_fst (vd_drawn [3] (.q 0 <| .q 1 <| .or 2 (.or 3 (.q 4 <| .done) (.nil)) (.nil)) (by kernel_rfl) ?_)
 simp [go_sem]
 refine vloadF_of 22 0 rfl (by omega) rfl rfl ?_
 simp [go_sem]
 refine vcallV_pure cH ?_ ?_
 ·simp [go_sem]
 ·simp [go_sem]
  refine vdcall_tell [0] 22 ho (by simp) rfl (fun i _ => rnP E.lo i) ?_ ?_ (E.mpsLe []) (E.mpsLe [])
  ·simp [go_sem]
  ·simp [go_sem, PEnv.ob, pOb]
   exact fun i c _ h => tokClosed E.t i c h
end Go.Proofs.YtjdmmhcogmepaaaGreatDoor.V
namespace Go.Proofs.YtjdmmhcogmepaaaGreatDoor.V
open Go.RowKit
open Go.Maps (Keyed)
open Go.ChangeMaps (setBlock)
def asN (lo : List POp) : Nat → AV
 | 0 => .ptr 1 1 0 0
 | j + 1 => .bptr (opAt lo j).cells
structure NP where
 lo : List POp
 bo : Nat → Nat
 esN : List (Value × Value)
 esL : List (Value × Value)
 seen : Array Nat
def npS (b1 b2 b3 b4 bp bi : Nat) (t : List PTok) (x : NP) : VS := ⟨[(50, .fam (x.lo.length + 1) (vsP bp x.bo) (asN x.lo)), (5, .ptr 1 1 0 0), (16, .lit (.pointer (some ⟨bi, 0, none⟩)))], [pOb b1 b2 b3 b4 t 0, some ⟨94, 1, 1, fun _ => [.ptr 0 6 0 0]⟩], [(b3, ⟨9, x.esN⟩), (b4, ⟨9, x.esL⟩)], 0⟩
structure NPDone (bp : Nat) (x : NP) (o : POp) : Prop where
 k1 : o.kind = 1 → ∃ q, q < x.lo.length ∧ opAt x.lo q = o ∧ mget x.esN (.string o.text) = some (.func (.func 94) #[] #[vsP bp x.bo 0, vsP bp x.bo (q + 1)])
 k2 : o.kind = 2 → mget x.esL (.string o.text) = some (.func (.func 96) #[] #[vsP bp x.bo 0])
 k3 : o.kind = 3 → mget x.esL (.string o.text) = some (.func (.func 97) #[] #[])
def NPInv (l : List POp) (es : Array MapEntry) (bp : Nat) (x : NP) : Prop := ∀ e, e ∈ es.toList → x.seen.contains e.born = true → ∃ j, j < l.length ∧ e.val = opV (opAt l j) ∧ NPDone bp x (opAt l j)
def npR (b1 b2 b3 b4 : Nat) (t : List PTok) (esA : List (Value × Value)) (tm : List (Nat × AV)) : VS := ⟨tm ++ [(5, .ptr 1 1 0 0), (2, .ptr 2 2 0 0)], [pOb b1 b2 b3 b4 t 0, some ⟨94, 1, 1, fun _ => [.ptr 0 6 0 0]⟩, some ⟨70, 2, 1, fun _ => [.lit (.map (some b1)), .lit (.map (some b2))]⟩], [(b1, ⟨151, esA⟩), (b3, ⟨9, []⟩), (b4, ⟨9, []⟩)], 0⟩
theorem wpList_step {P : Program} {n : Nat} {base : Fr} {w0 w : World} {hd : Nat → Value} {s : VS} {a : Act} {all : Array Oper} {o : Oper} {rest : List Oper} {Q : Exit → Act → World → Prop} {k : VS → Prop} (h : RelH n base w0 hd s a w) (hP : base.P = P) (hg : o.guard = none) (hv : vstep P n o s k) (hK : ∀ hd' s' a' w', RelH n base w0 hd' s' a' w' → k s' → wpList P all Q rest a' w') : wpList P all Q (o :: rest) a w := by
 unfold wpList
 rw [if_pos (by simp [Region.wanted, hg])]
 exact .inl (vstep_sound h hP hv hK)
theorem wpList_run {P : Program} {a : Act} {w w' : World} {all : Array Oper} {o : Oper} {rest : List Oper} {Q : Exit → Act → World → Prop} {v : Value} (hg : o.guard = none) (hr : (execOp a.eval o).run P w = .ok (.value v) w') (hK : wpList P all Q rest (a.put o.dst v) w') : wpList P all Q (o :: rest) a w := by
 unfold wpList
 rw [if_pos (by simp [Region.wanted, hg])]
 refine .inl ?_
 unfold Oper.wp
 rw [hr]
 exact hK
def npR2 (l : List POp) (t : List PTok) (b1 b2 : Nat) (esA : List (Value × Value)) (av : AV) (mem : List (Option Ob)) (maps : List (Nat × Mp)) (N : Nat) (vs : Nat → Value) (as' : Nat → AV) : Prop :=
 ∃ lo bp bo b3 b4 esN esL, (b1 ≠ b3 ∧ b1 ≠ b4 ∧ b3 ≠ b4) ∧ av = .ptr 0 6 0 0 ∧ mem = [pOb b1 b2 b3 b4 t 0, none] ∧ maps = mapsP b1 b3 b4 esA esN esL ∧ N = lo.length + 1 ∧ vs = vsP bp bo ∧ as' = asP lo ∧ PMaps l lo bp bo esA esN esL
theorem np_end {l : List POp} {t : List PTok} {b1 b2 b3 b4 bp bi : Nat} {esA : List (Value × Value)} {x : NP} {w0 w : World} {hd0 hd : Nat → Value} {a : Act} {es : Array MapEntry} {clock : Nat} (hb : b1 ≠ b3 ∧ b1 ≠ b4 ∧ b3 ≠ b4)
  (h : RelH 50 ⟨Tryz.prog, Sh w0 hd0 [] [(b1, ⟨151, esA⟩)], hd0, []⟩ w0 hd { npS b1 b2 b3 b4 bp bi t x with tmps := (4, .ptr 0 6 0 0) :: (npS b1 b2 b3 b4 bp bi t x).tmps } a w) (hes : w.heap[b1]? = some (.map es clock)) (hmi : MapIs Tryz.prog ⟨151, esA⟩ es clock) (hP : PMaps l x.lo bp x.bo esA x.esN x.esL) :
  ∃ v, (results Tryz.f51 a.tmps).run Tryz.prog w = .ok v w ∧ Bel (Sh w0 hd0 [] [(b1, ⟨151, esA⟩)]) w0 w ∧ ∃ hd av mem maps N vs1 as1, (npR2 l t b1 b2 esA av mem maps N vs1 as1 ∧ ∀ i, i < N → FlatB (as1 i) ∧ Rep w (okOf mem hd) hd mem.length (as1 i) (vs1 i)) ∧ PostOk [] [(b1, ⟨151, esA⟩)] av mem maps ∧
   ((∀ k, k < ([] : List (Option Ob)).length → hd k = hd0 k) ∧ TailEq hd0 hd) ∧ MemRel (Sh w0 hd0 [] [(b1, ⟨151, esA⟩)]) w hd mem ∧ MapRel Tryz.prog (Sh w0 hd0 [] [(b1, ⟨151, esA⟩)]) w maps ∧ Rep w (okOf mem hd) hd mem.length av v := by
 have hf := h.free 1
 have hm := (h.again_map hes hmi (.inr (.inr (by simp [lkm])))).mp
 have h4 := hf.tm 4
 have t0 := h.told (t := 50) (i := 0) rfl (by omega)
 have f0 := h.freed (k := 1) (ob := ⟨94, 1, 1, fun _ => [.ptr 0 6 0 0]⟩) rfl (by simp) t0
 refine ⟨a.tmps.getD 4 undef, ?_, h.below, hd, .ptr 0 6 0 0, [pOb b1 b2 b3 b4 t 0, none], mapsP b1 b3 b4 esA x.esN x.esL, x.lo.length + 1, vsP bp x.bo, asP x.lo, ⟨⟨x.lo, bp, x.bo, b3, b4, x.esN, x.esL, hb, rfl, rfl, rfl, rfl, rfl, rfl, hP⟩, fun i hi => ?_⟩, ⟨by simp, rfl, fun k ob hk i hi c hc => ?_, fun b hb' => ?_⟩, ⟨fun k hk => by simp at hk, h.fix.2.1⟩, hf.me, hm, h4⟩
 ·simp [results, Tryz.results51, go_sem]
 ·cases i with
  | zero => exact ⟨⟨_, rfl, rfl⟩, f0⟩
  | succ j =>
   refine ⟨⟨_, rfl, rfl⟩, ?_⟩
   have tj := hf.told (t := 50) (i := j + 1) rfl (by omega)
   exact tj
 ·match k, hk with
  | 0, hk =>
   simp only [List.getElem?_cons_zero, Option.some.injEq, pOb] at hk
   subst hk
   simp at hc
   rcases hc with rfl | rfl | rfl | rfl | rfl | rfl
   ·exact .inl rfl
   ·exact .inl rfl
   ·exact .inr ⟨⟨_, _, _, rfl⟩, .sl _ _ _ fun i c _ h => tokClosed t i c h⟩
   ·exact .inl rfl
   ·exact .inl rfl
   ·exact .inl rfl
  | 1, hk => simp at hk
  | k + 2, hk => simp at hk
 ·simp only [lkm] at hb'
  split at hb'
  ·rename_i e
   subst e
   simp [mapsP, lkm]
  ·simp at hb'
end Go.Proofs.YtjdmmhcogmepaaaGreatDoor.V
namespace Go.Proofs.YtjdmmhcogmepaaaGreatDoor.V
open Go.RowKit
theorem mget_mem : ∀ {es : List (Value × Value)} {x v : Value}, mget es x = some v → (x, v) ∈ es
 | [], x, v, h => by simp [mget] at h
 | p :: r, x, v, h => by
  simp only [mget] at h
  split at h
  ·rename_i e
   simp only [Option.some.injEq] at h
   subst h; subst e
   exact List.mem_cons_self
  ·exact List.mem_cons_of_mem _ (mget_mem h)
theorem opV_inj {a b : POp} (h : opV a = opV b) : a = b := by
 cases a; cases b
 simp [opV] at h
 obtain ⟨rfl, rfl, rfl, rfl⟩ := h
 rfl
theorem np_all {l : List POp} {es : Array MapEntry} {clock bp : Nat} {x : NP} {esA : List (Value × Value)} (hu : Uniq l) (hok : ∀ j, j < l.length → opOk (opAt l j) = true) (hw : opsWf l) (hat : AtIs l l.length esA) (hmi : MapIs Tryz.prog ⟨151, esA⟩ es clock) (hinv : NPInv l es bp x) (hleft : (leftOf es x.seen).size = 0) : PMaps l x.lo bp x.bo esA x.esN x.esL := by
 have done : ∀ j, j < l.length → NPDone bp x (opAt l j) := fun j hj => by
  have h1 := hat.1 j hj
  cases hg : mget esA (placeV (opAt l j)) with
  | none => rw [hg] at h1; simp at h1
  | some v =>
   obtain ⟨j', hj', hp, hv⟩ := hat.2 _ _ hg
   have hmem := mget_mem hg
   have heq : es.toList.map (fun e => (e.key, e.val)) = esA := hmi.eq
   rw [← heq, List.mem_map] at hmem
   obtain ⟨e, he, hee⟩ := hmem
   obtain ⟨j'', hj'', hv2, hd⟩ := hinv e he (all_seen es x.seen hleft e he)
   have e1 : opAt l j = opAt l j' := by
    simp [placeV] at hp
    exact hu j j' hj hj' hp.1 hp.2
   have e2 : opAt l j'' = opAt l j' := opV_inj (by rw [← hv2, ← hv]; simp at hee; exact hee.2)
   rw [e1, ← e2]
   exact hd
 exact ⟨hu, hok, hw, hat, fun j hj hk => (done j hj).k1 hk, fun j hj hk => (done j hj).k2 hk, fun j hj hk => (done j hj).k3 hk⟩
noncomputable def npNext (bp b7 : Nat) (x : NP) (o : POp) (born : Nat) : NP :=
 ⟨x.lo ++ [o], fun j => if j = x.lo.length then b7 else x.bo j,
  if o.kind = 1 then mput x.esN (.string o.text) (.func (.func 94) #[] #[.pointer (some ⟨bp, 0, none⟩), .pointer (some ⟨b7, 0, none⟩)]) else x.esN,
  if o.kind = 2 then mput x.esL (.string o.text) (.func (.func 96) #[] #[.pointer (some ⟨bp, 0, none⟩)]) else if o.kind = 3 then mput x.esL (.string o.text) (.func (.func 97) #[] #[]) else x.esL, x.seen.push born⟩
theorem opAt_snoc {l : List POp} {o : POp} {q : Nat} (h : q < l.length) : opAt (l ++ [o]) q = opAt l q := by
 simp [opAt, List.getD_eq_getElem?_getD, List.getElem?_append_left h]
theorem opAt_last {l : List POp} {o : POp} : opAt (l ++ [o]) l.length = o := by
 simp [opAt, List.getD_eq_getElem?_getD]
theorem np_next {l : List POp} {es : Array MapEntry} {clock bp b7 : Nat} {x : NP} {esA : List (Value × Value)} (hu : Uniq l) (hmi : MapIs Tryz.prog ⟨151, esA⟩ es clock) (hinv : NPInv l es bp x) {e : MapEntry} (he : e ∈ es.toList) {j : Nat} (hj : j < l.length) (hv : e.val = opV (opAt l j)) : NPInv l es bp (npNext bp b7 x (opAt l j) e.born) := by
 generalize ho : opAt l j = o at *
 intro e' he' hs
 have hcase : x.seen.contains e'.born = true ∨ e' = e := by
  simp [npNext] at hs
  rcases hs with hs | hs
  ·exact .inl (by simpa using hs)
  ·refine .inr ?_
   have h1 := find_born e es.toList hmi.born he
   have h2 := find_born e' es.toList hmi.born he'
   rw [← hs, h2] at h1
   simpa using h1
 rcases hcase with hc | rfl
 ·obtain ⟨j1, hj1, hv1, hd⟩ := hinv e' he' hc
  refine ⟨j1, hj1, hv1, ?_, ?_, ?_⟩
  ·intro hk
   obtain ⟨q, hq, hq1, hq2⟩ := hd.k1 hk
   by_cases ho1 : o.kind = 1
   ·by_cases htx : o.text = (opAt l j1).text
    ·have eo : o = opAt l j1 := by
      rw [← ho]
      exact hu j j1 hj hj1 (by rw [ho]; exact htx) (by rw [ho, ho1, hk])
     refine ⟨x.lo.length, by simp [npNext], by simp only [npNext]; rw [opAt_last, eo], ?_⟩
     simp only [npNext, if_pos ho1, mget_mput, htx, if_true, vsP]
    ·refine ⟨q, by simp [npNext]; omega, by simp only [npNext]; rw [opAt_snoc hq, hq1], ?_⟩
     simp only [npNext, if_pos ho1, mget_mput, vsP, if_neg (show q ≠ x.lo.length by omega)]
     rw [if_neg (by simpa using htx)]
     exact hq2
   ·refine ⟨q, by simp [npNext]; omega, by simp only [npNext]; rw [opAt_snoc hq, hq1], ?_⟩
    simp only [npNext, if_neg ho1, vsP, if_neg (show q ≠ x.lo.length by omega)]
    exact hq2
  ·intro hk
   have h2 := hd.k2 hk
   by_cases ho2 : o.kind = 2
   ·simp only [npNext, if_pos ho2, mget_mput, vsP]
    split
    ·rfl
    ·exact h2
   ·by_cases ho3 : o.kind = 3
    ·simp only [npNext, if_neg ho2, if_pos ho3, mget_mput]
     split
     ·rename_i htx
      exfalso
      simp at htx
      have eo : o = opAt l j1 := by
       rw [← ho]
       exact hu j j1 hj hj1 (by rw [ho]; exact htx) (by rw [ho, ho3, hk]; rfl)
      rw [← eo] at hk; omega
     ·exact h2
    ·simp only [npNext, if_neg ho2, if_neg ho3]; exact h2
  ·intro hk
   have h2 := hd.k3 hk
   by_cases ho2 : o.kind = 2
   ·simp only [npNext, if_pos ho2, mget_mput]
    split
    ·rename_i htx
     exfalso
     simp at htx
     have eo : o = opAt l j1 := by
      rw [← ho]
      exact hu j j1 hj hj1 (by rw [ho]; exact htx) (by rw [ho, ho2, hk]; rfl)
     rw [← eo] at hk; omega
    ·exact h2
   ·by_cases ho3 : o.kind = 3
    ·simp only [npNext, if_neg ho2, if_pos ho3, mget_mput]
     split
     ·rfl
     ·exact h2
    ·simp only [npNext, if_neg ho2, if_neg ho3]; exact h2
 ·refine ⟨j, hj, by rw [ho]; exact hv, ?_⟩
  rw [ho]
  refine ⟨fun hk => ⟨x.lo.length, by simp [npNext], by simp only [npNext]; rw [opAt_last], ?_⟩, fun hk => ?_, fun hk => ?_⟩
  ·simp only [npNext, if_pos hk, mget_mput, if_true, vsP]
  ·simp only [npNext, if_pos hk, mget_mput, if_true, vsP]
  ·simp only [npNext, if_pos hk, if_neg (show ¬ o.kind = 2 by omega), mget_mput, if_true]
open Go.Maps (Keyed)
open Go.ChangeMaps (setBlock)
set_option maxRecDepth 20000 in
theorem np_start (l : List POp) (t : List PTok) (b1 b2 : Nat) (esA : List (Value × Value)) {w : World} {vs : List Value} {hd0 : Nat → Value} (hlen : [AV.agg [.lit (.map (some b1)), .lit (.map (some b2))], .sl 3 t.length (tokCells t)].length = vs.length)
  (hrep : ∀ (j : Nat) a u, [AV.agg [.lit (.map (some b1)), .lit (.map (some b2))], .sl 3 t.length (tokCells t)][j]? = some a → vs[j]? = some u → Rep w (okOf [] hd0) hd0 0 a u) (hm : MemRel (fun _ => True) w hd0 []) (hmp : MapRel Tryz.prog (fun _ => True) w [(b1, ⟨151, esA⟩)]) (htl : TailNot hd0 (Sh w hd0 [] [(b1, ⟨151, esA⟩)]))
  (hu : Uniq l) (hok : ∀ j, j < l.length → opOk (opAt l j) = true) (hw : opsWf l) (hat : AtIs l l.length esA)
  (R : Ending → World → Prop) (hR : ∀ v w', (Bel (Sh w hd0 [] [(b1, ⟨151, esA⟩)]) w w' ∧ ∃ hd av mem maps N vs1 as1, (npR2 l t b1 b2 esA av mem maps N vs1 as1 ∧ ∀ i, i < N → FlatB (as1 i) ∧ Rep w' (okOf mem hd) hd mem.length (as1 i) (vs1 i)) ∧ PostOk [] [(b1, ⟨151, esA⟩)] av mem maps ∧
   ((∀ k, k < ([] : List (Option Ob)).length → hd k = hd0 k) ∧ TailEq hd0 hd) ∧ MemRel (Sh w hd0 [] [(b1, ⟨151, esA⟩)]) w' hd mem ∧ MapRel Tryz.prog (Sh w hd0 [] [(b1, ⟨151, esA⟩)]) w' maps ∧ Rep w' (okOf mem hd) hd mem.length av v) → R (.returned v) w') : Calls Tryz.prog 51 vs.toArray w R := by
 have hrel := startP_rel (P := Tryz.prog) (fn := Tryz.f51) (by simp [Tryz.ntmps51]) hlen hrep hm hmp htl
 refine calls_of_wp Tryz.func51 rfl ?_
 refine wp_seq (vc_sound rfl _ hrel (K := fun e s => e = .normal ∧ s = ⟨[(4, .lit (.pointer none)), (2, .ptr 0 2 0 0), (0, AV.agg [.lit (.map (some b1)), .lit (.map (some b2))]), (1, .sl 3 t.length (tokCells t))], [some ⟨70, 2, 1, fun _ => [.lit (.map (some b1)), .lit (.map (some b2))]⟩], [(b1, ⟨151, esA⟩)], 0⟩) ?_ fun x hd' s' a' w' h' hk => ?_)
 ·simp only [Tryz.ntmps51, startP]
  simp [go_sem]
 ·obtain ⟨rfl, rfl⟩ := hk
  simp only [VX.out, Exit.then]
  refine wp_seq (vc_sound rfl _ h' (K := fun e s => e = .normal ∧ ∃ b3 b4, (b1 ≠ b3 ∧ b1 ≠ b4 ∧ b3 ≠ b4) ∧ Ent s ⟨[(5, .ptr 1 1 0 0), (2, .ptr 2 2 0 0)], [pOb b1 b2 b3 b4 t 0, some ⟨94, 1, 1, fun _ => [.ptr 0 6 0 0]⟩, some ⟨70, 2, 1, fun _ => [.lit (.map (some b1)), .lit (.map (some b2))]⟩], [(b1, ⟨151, esA⟩), (b3, ⟨9, []⟩), (b4, ⟨9, []⟩)], 0⟩) ?_ fun x hd' s' a' w' h' hk => ?_)
  ·simp [go_sem]
   intro b3 h13 b4 h4
   have h34 : b3 ≠ b4 := fun e => by rw [if_pos e] at h4; simp at h4
   have h14 : b1 ≠ b4 := fun e => by
    by_cases e2 : b3 = b4
    ·exact h34 e2
    ·rw [if_neg e2, if_pos e] at h4; simp at h4
   refine ⟨b3, b4, ⟨h13, h14, h34⟩, ent_ks [1, 2, 0] (by simp) (by simp) (by simp) (by simp) ?_ ?_ ?_⟩
   ·simp [MapsLe, lkm, h13, h14, h34, Ne.symm h13, Ne.symm h14, Ne.symm h34]
   ·simp [go_sem]
   ·simp [go_sem, pOb]
    exact fun i c _ h => tokClosed t i c h
  ·obtain ⟨rfl, b3, b4, ⟨h13, h14, h34⟩, hent⟩ := hk
   obtain ⟨hd1, h1⟩ := hent _ _ _ _ _ _ h'
   simp only [VX.out, Exit.then]
   refine wp_seq (wp_seq (wp_region_list ?_))
   refine wpList_step h1 rfl rfl (k := fun s => s = npR b1 b2 b3 b4 t esA [(14, .ptr 2 2 0 0)]) (by simp only [npR, pOb]; simp [go_sem]) fun hd2 s2 a2 w2 h2 hk2 => ?_
   subst hk2
   refine wpList_step h2 rfl rfl (k := fun s => s = npR b1 b2 b3 b4 t esA [(15, .lit (.map (some b1))), (14, .ptr 2 2 0 0)]) (by simp only [npR, pOb]; simp [go_sem]) fun hd3 s3 a3 w3 h3 hk3 => ?_
   subst hk3
   obtain ⟨hmay1, es, clock, hes, hmi⟩ := h3.mp b1 ⟨151, esA⟩ (by simp [npR, lkm])
   have hr := run_range_map (P := Tryz.prog) w3 67 151 133 b1 es clock (by kernel_rfl) hes
   refine wpList_run (v := .pointer (some ⟨w3.heap.size, 0, none⟩)) (w' := w3.alloc (.mapIter (some b1) clock #[] clock)) rfl ?_ ?_
   ·have e15 : a3.eval (.tmp 15) = .map (some b1) := (h3.ev_ (.tmp 15)).val_ rfl
    unfold execOp
    simp only [e15]
    exact run_v hr
   ·simp only [wpList, Exit.then]
    have h4 := (h3.grown (World.grownBy_alloc w3 (.mapIter (some b1) clock #[] clock) none)).put (t := 16) (by rw [Tryz.ntmps51]; omega) (.lit (.pointer (some ⟨w3.heap.size, 0, none⟩)))
    have hes4 : (w3.alloc (.mapIter (some b1) clock #[] clock)).heap[b1]? = some (.map es clock) := (Below.heap_alloc _ _ _ (Array.getElem?_eq_some_iff.1 hes).1).trans hes
    have hit4 : (w3.alloc (.mapIter (some b1) clock #[] clock)).heap[w3.heap.size]? = some (.mapIter (some b1) clock #[] clock) := heap_alloc_new _ _
    have hbi : Sh w hd0 [] [(b1, ⟨151, esA⟩)] w3.heap.size := h3.le _ h3.below.size
    have hlt1 : b1 < w3.heap.size := (Array.getElem?_eq_some_iff.1 hes).1
    generalize hbi' : w3.heap.size = bi at *
    generalize w3.alloc (.mapIter (some b1) clock #[] clock) = w4 at *
    generalize a3.put (some 16) (.pointer (some ⟨bi, 0, none⟩)) = a4 at *
    obtain ⟨hd5, h5⟩ : ∃ hd, RelH 50 ⟨Tryz.prog, Sh w hd0 [] [(b1, ⟨151, esA⟩)], hd0, []⟩ w hd ⟨[(5, .ptr 1 1 0 0), (16, .lit (.pointer (some ⟨bi, 0, none⟩)))], [pOb b1 b2 b3 b4 t 0, some ⟨94, 1, 1, fun _ => [.ptr 0 6 0 0]⟩], [(b3, ⟨9, []⟩), (b4, ⟨9, []⟩)], 0⟩ a4 w4 := by
     refine (ent_ks [0, 1] (by simp) (by simp [npR]) (by simp) (by simp) ?_ ?_ ?_ : Ent _ _) _ _ _ _ _ _ h4
     ·simp [MapsLe, npR, lkm, h13, h14, h34, Ne.symm h13, Ne.symm h14, Ne.symm h34]
     ·simp [go_sem, npR]
     ·simp [go_sem, pOb, npR]
      exact fun i c _ h => tokClosed t i c h
    obtain ⟨bp, _, _, hbp, hp5⟩ := rep_ptr (h5.tm 5)
    have h6 : RelH 50 ⟨Tryz.prog, Sh w hd0 [] [(b1, ⟨151, esA⟩)], hd0, []⟩ w hd5 (npS b1 b2 b3 b4 bp bi t ⟨[], fun _ => 0, [], [], #[]⟩) a4 w4 := h5.tell 50 fun i hi => by
     have e0 : i = 0 := by simp at hi; omega
     subst e0
     have := h5.tm 5
     rw [hp5] at this
     exact this
    refine wp_block (wp_loop_of (ι := NP) (fun x a w' => ∃ hd, RelH 50 ⟨Tryz.prog, Sh w hd0 [] [(b1, ⟨151, esA⟩)], hd0, []⟩ w hd (npS b1 b2 b3 b4 bp bi t x) a w' ∧ w'.heap[b1]? = some (.map es clock) ∧ (∃ c0, clock ≤ c0 ∧ w'.heap[bi]? = some (.mapIter (some b1) clock x.seen c0)) ∧ NPInv l es bp x) (fun x => (leftOf es x.seen).size) (fun x a w' hI => ?_) (i := ⟨[], fun _ => 0, [], [], #[]⟩) ⟨hd5, h6, hes4, ⟨clock, Nat.le_refl _, hit4⟩, fun e he hs => by simp at hs⟩)
    obtain ⟨hd7, h7, hes7, ⟨c0, hc0, hit7⟩, hinv⟩ := hI
    refine wp_seq (wp_region_list ?_)
    have e16 : a.eval (.tmp 16) = .pointer (some ⟨bi, 0, none⟩) := (h7.ev_ (.tmp 16)).val_ rfl
    rcases run_next_at (P := Tryz.prog) w' 0 bi b1 clock c0 x.seen es clock hit7 hes7 hmi.young hc0 with ⟨hleft, hrun⟩ | ⟨e, he, w8, hw8, hrun⟩
    ·refine wpList_run (v := .tuple #[.bool false]) (w' := w') rfl ?_ ?_
     ·unfold execOp
      simp only [e16]
      exact run_v hrun
     ·have h8 := h7.put (t := 17) (by omega) (av := .tup [.lit (.bool false)]) (v := .tuple #[.bool false]) (.tup _ [.bool false] rfl fun j a q g1 g2 => by
       rcases j with _ | j
       ·simp at g1 g2; subst g1; subst g2; exact .lit _
       ·simp at g1)
      have e17 : (a.put (some 17) (.tuple #[.bool false])).eval (.tmp 17) = .tuple #[.bool false] := by
       show (a.put (some 17) (.tuple #[.bool false])).tmps.getD 17 undef = _
       rw [put_getD _ _ _ (by rw [h7.size]; omega), if_pos rfl]
      refine wpList_run (v := .bool false) (w' := w') rfl (by unfold execOp; simp only [e17]; exact run_v (by simp [Instr.extract])) ?_
      have h9 := h8.put (t := 18) (by omega) (av := .lit (.bool false)) (v := .bool false) (.lit _)
      simp only [wpList, Exit.then]
      refine wp_seq (wp_cond_false ((h9.ev_ (.tmp 18)).val_ rfl) (wp_exit ?_))
      simp only [Exit.then, Exit.inBlock, if_true]
      refine vc_keep h9 rfl (fun b => b = b1) (fun b hb => by subst hb; exact (Array.getElem?_eq_some_iff.1 hes7).1) (fun b hb mp => by subst hb; simp [npS, lkm, Ne.symm h13, Ne.symm h14]) (fun b hb k ob hk => by subst hb; exact h9.own_ne hes7 (by simp) k ob hk) (K := fun e s => e = .ret ∧ s = { npS b1 b2 b3 b4 bp bi t x with tmps := (4, .ptr 0 6 0 0) :: (49, .ptr 0 6 0 0) :: (18, .lit (.bool false)) :: (17, .tup [.lit (.bool false)]) :: (npS b1 b2 b3 b4 bp bi t x).tmps }) (by simp only [npS, pOb]; simp [go_sem]) fun y hd10 s10 a10 w10 h10 hb10 hk10 => ?_
      obtain ⟨rfl, rfl⟩ := hk10
      have h11 : RelH 50 ⟨Tryz.prog, Sh w hd0 [] [(b1, ⟨151, esA⟩)], hd0, []⟩ w hd10 { npS b1 b2 b3 b4 bp bi t x with tmps := (4, .ptr 0 6 0 0) :: (npS b1 b2 b3 b4 bp bi t x).tmps } a10 w10 := by
       refine ⟨h10.defers, h10.size, h10.below, h10.le, h10.fixl, h10.fix, h10.mp, fun u => ?_, h10.me⟩
       have := h10.tm u
       simp only [lk] at this ⊢
       by_cases e4 : 4 = u
       ·rw [if_pos e4] at this ⊢; exact this
       ·rw [if_neg e4] at this ⊢
        by_cases e49 : 49 = u
        ·subst e49; exact .undef _
        ·rw [if_neg e49] at this
         by_cases e18 : 18 = u
         ·subst e18; exact .undef _
         ·rw [if_neg e18] at this
          by_cases e17 : 17 = u
          ·subst e17; exact .undef _
          ·rw [if_neg e17] at this; exact this
      obtain ⟨v, q1, q2⟩ := np_end ⟨h13, h14, h34⟩ h11 ((hb10 b1 rfl).trans hes7) hmi (np_all hu hok hw hat hmi hinv hleft)
      exact ⟨h10.defers, v, q1, hR v w10 q2⟩
    ·obtain ⟨he1, he2⟩ := mem_left he
     obtain ⟨j, hj, hkey, hval⟩ : ∃ j, j < l.length ∧ e.key = placeV (opAt l j) ∧ e.val = opV (opAt l j) := by
      have heq : es.toList.map (fun e => (e.key, e.val)) = esA := hmi.eq
      have hmem : (e.key, e.val) ∈ esA := by rw [← heq]; exact List.mem_map.2 ⟨e, he1, rfl⟩
      obtain ⟨q, hq⟩ := List.getElem?_of_mem hmem
      have hg : mget esA e.key = some e.val := mget_at hq (pair_first hmi.apart hq)
      exact hat.2 _ _ hg
     have hne : b1 ≠ bi := by omega
     have hinv' := fun b7 => np_next (b7 := b7) hu hmi hinv he1 hj hval
     have hko : (opAt l j).kind = 1 ∨ (opAt l j).kind = 2 ∨ (opAt l j).kind = 3 := by
      have := hok j hj
      simp [opOk] at this; omega
     have hzo : (opAt l j).text.size ≤ maxLen := hw j hj
     generalize ho : opAt l j = o at *
     have h8 : RelH 50 ⟨Tryz.prog, Sh w hd0 [] [(b1, ⟨151, esA⟩)], hd0, []⟩ w hd7 (npS b1 b2 b3 b4 bp bi t x) a w8 := by
      rcases hw8 with rfl | rfl
      ·exact h7
      ·exact h7.grown ⟨rfl, rfl, rfl, Nat.le_refl _, fun _ _ _ => rfl⟩
     have hp8 : w8.heap = w'.heap := by rcases hw8 with rfl | rfl <;> rfl
     have h9 := h8.iterTurn (b := bi) (o := .mapIter (some b1) clock x.seen c0) (by rw [hp8]; exact hit7) (by simp) (by simp) (fun ad u e hc => by
      unfold World.cell? at hc
      rw [e, hp8, hit7] at hc
      simp at hc) hbi (.mapIter (some b1) clock (x.seen.push e.born) clock)
     have hes9 : (setBlock w8 bi (.mapIter (some b1) clock (x.seen.push e.born) clock)).heap[b1]? = some (.map es clock) := by
      simp only [setBlock]
      rw [Array.getElem?_setIfInBounds_ne (fun e => hne e.symm), hp8]; exact hes7
     have hit9 : (setBlock w8 bi (.mapIter (some b1) clock (x.seen.push e.born) clock)).heap[bi]? = some (.mapIter (some b1) clock (x.seen.push e.born) clock) := by
      have : bi < w8.heap.size := by rw [hp8]; exact (Array.getElem?_eq_some_iff.1 hit7).1
      simp [setBlock, this]
     refine wpList_run (v := .tuple #[.bool true, e.key, e.val]) (w' := setBlock w8 bi (.mapIter (some b1) clock (x.seen.push e.born) clock)) rfl ?_ ?_
     ·unfold execOp
      simp only [e16]
      exact run_v hrun
     ·generalize setBlock w8 bi (.mapIter (some b1) clock (x.seen.push e.born) clock) = w9 at *
      have h10 := h9.put (t := 17) (by omega) (.undef (.tuple #[.bool true, e.key, e.val]))
      have e17 : (a.put (some 17) (.tuple #[.bool true, e.key, e.val])).eval (.tmp 17) = .tuple #[.bool true, e.key, e.val] := by
       show (a.put (some 17) _).tmps.getD 17 undef = _
       rw [put_getD _ _ _ (by rw [h7.size]; omega), if_pos rfl]
      refine wpList_run (v := .bool true) (w' := w9) rfl (by unfold execOp; simp only [e17]; exact run_v (by simp [Instr.extract])) ?_
      have h11 := h10.put (t := 18) (by omega) (av := .lit (.bool true)) (v := .bool true) (.lit _)
      simp only [wpList, Exit.then]
      refine wp_seq (wp_cond_true ((h11.ev_ (.tmp 18)).val_ rfl) (wp_skip ?_))
      generalize ((a.put (some 17) (.tuple #[.bool true, e.key, e.val])).put (some 18) (.bool true)) = a11 at *
      simp only [Exit.then]
      refine wp_block (wp_seq (wp_region_list ?_))
      have hrun2 := run_entry_at (P := Tryz.prog) w9 bi b1 clock x.seen es clock e hit9 hes9 he1 hmi.born
      have e16b : a11.eval (.tmp 16) = .pointer (some ⟨bi, 0, none⟩) := (h11.ev_ (.tmp 16)).val_ rfl
      refine wpList_run (v := .tuple #[e.key, e.val]) (w' := w9) rfl (by unfold execOp; simp only [e16b]; exact run_v hrun2) ?_
      have h12 := h11.put (t := 19) (by omega) (.undef (.tuple #[e.key, e.val]))
      have e19 : (a11.put (some 19) (.tuple #[e.key, e.val])).eval (.tmp 19) = .tuple #[e.key, e.val] := by
       show (a11.put (some 19) _).tmps.getD 19 undef = _
       rw [put_getD _ _ _ (by rw [h11.size]; omega), if_pos rfl]
      refine wpList_run (v := e.val) (w' := w9) rfl (by unfold execOp; simp only [e19]; exact run_v (by simp [Instr.extract])) ?_
      have h13' := h12.put (t := 20) (by omega) (av := .agg o.cells) (v := e.val) (by
       rw [hval]
       exact .agg _ [.string o.text, .int .i64 o.kind, .int .i64 o.level, .int .i64 o.side] rfl fun j a q g1 g2 => by
        rcases j with _ | _ | _ | _ | j <;> simp [POp.cells] at g1 g2 <;> subst g1 <;> subst g2 <;> exact .lit _)
      generalize ((a11.put (some 19) (.tuple #[e.key, e.val])).put (some 20) e.val) = a13 at *
      have tail3 : ∀ {s : VS} {a : Act} {w2 : World} {hd : Nat → Value}, RelH 50 ⟨Tryz.prog, Sh w hd0 [] [(b1, ⟨151, esA⟩)], hd0, []⟩ w hd s a w2 → w2.heap[b1]? = some (.map es clock) → w2.heap[bi]? = some (.mapIter (some b1) clock (x.seen.push e.born) clock) → (∀ mp, lkm s.maps b1 ≠ some mp) → (∀ b, b = b1 ∨ b = bi → b < w2.heap.size) ∧ (∀ b, b = b1 ∨ b = bi → ∀ mp, lkm s.maps b ≠ some mp) ∧ (∀ b, b = b1 ∨ b = bi → ∀ k ob, s.mem[k]? = some (some ob) → (hd k).ownBlock ≠ some b) := fun h g1 g2 g3 => by
       refine ⟨fun b hb => ?_, fun b hb mp hq => ?_, fun b hb => ?_⟩
       ·rcases hb with rfl | rfl
        ·exact (Array.getElem?_eq_some_iff.1 g1).1
        ·exact (Array.getElem?_eq_some_iff.1 g2).1
       ·rcases hb with rfl | rfl
        ·exact g3 mp hq
        ·obtain ⟨_, es', clock', h3, _⟩ := h.mp _ mp hq
         rw [g2] at h3; simp at h3
       ·rcases hb with rfl | rfl
        ·exact h.own_ne g1 (by simp)
        ·exact h.own_ne g2 (by simp)
      obtain ⟨p1, p2, p3⟩ := tail3 h13' hes9 hit9 (fun mp => by simp [npS, lkm, Ne.symm h13, Ne.symm h14])
      refine wpList_keep h13' rfl (fun b => b = b1 ∨ b = bi) p1 p2 p3 rfl (k := fun s => s = ⟨(7, .ptr 2 4 0 0) :: (20, .agg o.cells) :: (19, .undef) :: (18, .lit (.bool true)) :: (17, .undef) :: (npS b1 b2 b3 b4 bp bi t x).tmps, (npS b1 b2 b3 b4 bp bi t x).mem ++ [some ⟨133, 4, 1, fun _ => zeroOp⟩], (npS b1 b2 b3 b4 bp bi t x).maps, 0⟩) (by simp only [npS, pOb]; simp [go_sem, zeroOp]) fun hd14 s14 a14 w14 h14' hb14 hk14 => ?_
      subst hk14
      obtain ⟨p4, p5, p6⟩ := tail3 h14' ((hb14 b1 (.inl rfl)).trans hes9) ((hb14 bi (.inr rfl)).trans hit9) (fun mp => by simp [npS, lkm, Ne.symm h13, Ne.symm h14])
      refine wpList_keep h14' rfl (fun b => b = b1 ∨ b = bi) p4 p5 p6 rfl (k := fun s => s = ⟨(7, .ptr 2 4 0 0) :: (20, .agg o.cells) :: (19, .undef) :: (18, .lit (.bool true)) :: (17, .undef) :: (npS b1 b2 b3 b4 bp bi t x).tmps, (npS b1 b2 b3 b4 bp bi t x).mem ++ [some ⟨133, 4, 1, fun _ => o.cells⟩], (npS b1 b2 b3 b4 bp bi t x).maps, 0⟩) (by simp only [npS, pOb, POp.cells, zeroOp]; simp [go_sem]) fun hd15 s15 a15 w15 h15 hb15 hk15 => ?_
      subst hk15
      simp only [wpList, Exit.then]
      obtain ⟨b7, _, _, hb7, hp7⟩ := rep_ptr (h15.tm 7)
      have hes15 : w15.heap[b1]? = some (.map es clock) := ((hb15 b1 (.inl rfl)).trans (hb14 b1 (.inl rfl))).trans hes9
      have hit15 : w15.heap[bi]? = some (.mapIter (some b1) clock (x.seen.push e.born) clock) := ((hb15 bi (.inr rfl)).trans (hb14 bi (.inr rfl))).trans hit9
      have h16 := h15.tell 50 (N := x.lo.length + 2) (vs := vsP bp fun j => if j = x.lo.length then b7 else x.bo j) («as» := fun i => if i = x.lo.length + 1 then .ptr 2 4 0 0 else asN x.lo i) (fun i hi => by
       by_cases hq : i = x.lo.length + 1
       ·subst hq
        have := h15.tm 7
        rw [hp7] at this
        simp only [if_true, vsP]
        exact this
       ·simp only [if_neg hq]
        have := h15.told (t := 50) (i := i) rfl (by omega)
        cases i with
        | zero => exact this
        | succ j => simp only [vsP, if_neg (show j ≠ x.lo.length by omega)]; exact this)
      obtain ⟨p7, p8, p9⟩ := tail3 h16 hes15 hit15 (fun mp => by simp [npS, lkm, Ne.symm h13, Ne.symm h14])
      refine vc_keep h16 rfl (fun b => b = b1 ∨ b = bi) p7 p8 p9 (K := fun e' s => e' = .normal ∧ Ent s ⟨[(50, .fam (x.lo.length + 2) (vsP bp fun j => if j = x.lo.length then b7 else x.bo j) (fun i => if i = x.lo.length + 1 then .ptr 2 4 0 0 else asN x.lo i)), (5, .ptr 1 1 0 0), (16, .lit (.pointer (some ⟨bi, 0, none⟩)))], [pOb b1 b2 b3 b4 t 0, some ⟨94, 1, 1, fun _ => [.ptr 0 6 0 0]⟩, some ⟨133, 4, 1, fun _ => o.cells⟩], [(b3, ⟨9, (npNext bp b7 x o e.born).esN⟩), (b4, ⟨9, (npNext bp b7 x o e.born).esL⟩)], 0⟩) ?_ fun y hd17 s17 a17 w17 h17 hb17 hk17 => ?_
      ·simp only [npS, pOb, POp.cells]
       rcases hko with hk1 | hk1 | hk1
       ·simp [go_sem, hk1]
        refine vc_drawn [7] (.q 0 <| .q 1 <| .q 2 <| .q 3 <| .q 4 <| .q 5 <| .q 6 <| .or 7 (.done) (.nil)) (by kernel_rfl) ?_
        simp [go_sem]
        refine vmkfun_use [.pointer (some ⟨bp, 0, none⟩), .pointer (some ⟨b7, 0, none⟩)] ⟨capIs_told 50 0 rfl (by omega) rfl (by simp [asN]) rfl, capIs_told 50 (x.lo.length + 1) rfl (by omega) (by simp [vsP]) (by simp) rfl, trivial⟩ ?_
        simp [go_sem, h34]
        refine vmsetK_use keyedString (keyString hzo) ?_
        simp [go_sem]
        refine ent_ks [0, 1, 2] (by simp) (by simp) (by simp) (by simp) ?_ ?_ ?_
        ·simp [MapsLe, lkm, h34, Ne.symm h34, npNext, hk1]
        ·simp [go_sem]
         exact .fam _ _ _ _ fun i hi => by
          by_cases hq : i = x.lo.length + 1
          ·simp only [if_pos hq]; exact .ptr 2 4 0 0 (by omega)
          ·simp only [if_neg hq]
           cases i with
           | zero => exact .ptr 1 1 0 0 (by omega)
           | succ j => exact .closed _ (.bptr _ fun c hc => by
             simp [POp.cells] at hc
             rcases hc with rfl | rfl | rfl | rfl <;> exact .lit _)
        ·simp [go_sem]
         exact fun i c _ h => tokClosed t i c h
       ·simp [go_sem, hk1]
        refine vc_drawn [7] (.q 0 <| .q 1 <| .q 2 <| .q 3 <| .q 4 <| .q 5 <| .q 6 <| .or 7 (.done) (.nil)) (by kernel_rfl) ?_
        simp [go_sem]
        refine vmkfun_use [.pointer (some ⟨bp, 0, none⟩)] ⟨capIs_told 50 0 rfl (by omega) rfl (by simp [asN]) rfl, trivial⟩ ?_
        simp [go_sem, h34, Ne.symm h34]
        refine vmsetK_use keyedString (keyString hzo) ?_
        simp [go_sem]
        refine ent_ks [0, 1, 2] (by simp) (by simp) (by simp) (by simp) ?_ ?_ ?_
        ·simp [MapsLe, lkm, h34, Ne.symm h34, npNext, hk1]
        ·simp [go_sem]
         exact .fam _ _ _ _ fun i hi => by
          by_cases hq : i = x.lo.length + 1
          ·simp only [if_pos hq]; exact .ptr 2 4 0 0 (by omega)
          ·simp only [if_neg hq]
           cases i with
           | zero => exact .ptr 1 1 0 0 (by omega)
           | succ j => exact .closed _ (.bptr _ fun c hc => by
             simp [POp.cells] at hc
             rcases hc with rfl | rfl | rfl | rfl <;> exact .lit _)
        ·simp [go_sem]
         exact fun i c _ h => tokClosed t i c h
       ·simp [go_sem, hk1]
        refine vc_drawn [6] (.q 0 <| .q 1 <| .q 2 <| .q 3 <| .q 4 <| .q 5 <| .or 6 (.done) (.nil)) (by kernel_rfl) ?_
        simp [go_sem, h34, Ne.symm h34]
        refine vmsetK_use keyedString (keyString hzo) ?_
        simp [go_sem]
        refine ent_ks [0, 1, 2] (by simp) (by simp) (by simp) (by simp) ?_ ?_ ?_
        ·simp [MapsLe, lkm, h34, Ne.symm h34, npNext, hk1]
        ·simp [go_sem]
         exact .fam _ _ _ _ fun i hi => by
          by_cases hq : i = x.lo.length + 1
          ·simp only [if_pos hq]; exact .ptr 2 4 0 0 (by omega)
          ·simp only [if_neg hq]
           cases i with
           | zero => exact .ptr 1 1 0 0 (by omega)
           | succ j => exact .closed _ (.bptr _ fun c hc => by
             simp [POp.cells] at hc
             rcases hc with rfl | rfl | rfl | rfl <;> exact .lit _)
        ·simp [go_sem]
         exact fun i c _ h => tokClosed t i c h
      ·obtain ⟨rfl, hent⟩ := hk17
       obtain ⟨hd18, h18⟩ := hent _ _ _ _ _ _ h17
       simp only [VX.out, Exit.inBlock, Exit.then]
       have fo := h18.freed (k := 2) (ob := ⟨133, 4, 1, fun _ => o.cells⟩) (v := .pointer (some ⟨b7, 0, none⟩)) rfl (by simp) (by
        have := h18.told (t := 50) (i := x.lo.length + 1) rfl (by omega)
        simp only [if_true, vsP] at this
        exact this)
       have h19 := (h18.free 2).tell 50 (N := x.lo.length + 2) (vs := vsP bp fun j => if j = x.lo.length then b7 else x.bo j) («as» := asN (x.lo ++ [o])) (fun i hi => by
        by_cases hq : i = x.lo.length + 1
        ·subst hq
         simp only [asN, opAt_last, vsP, if_true]
         exact fo
        ·have := (h18.free 2).told (t := 50) (i := i) rfl (by omega)
         simp only [if_neg hq] at this
         cases i with
         | zero => exact this
         | succ j =>
          simp only [asN] at this ⊢
          rw [opAt_snoc (by omega)]; exact this)
       obtain ⟨hd20, h20⟩ : ∃ hd, RelH 50 ⟨Tryz.prog, Sh w hd0 [] [(b1, ⟨151, esA⟩)], hd0, []⟩ w hd (npS b1 b2 b3 b4 bp bi t (npNext bp b7 x o e.born)) a17 w17 := by
        refine (ent_ks [0, 1] (by simp) (by simp) (by simp) (by simp) ?_ ?_ ?_ : Ent _ _) _ _ _ _ _ _ h19
        ·simp [MapsLe, lkm, h34, Ne.symm h34]
        ·simp [go_sem, npNext]
         exact .fam _ _ _ _ fun i hi => by
          cases i with
          | zero => exact .ptr 1 1 0 0 (by omega)
          | succ j => exact .closed _ (.bptr _ fun c hc => by
            simp [POp.cells] at hc
            rcases hc with rfl | rfl | rfl | rfl <;> exact .lit _)
        ·simp [go_sem, pOb]
         exact fun i c _ h => tokClosed t i c h
       exact ⟨npNext bp b7 x o e.born, ⟨hd20, h20, (hb17 b1 (.inl rfl)).trans hes15, ⟨clock, Nat.le_refl _, (hb17 bi (.inr rfl)).trans hit15⟩, hinv' b7⟩, left_shrinks es x.seen e he⟩
theorem c_newParser (l : List POp) (t : List PTok) (b1 b2 : Nat) (esA : List (Value × Value)) (hu : Uniq l) (hok : ∀ j, j < l.length → opOk (opAt l j) = true) (hw : opsWf l) (hat : AtIs l l.length esA) :
  VProcT Tryz.prog 51 [.agg [.lit (.map (some b1)), .lit (.map (some b2))], .sl 3 t.length (tokCells t)] [] [(b1, ⟨151, esA⟩)] (npR2 l t b1 b2 esA) :=
 ⟨⟨_, Tryz.func51, by kernel_rfl, rfl⟩, fun w vs hd0 hlen hrep hm hmp htl => np_start l t b1 b2 esA hlen hrep hm hmp htl hu hok hw hat _ fun v w' h => ⟨v, rfl, h⟩⟩
end Go.Proofs.YtjdmmhcogmepaaaGreatDoor.V
namespace Go.Proofs.YtjdmmhcogmepaaaGreatDoor.V
open Go.RowKit
structure PNode where
 text : ByteArray
 kind : Int
 a : Int
 b : Int
def PNode.cells (o : PNode) : List AV := [.lit (.int .i64 o.kind), .lit (.string o.text), .lit (.int .i64 o.a), .lit (.int .i64 o.b)]
def PNode.wf (o : PNode) : Prop := o.text.size ≤ maxLen
instance : Inhabited PNode := ⟨⟨⟨#[]⟩, 0, 0, 0⟩⟩
def nodCells (l : List PNode) (i : Nat) : List AV := (l.getD i default).cells
theorem nodClosed (l : List PNode) (i : Nat) (c : AV) (h : c ∈ nodCells l i) : Closed c := by
 simp [nodCells, PNode.cells] at h
 rcases h with rfl | rfl | rfl | rfl <;> exact .lit _
theorem nodLit (l : List PNode) (i : Nat) : (nodCells l i).all isLit = true := rfl
def nodEq (a b : PNode) : Bool := a.text == b.text && a.kind == b.kind && a.a == b.a && a.b == b.b
def nodAt (l : List PNode) (i : Nat) : PNode := l.getD i default
theorem nodCells_at (l : List PNode) (i : Nat) : nodCells l i = [.lit (.int .i64 (nodAt l i).kind), .lit (.string (nodAt l i).text), .lit (.int .i64 (nodAt l i).a), .lit (.int .i64 (nodAt l i).b)] := rfl
def nodsEq (a b : List PNode) : Bool := decide (a.length = b.length) && (List.range a.length).all fun i => nodEq (nodAt a i) (nodAt b i)
theorem nodsEq_false {a b : List PNode} {i : Nat} (h : i < a.length) (e : nodEq (nodAt a i) (nodAt b i) = false) : nodsEq a b = false := by
 simp only [nodsEq, Bool.and_eq_false_iff, List.all_eq_false, List.mem_range]
 exact .inr ⟨i, h, by rw [e]; simp⟩
theorem nodsEq_true {a b : List PNode} (hl : a.length = b.length) (h : ∀ i, i < a.length → nodEq (nodAt a i) (nodAt b i) = true) : nodsEq a b = true := by
 simp only [nodsEq, Bool.and_eq_true, decide_eq_true_eq, List.all_eq_true, List.mem_range]
 exact ⟨hl, h⟩
theorem nodEq_refl (a : PNode) : nodEq a a = true := by simp [nodEq, ba_beq]
theorem nodsEq_refl (a : List PNode) : nodsEq a a = true := nodsEq_true rfl fun i _ => nodEq_refl _
@[go_sem] theorem nodCells_ren {g : Nat → Nat} {l : List PNode} {i : Nat} : (nodCells l i).map (ren1 g) = nodCells l i := map_lits rfl
theorem vfun_below {P : Program} {f : FuncId} {vs : List Value} {v : Value} (hf : FnOk P f) (h : ∀ w, Calls P f vs.toArray w fun e w' => e = .returned v ∧ Below w.heap.size w w') : VFun P f (vs.map .lit) (fun av obs => obs = [] ∧ av = .lit v) := by
 refine ⟨hf, fun w us hl hu => ?_⟩
 have e : us = vs := by
  have hl' : vs.length = us.length := by simpa using hl
  apply List.ext_getElem hl'.symm
  intro j h1 h2
  have := hu j (.lit vs[j]) us[j] (by simp [h2]) (List.getElem?_eq_getElem h1)
  generalize us[j] = x at this
  generalize vs[j] = y at this
  cases this
  rfl
 subst e
 refine (h w).mono fun e w' ⟨he, hw⟩ => ?_
 subst he
 exact ⟨v, rfl, ⟨hw.os, hw.tape, hw.output, hw.size, fun k hk _ => hw.block k hk⟩, fun _ => undef, .lit v, [], ⟨rfl, rfl⟩, rfl, fun ob h => by simp at h, ⟨fun k ob h => by simp at h, fun k ob h => by simp at h, fun k h => by simp at h, fun k k' ob ob' h => by simp at h⟩, .lit v⟩
def digitBytes : ByteArray := { data := #[48, 49, 50, 51, 52, 53, 54, 55, 56, 57] }
theorem contains_digit (b : UInt8) : digitBytes.data.toList.contains b = isDg b.toNat := by
 revert b
 have h : (List.range 256).all (fun n => digitBytes.data.toList.contains n.toUInt8 == isDg n) = true := by kernel_rfl
 intro b
 have := List.all_eq_true.mp h b.toNat (List.mem_range.mpr b.toNat_lt)
 simpa using this
theorem dropWhile_all {α : Type} {p : α → Bool} {l : List α} : l.dropWhile p = [] ↔ ∀ x, x ∈ l → p x = true := by
 induction l with
 | nil => simp
 | cons a l ih =>
  rw [List.dropWhile_cons]
  split
  ·rename_i h; simp [ih, h]
  ·rename_i h; simp [h]
theorem trim_nil {l cs : List UInt8} : Lib.trimS l cs = [] ↔ ∀ x, x ∈ l → cs.contains x = true := by
 unfold Lib.trimS Lib.trimLeftS
 rw [dropWhile_all]
 unfold Lib.trimRightS
 constructor
 ·intro h x hx
  have hd : l = (l.reverse.dropWhile (cs.contains ·)).reverse ++ (l.reverse.takeWhile (cs.contains ·)).reverse := by
   rw [← List.reverse_append, List.takeWhile_append_dropWhile, List.reverse_reverse]
  rw [hd, List.mem_append] at hx
  rcases hx with hx | hx
  ·exact h x hx
  ·rw [List.mem_reverse] at hx
   exact List.all_eq_true.mp (List.all_takeWhile (p := (cs.contains ·)) (l := l.reverse)) x hx
 ·intro h x hx
  rw [List.mem_reverse] at hx
  exact h x (List.mem_reverse.mp ((List.dropWhile_sublist _).subset hx))
def trimDg (z : ByteArray) : ByteArray := ⟨(Lib.trimS z.data.toList digitBytes.data.toList).toArray⟩
theorem trimDg_num (z : ByteArray) (h : 0 < z.size) : decide (trimDg z = ⟨#[]⟩) = numZ z := by
 have e : trimDg z = ⟨#[]⟩ ↔ ∀ i, i < z.size → isDg (byteAt z i) = true := by
  unfold trimDg
  rw [ByteArray.mk.injEq, Array.mk.injEq, trim_nil]
  simp only [contains_digit]
  constructor
  ·intro h i hi
   have := h (z.data.toList[i]'hi) (List.getElem_mem _)
   unfold byteAt
   rw [dif_pos hi]
   exact this
  ·intro h x hx
   obtain ⟨i, hi, rfl⟩ := List.getElem_of_mem hx
   have := h i hi
   unfold byteAt at this
   rw [dif_pos (show i < z.size from hi)] at this
   exact this
 rw [Bool.eq_iff_iff, decide_eq_true_eq, e]
 simp only [numZ, h, decide_true, Bool.and_true, List.all_eq_true, List.mem_range]
theorem c_trim (z : ByteArray) (hz : z.size ≤ 9223372036854775807) : VFun Tryz.prog 121 [.lit (.string z), .lit (.string digitBytes)] (fun av obs => obs = [] ∧ av = .lit (.string (trimDg z))) :=
 vfun_below (vs := [.string z, .string digitBytes]) ⟨_, Tryz.func121, rfl, rfl⟩ (fun w => Any.strings_Trim_laid Tryz.lays160 (by kernel_rfl) z digitBytes w hz (by decide) (ascii_of_all (by decide)))
theorem ba_nil {z : ByteArray} : z.toList = [] ↔ z.size = 0 := by
 rw [ByteArray.toList_eq]
 constructor
 ·intro h
  show z.data.size = 0
  rw [← Array.length_toList, h]; rfl
 ·intro h
  apply List.eq_nil_of_length_eq_zero
  rw [Array.length_toList]; exact h
theorem ba_empty {z : ByteArray} : z.toList.isEmpty = decide (z = ⟨#[]⟩) := by
 rw [Bool.eq_iff_iff, List.isEmpty_iff, decide_eq_true_iff, ba_nil]
 constructor
 ·intro h
  exact ByteArray.ext (Array.eq_empty_of_size_eq_zero h)
 ·intro h
  rw [h]; rfl
theorem c_nameOk (z : ByteArray) (hz : z.size ≤ 9223372036854775807) : VFun Tryz.prog 122 [.lit (.string z)] (fun av obs => obs = [] ∧ av = .lit (.bool (namZ z))) := by
 refine vfun_start Tryz.func122 (by kernel_rfl) rfl (by simp [Tryz.ntmps122]) ?_; simp only [Tryz.ntmps122, Tryz.results122]; simp [go_sem]
 have emp : z.toList = [] → namZ z = false := fun h => by simp [namZ, ba_nil.mp h]
 refine ⟨fun h0 => ⟨by have := mt ba_nil.mpr h0; omega, vcall_pure (c_isLetter (byteAt z 0)) ?_ ?_⟩, emp⟩
 ·simp [go_sem]
 ·have hp : 0 < z.size := by have := mt ba_nil.mpr h0; omega
  simp [go_sem]
  refine ⟨fun e => by simp only [namZ, all_false (p := fun i => namAt z i) hp (by simp [namAt, e]), Bool.false_and], fun e => ?_⟩
  refine vc_loop (fun i : Nat => i ≤ z.size ∧ ∀ j, j < i → namAt z j = true) (fun i => z.size - i) (fun i => .of [(0, .lit (.string z)), (13, .lit (.int .i64 z.size)), (14, .lit (.int .i64 i))] []) ⟨0, ⟨by omega, by simp⟩, ?_⟩ (fun i hi => ?_)
  ·simp [go_sem]
  ·simp [go_sem]
   have bad : i < z.size → namAt z i = false → namZ z = false := fun h e => by simp only [namZ, all_false (p := fun i => namAt z i) h e, Bool.false_and]
   have step : i < z.size → namAt z i = true → ∃ j : Nat, (j ≤ z.size ∧ ∀ q, q < j → namAt z q = true) ∧ z.size - j < z.size - i ∧ IntKind.i64.wrap ((i : Int) + 1) = j := fun hl e => ⟨i + 1, ⟨by omega, fun j hj => by
    rcases Nat.lt_succ_iff_lt_or_eq.mp hj with hj | rfl
    ·exact hi.2 j hj
    ·exact e⟩, by omega, wrap_succ (by omega)⟩
   refine ⟨fun h => ⟨h, vcall_pure (c_isLetter (byteAt z i)) ?_ ?_⟩, fun h => by simp only [namZ, all_true (p := fun i => namAt z i) (n := z.size) fun j hj => hi.2 j (by omega), Bool.true_and, hp, decide_true]⟩
   ·simp [go_sem]
   ·simp [go_sem]
    refine ⟨fun e1 => ⟨h, vcall_pure (c_isDigit (byteAt z i)) ?_ ?_⟩, fun e1 => step h (by simp [namAt, e1])⟩
    ·simp [go_sem]
    ·have h0 : i ≠ 0 := fun hz => by subst hz; rw [e] at e1; cases e1
     simp [go_sem]
     exact ⟨fun e2 => bad h (by simp [namAt, e1, e2]), fun e2 => step h (by simp [namAt, e1, e2, h0])⟩
def kidsN (k : Int) : Int := if k = 4 then 2 else if k = 3 ∨ k = 5 ∨ k = 6 then 1 else 0
theorem c_l3Kids (k : Int) : VFun Tryz.prog 58 [.lit (.int .i64 k)] (fun av obs => obs = [] ∧ av = .lit (.int .i64 (kidsN k))) := by
 refine vfun_start Tryz.func58 (by kernel_rfl) rfl (by simp [Tryz.ntmps58]) ?_; simp only [Tryz.ntmps58, Tryz.results58]; simp [go_sem]
 by_cases h1 : k = 4
 ·simp [kidsN, h1]
 ·by_cases h2 : k = 3 <;> by_cases h3 : k = 5 <;> by_cases h4 : k = 6 <;> simp [kidsN, h1, h2, h3, h4]
theorem c_kids (o : PNode) (h : 1 ≤ o.kind ∧ o.kind ≤ 6) : VFun Tryz.prog 62 [.agg o.cells] (fun av obs => obs = [] ∧ av = .lit (.int .i64 (kidsN o.kind))) := by
 obtain ⟨z, k, x, y⟩ := o
 simp only [PNode.cells] at h ⊢
 refine vfun_start Tryz.func62 (by kernel_rfl) rfl (by simp [Tryz.ntmps62]) ?_; simp only [Tryz.ntmps62, Tryz.results62]; simp [go_sem]
 have hk : k = 1 ∨ k = 2 ∨ k = 3 ∨ k = 4 ∨ k = 5 ∨ k = 6 := by omega
 rcases hk with rfl | rfl | rfl | rfl | rfl | rfl <;> simp [kidsN]
def txtOk (o : PNode) : Bool := decide (o.text.size ≤ 20000) && (if o.kind = 1 then numZ o.text else if o.kind = 2 then namZ o.text else if o.kind = 6 then decide (o.text = ⟨#[]⟩) else decide (3 ≤ o.kind ∧ o.kind ≤ 5) && sgOk o.text)
theorem c_l3TextOk (o : PNode) (ho : o.wf) : VFun Tryz.prog 119 [.agg o.cells] (fun av obs => obs = [] ∧ av = .lit (.bool (txtOk o))) := by
 obtain ⟨z, k, x, y⟩ := o
 simp only [PNode.cells, PNode.wf, maxLen] at ho ⊢
 refine vfun_start Tryz.func119 (by kernel_rfl) rfl (by simp [Tryz.ntmps119]) ?_; simp only [Tryz.ntmps119, Tryz.results119]; simp [go_sem]
 refine ⟨fun h => by simp [txtOk]; omega, fun h => ⟨fun h1 => ?_, fun h1 => ⟨fun h2 => ?_, fun h2 => ?_⟩⟩⟩
 ·refine vcall_pure (c_l2IsNumber z (by omega)) ?_ ?_
  ·simp [go_sem]
  ·simp [go_sem, txtOk, h1]
   omega
 ·refine vcall_pure (c_l2IsName z (by omega)) ?_ ?_
  ·simp [go_sem]
  ·simp [go_sem, txtOk, h2]
   omega
 ·have hs : z.size ≤ 20000 := by omega
  refine ⟨fun h3 => by simp [txtOk, h1, h2, h3, hs, ba_empty], fun h3 => ⟨fun h4 => ⟨fun h5 => vcall_pure (c_l1Signs z (by simp only [maxLen]; omega)) ?_ ?_, fun h5 => ?_⟩, fun h4 => ?_⟩⟩
  ·simp [go_sem]
  ·simp [go_sem, txtOk, h1, h2, h3, h4, h5, hs]
  ·simp [go_sem, txtOk, h1, h2, h3, hs]
   intros; omega
  ·simp [go_sem, txtOk, h1, h2, h3, hs]
   intros; omega
theorem c_textOk (o : PNode) (ho : o.wf) : VFun Tryz.prog 89 [.agg o.cells] (fun av obs => obs = [] ∧ av = .lit (.bool (txtOk o))) := by
 obtain ⟨z, k, x, y⟩ := o
 simp only [PNode.cells, PNode.wf, maxLen] at ho ⊢
 refine vfun_start Tryz.func89 (by kernel_rfl) rfl (by simp [Tryz.ntmps89]) ?_; simp only [Tryz.ntmps89, Tryz.results89]; simp [go_sem]
 refine ⟨fun h => by simp [txtOk]; omega, fun h => ⟨fun h1 => ⟨fun h0 => ?_, fun h0 => ?_⟩, fun h1 => ⟨fun h2 => ?_, fun h2 => ?_⟩⟩⟩
 ·refine vcall_pure (c_trim z (by omega)) ?_ ?_
  ·simp [go_sem, digitBytes]
  ·simp [go_sem, txtOk, h1, ba_empty]
   rw [trimDg_num z (by have := mt ba_nil.mpr h0; omega)]
   simp [show z.size ≤ 20000 by omega]
 ·simp [txtOk, h1, numZ, ba_nil.mp h0]
 ·refine vcall_pure (c_nameOk z (by omega)) ?_ ?_
  ·simp [go_sem]
  ·simp [go_sem, txtOk, h2]
   omega
 ·have hs : z.size ≤ 20000 := by omega
  have sg := c_signsOk z (by simp only [maxLen]; omega)
  by_cases h3 : k = 3 ∨ k = 4 ∨ k = 5
  ·rcases h3 with rfl | rfl | rfl
   all_goals
    simp
    refine vcall_pure sg ?_ ?_
    ·simp [go_sem]
    ·simp [go_sem, txtOk, hs]
  ·have h4 : ¬ k = 3 := by omega
   have h5 : ¬ k = 4 := by omega
   have h6 : ¬ k = 5 := by omega
   simp [h4, h5, h6]
   refine ⟨fun h7 => by simp [txtOk, h7, hs, ba_empty], fun h7 => ?_⟩
   simp [txtOk, h1, h2, h7, hs]
   intros; omega
def fromS (l : List PNode) (n : Nat) : {f : Int // f ≤ n} :=
 if kidsN (nodAt l n).kind = 0 then (if (nodAt l n).a ≠ 0 ∨ (nodAt l n).b ≠ 0 then ⟨-1, by omega⟩ else ⟨n, by omega⟩)
 else if h0 : n = 0 then ⟨-1, by omega⟩
 else if kidsN (nodAt l n).kind = 1 then (if (nodAt l n).a ≠ (n : Int) - 1 ∨ (nodAt l n).b ≠ 0 then ⟨-1, by omega⟩ else match fromS l (n - 1) with | ⟨f, hf⟩ => ⟨f, by omega⟩)
 else if (nodAt l n).b ≠ (n : Int) - 1 then ⟨-1, by omega⟩
 else match fromS l (n - 1) with
  | ⟨f, hf⟩ => if h : f < 1 ∨ (nodAt l n).a ≠ f - 1 then ⟨-1, by omega⟩ else match fromS l (f - 1).toNat with | ⟨g, hg⟩ => ⟨g, by omega⟩
termination_by n
decreasing_by all_goals omega
def fromZ (l : List PNode) (i : Int) : Int := if i < 0 then -1 else (fromS l i.toNat).1
theorem kidsN_cases (k : Int) : kidsN k = 0 ∨ kidsN k = 1 ∨ kidsN k = 2 := by
 unfold kidsN; split <;> (try split) <;> simp
theorem fromZ_neg (l : List PNode) {i : Int} (h : i < 0) : fromZ l i = -1 := if_pos h
theorem fromZ_le (l : List PNode) {i : Int} (h : 0 ≤ i) : fromZ l i ≤ i := by
 unfold fromZ
 rw [if_neg (by omega)]
 have := (fromS l i.toNat).2
 omega
theorem fromZ_nat (l : List PNode) (n : Nat) : fromZ l n = (fromS l n).1 := by
 unfold fromZ
 rw [if_neg (by omega), Int.toNat_natCast]
theorem fromZ_eq (l : List PNode) (n : Nat) : fromZ l n = if kidsN (nodAt l n).kind = 0 then (if (nodAt l n).a ≠ 0 ∨ (nodAt l n).b ≠ 0 then -1 else (n : Int))
  else if kidsN (nodAt l n).kind = 1 then (if (nodAt l n).a ≠ (n : Int) - 1 ∨ (nodAt l n).b ≠ 0 then -1 else fromZ l ((n : Int) - 1))
  else if (nodAt l n).b ≠ (n : Int) - 1 then -1
  else if fromZ l ((n : Int) - 1) < 1 ∨ (nodAt l n).a ≠ fromZ l ((n : Int) - 1) - 1 then -1 else fromZ l (fromZ l ((n : Int) - 1) - 1) := by
 rw [fromZ_nat, fromS]
 by_cases h0 : kidsN (nodAt l n).kind = 0
 ·simp only [h0, if_true]
  split <;> rfl
 ·simp only [h0, if_false]
  by_cases hn : n = 0
  ·subst hn
   have e : fromZ l (((0 : Nat) : Int) - 1) = -1 := fromZ_neg l (by omega)
   simp only [e, dite_true]
   split
   ·split <;> rfl
   ·split
    ·rfl
    ·rw [if_pos (.inl (by omega))]
  ·have e : ((n : Nat) : Int) - 1 = (n - 1 : Nat) := by omega
   have e2 : fromZ l ((n - 1 : Nat) : Int) = (fromS l (n - 1)).1 := fromZ_nat l (n - 1)
   simp only [hn, dite_false]
   split
   ·split
    ·rfl
    ·rw [e, e2]
   ·split
    ·rfl
    ·simp only [e, e2]
     generalize fromS l (n - 1) = y
     obtain ⟨f, hf⟩ := y
     simp only
     split
     ·rfl
     ·rename_i h
      unfold fromZ
      rw [if_neg (by omega)]
theorem fromZ_ge (l : List PNode) (i : Int) : -1 ≤ fromZ l i := by
 have key : ∀ (g : Nat) (i : Int), i < g → -1 ≤ fromZ l i := by
  intro g
  induction g with
  | zero => intro i h; rw [fromZ_neg l (by omega)]; decide
  | succ g ih =>
   intro i h
   by_cases hi : i < 0
   ·rw [fromZ_neg l hi]; decide
   ·obtain ⟨n, rfl⟩ := Int.eq_ofNat_of_zero_le (show 0 ≤ i by omega)
    rw [fromZ_eq]
    split
    ·split <;> omega
    ·split
     ·split
      ·decide
      ·exact ih _ (by omega)
     ·split
      ·decide
      ·split
       ·decide
       ·rename_i h3
        by_cases hn : n = 0
        ·subst hn
         rw [fromZ_neg l (i := ((0 : Nat) : Int) - 1) (by omega)] at h3
         omega
        ·have := fromZ_le l (i := (n : Int) - 1) (by omega)
         exact ih _ (by omega)
 exact key (i.toNat + 1) i (by omega)
theorem fromZ_all (l : List PNode) : ∀ (n : Nat) (j : Nat), 0 ≤ fromZ l n → fromZ l n ≤ j → j ≤ n → 0 ≤ fromZ l j := by
 intro n
 induction n using Nat.strongRecOn with
 | ind n ih =>
  intro j h0 hj hn
  by_cases hjn : j = n
  ·subst hjn; exact h0
  ·rw [fromZ_eq] at h0 hj
   split at h0
   ·rename_i hk
    split at h0
    ·omega
    ·rename_i h1
     simp only [hk, if_true, if_neg h1] at hj
     omega
   ·rename_i hk
    have hn1 : ((n : Int) - 1) = ((n - 1 : Nat) : Int) := by omega
    split at h0
    ·rename_i hk1
     split at h0
     ·omega
     ·rename_i h1
      simp only [hk1, if_true, if_neg h1, if_neg (show ¬ (1 : Int) = 0 by decide)] at hj
      rw [hn1] at h0 hj
      exact ih (n - 1) (by omega) j h0 hj (by omega)
    ·rename_i hk1
     split at h0
     ·omega
     ·rename_i h1
      split at h0
      ·omega
      ·rename_i h2
       simp only [if_neg hk, if_neg hk1, if_neg h1, if_neg h2] at hj
       rw [hn1] at h0 hj h2
       have hle := fromZ_le l (i := ((n - 1 : Nat) : Int)) (by omega)
       by_cases hs : fromZ l ((n - 1 : Nat) : Int) ≤ j
       ·exact ih (n - 1) (by omega) j (by omega) hs (by omega)
       ·have e : fromZ l ((n - 1 : Nat) : Int) - 1 = ((fromZ l ((n - 1 : Nat) : Int) - 1).toNat : Int) := by omega
        rw [e] at h0 hj
        exact ih _ (by omega) j h0 hj (by omega)
def inOrd (l : List PNode) : Bool := decide (1 ≤ l.length ∧ l.length ≤ 20000) && decide (fromZ l ((l.length : Int) - 1) = 0) && (List.range l.length).all fun i => txtOk (nodAt l i)
theorem txtOk_range {o : PNode} (h : ¬ (1 ≤ o.kind ∧ o.kind ≤ 6)) : txtOk o = false := by
 have h1 : ¬ o.kind = 1 := by omega
 have h2 : ¬ o.kind = 2 := by omega
 have h3 : ¬ o.kind = 6 := by omega
 simp only [txtOk, h1, h2, h3, if_false]
 have h4 : decide (3 ≤ o.kind ∧ o.kind ≤ 5) = false := decide_eq_false (by omega)
 rw [h4]; simp
theorem c_l3From_step (l : List PNode) (hl : l.length ≤ 9223372036854775807) (i : Int) (h1 : -1 ≤ i) (h2 : i < l.length)
  (ih : ∀ j : Int, -1 ≤ j → j < i → VFun Tryz.prog 118 [.sl 4 l.length (nodCells l), .lit (.int .i64 j)] (fun av obs => obs = [] ∧ av = .lit (.int .i64 (fromZ l j)))) :
  VFun Tryz.prog 118 [.sl 4 l.length (nodCells l), .lit (.int .i64 i)] (fun av obs => obs = [] ∧ av = .lit (.int .i64 (fromZ l i))) := by
 have cl : ∀ (i : Nat) (c : AV), i < l.length → c ∈ nodCells l i → Closed c := fun i c _ h => nodClosed l i c h
 refine vfun_start Tryz.func118 (by kernel_rfl) rfl (by simp [Tryz.ntmps118]) ?_; simp only [Tryz.ntmps118, Tryz.results118]; simp [go_sem]
 refine ⟨fun h => (fromZ_neg l h).symm, fun h => ?_⟩
 obtain ⟨n, rfl⟩ := Int.eq_ofNat_of_zero_le h
 have eq := fromZ_eq l n
 have le1 : fromZ l ((n : Int) - 1) ≤ n := by
  by_cases hn : n = 0
  ·subst hn; rw [fromZ_neg l (by omega)]; decide
  ·have := fromZ_le l (i := (n : Int) - 1) (by omega)
   omega
 have le0 : 1 ≤ fromZ l ((n : Int) - 1) → fromZ l ((n : Int) - 1) ≤ (n : Int) - 1 := fun h => by
  by_cases hn : n = 0
  ·subst hn; rw [fromZ_neg l (by omega)] at h; omega
  ·exact fromZ_le l (by omega)
 have ge1 : -1 ≤ fromZ l ((n : Int) - 1) := fromZ_ge l _
 have e1 : IntKind.i64.wrap ((n : Int) - 1) = (n : Int) - 1 := wrap_i64 (by omega)
 simp [go_sem, nodCells_at]
 refine ⟨by omega, vcall_pure (c_l3Kids (nodAt l n).kind) ?_ ?_⟩
 ·simp [go_sem]
 ·simp [go_sem]
  refine ⟨fun k0 => ?_, fun k0 => vcall_pure (c_l3Kids (nodAt l n).kind) ?_ ?_⟩
  ·simp only [k0, if_true] at eq
   rw [eq]
   clear eq
   by_cases ha : (nodAt l n).a = 0 <;> by_cases hb : (nodAt l n).b = 0 <;> simp [ha, hb]
  ·simp [go_sem]
  ·simp only [k0, if_false] at eq
   simp [go_sem, e1]
   refine ⟨fun k1 => ?_, fun k1 => ?_⟩
   ·have k10 : ¬ (1 : Int) = 0 := by decide
    simp only [k1, if_true, k10, if_false] at eq
    refine ⟨fun ha => ⟨fun hb => by rw [eq, if_pos (.inr hb)], fun hb => vcall_pure (ih ((n : Int) - 1) (by omega) (by omega)) ?_ ?_⟩, fun ha => by rw [eq, if_pos (.inl ha)]⟩
    ·simp [go_sem]
     exact argSl_refl (by omega) cl
    ·simp [go_sem]
     rw [eq, if_neg (by rintro (h | h) <;> omega)]
   ·simp only [k1, if_false] at eq
    refine ⟨fun hb => by rw [eq, if_pos hb], fun hb => vcall_pure (ih ((n : Int) - 1) (by omega) (by omega)) ?_ ?_⟩
    ·simp [go_sem]
     exact argSl_refl (by omega) cl
    ·have e2 : IntKind.i64.wrap (fromZ l ((n : Int) - 1) - 1) = fromZ l ((n : Int) - 1) - 1 := wrap_i64 (by omega)
     rw [if_neg (by omega)] at eq
     by_cases hf : fromZ l ((n : Int) - 1) < 1
     ·rw [if_pos (.inl hf)] at eq
      simp [go_sem, hf, eq]
     ·simp [go_sem, hf, e2]
      refine ⟨fun ha => by rw [eq, if_pos (.inr ha)], fun ha => vcall_pure (ih (fromZ l ((n : Int) - 1) - 1) (by omega) (by omega)) ?_ ?_⟩
      ·simp [go_sem]
       exact argSl_refl (by omega) cl
      ·simp [go_sem]
       rw [eq, if_neg (by rintro (h | h) <;> omega)]
theorem c_l3From (l : List PNode) (hl : l.length ≤ 9223372036854775807) : ∀ (g : Nat) (i : Int), i < g → -1 ≤ i → i < l.length → VFun Tryz.prog 118 [.sl 4 l.length (nodCells l), .lit (.int .i64 i)] (fun av obs => obs = [] ∧ av = .lit (.int .i64 (fromZ l i))) := by
 intro g
 induction g with
 | zero => exact fun i h1 h2 h3 => c_l3From_step l hl i h2 h3 fun j h4 h5 => absurd h5 (by omega)
 | succ g ih => exact fun i h1 h2 h3 => c_l3From_step l hl i h2 h3 fun j h4 h5 => ih j (by omega) h4 (by omega)
theorem c_l3InOrder (l : List PNode) (hl : l.length ≤ 9223372036854775807) (hw : ∀ i, i < l.length → (nodAt l i).wf) : VFun Tryz.prog 80 [.agg [.sl 4 l.length (nodCells l)]] (fun av obs => obs = [] ∧ av = .lit (.bool (inOrd l))) := by
 have cl : ∀ (i : Nat) (c : AV), i < l.length → c ∈ nodCells l i → Closed c := fun i c _ h => nodClosed l i c h
 refine vfun_start Tryz.func80 (by kernel_rfl) rfl (by simp [Tryz.ntmps80]) ?_; simp only [Tryz.ntmps80, Tryz.results80]; simp [go_sem]
 have hw1 : 1 ≤ l.length → IntKind.i64.wrap ((l.length : Int) - 1) = (l.length : Int) - 1 := fun h => wrap_i64 (by omega)
 refine ⟨by omega, fun h1 => ⟨by omega, fun h2 => ⟨by omega, ?_⟩, fun h2 => ?_⟩, fun h1 => ?_⟩
 ·rw [hw1 (by omega)]
  refine vcall_pure (c_l3From l hl l.length ((l.length : Int) - 1) (by omega) (by omega) (by omega)) ?_ ?_
  ·simp [go_sem]
   exact argSl_refl (by omega) cl
  ·simp [go_sem]
   refine ⟨fun hf => by simp [inOrd, hf], fun hf => ?_⟩
   refine vc_loop (fun i : Nat => i ≤ l.length ∧ ∀ j, j < i → txtOk (nodAt l j) = true) (fun i => l.length - i) (fun i => .of [(3, .sl 4 l.length (nodCells l)), (4, .lit (.int .i64 i))] []) ⟨0, ⟨by omega, by simp⟩, ?_⟩ (fun i hi => ?_)
   ·simp [go_sem]
    exact cl
   ·simp [go_sem, nodCells_at]
    refine ⟨by omega, fun h => ⟨h, vcall_pure (c_l3TextOk (nodAt l i) (hw i h)) ?_ ?_⟩, fun h => ?_⟩
    ·simp [go_sem, PNode.cells]
    ·simp [go_sem]
     refine ⟨fun e => ?_, fun e => ⟨i + 1, ⟨by omega, fun j hj => ?_⟩, by omega, cl, wrap_succ (by omega)⟩⟩
     ·simp only [inOrd, all_false (p := fun i => txtOk (nodAt l i)) h e, Bool.and_false]
     ·rcases Nat.lt_succ_iff_lt_or_eq.mp hj with hj | rfl
      ·exact hi.2 j hj
      ·exact e
    ·simp only [inOrd, all_true (p := fun i => txtOk (nodAt l i)) (n := l.length) fun j hj => hi.2 j (by omega), hf, decide_true, Bool.and_true, decide_eq_true_eq]
     omega
 ·have : ¬ (1 ≤ l.length ∧ l.length ≤ 20000) := by omega
  simp [inOrd, this]
 ·have : ¬ (1 ≤ l.length ∧ l.length ≤ 20000) := by omega
  simp [inOrd, this]
def stN (l : List PNode) (i j : Nat) : Int := if j < i then fromZ l j else 0
def stFill (l : List PNode) (i j : Nat) : List AV := [.lit (.int .i64 (stN l i j))]
theorem stFill_at (l : List PNode) (i j : Nat) : stFill l i j = [.lit (.int .i64 (stN l i j))] := rfl
set_option maxRecDepth 100000 in
theorem c_inOrder (l : List PNode) (hl : l.length ≤ 9223372036854775807) (hw : ∀ i, i < l.length → (nodAt l i).wf) : VFun Tryz.prog 44 [.agg [.sl 4 l.length (nodCells l)]] (fun av obs => obs = [] ∧ av = .lit (.bool (inOrd l))) := by
 have cl : ∀ (i : Nat) (c : AV), i < l.length → c ∈ nodCells l i → Closed c := fun i c _ h => nodClosed l i c h
 have bad : ∀ i : Nat, i < l.length → fromZ l i < 0 → inOrd l = false := fun i hi hf => by
  simp only [inOrd, Bool.and_eq_false_iff, decide_eq_false_iff_not]
  refine .inl (.inr fun e => ?_)
  have e1 : (l.length : Int) - 1 = ((l.length - 1 : Nat) : Int) := by omega
  rw [e1] at e
  have := fromZ_all l (l.length - 1) i (by omega) (by omega) (by omega)
  omega
 have badT : ∀ i : Nat, i < l.length → txtOk (nodAt l i) = false → inOrd l = false := fun i hi e => by
  simp only [inOrd, all_false (p := fun i => txtOk (nodAt l i)) hi e, Bool.and_false]
 have badL : ¬ (1 ≤ l.length ∧ l.length ≤ 20000) → inOrd l = false := fun h => by simp [inOrd, h]
 refine vfun_start Tryz.func44 (by kernel_rfl) rfl (by simp [Tryz.ntmps44]) ?_; simp only [Tryz.ntmps44, Tryz.results44]; simp [go_sem]
 refine ⟨by omega, fun h1 => ⟨by omega, fun h2 => badL (by omega), fun h2 => ⟨by omega, by omega, by omega, by omega, ?_⟩⟩, fun h1 => badL (by omega)⟩
 refine vc_loop (fun i : Nat => i ≤ l.length ∧ ∀ j, j < i → txtOk (nodAt l j) = true ∧ 0 ≤ fromZ l j) (fun i => l.length - i)
  (fun i => .of [(3, .own 1), (21, .sl 4 l.length (nodCells l)), (22, .lit (.int .i64 l.length)), (23, .lit (.int .i64 i))] [some ⟨37, 1, 1, fun _ => [.sl 4 l.length (nodCells l)]⟩, some ⟨3, 1, l.length, stFill l i⟩]) ⟨0, ⟨by omega, by simp⟩, ?_⟩ (fun i hi => ?_)
 ·simp [go_sem, stFill, stN]
  exact cl
 ·simp [go_sem, nodCells_at]
  refine ⟨fun h => ⟨h, fun k1 => ⟨fun k6 => vcall_pure (c_textOk (nodAt l i) (hw i h)) ?_ ?_, fun k6 => badT i h (txtOk_range (by omega))⟩, fun k1 => badT i h (txtOk_range (by omega))⟩, fun h => ?_⟩
  ·simp [go_sem, PNode.cells]
  ·simp [go_sem]
   refine ⟨fun e => badT i h e, fun e => vcall_pure (c_kids (nodAt l i) (by omega)) ?_ ?_⟩
   ·simp [go_sem, PNode.cells]
   ·have hin : ∀ j : Nat, j < i → stN l i j = fromZ l j := fun j hj => if_pos hj
    have hi1 : 1 ≤ i → stN l i (i - 1) = fromZ l ((i : Int) - 1) := fun h1 => by rw [hin _ (by omega)]; congr 1; omega
    have e1 : IntKind.i64.wrap ((i : Int) - 1) = (i : Int) - 1 := wrap_i64 (by omega)
    have n1 : ((i : Int) - 1).toNat = i - 1 := by omega
    have eq := fromZ_eq l i
    have step : ∀ v : Int, v = fromZ l i → 0 ≤ v → ∃ j, (j ≤ l.length ∧ ∀ (j_1 : Nat), j_1 < j → txtOk (nodAt l j_1) = true ∧ 0 ≤ fromZ l j_1) ∧ l.length - j < l.length - i ∧
      ((∀ (i : Nat) (c : AV), i < l.length → c ∈ nodCells l i → Closed c) ∧ IntKind.i64.wrap ((i : Int) + 1) = j) ∧ (∀ (i : Nat) (c : AV), i < l.length → c ∈ nodCells l i → Closed c) ∧
      ∀ (i_1 : Nat), i_1 < l.length → updF l.length (stFill l i) i 0 [AV.lit (Value.int IntKind.i64 v)] i_1 = [AV.lit (Value.int IntKind.i64 (stN l j i_1))] := by
     rintro v rfl hv
     refine ⟨i + 1, ⟨by omega, fun j hj => ?_⟩, by omega, ⟨cl, wrap_succ (by omega)⟩, cl, fun j hj => ?_⟩
     ·rcases Nat.lt_succ_iff_lt_or_eq.mp hj with hj | rfl
      ·exact hi.2 j hj
      ·exact ⟨e, hv⟩
     ·rw [updF_at h hj]
      by_cases hji : j = i
      ·subst hji
       simp [stFill, splice, stN]
      ·rw [if_neg hji]
       simp only [stFill, stN]
       by_cases h2 : j < i
       ·rw [if_pos h2, if_pos (by omega)]
       ·rw [if_neg h2, if_neg (by omega)]
    simp [go_sem, e1, n1, stFill_at]
    refine ⟨fun k0 => ?_, fun k0 => ⟨fun k1 => ?_, fun k1 => ⟨fun k2 => ?_, fun k2 => ?_⟩⟩⟩
    ·simp only [k0, if_true] at eq
     have no : ¬ ((nodAt l i).a = 0 ∧ (nodAt l i).b = 0) → inOrd l = false := fun hn => bad i h (by rw [eq, if_pos (by omega)]; omega)
     refine ⟨fun ha => ⟨fun hb => no (by omega), fun hb => ⟨h, ?_⟩⟩, fun ha => no (by omega)⟩
     rw [if_neg (by omega)] at eq
     exact step _ eq.symm (by omega)
    ·simp only [if_neg k0, if_pos k1] at eq
     have no : ¬ (1 ≤ (i : Int) ∧ (nodAt l i).a = (i : Int) - 1 ∧ (nodAt l i).b = 0) → inOrd l = false := fun hn => bad i h (by
      rw [eq]
      split
      ·omega
      ·rw [fromZ_neg l (by omega)]; omega)
     refine ⟨fun g1 => ⟨fun ha => ⟨fun hb => no (by omega), fun hb => ?_⟩, fun ha => no (by omega)⟩, fun g1 => no (by omega)⟩
     rw [if_neg (by omega)] at eq
     have hp := (hi.2 (i - 1) (by omega)).2
     have e3 : ((i - 1 : Nat) : Int) = (i : Int) - 1 := by omega
     rw [e3] at hp
     simp only [hi1 (by omega)]
     exact ⟨g1, by omega, by omega, h, step _ eq.symm hp⟩
    ·simp only [if_neg k0, if_neg k1] at eq
     refine vc_drawn [] (.q 0 <| .q 1 <| .q 2 <| .q 3 <| .q 4 <| .q 5 <| .q 6 <| .q 7 <| .q 8 <| .q 9 <| .q 10 <| .q 11 <| .q 12 <| .q 13 <| .q 14 <| .q 15 <| .q 16 <| .q 17 <| .q 18 <| .q 19 <| .q 20 <| .q 21 <| .q 22 <| .q 23 <| .q 24 <| .done) (by kernel_rfl) ?_
     simp [go_sem, e1, n1, stFill_at]
     have lt2 : (i : Int) < 2 → fromZ l ((i : Int) - 1) < 1 := fun h2 => by
      by_cases h3 : i = 0
      ·subst h3; rw [fromZ_neg l (by omega)]; omega
      ·have := fromZ_le l (i := (i : Int) - 1) (by omega)
       omega
     have no : ¬ (2 ≤ (i : Int) ∧ (nodAt l i).b = (i : Int) - 1 ∧ (nodAt l i).a = fromZ l ((i : Int) - 1) - 1 ∧ 0 ≤ (nodAt l i).a) → inOrd l = false := fun hn => bad i h (by
      rw [eq]
      split
      ·omega
      ·split
       ·omega
       ·rename_i h1 h2
        have : ¬ (i : Int) < 2 := fun h3 => h2 (.inl (lt2 h3))
        omega)
     refine ⟨fun g2 => ⟨fun hb => ⟨by omega, by omega, by omega, ?_⟩, fun hb => no (by omega)⟩, fun g2 => no (by omega)⟩
     have hp := (hi.2 (i - 1) (by omega)).2
     have e3 : ((i - 1 : Nat) : Int) = (i : Int) - 1 := by omega
     rw [e3] at hp
     have hle := fromZ_le l (i := (i : Int) - 1) (by omega)
     simp only [hi1 (by omega), wrap_i64 (n := fromZ l ((i : Int) - 1) - 1) (by omega)]
     refine ⟨fun ha => ⟨fun h0 => no (by omega), fun h0 => ⟨h0, by omega, by omega, h, step _ ?_ ?_⟩⟩, fun ha => no (by omega)⟩
     ·rw [eq, if_neg (by omega), if_neg (by omega), hin _ (by omega), Int.toNat_of_nonneg h0, ha]
     ·rw [hin _ (by omega)]
      exact (hi.2 _ (by omega)).2
    ·have := kidsN_cases (nodAt l i).kind
     omega
  ·have hl1 : i = l.length := by omega
   subst hl1
   have e1 : IntKind.i64.wrap ((l.length : Int) - 1) = (l.length : Int) - 1 := wrap_i64 (by omega)
   have n1 : ((l.length : Int) - 1).toNat = l.length - 1 := by omega
   simp [go_sem, stFill_at, e1, n1]
   refine ⟨by omega, h1, by omega, by omega, ?_⟩
   have e3 : ((l.length - 1 : Nat) : Int) = (l.length : Int) - 1 := by omega
   have e4 : stN l l.length (l.length - 1) = fromZ l ((l.length : Int) - 1) := by unfold stN; rw [if_pos (by omega), e3]
   have hr : 1 ≤ l.length ∧ l.length ≤ 20000 := by omega
   simp only [inOrd, all_true (p := fun i => txtOk (nodAt l i)) (n := l.length) fun j hj => (hi.2 j (by omega)).1, e4, hr, and_self, decide_true, Bool.true_and, Bool.and_true, int_beq]
open Go.Proofs.YtjdmmhcogmepaaaGreatDoor.Ops (Tr)
abbrev ET := Tr POp (Int × ByteArray)
def ET.nil : ET := .leaf (0, ⟨#[]⟩)
def lay : ET → List PNode → List PNode
 | .leaf b, out => out ++ [⟨b.2, b.1, 0, 0⟩]
 | .grp e, out => lay e out ++ [⟨⟨#[]⟩, 6, (lay e out).length - 1, 0⟩]
 | .pre o e, out => lay e out ++ [⟨o.text, o.kind + 2, (lay e out).length - 1, 0⟩]
 | .post o e, out => lay e out ++ [⟨o.text, o.kind + 2, (lay e out).length - 1, 0⟩]
 | .inf o x y, out => lay y (lay x out) ++ [⟨o.text, o.kind + 2, (lay x out).length - 1, (lay y (lay x out)).length - 1⟩]
def nodRow (t : List PNode) : Option Ob := some ⟨77, 4, t.length, nodCells t⟩
theorem nod_app (t : List PNode) (o : PNode) (j : Nat) (h : j < t.length + 1) : joinF t.length (nodCells t) (fun i => [o.cells][i]?.getD []) j = nodCells (t ++ [o]) j := by
 unfold joinF nodCells
 by_cases hj : j < t.length
 ·rw [if_pos hj, List.getD_eq_getElem?_getD, List.getD_eq_getElem?_getD, List.getElem?_append_left hj]
 ·have : j = t.length := by omega
  subst this
  rw [if_neg (by omega), List.getD_eq_getElem?_getD, List.getElem?_append_right (by omega)]
  simp
theorem outAt_app {idx : Nat → Nat} {ks : List Nat} {ty : Nat} {l T : List PNode} {o : PNode} {f : Nat → List AV} (h : T = l ++ [o]) (hf : ∀ j, j < l.length + 1 → f j = nodCells (l ++ [o]) j) : OutAt idx ks ⟨ty, 4, T.length, nodCells T⟩ (some (some ⟨ty, 4, l.length + 1, f⟩)) := by
 subst h
 rw [show (l ++ [o]).length = l.length + 1 by simp]
 exact outAt_lits hf (fun j _ => nodLit _ j)
theorem outAt_same {idx : Nat → Nat} {ks : List Nat} {ty : Nat} {l T : List PNode} {f : Nat → List AV} (h : T = l) (hf : ∀ j, j < l.length → f j = nodCells l j) : OutAt idx ks ⟨ty, 4, T.length, nodCells T⟩ (some (some ⟨ty, 4, l.length, f⟩)) := by
 subst h
 exact outAt_lits hf (fun j _ => nodLit _ j)
theorem nod_appF {T : List PNode} {o : PNode} {f : Nat → List AV} {n : Nat} (hn : n = T.length) (hf : ∀ j, j < n → f j = nodCells T j) (j : Nat) (h : j < n + 1) : joinF n f (fun q => [o.cells][q]?.getD []) j = nodCells (T ++ [o]) j := by
 rw [← nod_app T o j (by omega)]
 subst hn
 unfold joinF
 by_cases hj : j < T.length
 ·rw [if_pos hj, if_pos hj, hf j hj]
 ·rw [if_neg hj, if_neg hj]
theorem outAt_appF {idx : Nat → Nat} {ks : List Nat} {ty : Nat} {T R : List PNode} {o : PNode} {f : Nat → List AV} {n : Nat} (hn : n = T.length) (h : R = T ++ [o]) (hf : ∀ j, j < n + 1 → f j = nodCells (T ++ [o]) j) : OutAt idx ks ⟨ty, 4, R.length, nodCells R⟩ (some (some ⟨ty, 4, n + 1, f⟩)) := by
 subst hn
 exact outAt_app h hf
def NodesAre (e : PT) (out : List PNode) : Prop := ∃ T u, partP e = .iface T u ∧ ∃ f, methOf Tryz.prog T "loop.example/s0059/impl.nodes" = some f ∧ VProc Tryz.prog f [.lit u, .own 0] [nodRow out] [] (fun av mem maps => av = .own 1 ∧ mem = [none, nodRow (lay e out)] ∧ maps = [])
theorem mo_leaf_n : methOf Tryz.prog 193 "loop.example/s0059/impl.nodes" = some 186 := by kernel_rfl
theorem mo_group_n : methOf Tryz.prog 212 "loop.example/s0059/impl.nodes" = some 189 := by kernel_rfl
theorem mo_applied_n : methOf Tryz.prog 164 "loop.example/s0059/impl.nodes" = some 183 := by kernel_rfl
theorem nodes_leaf (b : Int × ByteArray) (out : List PNode) (hl : out.length ≤ 3000000) : NodesAre (.leaf b) out := by
 refine ⟨_, _, rfl, _, mo_leaf_n, ?_⟩
 simp only [nodRow]
 refine vproc_start Tryz.func186 (by kernel_rfl) rfl (by simp [Tryz.ntmps186]) ?_; simp only [Tryz.ntmps186, Tryz.results186]; simp [go_sem]
 refine ⟨by omega, by omega, ?_⟩
 refine ⟨rfl, [3], [none, nodRow (lay (.leaf b) out)], by simp, by simp [go_sem], by simp [go_sem], ?_, by simp [go_sem], ?_⟩
 ·simp [go_sem, nodRow]
  refine outAt_app (o := ⟨b.2, b.1, 0, 0⟩) (by simp [lay]) fun j hj => ?_
  exact nod_app out ⟨b.2, b.1, 0, 0⟩ j hj
 ·simp [go_sem, nodRow]
theorem nodes_group (e : PT) (out : List PNode) (ih : NodesAre e out) (h0 : 0 < (lay e out).length) (hl : (lay e out).length ≤ 3000000) : NodesAre (.grp e) out := by
 refine ⟨_, _, rfl, _, mo_group_n, ?_⟩
 obtain ⟨T, u, hT, f, hm, hc⟩ := ih
 have ew : IntKind.i64.wrap (((lay e out).length : Int) - 1) = ((lay e out).length : Int) - 1 := wrap_i64 (by omega)
 rw [hT]
 simp only [nodRow] at hc ⊢
 refine vproc_start Tryz.func189 (by kernel_rfl) rfl (by simp [Tryz.ntmps189]) ?_; simp only [Tryz.ntmps189, Tryz.results189]; simp [go_sem]
 simp [go_sem, hm]
 refine vcall_share [0] hc (by simp) ?_ ?_ trivial ?_
 ·simp [go_sem]
 ·simp [go_sem]
  exact fun i _ => cellsRn_lits (nodLit _ i)
 ·rintro av mem maps ⟨rfl, rfl, rfl⟩
  simp [go_sem, ew]
  refine ⟨by omega, by omega, by omega, ?_⟩
  refine ⟨rfl, [4], [none, nodRow (lay (.grp e) out)], by simp, by simp [go_sem], by simp [go_sem], ?_, by simp [go_sem], ?_⟩
  ·simp [go_sem, nodRow]
   refine outAt_app (o := ⟨⟨#[]⟩, 6, ((lay e out).length : Int) - 1, 0⟩) (by simp [lay]) fun j hj => ?_
   exact nod_app (lay e out) ⟨⟨#[]⟩, 6, ((lay e out).length : Int) - 1, 0⟩ j hj
  ·simp [go_sem, nodRow]
theorem nodes_pre (o : POp) (hk : o.kind = 1) (e : PT) (out : List PNode) (ih : NodesAre e out) (h0 : 0 < (lay e out).length) (hl : (lay e out).length ≤ 3000000) : NodesAre (.pre o e) out := by
 refine ⟨_, _, rfl, _, mo_applied_n, ?_⟩
 obtain ⟨T, u, hT, f, hm, hc⟩ := ih
 have ew : IntKind.i64.wrap (((lay e out).length : Int) - 1) = ((lay e out).length : Int) - 1 := wrap_i64 (by omega)
 have ek : IntKind.i64.wrap (o.kind + 2) = o.kind + 2 := wrap_i64 (by omega)
 rw [hT]
 simp only [nodRow] at hc ⊢
 refine vproc_start Tryz.func183 (by kernel_rfl) rfl (by simp [Tryz.ntmps183]) ?_; simp only [Tryz.ntmps183, Tryz.results183]; simp [go_sem]
 simp [go_sem, hm, ek]
 refine vcall_share [0] hc (by simp) ?_ ?_ trivial ?_
 ·simp [go_sem]
 ·simp [go_sem]
  exact fun i _ => cellsRn_lits (nodLit _ i)
 ·rintro av mem maps ⟨rfl, rfl, rfl⟩
  simp [go_sem, ew]
  refine ⟨by omega, by omega, by omega, ?_⟩
  refine ⟨rfl, [5], [none, nodRow (lay (.pre o e) out)], by simp, by simp [go_sem], by simp [go_sem], ?_, by simp [go_sem], ?_⟩
  ·simp [go_sem, nodRow]
   refine outAt_app (o := ⟨o.text, o.kind + 2, ((lay e out).length : Int) - 1, 0⟩) (by simp [lay]) fun j hj => ?_
   exact nod_app (lay e out) ⟨o.text, o.kind + 2, ((lay e out).length : Int) - 1, 0⟩ j hj
  ·simp [go_sem, nodRow]
theorem nodes_post (o : POp) (hk : o.kind = 3) (e : PT) (out : List PNode) (ih : NodesAre e out) (h0 : 0 < (lay e out).length) (hl : (lay e out).length ≤ 3000000) : NodesAre (.post o e) out := by
 refine ⟨_, _, rfl, _, mo_applied_n, ?_⟩
 obtain ⟨T, u, hT, f, hm, hc⟩ := ih
 have ew : IntKind.i64.wrap (((lay e out).length : Int) - 1) = ((lay e out).length : Int) - 1 := wrap_i64 (by omega)
 have ek : IntKind.i64.wrap (o.kind + 2) = o.kind + 2 := wrap_i64 (by omega)
 rw [hT]
 simp only [nodRow] at hc ⊢
 refine vproc_start Tryz.func183 (by kernel_rfl) rfl (by simp [Tryz.ntmps183]) ?_; simp only [Tryz.ntmps183, Tryz.results183]; simp [go_sem]
 simp [go_sem, hm, ek]
 refine vcall_share [0] hc (by simp) ?_ ?_ trivial ?_
 ·simp [go_sem]
 ·simp [go_sem]
  exact fun i _ => cellsRn_lits (nodLit _ i)
 ·rintro av mem maps ⟨rfl, rfl, rfl⟩
  simp [go_sem, ew]
  refine ⟨by omega, by omega, by omega, ?_⟩
  refine ⟨rfl, [5], [none, nodRow (lay (.post o e) out)], by simp, by simp [go_sem], by simp [go_sem], ?_, by simp [go_sem], ?_⟩
  ·simp [go_sem, nodRow]
   refine outAt_app (o := ⟨o.text, o.kind + 2, ((lay e out).length : Int) - 1, 0⟩) (by simp [lay]) fun j hj => ?_
   exact nod_app (lay e out) ⟨o.text, o.kind + 2, ((lay e out).length : Int) - 1, 0⟩ j hj
  ·simp [go_sem, nodRow]
theorem nodes_inf (o : POp) (hk : o.kind = 2) (x y : PT) (out : List PNode) (ih : NodesAre x out) (ih2 : NodesAre y (lay x out)) (h0 : 0 < (lay x out).length) (h1 : 0 < (lay y (lay x out)).length) (hl : (lay x out).length ≤ 3000000) (hl2 : (lay y (lay x out)).length ≤ 3000000) : NodesAre (.inf o x y) out := by
 refine ⟨_, _, rfl, _, mo_applied_n, ?_⟩
 obtain ⟨T, u, hT, f, hm, hc⟩ := ih
 obtain ⟨T', u', hT', f', hm', hc'⟩ := ih2
 have ew : IntKind.i64.wrap (((lay x out).length : Int) - 1) = ((lay x out).length : Int) - 1 := wrap_i64 (by omega)
 have ew' : IntKind.i64.wrap (((lay y (lay x out)).length : Int) - 1) = ((lay y (lay x out)).length : Int) - 1 := wrap_i64 (by omega)
 have ek : IntKind.i64.wrap (o.kind + 2) = o.kind + 2 := wrap_i64 (by omega)
 rw [hT, hT']
 simp only [nodRow] at hc hc' ⊢
 refine vproc_start Tryz.func183 (by kernel_rfl) rfl (by simp [Tryz.ntmps183]) ?_; simp only [Tryz.ntmps183, Tryz.results183]; simp [go_sem]
 simp [go_sem, hm, ek]
 refine vcall_share [0] hc (by simp) ?_ ?_ trivial ?_
 ·simp [go_sem]
 ·simp [go_sem]
  exact fun i _ => cellsRn_lits (nodLit _ i)
 ·rintro av mem maps ⟨rfl, rfl, rfl⟩
  simp [go_sem, ew, hm']
  refine ⟨by omega, ?_⟩
  refine vcall_share [3] hc' (by simp) ?_ ?_ trivial ?_
  ·simp [go_sem]
  ·simp [go_sem]
   exact fun i _ => cellsRn_lits (nodLit _ i)
  ·rintro av mem maps ⟨rfl, rfl, rfl⟩
   simp [go_sem, ew']
   refine ⟨by omega, by omega, by omega, ?_⟩
   refine ⟨rfl, [6], [none, nodRow (lay (.inf o x y) out)], by simp, by simp [go_sem], by simp [go_sem], ?_, by simp [go_sem], ?_⟩
   ·simp [go_sem, nodRow]
    refine outAt_app (o := ⟨o.text, o.kind + 2, ((lay x out).length : Int) - 1, ((lay y (lay x out)).length : Int) - 1⟩) (by simp [lay]) fun j hj => ?_
    exact nod_app (lay y (lay x out)) ⟨o.text, o.kind + 2, ((lay x out).length : Int) - 1, ((lay y (lay x out)).length : Int) - 1⟩ j hj
   ·simp [go_sem, nodRow]
theorem lay_grows : ∀ (e : PT) (out : List PNode), out.length < (lay e out).length
 | .leaf _, out => by simp [lay]
 | .grp e, out => by have := lay_grows e out; simp [lay]; omega
 | .pre _ e, out => by have := lay_grows e out; simp [lay]; omega
 | .post _ e, out => by have := lay_grows e out; simp [lay]; omega
 | .inf _ x y, out => by have := lay_grows x out; have := lay_grows y (lay x out); simp [lay]; omega
def KindsOk : PT → Prop
 | .leaf _ => True
 | .grp e => KindsOk e
 | .pre o e => o.kind = 1 ∧ KindsOk e
 | .post o e => o.kind = 3 ∧ KindsOk e
 | .inf o x y => o.kind = 2 ∧ KindsOk x ∧ KindsOk y
theorem nodesAre : ∀ (e : PT) (out : List PNode), KindsOk e → (lay e out).length ≤ 3000000 → NodesAre e out
 | .leaf b, out, _, hl => nodes_leaf b out (by have := lay_grows (.leaf b) out; omega)
 | .grp e, out, hk, hl => by
  have h1 := lay_grows e out
  have h2 : (lay e out).length < (lay (.grp e) out).length := by simp [lay]
  exact nodes_group e out (nodesAre e out hk (by omega)) (by omega) (by omega)
 | .pre o e, out, hk, hl => by
  have h1 := lay_grows e out
  have h2 : (lay e out).length < (lay (.pre o e) out).length := by simp [lay]
  exact nodes_pre o hk.1 e out (nodesAre e out hk.2 (by omega)) (by omega) (by omega)
 | .post o e, out, hk, hl => by
  have h1 := lay_grows e out
  have h2 : (lay e out).length < (lay (.post o e) out).length := by simp [lay]
  exact nodes_post o hk.1 e out (nodesAre e out hk.2 (by omega)) (by omega) (by omega)
 | .inf o x y, out, hk, hl => by
  have h1 := lay_grows x out
  have h2 := lay_grows y (lay x out)
  have h3 : (lay y (lay x out)).length < (lay (.inf o x y) out).length := by simp [lay]
  exact nodes_inf o hk.1 x y out (nodesAre x out hk.2.1 (by omega)) (nodesAre y (lay x out) hk.2.2 (by omega)) (by omega) (by omega) (by omega) (by omega)
end Go.Proofs.YtjdmmhcogmepaaaGreatDoor.V
namespace Go.Proofs.YtjdmmhcogmepaaaGreatDoor.V
open Go.RowKit
open Go.Proofs.YtjdmmhcogmepaaaGreatDoor.Ops (Tr Tk Lv Res Fit)
theorem toks_exist {l : List POp} {t : List PTok} {n : Nat} (hu : Uniq l) (hn : t.length = n + 1) (h : ∀ j, j < t.length → 0 ≤ roleAt l t j (stAt l t j)) (hk7 : (tokAt t n).kind = 7) : ∀ (m i d : Nat), i + m = n → (d : Int) = openAt t i → ∃ ts : List TkP, ToksAre l t i ts ∧ Fit (!stAt l t i) d ts := by
 intro m
 induction m with
 | zero =>
  intro i d hi hd
  obtain rfl : i = n := by omega
  have hr := h i (by omega)
  refine ⟨[], ⟨by omega, hk7⟩, ?_⟩
  cases hs : stAt l t i with
  | false => rw [hs] at hr; simp [roleAt, hk7] at hr
  | true =>
   rw [hs] at hr
   simp only [roleAt, hk7] at hr
   simp at hr
   simp only [Bool.not_true, Fit]
   split at hr
   ·omega
   ·omega
 | succ m ih =>
  intro i d hi hd
  have hr := h i (by omega)
  have nxt : ∀ (st : Bool) (d' : Nat), stAt l t (i + 1) = st → (d' : Int) = openAt t (i + 1) → ∃ ts : List TkP, ToksAre l t (i + 1) ts ∧ Fit (!st) d' ts := fun st d' h1 h2 => by
   obtain ⟨ts, g1, g2⟩ := ih (i + 1) d' (by omega) h2
   rw [h1] at g2
   exact ⟨ts, g1, g2⟩
  cases hs : stAt l t i with
  | false =>
   rw [hs] at hr
   by_cases k12 : (tokAt t i).kind = 1 ∨ (tokAt t i).kind = 2
   ·obtain ⟨ts, g1, g2⟩ := nxt true d (by rcases k12 with e | e <;> simp [stAt, e]) (by rcases k12 with e | e <;> simp [openAt, e, hd])
    exact ⟨.leaf ((tokAt t i).kind, (tokAt t i).text) :: ts, ⟨⟨k12, rfl⟩, g1⟩, g2⟩
   ·by_cases k4 : (tokAt t i).kind = 4
    ·obtain ⟨ts, g1, g2⟩ := nxt false (d + 1) (by simp [stAt, k4]) (by simp [openAt, k4]; omega)
     exact ⟨.opn :: ts, ⟨k4, g1⟩, g2⟩
    ·simp only [roleAt, if_true] at hr
     rw [if_neg (by omega)] at hr
     split at hr
     ·rename_i h3
      obtain ⟨j, hj, e1, e2⟩ := (opHas_iff l _ _).1 h3.2
      obtain ⟨ts, g1, g2⟩ := nxt false d (by simp [stAt, h3.1, hs]) (by simp [openAt, h3.1, hd])
      exact ⟨.pre (opAt l j) :: ts, ⟨⟨h3.1, e1, e2, j, hj, rfl⟩, g1⟩, g2⟩
     ·omega
  | true =>
   rw [hs] at hr
   simp only [roleAt, Bool.true_eq_false, if_false] at hr
   split at hr
   ·rename_i h3
    obtain ⟨j, hj, e1, e2⟩ := (opHas_iff l _ _).1 h3.2
    have no3 : opHas l (tokAt t i).text 3 = false := by
     cases e : opHas l (tokAt t i).text 3 with
     | false => rfl
     | true =>
      obtain ⟨j', hj', e1', e2'⟩ := (opHas_iff l _ _).1 e
      have := hu j j' hj hj' (by rw [e1, e1']) (by rw [e2, e2']; rfl)
      rw [this, e2'] at e2; omega
    obtain ⟨ts, g1, g2⟩ := nxt false d (by simp [stAt, h3.1, no3]) (by simp [openAt, h3.1, hd])
    exact ⟨.inf (opAt l j) :: ts, ⟨⟨h3.1, e1, e2, j, hj, rfl⟩, g1⟩, g2⟩
   ·split at hr
    ·rename_i h3
     obtain ⟨j, hj, e1, e2⟩ := (opHas_iff l _ _).1 h3.2
     obtain ⟨ts, g1, g2⟩ := nxt true d (by simp [stAt, h3.1, hs, h3.2]) (by simp [openAt, h3.1, hd])
     exact ⟨.post (opAt l j) :: ts, ⟨⟨h3.1, e1, e2, j, hj, rfl⟩, g1⟩, g2⟩
    ·split at hr
     ·rename_i h5
      obtain ⟨ts, g1, g2⟩ := nxt true (d - 1) (by simp [stAt, h5.1]) (by simp [openAt, h5.1]; omega)
      refine ⟨.cls :: ts, ⟨h5.1, g1⟩, ?_⟩
      obtain ⟨d', rfl⟩ : ∃ d', d = d' + 1 := ⟨d - 1, by omega⟩
      simpa [Fit] using g2
     ·split at hr
      ·rename_i h7
       exfalso; omega
      ·exfalso; omega
theorem toks_of {l : List POp} {t : List PTok} (hu : Uniq l) (hr : (rolesZ l t).2 = -1) : ∃ ts : List TkP, ToksAre l t 0 ts ∧ Fit true 0 ts := by
 unfold rolesZ at hr
 split at hr
 ·simp at hr
 ·split at hr
  ·simp at hr
  ·rename_i hb
   split at hr
   ·rename_i he
    simp [endsOk] at he
    obtain ⟨n, hn⟩ : ∃ n, t.length = n + 1 := ⟨t.length - 1, by have : t.length ≠ 0 := fun e => he.1 (List.eq_nil_of_length_eq_zero e); omega⟩
    have h0 : ∀ j, j < t.length → 0 ≤ roleAt l t j (stAt l t j) := fun j hj => by
     unfold firstBad at hb
     rw [List.find?_eq_none] at hb
     have := hb j (by simpa using hj)
     simp at this; exact this
    exact toks_exist hu hn h0 (by have := he.2; rw [hn] at this; simpa using this) n 0 0 (by omega) (by simp [openAt])
   ·simp at hr
theorem ok_of_ok {l : List POp} (h : tblOk l = 0) (j : Nat) (hj : j < l.length) : opOk (opAt l j) = true := by
 have := tblOk_ops h
 unfold tblOps at this
 rw [List.all_eq_true] at this
 exact this j (by simpa using hj)
def InL (l : List POp) (o : POp) : Prop := ∃ j, j < l.length ∧ opAt l j = o
theorem good_of_ok {l : List POp} (h : tblOk l = 0) : Ops.Good lvO (InL l) := by
 have hc : tblClash l 4 = false := by
  unfold tblOk at h
  cases hh : tblClash l 4
  ·rfl
  ·rw [hh] at h
   split at h
   ·cases h
   ·split at h
    ·cases h
    ·split at h
     ·cases h
     ·simp at h
 have no : ∀ i j, i < l.length → j < i → clash (opAt l i) (opAt l j) 4 = true → False := fun i j hi hj hcl => by
  have := (tblClash_iff l 4).2 ⟨i, hi, j, hj, hcl⟩
  rw [hc] at this
  cases this
 refine ⟨fun a ⟨j, hj, e⟩ => ?_, fun a ⟨j, hj, e⟩ => ?_, fun a b ⟨i, hi, e⟩ ⟨j, hj, e2⟩ hl => ?_⟩
 ·have := ok_of_ok h j hj
  rw [e] at this
  exact (opOk_level this).1
 ·have := ok_of_ok h j hj
  rw [e] at this
  exact (opOk_level this).2
 ·subst e; subst e2
  have hl' : (opAt l i).level = (opAt l j).level := hl
  show sortN (opAt l i) = sortN (opAt l j)
  rcases Nat.lt_trichotomy i j with hlt | rfl | hlt
  ·by_cases hs : sortN (opAt l i) = sortN (opAt l j)
   ·exact hs
   ·exact (no j i hj hlt (by simp [clash, hl', Ne.symm hs])).elim
  ·rfl
  ·by_cases hs : sortN (opAt l i) = sortN (opAt l j)
   ·exact hs
   ·exact (no i j hi hlt (by simp [clash, hl', hs])).elim
end Go.Proofs.YtjdmmhcogmepaaaGreatDoor.V
