import Derived.Test.YtadghlfkddkelaaGreatDoorLT
import Derived.Test.YtadghlfkddkelaaGreatDoorLB
import Derived.Test.YtadghlfkddkelaaGreatDoorShelf
import Derived.DeepKeys5
import Derived.Lib.Split
import Derived.Lib.Atoi
import Derived.Maps.RangeRun
import Derived.Shelf.Strings.SlTrimAscii
import Derived.Shelf.Strings.SplitShaped
import Derived.Lib.AtoiErrMem
set_option linter.unusedVariables false
set_option linter.unusedSimpArgs false
set_option linter.constructorNameAsVariable false
namespace Go.Proofs.YtadghlfkddkelaaGreatDoor.V
open Go.RowKit
theorem vfun_lit {P : Program} {f : FuncId} {vs : List Value} {v : Value} (hf : FnOk P f) (h : ∀ w, Calls P f vs.toArray w fun e w' => e = .returned v ∧ w' = w) : VFun P f (vs.map .lit) (fun av obs => obs = [] ∧ av = .lit v) := by
 refine ⟨hf, fun w us hl hu => ?_⟩
 have e : us = vs := by
  have hl' : vs.length = us.length := by simpa using hl.1
  apply List.ext_getElem hl'.symm
  intro j h1 h2
  have := hu j (.lit vs[j]) us[j] (by simp [h2]) (List.getElem?_eq_getElem h1)
  generalize us[j] = x at this
  generalize vs[j] = y at this
  cases this
  rfl
 subst e
 refine (h w).mono fun e w' ⟨he, hw⟩ => ?_
 subst he; subst hw
 exact ⟨v, rfl, World.grownBy.refl _ _, fun _ => undef, .lit v, [], ⟨rfl, rfl⟩, rfl, fun ob h => by simp at h, ⟨fun k ob h => by simp at h, fun k ob h => by simp at h, fun k h => by simp at h, fun k k' ob ob' h => by simp at h⟩, .lit v⟩
theorem wrap_i64 {n : Int} (h : -9223372036854775808 ≤ n ∧ n ≤ 9223372036854775807) : IntKind.i64.wrap n = n := by
 rw [IntKind.wrap_i64]; omega
theorem wrap_succ {i : Nat} (h : i < 9223372036854775807) : IntKind.i64.wrap ((i : Int) + 1) = ((i + 1 : Nat) : Int) := by
 rw [wrap_i64 (by omega)]; omega
def signBytes : ByteArray := { data := #[43, 45, 42, 47, 60, 62, 61, 33, 38, 124, 94, 126, 63, 58, 64, 37, 36, 46] }
def isSg (c : Int) : Bool := (List.range 18).any fun i => byteAt signBytes i = c
theorem signSize : signBytes.size = 18 := rfl
theorem isSg_false {c : Int} (h : ∀ j, j < 18 → ¬byteAt signBytes j = c) : isSg c = false := by simpa [isSg] using h
theorem isSg_true {c : Int} {i : Nat} (h : i < 18) (e : byteAt signBytes i = c) : isSg c = true := by simpa [isSg] using ⟨i, h, e⟩
theorem c_l1IsSign (c : Int) : VFun Tryz.prog 127 [.lit (.int .u8 c)] (fun av obs => obs = [] ∧ av = .lit (.bool (isSg c))) := by
 refine vfun_start Tryz.func127 (by kernel_rfl) rfl (by simp [Tryz.ntmps127]) ?_; simp only [Tryz.ntmps127, Tryz.results127]; simp [go_sem]
 refine vc_loop (fun i : Nat => i ≤ 18 ∧ ∀ j, j < i → ¬byteAt signBytes j = c) (fun i => 18 - i) (fun i => .of [(0, .lit (.int .u8 c)), (2, .lit (.bool false)), (3, .lit (.string signBytes)), (4, .lit (.int .i64 i))] []) ⟨0, ?_, ?_⟩ (fun i hi => ?_)
 ·simp
 ·simp [go_sem, signBytes]
 ·simp [go_sem, signSize]
  refine ⟨fun h => ⟨h, fun e => isSg_true (by omega) e, fun e => ⟨i + 1, ⟨⟨by omega, fun j hj => ?_⟩, by omega, wrap_succ (by omega)⟩⟩⟩, fun h => isSg_false fun j hj => hi.2 j (by omega)⟩
  rcases Nat.lt_succ_iff_lt_or_eq.mp hj with hj | rfl
  ·exact hi.2 j hj
  ·exact e
theorem byteAt_range (z : ByteArray) (i : Nat) : 0 ≤ byteAt z i ∧ byteAt z i < 256 := by
 unfold byteAt
 split
 ·rename_i h
  have := (z[i]'h).toNat_lt
  omega
 ·omega
theorem signKey : (List.range 256).all (fun n => decide (0 ≤ Lib.indexByte signBytes.data.toList n.toUInt8) == isSg n) = true := by kernel_rfl
theorem indexSign (c : Int) (h : 0 ≤ c ∧ c < 256) : decide (0 ≤ Lib.indexByte signBytes.data.toList c.toNat.toUInt8) = isSg c := by
 have := List.all_eq_true.mp signKey c.toNat (List.mem_range.mpr (by omega))
 have e : ((c.toNat : Nat) : Int) = c := by omega
 rw [beq_iff_eq, e] at this
 exact this
theorem c_isSign (c : Int) (h : 0 ≤ c ∧ c < 256) : VFun Tryz.prog 126 [.lit (.int .u8 c)] (fun av obs => obs = [] ∧ av = .lit (.bool (isSg c))) := by
 refine vfun_start Tryz.func126 (by kernel_rfl) rfl (by simp [Tryz.ntmps126]) ?_; simp only [Tryz.ntmps126, Tryz.results126]; simp [go_sem]
 refine vcall_pure (vfun_lit (vs := [.string signBytes, .int .u8 c]) ⟨_, Tryz.func159, rfl, rfl⟩ (fun w => Tryz.strings_IndexByte signBytes c w)) ?_ ?_
 ·simp [go_sem, signBytes]
 ·simp [go_sem]
  exact indexSign c h
def sgAll (z : ByteArray) : Bool := (List.range z.size).all fun i => isSg (byteAt z i)
def sgOk (z : ByteArray) : Bool := sgAll z && decide (1 ≤ z.size) && decide (z.size ≤ 16)
theorem sgAll_false {z : ByteArray} {i : Nat} (h : i < z.size) (e : isSg (byteAt z i) = false) : sgAll z = false := by
 simp [sgAll]; exact ⟨i, h, e⟩
theorem sgAll_true {z : ByteArray} (h : ∀ i, i < z.size → isSg (byteAt z i) = true) : sgAll z = true := by simpa [sgAll] using h
theorem c_l1Signs (z : ByteArray) (hz : z.size ≤ maxLen) : VFun Tryz.prog 88 [.lit (.string z)] (fun av obs => obs = [] ∧ av = .lit (.bool (sgOk z))) := by
 refine vfun_start Tryz.func88 (by kernel_rfl) rfl (by simp [Tryz.ntmps88]) ?_; simp only [Tryz.ntmps88, Tryz.results88]; simp [go_sem]
 simp only [maxLen] at hz
 refine vc_loop (fun i : Nat => i ≤ z.size ∧ ∀ j, j < i → isSg (byteAt z j) = true) (fun i => z.size - i) (fun i => .of [(0, .lit (.string z)), (2, .lit (.bool false)), (3, .lit (.int .i64 i))] []) ⟨0, ?_, ?_⟩ (fun i hi => ?_)
 ·simp
 ·simp [go_sem]
 ·simp [go_sem]
  refine ⟨fun h => ⟨h, vcall_pure (c_l1IsSign (byteAt z i)) ?_ ?_⟩, fun h => ?_⟩
  ·simp [go_sem]
  ·simp [go_sem]
   refine ⟨fun e => ?_, fun e => ⟨i + 1, ⟨⟨by omega, fun j hj => ?_⟩, by omega, wrap_succ (by omega)⟩⟩⟩
   ·simp [sgOk, sgAll_false h e]
   ·rcases Nat.lt_succ_iff_lt_or_eq.mp hj with hj | rfl
    ·exact hi.2 j hj
    ·exact e
  ·have e := sgAll_true (z := z) fun j hj => hi.2 j (by omega)
   have h2 : ((z.size : Int) ≤ 16) ↔ z.size ≤ 16 := by omega
   simp [sgOk, e, h2]
   refine ⟨fun h => ?_, fun h => by omega⟩
   have h1 : 1 ≤ z.size := by omega
   simp [h1]
theorem c_signsOk (z : ByteArray) (hz : z.size ≤ maxLen) : VFun Tryz.prog 86 [.lit (.string z)] (fun av obs => obs = [] ∧ av = .lit (.bool (sgOk z))) := by
 refine vfun_start Tryz.func86 (by kernel_rfl) rfl (by simp [Tryz.ntmps86]) ?_; simp only [Tryz.ntmps86, Tryz.results86]; simp [go_sem]
 simp only [maxLen] at hz
 have h2 : (16 < (z.size : Int)) ↔ 16 < z.size := by omega
 have h1 : ((z.size : Int) < 1) ↔ z.size < 1 := by omega
 simp only [h1, h2]
 refine ⟨fun h3 => ⟨fun h4 => ?_, fun h4 => ?_⟩, fun h3 => ?_⟩
 ·simp [sgOk, h4]
 ·refine vc_loop (fun i : Nat => i ≤ z.size ∧ ∀ j, j < i → isSg (byteAt z j) = true) (fun i => z.size - i) (fun i => .of [(0, .lit (.string z)), (2, .lit (.bool false)), (13, .lit (.int .i64 z.size)), (14, .lit (.int .i64 i))] []) ⟨0, ?_, ?_⟩ (fun i hi => ?_)
  ·simp
  ·simp [go_sem]
  ·simp [go_sem]
   refine ⟨fun h => ⟨h, vcall_pure (c_isSign (byteAt z i) (byteAt_range z i)) ?_ ?_⟩, fun h => ?_⟩
   ·simp [go_sem]
   ·simp [go_sem]
    refine ⟨fun e => ?_, fun e => ⟨i + 1, ⟨⟨by omega, fun j hj => ?_⟩, by omega, wrap_succ (by omega)⟩⟩⟩
    ·simp [sgOk, sgAll_false h e]
    ·rcases Nat.lt_succ_iff_lt_or_eq.mp hj with hj | rfl
     ·exact hi.2 j hj
     ·exact e
   ·have e := sgAll_true (z := z) fun j hj => hi.2 j (by omega)
    simp [sgOk, e]
    omega
 ·simp [sgOk]
  omega
structure POp where
 text : ByteArray
 kind : Int
 level : Int
 side : Int
def POp.cells (o : POp) : List AV := [.lit (.string o.text), .lit (.int .i64 o.kind), .lit (.int .i64 o.level), .lit (.int .i64 o.side)]
def POp.wf (o : POp) : Prop := o.text.size ≤ maxLen
def opOk (o : POp) : Bool := sgOk o.text && decide (1 ≤ o.level ∧ o.level ≤ 1000 ∧ ((o.kind = 2 ∧ 1 ≤ o.side ∧ o.side ≤ 3) ∨ ((o.kind = 1 ∨ o.kind = 3) ∧ o.side = 0)))
theorem int_beq (a b : Int) : (a == b) = decide (a = b) := by
 rw [Bool.eq_iff_iff]; simp
theorem c_l1OpOk (o : POp) (ho : o.wf) : VFun Tryz.prog 64 [.agg o.cells] (fun av obs => obs = [] ∧ av = .lit (.bool (opOk o))) := by
 obtain ⟨z, kind, level, side⟩ := o
 simp only [POp.cells]
 refine vfun_start Tryz.func64 (by kernel_rfl) rfl (by simp [Tryz.ntmps64]) ?_; simp only [Tryz.ntmps64, Tryz.results64]; simp [go_sem]
 refine vcall_pure (c_l1Signs z ho) ?_ ?_
 ·simp [go_sem]
 ·simp (maxSteps := 1000000) [go_sem]
  cases hs : sgOk z
  ·simp [opOk, hs]
  ·simp only [opOk, hs, int_beq, Bool.true_and, decide_eq_decide, decide_eq_true_eq, decide_eq_false_iff_not, true_implies, reduceCtorEq, false_implies, and_true, true_and]
   omega
theorem c_opOk (o : POp) (ho : o.wf) : VFun Tryz.prog 58 [.agg o.cells] (fun av obs => obs = [] ∧ av = .lit (.bool (opOk o))) := by
 obtain ⟨z, kind, level, side⟩ := o
 simp only [POp.cells]
 refine vfun_start Tryz.func58 (by kernel_rfl) rfl (by simp [Tryz.ntmps58]) ?_; simp only [Tryz.ntmps58, Tryz.results58]; simp [go_sem]
 refine vcall_pure (c_signsOk z ho) ?_ ?_
 ·simp [go_sem]
 ·simp (maxSteps := 1000000) [go_sem]
  cases hs : sgOk z
  ·simp [opOk, hs]
  ·simp only [opOk, hs, int_beq, Bool.true_and, decide_eq_decide, decide_eq_true_eq, decide_eq_false_iff_not, true_implies, reduceCtorEq, false_implies, and_true, true_and]
   omega
theorem opOk_level {o : POp} (h : opOk o = true) : 1 ≤ o.level ∧ o.level ≤ 1000 := by
 simp [opOk] at h; omega
theorem laidOut : laidOutB Tryz.prog = true := by kernel_rfl
theorem fullSlices : ∀ t e, t < Tryz.prog.types.size → Tryz.prog.underlying t = some (.slice e) → 0 < Tryz.prog.cellsOf e := slices_full_of Tryz.prog (by kernel_rfl)
theorem own : ownKnob Tryz.prog.godebug = none := by kernel_rfl
theorem each_of {α : Type} {p : α → Bool} {l : List α} (h : l.all p = true) : ∀ x, x ∈ l → p x = true := List.all_eq_true.mp h
structure PTok where
 kind : Int
 gap : ByteArray
 text : ByteArray
 deriving Inhabited
def PTok.cells (o : PTok) : List AV := [.lit (.int .i64 o.kind), .lit (.string o.gap), .lit (.string o.text)]
def tokCells (l : List PTok) (i : Nat) : List AV := (l.getD i default).cells
theorem ba_beq (a b : ByteArray) : (a == b) = decide (a = b) := by
 rw [Bool.eq_iff_iff, decide_eq_true_iff]
 exact MapKept.bytes_beq a b
theorem ba_toList (a b : ByteArray) : a.toList = b.toList ↔ a = b := by
 constructor
 ·intro h
  rw [Go.ByteArray.toList_eq, Go.ByteArray.toList_eq] at h
  exact ByteArray.ext (Array.toList_inj.1 h)
 ·rintro rfl; rfl
theorem argSl_refl {mem : List (Option Ob)} {sz n : Nat} {f : Nat → List AV} (hsz : 0 < sz) (h : ∀ (i : Nat) c, i < n → c ∈ f i → Closed c) : ArgSl mem (.sl sz n f) sz n f :=
 ⟨hsz, f, by simp [contents], fun i hi => ⟨rfl, fun c hc => h i c hi hc⟩⟩
theorem argSl_own {mem : List (Option Ob)} {k sz n ty : Nat} {f : Nat → List AV} (hk : mem[k]? = some (some ⟨ty, sz, n, f⟩)) (hsz : 0 < sz) (h : ∀ (i : Nat) c, i < n → c ∈ f i → Closed c) : ArgSl mem (.own k) sz n f :=
 ⟨hsz, f, by simp [contents, hk], fun i hi => ⟨rfl, fun c hc => h i c hi hc⟩⟩
instance : Inhabited POp := ⟨⟨⟨#[]⟩, 0, 0, 0⟩⟩
def opCells (l : List POp) (i : Nat) : List AV := (l.getD i default).cells
theorem opClosed (l : List POp) (i : Nat) (c : AV) (h : c ∈ opCells l i) : Closed c := by
 simp [opCells, POp.cells] at h
 rcases h with rfl | rfl | rfl | rfl <;> exact .lit _
theorem opLit (l : List POp) (i : Nat) : (opCells l i).all isLit = true := rfl
def opEq (a b : POp) : Bool := a.text == b.text && a.kind == b.kind && a.level == b.level && a.side == b.side
theorem c_eqOp (a b : POp) : VFun Tryz.prog 94 [.agg a.cells, .agg b.cells] (fun av obs => obs = [] ∧ av = .lit (.bool (opEq a b))) := by
 obtain ⟨z, k, l, s⟩ := a
 obtain ⟨z', k', l', s'⟩ := b
 simp only [POp.cells]
 refine vfun_start Tryz.func94 (by kernel_rfl) rfl (by simp [Tryz.ntmps94]) ?_; simp only [Tryz.ntmps94, Tryz.results94]; simp [go_sem]
 simp only [opEq, ba_toList, ba_beq]
 by_cases h1 : z = z' <;> by_cases h2 : k = k' <;> by_cases h3 : l = l' <;> by_cases h4 : s = s' <;> simp [h1, h2, h3, h4]
def opAt (l : List POp) (i : Nat) : POp := l.getD i default
theorem opCells_at (l : List POp) (i : Nat) : opCells l i = [.lit (.string (opAt l i).text), .lit (.int .i64 (opAt l i).kind), .lit (.int .i64 (opAt l i).level), .lit (.int .i64 (opAt l i).side)] := rfl
def opsEq (a b : List POp) : Bool := decide (a.length = b.length) && (List.range a.length).all fun i => opEq (opAt a i) (opAt b i)
theorem opsEq_false {a b : List POp} {i : Nat} (h : i < a.length) (e : opEq (opAt a i) (opAt b i) = false) : opsEq a b = false := by
 simp only [opsEq, Bool.and_eq_false_iff, List.all_eq_false, List.mem_range]
 exact .inr ⟨i, h, by rw [e]; simp⟩
theorem opsEq_true {a b : List POp} (hl : a.length = b.length) (h : ∀ i, i < a.length → opEq (opAt a i) (opAt b i) = true) : opsEq a b = true := by
 simp only [opsEq, Bool.and_eq_true, decide_eq_true_eq, List.all_eq_true, List.mem_range]
 exact ⟨hl, h⟩
theorem c_eqOpS (a b : List POp) (ha : a.length ≤ 9223372036854775807) (hb : b.length ≤ 9223372036854775807) : VFun Tryz.prog 69 [.sl 4 a.length (opCells a), .sl 4 b.length (opCells b)] (fun av obs => obs = [] ∧ av = .lit (.bool (opsEq a b))) := by
 refine vfun_start Tryz.func69 (by kernel_rfl) rfl (by simp [Tryz.ntmps69]) ?_; simp only [Tryz.ntmps69, Tryz.results69]; simp [go_sem]
 refine ⟨by omega, by omega, fun h1 => ?_, fun h1 => ?_⟩
 ·simp [opsEq]; omega
 ·refine vc_loop (fun i : Nat => i ≤ a.length ∧ ∀ j, j < i → opEq (opAt a j) (opAt b j) = true) (fun i => a.length - i) (fun i => .of [(0, .sl 4 a.length (opCells a)), (1, .sl 4 b.length (opCells b)), (4, .lit (.bool false)), (5, .lit (.int .i64 i))] []) ⟨0, ⟨by omega, by simp⟩, ?_⟩ (fun i hi => ?_)
  ·simp [go_sem]
   exact ⟨fun i c _ h => opClosed a i c h, fun i c _ h => opClosed b i c h⟩
  ·simp [go_sem]
   refine ⟨by omega, fun h => ?_, fun h => ?_⟩
   ·refine vc_drawn [] (.q 0 <| .q 1 <| .q 2 <| .q 3 <| .q 4 <| .q 5 <| .q 6 <| .q 7 <| .or 8 (.q 9 <| .done) (.nil)) (by kernel_rfl) ?_
    simp [go_sem, opCells_at]
    refine ⟨h, by omega, vcallV_pure (c_eqOp (opAt a i) (opAt b i)) ?_ ?_⟩
    ·simp [go_sem, POp.cells]
    ·simp [go_sem]
     refine ⟨fun e => opsEq_false h e, fun e => ⟨i + 1, ⟨by omega, fun j hj => ?_⟩, by omega, ⟨fun i c _ h => opClosed a i c h, fun i c _ h => opClosed b i c h, wrap_succ (by omega)⟩⟩⟩
     rcases Nat.lt_succ_iff_lt_or_eq.mp hj with hj | rfl
     ·exact hi.2 j hj
     ·exact e
   ·exact opsEq_true (by omega) fun j hj => hi.2 j (by omega)
theorem c_eqTable (a b : List POp) (ha : a.length ≤ 9223372036854775807) (hb : b.length ≤ 9223372036854775807) : VFun Tryz.prog 40 [.agg [.sl 4 a.length (opCells a)], .agg [.sl 4 b.length (opCells b)]] (fun av obs => obs = [] ∧ av = .lit (.bool (opsEq a b))) := by
 refine vfun_start Tryz.func40 (by kernel_rfl) rfl (by simp [Tryz.ntmps40]) ?_; simp only [Tryz.ntmps40, Tryz.results40]; simp [go_sem]
 refine vcall_pure (c_eqOpS a b ha hb) ?_ ?_
 ·simp [go_sem]
  exact ⟨argSl_refl (by omega) fun i c _ h => opClosed a i c h, argSl_refl (by omega) fun i c _ h => opClosed b i c h⟩
 ·simp [go_sem]
def sortN (o : POp) : Int := if o.kind = 1 then 2 else if o.kind = 3 then 1 else o.side
theorem c_l1Sort (o : POp) : VFun Tryz.prog 89 [.agg o.cells] (fun av obs => obs = [] ∧ av = .lit (.int .i64 (sortN o))) := by
 obtain ⟨z, kind, level, side⟩ := o
 simp only [POp.cells]
 refine vfun_start Tryz.func89 (by kernel_rfl) rfl (by simp [Tryz.ntmps89]) ?_; simp only [Tryz.ntmps89, Tryz.results89]; simp [go_sem]
 simp only [sortN, int_beq, decide_eq_true_eq, decide_eq_false_iff_not]
 by_cases h1 : kind = 1 <;> by_cases h2 : kind = 3 <;> simp [h1, h2]
theorem c_sortOf (o : POp) : VFun Tryz.prog 60 [.agg o.cells] (fun av obs => obs = [] ∧ av = .lit (.int .i64 (sortN o))) := by
 obtain ⟨z, kind, level, side⟩ := o
 simp only [POp.cells]
 refine vfun_start Tryz.func60 (by kernel_rfl) rfl (by simp [Tryz.ntmps60]) ?_; simp only [Tryz.ntmps60, Tryz.results60]; simp [go_sem]
 simp only [sortN, int_beq, decide_eq_true_eq, decide_eq_false_iff_not]
 by_cases h1 : kind = 1 <;> by_cases h2 : kind = 3 <;> simp [h1, h2]
theorem c_placeOf (o : POp) : VFun Tryz.prog 59 [.agg o.cells] (fun av obs => obs = [] ∧ av = .agg [.lit (.string o.text), .lit (.bool (o.kind == 1))]) := by
 obtain ⟨z, kind, level, side⟩ := o
 simp only [POp.cells]
 refine vfun_start Tryz.func59 (by kernel_rfl) rfl (by simp [Tryz.ntmps59]) ?_; simp only [Tryz.ntmps59, Tryz.results59]; simp [go_sem]
def clash (a b : POp) (code : Int) : Bool := if code = 3 then decide (a.text = b.text) && decide ((a.kind == 1) = (b.kind == 1)) else decide (a.level = b.level) && decide (sortN a ≠ sortN b)
theorem c_l1Clash (a b : POp) (code : Int) : VFun Tryz.prog 65 [.agg a.cells, .agg b.cells, .lit (.int .i64 code)] (fun av obs => obs = [] ∧ av = .lit (.bool (clash a b code))) := by
 have ca := c_l1Sort a
 have cb := c_l1Sort b
 obtain ⟨z, k, l, s⟩ := a
 obtain ⟨z', k', l', s'⟩ := b
 simp only [POp.cells] at ca cb ⊢
 refine vfun_start Tryz.func65 (by kernel_rfl) rfl (by simp [Tryz.ntmps65]) ?_; simp only [Tryz.ntmps65, Tryz.results65]; simp [go_sem]
 simp only [ba_toList]
 refine ⟨fun h => ⟨fun h1 => ?_, fun h1 => ?_⟩, fun h => ?_⟩
 ·subst h1
  simp only [clash, if_pos h, decide_true, Bool.true_and]
  generalize (k == 1) = x
  generalize (k' == 1) = y
  cases x <;> cases y <;> rfl
 ·simp [clash, h, h1]
 ·by_cases hl : l = l'
  ·subst hl
   refine vc_drawn [] (.q 0 <| .q 1 <| .q 2 <| .q 3 <| .q 4 <| .q 5 <| .q 6 <| .q 8 <| .or 7 (.or 9 (.q 10 <| .q 11 <| .q 12 <| .done) (.nil)) (.nil)) (by kernel_rfl) ?_
   simp [go_sem]
   refine vcallV_pure ca ?_ ?_
   ·simp [go_sem]
   ·simp [go_sem]
    refine vcallV_pure cb ?_ ?_
    ·simp [go_sem]
    ·simp [go_sem, clash, h]
     simp only [int_beq, bne, Bool.not_eq_true', decide_eq_false_iff_not, decide_not]
  ·refine vc_drawn [] (.q 0 <| .q 1 <| .q 2 <| .q 3 <| .q 4 <| .q 5 <| .q 6 <| .q 8 <| .or 7 (.or 9 (.q 10 <| .q 11 <| .q 12 <| .done) (.nil)) (.nil)) (by kernel_rfl) ?_
   have e : (l == l') = false := by simp [hl]
   simp [go_sem, e]
   simp [clash, h, hl]
def tblClash (l : List POp) (code : Int) : Bool := (List.range l.length).any fun i => (List.range i).any fun j => clash (opAt l i) (opAt l j) code
theorem tblClash_iff (l : List POp) (code : Int) : tblClash l code = true ↔ ∃ i, i < l.length ∧ ∃ j, j < i ∧ clash (opAt l i) (opAt l j) code = true := by
 simp [tblClash]
def tblOps (l : List POp) : Bool := (List.range l.length).all fun i => opOk (opAt l i)
def tblOk (l : List POp) : Int := if 500 < l.length then 1 else if tblOps l = false then 2 else if tblClash l 3 = true then 3 else if tblClash l 4 = true then 4 else 0
def opsWf (l : List POp) : Prop := ∀ i, i < l.length → (opAt l i).wf
theorem c_specTableOk (l : List POp) (hl : l.length ≤ 9223372036854775807) (hw : opsWf l) : VFun Tryz.prog 35 [.agg [.sl 4 l.length (opCells l)]] (fun av obs => obs = [] ∧ av = .lit (.int .i64 (tblOk l))) := by
 refine vfun_start Tryz.func35 (by kernel_rfl) rfl (by simp [Tryz.ntmps35]) ?_; simp only [Tryz.ntmps35, Tryz.results35]; simp [go_sem]
 refine ⟨by omega, fun h1 => ?_, fun h1 => ?_⟩
 ·simp [tblOk]; omega
 ·refine vc_loop (fun i : Nat => i ≤ l.length ∧ ∀ j, j < i → opOk (opAt l j) = true) (fun i => l.length - i) (fun i => .of [(1, .ptr 0 1 0 0), (3, .lit (.int .i64 l.length)), (4, .lit (.int .i64 i))] [some ⟨55, 1, 1, fun _ => [.sl 4 l.length (opCells l)]⟩]) ⟨0, ⟨by omega, by simp⟩, ?_⟩ (fun i hi => ?_)
  ·simp [go_sem]
   exact fun i c _ h => opClosed l i c h
  ·simp [go_sem, opCells_at]
   have cl : ∀ (i : Nat) (c : AV), i < l.length → c ∈ opCells l i → Closed c := fun i c _ h => opClosed l i c h
   refine ⟨fun h => ⟨h, vcall_pure (c_l1OpOk (opAt l i) (hw i h)) ?_ ?_⟩, fun h => ?_⟩
   ·simp [go_sem, POp.cells]
   ·simp [go_sem]
    refine ⟨fun e => ?_, fun e => ⟨i + 1, ⟨by omega, fun j hj => ?_⟩, by omega, wrap_succ (by omega), cl⟩⟩
    ·have : tblOps l = false := by
      simp only [tblOps, List.all_eq_false, List.mem_range]
      exact ⟨i, h, by rw [e]; simp⟩
     simp only [tblOk, this, if_neg (show ¬ 500 < l.length by omega), if_true]
    ·rcases Nat.lt_succ_iff_lt_or_eq.mp hj with hj | rfl
     ·exact hi.2 j hj
     ·exact e
   ·have hok : tblOps l = true := by
     simp only [tblOps, List.all_eq_true, List.mem_range]
     exact fun j hj => hi.2 j (by omega)
    clear hi h
    refine vc_loop (fun c : Nat => c ≤ 2 ∧ ∀ q : Nat, q < c → tblClash l (3 + q) = false) (fun c => 2 - c) (fun c => .of [(1, .ptr 0 1 0 0), (3, .lit (.int .i64 l.length)), (5, .lit (.int .i64 (3 + c)))] [some ⟨55, 1, 1, fun _ => [.sl 4 l.length (opCells l)]⟩]) ⟨0, ⟨by omega, by simp⟩, ?_⟩ (fun c hc => ?_)
    ·simp [go_sem]
     exact cl
    ·simp [go_sem]
     refine ⟨fun h => ?_, fun h => ?_⟩
     ·refine vc_loop (fun i : Nat => i ≤ l.length ∧ ∀ i', i' < i → ∀ j, j < i' → clash (opAt l i') (opAt l j) (3 + c) = false) (fun i => l.length - i) (fun i => .of [(1, .ptr 0 1 0 0), (3, .lit (.int .i64 l.length)), (5, .lit (.int .i64 (3 + c))), (6, .lit (.int .i64 i))] [some ⟨55, 1, 1, fun _ => [.sl 4 l.length (opCells l)]⟩]) ⟨0, ⟨by omega, by simp⟩, ?_⟩ (fun i hi => ?_)
      ·simp [go_sem]
       exact cl
      ·simp [go_sem]
       refine ⟨fun h2 => ?_, fun h2 => ?_⟩
       ·refine vc_loop (fun j : Nat => j ≤ i ∧ ∀ j', j' < j → clash (opAt l i) (opAt l j') (3 + c) = false) (fun j => i - j) (fun j => .of [(1, .ptr 0 1 0 0), (3, .lit (.int .i64 l.length)), (5, .lit (.int .i64 (3 + c))), (6, .lit (.int .i64 i)), (7, .lit (.int .i64 j))] [some ⟨55, 1, 1, fun _ => [.sl 4 l.length (opCells l)]⟩]) ⟨0, ⟨by omega, by simp⟩, ?_⟩ (fun j hj => ?_)
        ·simp [go_sem]
         exact cl
        ·simp [go_sem]
         refine ⟨fun h3 => ?_, fun h3 => ?_⟩
         ·refine vc_drawn [] (.q 0 <| .q 1 <| .q 2 <| .q 3 <| .q 4 <| .q 5 <| .q 6 <| .q 7 <| .q 8 <| .q 9 <| .q 10 <| .or 11 (.done) (.nil)) (by kernel_rfl) ?_
          simp [go_sem, opCells_at]
          refine ⟨h2, by omega, vcallV_pure (c_l1Clash (opAt l i) (opAt l j) (3 + c)) ?_ ?_⟩
          ·simp [go_sem, POp.cells]
          ·simp [go_sem]
           refine ⟨fun e => ?_, fun e => ⟨j + 1, ⟨by omega, fun j' hj' => ?_⟩, by omega, wrap_succ (by omega), cl⟩⟩
           ·have hcl : tblClash l (3 + c) = true := (tblClash_iff l _).2 ⟨i, h2, j, h3, e⟩
            rcases (by omega : c = 0 ∨ c = 1) with rfl | rfl
            ·have h4 : tblClash l 3 = true := hcl
             simp only [tblOk, hok, h4, if_neg (show ¬ 500 < l.length by omega)]
             rfl
            ·have h4 : tblClash l 4 = true := hcl
             have h5 : tblClash l 3 = false := hc.2 0 (by omega)
             simp only [tblOk, hok, h4, h5, if_neg (show ¬ 500 < l.length by omega)]
             rfl
           ·rcases Nat.lt_succ_iff_lt_or_eq.mp hj' with hj' | rfl
            ·exact hj.2 j' hj'
            ·exact e
         ·refine ⟨i + 1, ⟨by omega, fun i' hi' j' hj' => ?_⟩, by omega, wrap_succ (by omega), cl⟩
          rcases Nat.lt_succ_iff_lt_or_eq.mp hi' with hi' | rfl
          ·exact hi.2 i' hi' j' hj'
          ·exact hj.2 j' (by omega)
       ·refine ⟨c + 1, ⟨by omega, fun q hq => ?_⟩, by omega, ?_, cl⟩
        ·rcases Nat.lt_succ_iff_lt_or_eq.mp hq with hq | rfl
         ·exact hc.2 q hq
         ·rw [Bool.eq_false_iff]
          intro e
          obtain ⟨i', h4, j', h5, h6⟩ := (tblClash_iff l _).1 e
          rw [hi.2 i' (by omega) j' h5] at h6
          cases h6
        ·rw [wrap_i64 (by omega)]; omega
     ·have : c = 2 := by omega
      subst this
      have h4 : tblClash l 3 = false := hc.2 0 (by omega)
      have h5 : tblClash l 4 = false := hc.2 1 (by omega)
      simp only [tblOk, hok, h4, h5, if_neg (show ¬ 500 < l.length by omega)]
      rfl
open Go.Maps (Keyed)
open Classical in
theorem mget_mput : ∀ (es : List (Value × Value)) (x u y : Value), mget (mput es x u) y = if x = y then some u else mget es y
 | [], x, u, y => by
  simp only [mput, mget]
 | (k, v) :: r, x, u, y => by
  simp only [mput]
  by_cases h : k = x
  ·subst h
   rw [if_pos rfl]
   simp only [mget]
   split <;> rfl
  ·rw [if_neg h]
   simp only [mget]
   by_cases h2 : k = y
   ·subst h2
    rw [if_pos rfl, if_neg (fun e : x = k => h e.symm)]
    simp [mget]
   ·rw [if_neg h2, if_neg h2]
    exact mget_mput r x u y
theorem keyOf_struct {P : Program} {k : TypeId} {fs : Array Field} {cs : Array Value} (hu : P.underlying k = some (.struct fs)) (hkt : P.keyType k = true) (hc : cs.size = P.cellsOf k) (hn : fs.all (·.name != "_") = true) (hsz : 1 ≤ P.types.size)
  (hm : ∀ d, ∃ lss, (fs.toList.mapM fun f => P.keyLits (d + 1) f.type ((cs.toList.drop f.offset).take (P.cellsOf f.type))) = some lss) : ∃ l, keyOf P k (.agg cs) = some l := by
 obtain ⟨n, hn1⟩ : ∃ n, P.types.size = n + 1 := ⟨P.types.size - 1, by omega⟩
 obtain ⟨lss, hl⟩ := hm n
 have h1 : P.keyLits (P.types.size + 1) k cs.toList = some lss.flatten := by
  rw [hn1]
  unfold Program.keyLits
  simp only [hu, Array.length_toList, hc, hn, and_self, if_true, hl, Option.map_some]
 refine ⟨.string (keyBytes lss.flatten), ?_⟩
 unfold keyOf
 rw [hu]
 simp only [hkt, Value.formed, hu, hc, beq_self_eq_true, Bool.and_self, if_true, Value.cells, h1, Option.map_some]
theorem keyLits_str {P : Program} {t : TypeId} (hu : P.underlying t = some .string) {z : ByteArray} (h : z.size ≤ maxLen) (d : Nat) : P.keyLits (d + 1) t [.string z] = some [.string z.data.toList] := by
 unfold Program.keyLits; simp only [hu, if_pos h]
theorem keyLits_bool {P : Program} {t : TypeId} (hu : P.underlying t = some .bool) {b : Bool} (d : Nat) : P.keyLits (d + 1) t [.bool b] = some [.bool b] := by
 unfold Program.keyLits; simp only [hu]
theorem int_wf {n : Int} (h : -9223372036854775808 ≤ n ∧ n ≤ 9223372036854775807) : (Lit.int .i64 n).wf = true := by
 simp only [Lit.wf, IntKind.min, IntKind.max, IntKind.bits, IntKind.signed, decide_eq_true_eq, Bool.and_eq_true]
 exact h
theorem keyLits_int {P : Program} {t : TypeId} (hu : P.underlying t = some (.int .i64)) {n : Int} (h : -9223372036854775808 ≤ n ∧ n ≤ 9223372036854775807) (d : Nat) : P.keyLits (d + 1) t [.int .i64 n] = some [.int .i64 n] := by
 unfold Program.keyLits; simp only [hu, int_wf h, and_self, if_true]
theorem size1 : 1 ≤ Tryz.prog.types.size := of_decide_eq_true (by kernel_rfl)
theorem rowPlace : (109 : TypeId) < Tryz.prog.types.size := of_decide_eq_true (by kernel_rfl)
theorem co_place : Tryz.prog.cellsOf 109 = 2 := by kernel_rfl
theorem co_string : Tryz.prog.cellsOf 9 = 1 := by kernel_rfl
theorem co_bool : Tryz.prog.cellsOf 4 = 1 := by kernel_rfl
theorem co_int : Tryz.prog.cellsOf 3 = 1 := by kernel_rfl
theorem keyedPlace : Keyed Tryz.prog 109 := Keyed.of_law (deep_law_laid laidOut (m := 2) (by omega) rowPlace (by kernel_rfl) (by kernel_rfl))
theorem keyedInt : Keyed Tryz.prog 3 := Go.Maps.int_keyed Tryz.underlying3
theorem keyedString : Keyed Tryz.prog 9 := Go.Maps.string_keyed Tryz.underlying9
theorem keyInt {n : Int} (h : -9223372036854775808 ≤ n ∧ n ≤ 9223372036854775807) : ∃ l, keyOf Tryz.prog 3 (.int .i64 n) = some l :=
 ⟨_, Go.Maps.keyOf_int_mk Tryz.underlying3 (int_wf h)⟩
theorem keyString {z : ByteArray} (h : z.size ≤ maxLen) : ∃ l, keyOf Tryz.prog 9 (.string z) = some l := ⟨_, Go.WideMaps.keyOf_string_mk Tryz.underlying9 h⟩
theorem keyPlace {z : ByteArray} {b : Bool} (h : z.size ≤ maxLen) : ∃ l, keyOf Tryz.prog 109 (.agg #[.string z, .bool b]) = some l := by
 refine keyOf_struct Tryz.underlying109 (by kernel_rfl) co_place.symm (by kernel_rfl) size1 fun d => ?_
 simp only [List.mapM_cons, List.mapM_nil, co_string, co_bool, List.drop_zero, List.take_succ_cons, List.take_zero, List.drop_succ_cons, keyLits_str Tryz.underlying9 h, keyLits_bool Tryz.underlying4]
 exact ⟨_, rfl⟩
theorem zeroInt : zeroIs Tryz.prog 3 (.int .i64 0) := fun w => Tryz.zeroValue3 w
def placeV (o : POp) : Value := .agg #[.string o.text, .bool (o.kind == 1)]
theorem placeV_fold (o : POp) : Value.agg #[.string o.text, .bool (o.kind == 1)] = placeV o := rfl
theorem placeV_eq {a b : POp} : placeV a = placeV b ↔ clash a b 3 = true := by
 simp only [placeV, clash, if_true, Value.agg.injEq, Bool.and_eq_true, decide_eq_true_eq, Array.mk.injEq, List.cons.injEq, Value.string.injEq, Value.bool.injEq, and_true]
def SeenIs (l : List POp) (i : Nat) (es : List (Value × Value)) : Prop := (∀ j, j < i → (mget es (placeV (opAt l j))).isSome = true) ∧ ∀ x v, mget es x = some v → ∃ j, j < i ∧ x = placeV (opAt l j)
def SortsIs (l : List POp) (i : Nat) (es : List (Value × Value)) : Prop := (∀ j, j < i → mget es (.int .i64 (opAt l j).level) = some (.int .i64 (sortN (opAt l j)))) ∧ ∀ x v, mget es x = some v → ∃ j, j < i ∧ x = .int .i64 (opAt l j).level
theorem c_TableOk (l : List POp) (hl : l.length ≤ 9223372036854775807) (hw : opsWf l) : VFun Tryz.prog 28 [.agg [.sl 4 l.length (opCells l)]] (fun av obs => obs = [] ∧ av = .lit (.int .i64 (tblOk l))) := by
 have cl : ∀ (i : Nat) (c : AV), i < l.length → c ∈ opCells l i → Closed c := fun i c _ h => opClosed l i c h
 refine vfun_start Tryz.func28 (by kernel_rfl) rfl (by simp [Tryz.ntmps28]) ?_; simp only [Tryz.ntmps28, Tryz.results28]; simp [go_sem]
 refine ⟨by omega, fun h1 => ?_, fun h1 => ?_⟩
 ·simp [tblOk]; omega
 ·have hmax : ¬ 500 < l.length := by omega
  refine ⟨by omega, ?_⟩
  refine vc_loop (fun i : Nat => i ≤ l.length ∧ ∀ j, j < i → opOk (opAt l j) = true) (fun i => l.length - i) (fun i => .of [(1, .ptr 0 1 0 0), (20, .sl 4 l.length (opCells l)), (21, .lit (.int .i64 l.length)), (22, .lit (.int .i64 i))] [some ⟨55, 1, 1, fun _ => [.sl 4 l.length (opCells l)]⟩]) ⟨0, ⟨by omega, by simp⟩, ?_⟩ (fun i hi => ?_)
  ·simp [go_sem]
   exact cl
  ·simp [go_sem, opCells_at]
   refine ⟨fun h => ⟨h, vcall_pure (c_opOk (opAt l i) (hw i h)) ?_ ?_⟩, fun h => ?_⟩
   ·simp [go_sem, POp.cells]
   ·simp [go_sem]
    refine ⟨fun e => ?_, fun e => ⟨i + 1, ⟨by omega, fun j hj => ?_⟩, by omega, ⟨⟨cl, wrap_succ (by omega)⟩, cl⟩⟩⟩
    ·have : tblOps l = false := by
      simp only [tblOps, List.all_eq_false, List.mem_range]
      exact ⟨i, h, by rw [e]; simp⟩
     simp only [tblOk, this, if_neg hmax, if_true]
    ·rcases Nat.lt_succ_iff_lt_or_eq.mp hj with hj | rfl
     ·exact hi.2 j hj
     ·exact e
   ·have hok : tblOps l = true := by
     simp only [tblOps, List.all_eq_true, List.mem_range]
     exact fun j hj => hi.2 j (by omega)
    have hop : ∀ j, j < l.length → opOk (opAt l j) = true := fun j hj => hi.2 j (by omega)
    clear hi h
    refine fun b => ⟨by omega, ?_⟩
    refine vc_loop (fun p : Nat × List (Value × Value) => p.1 ≤ l.length ∧ SeenIs l p.1 p.2 ∧ ∀ i', i' < p.1 → ∀ j, j < i' → clash (opAt l i') (opAt l j) 3 = false) (fun p => l.length - p.1)
     (fun p => ⟨[(1, .ptr 0 1 0 0), (5, .lit (.map (some b))), (32, .sl 4 l.length (opCells l)), (33, .lit (.int .i64 l.length)), (34, .lit (.int .i64 p.1))], [some ⟨55, 1, 1, fun _ => [.sl 4 l.length (opCells l)]⟩], [(b, ⟨109, p.2⟩)], 0⟩) ⟨(0, []), ⟨by omega, ⟨by simp, by simp [mget]⟩, by simp⟩, ?_⟩ (fun p hp => ?_)
    ·simp [go_sem]
     exact cl
    ·obtain ⟨i, es⟩ := p
     simp only at hp
     simp [go_sem, opCells_at]
     refine ⟨fun h => ⟨h, vcall_val (c_placeOf (opAt l i)) ?_ ?_ ?_⟩, fun h => ?_⟩
     ·simp [go_sem, POp.cells]
     ·simp [go_sem]
     ·simp [go_sem]
      refine vlookK_use keyedPlace (keyPlace (hw i h)) _ zeroInt ?_
      simp [go_sem]
      simp only [placeV_fold]
      have hno : ∀ (h0 : (mget es (placeV (opAt l i))).isSome = true), tblClash l 3 = true := by
       intro h0
       obtain ⟨v, hv⟩ := Option.isSome_iff_exists.1 h0
       obtain ⟨j, hj, e⟩ := hp.2.1.2 _ v hv
       exact (tblClash_iff l _).2 ⟨i, h, j, hj, placeV_eq.1 e⟩
      refine ⟨fun h0 => ?_, fun h0 => ?_⟩
      ·simp only [tblOk, hok, hno h0, if_neg hmax]
       rfl
      ·refine vcall_val (c_placeOf (opAt l i)) ?_ ?_ ?_
       ·simp [go_sem, POp.cells]
       ·simp [go_sem]
       ·simp [go_sem]
        refine vmsetK_use keyedPlace (keyPlace (hw i h)) ?_
        simp [go_sem]
        simp only [placeV_fold]
        refine ⟨i + 1, mput es (placeV (opAt l i)) (.int .i64 i), ⟨by omega, ⟨fun j hj => ?_, fun x v hv => ?_⟩, fun i' hi' j hj => ?_⟩, by omega, rfl, ⟨cl, wrap_succ (by omega)⟩, cl⟩
        ·rw [mget_mput]
         split
         ·rfl
         ·rename_i hne
          rcases Nat.lt_succ_iff_lt_or_eq.mp hj with hj | rfl
          ·exact hp.2.1.1 j hj
          ·exact absurd rfl hne
        ·rw [mget_mput] at hv
         split at hv
         ·rename_i e
          exact ⟨i, by omega, e.symm⟩
         ·obtain ⟨j, hj, e⟩ := hp.2.1.2 x v hv
          exact ⟨j, by omega, e⟩
        ·rcases Nat.lt_succ_iff_lt_or_eq.mp hi' with hi' | rfl
         ·exact hp.2.2 i' hi' j hj
         ·rw [Bool.eq_false_iff]
          intro e
          have h5 := hp.2.1.1 j hj
          rw [← placeV_eq.2 e, h0] at h5
          cases h5
     ·have hc3 : tblClash l 3 = false := by
       rw [Bool.eq_false_iff]
       intro e
       obtain ⟨i', h4, j', h5, h6⟩ := (tblClash_iff l _).1 e
       rw [hp.2.2 i' (by omega) j' h5] at h6
       cases h6
      clear hp h
      refine fun b2 hb2 => ⟨by omega, ?_⟩
      refine vc_loop (fun p : Nat × List (Value × Value) => p.1 ≤ l.length ∧ SortsIs l p.1 p.2 ∧ ∀ i', i' < p.1 → ∀ j, j < i' → clash (opAt l i') (opAt l j) 4 = false) (fun p => l.length - p.1)
       (fun p => ⟨[(1, .ptr 0 1 0 0), (10, .lit (.map (some b2))), (54, .sl 4 l.length (opCells l)), (55, .lit (.int .i64 l.length)), (56, .lit (.int .i64 p.1))], [some ⟨55, 1, 1, fun _ => [.sl 4 l.length (opCells l)]⟩], [(b2, ⟨3, p.2⟩)], 0⟩) ⟨(0, []), ⟨by omega, ⟨by simp, by simp [mget]⟩, by simp⟩, ?_⟩ (fun p hp => ?_)
      ·simp [go_sem]
       exact cl
      ·obtain ⟨i, es⟩ := p
       simp only at hp
       simp [go_sem, opCells_at]
       refine ⟨fun h => ⟨h, ?_⟩, fun h => ?_⟩
       ·have hlv := opOk_level (hop i h)
        have hki := keyInt (n := (opAt l i).level) (by omega)
        refine vlookK_use keyedInt hki _ zeroInt ?_
        have step : ∀ (h4 : ∀ j, j < i → clash (opAt l i) (opAt l j) 4 = false), SortsIs l (i + 1) (mput es (.int .i64 (opAt l i).level) (.int .i64 (sortN (opAt l i)))) ∧ ∀ i', i' < i + 1 → ∀ j, j < i' → clash (opAt l i') (opAt l j) 4 = false := by
         intro h4
         refine ⟨⟨fun j hj => ?_, fun x v hv => ?_⟩, fun i' hi' j hj => ?_⟩
         ·rw [mget_mput]
          rcases Nat.lt_succ_iff_lt_or_eq.mp hj with hj | rfl
          ·split
           ·rename_i e
            simp only [Value.int.injEq, true_and] at e
            have := h4 j hj
            simp only [clash, e, decide_true, Bool.true_and, show ((4 : Int) = 3) = False by decide, if_false, decide_eq_false_iff_not, ne_eq, Classical.not_not] at this
            rw [this]
           ·exact hp.2.1.1 j hj
          ·rw [if_pos rfl]
         ·rw [mget_mput] at hv
          split at hv
          ·rename_i e
           exact ⟨i, by omega, e.symm⟩
          ·obtain ⟨j, hj, e⟩ := hp.2.1.2 x v hv
           exact ⟨j, by omega, e⟩
         ·rcases Nat.lt_succ_iff_lt_or_eq.mp hi' with hi' | rfl
          ·exact hp.2.2 i' hi' j hj
          ·exact h4 j hj
        cases hm : mget es (.int .i64 (opAt l i).level) with
        | none =>
         simp [go_sem]
         have h4 : ∀ j, j < i → clash (opAt l i) (opAt l j) 4 = false := by
          intro j hj
          simp only [clash, show ((4 : Int) = 3) = False by decide, if_false, Bool.and_eq_false_iff, decide_eq_false_iff_not]
          refine .inl fun e => ?_
          have := hp.2.1.1 j hj
          rw [← e, hm] at this
          cases this
         refine vc_drawn [5] (.q 0 <| .q 1 <| .q 2 <| .q 3 <| .or 4 (.or 5 (.done) (.nil)) (.nil)) (by kernel_rfl) ?_
         simp [go_sem]
         refine vcallV_pure (c_sortOf (opAt l i)) ?_ ?_
         ·simp [go_sem, POp.cells]
         ·simp [go_sem]
          refine vmsetK_use keyedInt hki ?_
          simp [go_sem]
          obtain ⟨s1, s2⟩ := step h4
          exact ⟨i + 1, _, ⟨by omega, s1, s2⟩, by omega, rfl, ⟨cl, wrap_succ (by omega)⟩, cl⟩
        | some v =>
         obtain ⟨j, hj, e⟩ := hp.2.1.2 _ v hm
         simp only [Value.int.injEq, true_and] at e
         have hv : v = .int .i64 (sortN (opAt l j)) := by
          have := hp.2.1.1 j hj
          rw [← e, hm] at this
          exact Option.some.inj this
         subst hv
         simp [go_sem]
         refine vcall_pure (c_sortOf (opAt l i)) ?_ ?_
         ·simp [go_sem, POp.cells]
         ·simp [go_sem]
          refine ⟨fun hne => ?_, fun heq => ?_⟩
          ·have hc4 : tblClash l 4 = true := by
            refine (tblClash_iff l _).2 ⟨i, h, j, hj, ?_⟩
            simp only [clash, show ((4 : Int) = 3) = False by decide, if_false, Bool.and_eq_true, decide_eq_true_eq]
            exact ⟨e, fun e2 => hne e2.symm⟩
           simp only [tblOk, hok, hc3, hc4, if_neg hmax]
           rfl
          ·have h4 : ∀ j, j < i → clash (opAt l i) (opAt l j) 4 = false := by
            intro j' hj'
            simp only [clash, show ((4 : Int) = 3) = False by decide, if_false, Bool.and_eq_false_iff, decide_eq_false_iff_not]
            by_cases e2 : (opAt l i).level = (opAt l j').level
            ·refine .inr fun h5 => h5 ?_
             have := hp.2.1.1 j' hj'
             rw [← e2, hm] at this
             simp only [Option.some.injEq, Value.int.injEq, true_and] at this
             rw [← heq, this]
            ·exact .inl e2
           refine vc_drawn [5] (.q 0 <| .q 1 <| .q 2 <| .q 3 <| .or 4 (.or 5 (.done) (.nil)) (.nil)) (by kernel_rfl) ?_
           simp [go_sem]
           refine vcallV_pure (c_sortOf (opAt l i)) ?_ ?_
           ·simp [go_sem, POp.cells]
           ·simp [go_sem]
            refine vmsetK_use keyedInt hki ?_
            simp [go_sem]
            obtain ⟨s1, s2⟩ := step h4
            exact ⟨i + 1, _, ⟨by omega, s1, s2⟩, by omega, rfl, ⟨cl, wrap_succ (by omega)⟩, cl⟩
       ·have hc4 : tblClash l 4 = false := by
         rw [Bool.eq_false_iff]
         intro e
         obtain ⟨i', h4, j', h5, h6⟩ := (tblClash_iff l _).1 e
         rw [hp.2.2 i' (by omega) j' h5] at h6
         cases h6
        simp only [tblOk, hok, hc3, hc4, if_neg hmax]
        rfl
end Go.Proofs.YtadghlfkddkelaaGreatDoor.V
namespace Go.Proofs.YtadghlfkddkelaaGreatDoor.V
open Go.RowKit
def AVIn (a b : AV) : Prop := ∀ (w : World) (ok : Nat → Prop) (hd : Nat → Value) (m : Nat) (v : Value), Rep w ok hd m a v → Rep w ok hd m b v
theorem avIn_sl {sz n : Nat} {f g : Nat → List AV} (h : ∀ i, i < n → f i = g i) : AVIn (.sl sz n f) (.sl sz n g) := by
 intro w ok hd m v hr
 cases hr with
 | sl _ _ _ A c u hc hm hsz hl ha hr => exact .sl sz n g A c u hc hm hsz (fun i hi => by rw [← h i hi]; exact hl i hi) ha fun i j a hi hj => hr i j a hi (by rw [h i hi]; exact hj)
def ArgsIn : List AV → List AV → Prop
 | [], [] => True
 | a :: r, b :: r' => AVIn a b ∧ ArgsIn r r'
 | _, _ => False
theorem argsIn_get : ∀ {l l' : List AV}, ArgsIn l l' → l.length = l'.length ∧ ∀ (j : Nat) a b, l[j]? = some a → l'[j]? = some b → AVIn a b
 | [], [], _ => ⟨rfl, fun j a b h => by simp at h⟩
 | a :: r, b :: r', h => by
  obtain ⟨h1, h2⟩ := argsIn_get h.2
  refine ⟨by simp [h1], fun j x y hx hy => ?_⟩
  cases j with
  | zero =>
   simp only [List.getElem?_cons_zero, Option.some.injEq] at hx hy
   subst hx; subst hy; exact h.1
  | succ j => exact h2 j x y (by simpa using hx) (by simpa using hy)
 | [], _ :: _, h => h.elim
 | _ :: _, [], h => h.elim
theorem VFun.congr {P : Program} {f : FuncId} {args args' : List AV} {R : AV → List Ob → Prop} (h : VFun P f args' R) (ha : ArgsIn args args') : VFun P f args R := by
 obtain ⟨h1, h2⟩ := argsIn_get ha
 refine ⟨h.1, fun w vs hl hv => h.2 w vs ⟨h1.symm.trans hl.1, hl.2⟩ fun j b u hb hu => ?_⟩
 have hj : j < args.length := by have := (List.getElem?_eq_some_iff.1 hb).1; omega
 exact h2 j _ b (List.getElem?_eq_getElem hj) hb _ _ _ _ _ (hv j _ u (List.getElem?_eq_getElem hj) hu)
theorem rows_of {α : Type} [Inhabited α] (cells : α → List AV) (p : α → Prop) {m : Nat} {f : Nat → List AV} (h : ∀ i, i < m → ∃ o, p o ∧ f i = cells o) : ∃ l : List α, l.length = m ∧ (∀ i, i < m → p (l.getD i default)) ∧ ∀ i, i < m → f i = cells (l.getD i default) := by
 induction m with
 | zero => exact ⟨[], rfl, fun i hi => by omega, fun i hi => by omega⟩
 | succ m ih =>
  obtain ⟨l, h1, h2, h3⟩ := ih fun i hi => h i (by omega)
  obtain ⟨o, h4, h5⟩ := h m (by omega)
  have low : ∀ i, i < m → (l ++ [o]).getD i default = l.getD i default := fun i hi => by
   rw [List.getD_eq_getElem?_getD, List.getD_eq_getElem?_getD, List.getElem?_append_left (by omega)]
  have hi : (l ++ [o]).getD m default = o := by
   rw [List.getD_eq_getElem?_getD, List.getElem?_append_right (by omega)]; simp [h1]
  refine ⟨l ++ [o], by simp [h1], fun i hi' => ?_, fun i hi' => ?_⟩
  ·rcases Nat.lt_succ_iff_lt_or_eq.mp hi' with hlt | rfl
   ·rw [low i hlt]; exact h2 i hlt
   ·rw [hi]; exact h4
  ·rcases Nat.lt_succ_iff_lt_or_eq.mp hi' with hlt | rfl
   ·rw [low i hlt]; exact h3 i hlt
   ·rw [hi]; exact h5
theorem opEq_refl (a : POp) : opEq a a = true := by simp [opEq, ba_beq]
theorem opsEq_refl (a : List POp) : opsEq a a = true := opsEq_true rfl fun i _ => opEq_refl _
def digB (d : Nat) : ByteArray := ⟨#[(48 + d).toUInt8]⟩
theorem digB_cells (d : Nat) (h : d < 10) : [.lit (.int .u8 (48 + d))] = byteCells (digB d) 0 := by
 have e : byteAt (digB d) 0 = 48 + d := by
  have h1 : 0 < (digB d).size := by show 0 < 1; omega
  unfold byteAt
  rw [dif_pos h1]
  have : ((digB d)[0]'h1) = (48 + d).toUInt8 := rfl
  rw [this]
  simp [Nat.toUInt8]
  omega
 simp only [byteCells, e]
def digs (k : Nat) (acc : ByteArray) : ByteArray := if h : k = 0 then acc else digs (k / 10) (digB (k % 10) ++ acc)
termination_by k
decreasing_by omega
theorem digs_zero (acc : ByteArray) : digs 0 acc = acc := by rw [digs]; simp
theorem digs_pos {k : Nat} (h : 0 < k) (acc : ByteArray) : digs k acc = digs (k / 10) (digB (k % 10) ++ acc) := by
 conv => lhs; rw [digs]
 rw [dif_neg (by omega)]
def mtext (k : Nat) : ByteArray := ⟨#[109]⟩ ++ digs k ⟨#[]⟩
theorem u8_small {n : Int} (h : 0 ≤ n ∧ n < 256) : IntKind.u8.wrap n = n := by
 simp only [IntKind.wrap, IntKind.bits, IntKind.signed]
 simp
 omega
theorem c_markText (k : Nat) (h : 0 < k ∧ k ≤ 9223372036854775000) : VFun Tryz.prog 42 [.lit (.int .i64 k)] (fun av obs => obs = [] ∧ av = .lit (.string (mtext k))) := by
 refine vfun_start Tryz.func42 (by kernel_rfl) rfl (by simp [Tryz.ntmps42]) ?_; simp only [Tryz.ntmps42, Tryz.results42]; simp [go_sem]
 refine ⟨by omega, fun _ => ?_⟩
 refine vc_loop (fun p : Nat × ByteArray => digs p.1 p.2 = digs k ⟨#[]⟩ ∧ p.2.size + p.1 ≤ k) (fun p => p.1) (fun p => .of [(0, .lit (.int .i64 p.1)), (3, .lit (.string p.2))] []) ⟨(k, ⟨#[]⟩), ⟨rfl, by show 0 + k ≤ k; omega⟩, ?_⟩ (fun p hp => ?_)
 ·simp [go_sem]
 ·obtain ⟨q, out⟩ := p
  simp only at hp
  simp [go_sem]
  refine ⟨fun h1 => ?_, fun h1 w => ?_⟩
  ·refine ⟨digB (q % 10), rfl, ?_, ?_⟩
   ·have e : (q : Int).tmod 10 = ((q % 10 : Nat) : Int) := by rw [Int.tmod_eq_emod_of_nonneg (by omega)]; omega
    rw [e, wrap_i64 (by omega), u8_small (by omega)]
    exact digB_cells (q % 10) (by omega)
   ·refine ⟨_, fun w => if_neg ?_, q / 10, _, ⟨?_, ?_⟩, by omega, ?_, rfl⟩
    ·have : (digB (q % 10)).size = 1 := rfl
     omega
    ·rw [← digs_pos h1]; exact hp.1
    ·have : (digB (q % 10)).size = 1 := rfl
     rw [ByteArray.size_append]
     omega
    ·rw [wrap_i64 (by omega)]; omega
  ·subst h1
   rw [if_neg (by omega)]
   have h2 := hp.1
   rw [digs_zero] at h2
   rw [h2]; rfl
theorem map_lits {g : Nat → Nat} : ∀ {l : List AV}, l.all isLit = true → l.map (ren1 g) = l
 | [], _ => rfl
 | a :: r, h => by
  simp only [List.all_cons, Bool.and_eq_true] at h
  simp only [List.map_cons, map_lits h.2]
  cases a <;> simp [isLit] at h
  rfl
theorem flat_lits : ∀ {l : List AV}, l.all isLit = true → l.all flat1 = true
 | [], _ => rfl
 | a :: r, h => by
  simp only [List.all_cons, Bool.and_eq_true] at h ⊢
  refine ⟨?_, flat_lits h.2⟩
  cases a <;> simp [isLit] at h
  rfl
theorem outAt_lits {idx : Nat → Nat} {ks : List Nat} {ty sz n : Nat} {f f' : Nat → List AV} (h : ∀ i, i < n → f i = f' i) (hl : ∀ i, i < n → (f' i).all isLit = true) : OutAt idx ks ⟨ty, sz, n, f'⟩ (some (some ⟨ty, sz, n, f⟩)) := by
 refine ⟨rfl, rfl, rfl, fun i hi => ⟨?_, flatC_all (flat_lits (hl i hi)), fun c hc q hq => ?_⟩⟩
 ·simp only
  rw [h i hi]; exact map_lits (hl i hi)
 ·simp only at hc
  rw [h i hi] at hc
  have := List.all_eq_true.1 (hl i hi) c hc
  cases c <;> simp [isLit] at this
  simp [owns1] at hq
theorem renOb_lits {g : Nat → Nat} {ty sz n : Nat} {f : Nat → List AV} (h : ∀ i, (f i).all isLit = true) : renOb g ⟨ty, sz, n, f⟩ = ⟨ty, sz, n, f⟩ := by
 simp only [renOb]
 congr 1
 funext i
 exact map_lits (h i)
def markRow (k i : Nat) : POp := ⟨mtext (k + 4 * i), (k + 4 * i + 1 : Nat), (k + 4 * i + 2 : Nat), (k + 4 * i + 3 : Nat)⟩
def markCells (k i : Nat) : List AV := (markRow k i).cells
def markFill (l : List POp) (k i j : Nat) : List AV := if j < i then markCells k j else opCells l j
theorem markFill_bd (l : List POp) (k i j m : Nat) : ∀ c, c ∈ markFill l k i j → Bd m c := by
 intro c h
 unfold markFill at h
 split at h
 ·simp [markCells, POp.cells] at h
  rcases h with rfl | rfl | rfl | rfl <;> exact .closed _ (.lit _)
 ·exact .closed _ (opClosed l j c h)
theorem c_markOpS (l : List POp) (k : Nat) (hl : l.length ≤ 10000000) (hk : 0 < k ∧ k ≤ 1000000000) : VProc Tryz.prog 43 [.own 0, .lit (.int .i64 k)] [some ⟨73, 4, l.length, opCells l⟩] [] (fun av mem maps => av = .lit (.int .i64 (k + 4 * l.length : Nat)) ∧ mem = [some ⟨73, 4, l.length, markCells k⟩] ∧ maps = []) := by
 refine vproc_start Tryz.func43 (by kernel_rfl) rfl (by simp [Tryz.ntmps43]) ?_; simp only [Tryz.ntmps43, Tryz.results43]; simp [go_sem]
 refine vc_loop (fun i : Nat => i ≤ l.length) (fun i => l.length - i) (fun i => ⟨[(0, .own 0), (1, .lit (.int .i64 (k + 4 * i : Nat))), (5, .lit (.int .i64 i))], [some ⟨73, 4, l.length, markFill l k i⟩], [], 1⟩) ⟨0, by omega, ?_⟩ (fun i hi => ?_)
 ·simp [go_sem, markFill]
  exact fun i h c hc => .closed _ (opClosed l i c hc)
 ·simp [go_sem]
  refine ⟨by omega, fun h => vcall_pure (c_markText (k + 4 * i) (by omega)) ?_ ?_, fun h => ?_⟩
  ·simp [go_sem]
  ·simp [go_sem]
   simp only [wrap_i64 (n := (k : Int) + 4 * i + 1) (by omega), wrap_i64 (n := (k : Int) + 4 * i + 1 + 1) (by omega), wrap_i64 (n := (k : Int) + 4 * i + 1 + 1 + 1) (by omega), wrap_i64 (n := (k : Int) + 4 * i + 1 + 1 + 1 + 1) (by omega)]
   refine ⟨h, i + 1, by omega, by omega, ⟨by omega, wrap_succ (by omega)⟩, fun j hj => ⟨?_, markFill_bd _ _ _ _ _⟩⟩
   simp only [updF_at h hj, updF_at h h, if_true]
   by_cases hji : j = i
   ·subst hji
    simp only [if_true, markFill, Nat.lt_irrefl, if_false, Nat.lt_succ_self]
    simp [opCells_at, splice, markCells, markRow, POp.cells, Nat.add_assoc]
    omega
   ·simp only [if_neg hji, markFill]
    by_cases h2 : j < i
    ·rw [if_pos h2, if_pos (by omega)]
    ·rw [if_neg h2, if_neg (by omega)]
  ·have : i = l.length := by omega
   subst this
   refine ⟨rfl, [], [some ⟨73, 4, l.length, markCells k⟩], by simp, by simp, by simp [go_sem], ?_, by simp [go_sem], ?_⟩
   ·simp [go_sem]
    exact outAt_lits (fun i hi => by simp only [markFill, if_pos hi]) (fun i _ => rfl)
   ·simp [go_sem]
@[go_sem] theorem markCells_ren {g : Nat → Nat} {k i : Nat} : (markCells k i).map (ren1 g) = markCells k i := map_lits rfl
@[go_sem] theorem opCells_ren {g : Nat → Nat} {l : List POp} {i : Nat} : (opCells l i).map (ren1 g) = opCells l i := map_lits rfl
theorem cellsRn_lits {f : Nat → Nat} {m : Nat} : ∀ {l : List AV}, l.all isLit = true → CellsRn f m l l
 | [], _ => trivial
 | a :: r, h => by
  simp only [List.all_cons, Bool.and_eq_true] at h
  exact ⟨.closed _ (.of_lit h.1), cellsRn_lits h.2⟩
theorem markClosed (k i : Nat) (c : AV) (h : c ∈ markCells k i) : Closed c := by
 simp [markCells, POp.cells] at h
 rcases h with rfl | rfl | rfl | rfl <;> exact .lit _
theorem markCells_at (k i : Nat) : markCells k i = [.lit (.string (mtext (k + 4 * i))), .lit (.int .i64 (k + 4 * i + 1 : Nat)), .lit (.int .i64 (k + 4 * i + 2 : Nat)), .lit (.int .i64 (k + 4 * i + 3 : Nat))] := rfl
theorem c_heldOpS (n k : Nat) (hl : n ≤ 10000000) (hk : 0 < k ∧ k ≤ 1000000000) : VFun Tryz.prog 44 [.sl 4 n (markCells k), .lit (.int .i64 k)] (fun av obs => obs = [] ∧ av = .lit (.int .i64 (k + 4 * n : Nat))) := by
 have cl : ∀ (i : Nat) (c : AV), i < n → c ∈ markCells k i → Closed c := fun i c _ h => markClosed k i c h
 refine vfun_start Tryz.func44 (by kernel_rfl) rfl (by simp [Tryz.ntmps44]) ?_; simp only [Tryz.ntmps44, Tryz.results44]; simp [go_sem]
 refine vc_loop (fun i : Nat => i ≤ n) (fun i => n - i) (fun i => .of [(0, .sl 4 n (markCells k)), (1, .lit (.int .i64 (k + 4 * i : Nat))), (5, .lit (.int .i64 i))] []) ⟨0, by omega, ?_⟩ (fun i hi => ?_)
 ·simp [go_sem]
  exact cl
 ·simp [go_sem]
  refine ⟨by omega, fun h => ?_, fun h => ?_⟩
  ·refine vc_drawn [] (.q 0 <| .q 1 <| .q 2 <| .q 3 <| .q 4 <| .q 5 <| .or 6 (.q 7 <| .done) (.nil)) (by kernel_rfl) ?_
   simp [go_sem, markCells_at]
   refine ⟨h, vcallV_pure (c_markText (k + 4 * i) (by omega)) ?_ ?_⟩
   ·simp [go_sem]
   ·simp [go_sem, markCells_at]
    have e1 := wrap_i64 (n := (k : Int) + 4 * i + 1) (by omega)
    have e2 := wrap_i64 (n := (k : Int) + 4 * i + 1 + 1) (by omega)
    have e3 := wrap_i64 (n := (k : Int) + 4 * i + 1 + 1 + 1) (by omega)
    have e4 := wrap_i64 (n := (k : Int) + 4 * i + 1 + 1 + 1 + 1) (by omega)
    simp only [e1, e2, e3, e4]
    refine ⟨h, fun h1 => absurd trivial h1, fun _ => ⟨h, fun h1 => by omega, fun _ => ⟨h, fun h1 => by omega, fun _ => ⟨i + 1, by omega, by omega, fun i c hi hc => cl i c hi (by simp only [markCells_at]; simpa using hc), by omega, wrap_succ (by omega)⟩⟩⟩⟩
  ·omega
def isDg (c : Int) : Bool := decide (48 ≤ c) && decide (c ≤ 57)
def isLt (c : Int) : Bool := decide ((97 ≤ c ∧ c ≤ 122) ∨ (65 ≤ c ∧ c ≤ 90) ∨ c = 95)
theorem c_l2Digit (c : Int) : VFun Tryz.prog 62 [.lit (.int .u8 c)] (fun av obs => obs = [] ∧ av = .lit (.bool (isDg c))) := by
 refine vfun_start Tryz.func62 (by kernel_rfl) rfl (by simp [Tryz.ntmps62]) ?_; simp only [Tryz.ntmps62, Tryz.results62]; simp [go_sem]
 by_cases h1 : 48 ≤ c <;> by_cases h2 : c ≤ 57 <;> simp [isDg, h1, h2] <;> omega
theorem c_isDigit (c : Int) : VFun Tryz.prog 91 [.lit (.int .u8 c)] (fun av obs => obs = [] ∧ av = .lit (.bool (isDg c))) := by
 refine vfun_start Tryz.func91 (by kernel_rfl) rfl (by simp [Tryz.ntmps91]) ?_; simp only [Tryz.ntmps91, Tryz.results91]; simp [go_sem]
 by_cases h1 : 48 ≤ c <;> by_cases h2 : c ≤ 57 <;> simp [isDg, h1, h2] <;> omega
theorem c_l2Letter (c : Int) : VFun Tryz.prog 61 [.lit (.int .u8 c)] (fun av obs => obs = [] ∧ av = .lit (.bool (isLt c))) := by
 refine vfun_start Tryz.func61 (by kernel_rfl) rfl (by simp [Tryz.ntmps61]) ?_; simp only [Tryz.ntmps61, Tryz.results61]; simp [go_sem]
 simp only [isLt, int_beq, decide_eq_decide, decide_eq_true_eq]
 omega
theorem c_isLetter (c : Int) : VFun Tryz.prog 90 [.lit (.int .u8 c)] (fun av obs => obs = [] ∧ av = .lit (.bool (isLt c))) := by
 refine vfun_start Tryz.func90 (by kernel_rfl) rfl (by simp [Tryz.ntmps90]) ?_; simp only [Tryz.ntmps90, Tryz.results90]; simp [go_sem]
 simp only [isLt, int_beq, decide_eq_decide, decide_eq_true_eq]
 omega
def numZ (z : ByteArray) : Bool := ((List.range z.size).all fun i => isDg (byteAt z i)) && decide (0 < z.size)
def namAt (z : ByteArray) (i : Nat) : Bool := isLt (byteAt z i) || (decide (i ≠ 0) && isDg (byteAt z i))
def namZ (z : ByteArray) : Bool := ((List.range z.size).all fun i => namAt z i) && decide (0 < z.size)
theorem all_false {p : Nat → Bool} {n i : Nat} (h : i < n) (e : p i = false) : (List.range n).all p = false := by
 simp only [List.all_eq_false, List.mem_range]
 exact ⟨i, h, by rw [e]; simp⟩
theorem all_true {p : Nat → Bool} {n : Nat} (h : ∀ i, i < n → p i = true) : (List.range n).all p = true := by
 simp only [List.all_eq_true, List.mem_range]
 exact h
theorem c_l2IsNumber (z : ByteArray) (hz : z.size ≤ 9223372036854775807) : VFun Tryz.prog 118 [.lit (.string z)] (fun av obs => obs = [] ∧ av = .lit (.bool (numZ z))) := by
 refine vfun_start Tryz.func118 (by kernel_rfl) rfl (by simp [Tryz.ntmps118]) ?_; simp only [Tryz.ntmps118, Tryz.results118]; simp [go_sem]
 refine vc_loop (fun i : Nat => i ≤ z.size ∧ ∀ j, j < i → isDg (byteAt z j) = true) (fun i => z.size - i) (fun i => .of [(0, .lit (.string z)), (3, .lit (.int .i64 i))] []) ⟨0, ⟨by omega, by simp⟩, ?_⟩ (fun i hi => ?_)
 ·simp [go_sem]
 ·simp [go_sem]
  refine ⟨fun h => ⟨h, vcall_pure (c_l2Digit (byteAt z i)) ?_ ?_⟩, fun h => ?_⟩
  ·simp [go_sem]
  ·simp [go_sem]
   refine ⟨fun e => ?_, fun e => ⟨i + 1, ⟨by omega, fun j hj => ?_⟩, by omega, wrap_succ (by omega)⟩⟩
   ·simp only [numZ, all_false (p := fun i => isDg (byteAt z i)) h e, Bool.false_and]
   ·rcases Nat.lt_succ_iff_lt_or_eq.mp hj with hj | rfl
    ·exact hi.2 j hj
    ·exact e
  ·simp only [numZ, all_true (p := fun i => isDg (byteAt z i)) (n := z.size) fun j hj => hi.2 j (by omega), Bool.true_and]
theorem c_l2IsName (z : ByteArray) (hz : z.size ≤ 9223372036854775807) : VFun Tryz.prog 30 [.lit (.string z)] (fun av obs => obs = [] ∧ av = .lit (.bool (namZ z))) := by
 refine vfun_start Tryz.func30 (by kernel_rfl) rfl (by simp [Tryz.ntmps30]) ?_; simp only [Tryz.ntmps30, Tryz.results30]; simp [go_sem]
 refine vc_loop (fun i : Nat => i ≤ z.size ∧ ∀ j, j < i → namAt z j = true) (fun i => z.size - i) (fun i => .of [(0, .lit (.string z)), (3, .lit (.int .i64 i))] []) ⟨0, ⟨by omega, by simp⟩, ?_⟩ (fun i hi => ?_)
 ·simp [go_sem]
 ·simp [go_sem]
  refine ⟨fun h => ⟨h, vcall_pure (c_l2Letter (byteAt z i)) ?_ ?_⟩, fun h => ?_⟩
  ·simp [go_sem]
  ·have step : namAt z i = true → ∃ j : Nat, (j ≤ z.size ∧ ∀ q, q < j → namAt z q = true) ∧ z.size - j < z.size - i ∧ IntKind.i64.wrap ((i : Int) + 1) = j := fun e => ⟨i + 1, ⟨by omega, fun j hj => by
    rcases Nat.lt_succ_iff_lt_or_eq.mp hj with hj | rfl
    ·exact hi.2 j hj
    ·exact e⟩, by omega, wrap_succ (by omega)⟩
   have bad : namAt z i = false → namZ z = false := fun e => by simp only [namZ, all_false (p := fun i => namAt z i) h e, Bool.false_and]
   simp [go_sem]
   refine ⟨fun e1 => ⟨fun h0 => ⟨h, vcall_pure (c_l2Digit (byteAt z i)) ?_ ?_⟩, fun h0 => bad (by subst h0; simp [namAt, e1])⟩, fun e1 => step (by simp [namAt, e1])⟩
   ·simp [go_sem]
   ·simp [go_sem]
    exact ⟨fun e2 => bad (by simp [namAt, e1, e2]), fun e2 => step (by simp [namAt, e1, e2, h0])⟩
  ·simp only [namZ, all_true (p := fun i => namAt z i) (n := z.size) fun j hj => hi.2 j (by omega), Bool.true_and]
def cutL (c : UInt8) : List UInt8 → List (List UInt8)
  | [] => [[]]
  | b :: r => if b = c then [] :: cutL c r else match cutL c r with
    | p :: ps => (b :: p) :: ps
    | [] => [[b]]
theorem cutL_run {c : UInt8} : ∀ (p : List UInt8), c ∉ p → ∀ r, cutL c (p ++ c :: r) = p :: cutL c r
  | [], _, r => by simp [cutL]
  | b :: p, h, r => by
    have hb : ¬ b = c := fun e => h (by simp [e])
    have := cutL_run p (fun hm => h (List.mem_cons_of_mem _ hm)) r
    simp only [List.cons_append]
    rw [cutL, if_neg hb, this]
theorem cutL_last {c : UInt8} : ∀ (p : List UInt8), c ∉ p → cutL c p = [p]
  | [], _ => rfl
  | b :: p, h => by
    have hb : ¬ b = c := fun e => h (by simp [e])
    rw [cutL, if_neg hb, cutL_last p (fun hm => h (List.mem_cons_of_mem _ hm))]
theorem index_one {c : UInt8} : ∀ (l : List UInt8), (c ∉ l ∧ Lib.index l [c] = -1) ∨ ∃ p r, l = p ++ c :: r ∧ c ∉ p ∧ Lib.index l [c] = p.length
  | [] => .inl ⟨by simp, rfl⟩
  | b :: l => by
    by_cases hb : b = c
    · subst hb
      exact .inr ⟨[], l, rfl, by simp, by simp [Lib.index]⟩
    · have hp : ([c].isPrefixOf (b :: l)) = false := by
        simp [List.isPrefixOf]
        exact fun e => hb e.symm
      rcases index_one (c := c) l with ⟨h1, h2⟩ | ⟨p, r, rfl, h1, h2⟩
      · refine .inl ⟨by simp [h1]; exact fun e => hb e.symm, ?_⟩
        simp only [Lib.index, hp, h2]; rfl
      · refine .inr ⟨b :: p, r, rfl, by simp [h1]; exact fun e => hb e.symm, ?_⟩
        simp only [Lib.index, hp, h2]
        have : ¬ ((p.length : Int) == -1) = true := by simp <;> omega
        simp only [this, if_false, Bool.false_eq_true, List.length_cons]
        omega
theorem split_cut {c : UInt8} : ∀ (k : Nat) (l : List UInt8), l.length ≤ k → Lib.splitK [c] 0 (Lib.count l [c]) l = cutL c l
  | k, l, hk => by
    rcases index_one (c := c) l with ⟨h1, h2⟩ | ⟨p, r, rfl, h1, h2⟩
    · rw [Lib.count_miss h2, cutL_last l h1]; rfl
    · rw [Lib.count_hit (by simp) h2, cutL_run p h1]
      match k, hk with
      | 0, hk => simp at hk
      | k + 1, hk =>
        have hr : r.length ≤ k := by simp at hk; omega
        have e : (p ++ c :: r).drop (p.length + [c].length) = r := by simp
        rw [e, Nat.add_comm 1, Lib.splitK]
        have hm : ¬ (Lib.index (p ++ c :: r) [c] == -1) = true := by rw [h2]; simp <;> omega
        rw [if_neg hm, h2]
        have e2 : (p ++ c :: r).take (((p.length : Nat) : Int).toNat + 0) = p := by simp
        have e3 : (p ++ c :: r).drop (((p.length : Nat) : Int).toNat + [c].length) = r := by simp
        rw [e2, e3, split_cut k r hr]
def cutZ (c : UInt8) (z : ByteArray) : List ByteArray := (cutL c z.data.toList).map fun l => ⟨l.toArray⟩
theorem cutZ_split (c : UInt8) (z : ByteArray) : Lib.splitB ⟨#[c]⟩ 0 (Lib.countB z ⟨#[c]⟩) z = cutZ c z := by
  have h := Lib.splitB_data ⟨#[c]⟩ 0 (Lib.countB z ⟨#[c]⟩) z
  have h2 : Lib.countB z ⟨#[c]⟩ = Lib.count z.data.toList [c] := rfl
  rw [h2] at h ⊢
  rw [show ((⟨#[c]⟩ : ByteArray).data.toList) = [c] from rfl, split_cut _ _ (Nat.le_refl _)] at h
  unfold cutZ
  rw [← h, List.map_map]
  refine (List.map_id _).symm.trans (List.map_congr_left fun x _ => ?_)
  cases x; simp
def cutR (c : UInt8) (z : ByteArray) : Nat → List (Nat × Nat) × Nat
  | 0 => ([], 0)
  | i + 1 => if i = z.size ∨ byteAt z i = c.toNat then ((cutR c z i).1 ++ [((cutR c z i).2, i)], i + 1) else cutR c z i
theorem byteAt_list {z : ByteArray} {i : Nat} (hi : i < z.size) : ∃ b : UInt8, z.data.toList[i]? = some b ∧ byteAt z i = b.toNat := by
  refine ⟨z[i], ?_, ?_⟩
  · rw [Array.getElem?_toList]
    exact Array.getElem?_eq_getElem hi
  · unfold byteAt; rw [dif_pos hi]
theorem ext_list (z : ByteArray) (a b : Nat) : (z.extract a b).data.toList = (z.data.toList.drop a).take (b - a) := by
  rw [ByteArray.data_extract, Array.toList_extract, List.extract]
theorem mem_take_not {c : UInt8} {l : List UInt8} {n : Nat} (h : ∀ j, j < n → l[j]? ≠ some c) : c ∉ l.take n := fun hm => by
  obtain ⟨j, hj⟩ := List.getElem?_of_mem hm
  rw [List.getElem?_take] at hj
  split at hj
  · exact h j (by assumption) hj
  · cases hj
theorem cutR_inv {c : UInt8} {z : ByteArray} : ∀ i, i ≤ z.size → (cutR c z i).2 ≤ i ∧ (∀ j, (cutR c z i).2 ≤ j → j < i → z.data.toList[j]? ≠ some c) ∧ cutL c z.data.toList = ((cutR c z i).1.map fun p => (z.extract p.1 p.2).data.toList) ++ cutL c (z.data.toList.drop (cutR c z i).2)
  | 0, _ => ⟨Nat.le_refl _, fun j _ h => by omega, by simp [cutR]⟩
  | i + 1, hi => by
    obtain ⟨h1, h2, h3⟩ := cutR_inv (c := c) (z := z) i (by omega)
    obtain ⟨b, hb, eb⟩ := byteAt_list (z := z) (i := i) (by omega)
    unfold cutR
    by_cases hc : byteAt z i = c.toNat
    · rw [if_pos (.inr hc)]
      have ebc : b = c := by
        rw [eb] at hc
        exact UInt8.toNat_inj.1 (by omega)
      subst ebc
      refine ⟨Nat.le_refl _, fun j g1 g2 => by simp only at g1; omega, ?_⟩
      generalize cutR b z i = q at *
      have e : z.data.toList.drop q.2 = (z.extract q.2 i).data.toList ++ b :: z.data.toList.drop (i + 1) := by
        rw [ext_list]
        have e1 : z.data.toList.drop q.2 = (z.data.toList.drop q.2).take (i - q.2) ++ (z.data.toList.drop q.2).drop (i - q.2) := (List.take_append_drop _ _).symm
        rw [List.drop_drop, show q.2 + (i - q.2) = i by omega] at e1
        have hlt : i < z.data.toList.length := (List.getElem?_eq_some_iff.1 hb).1
        rw [List.drop_eq_getElem_cons hlt, show z.data.toList[i] = b from (List.getElem?_eq_some_iff.1 hb).2] at e1
        exact e1
      rw [h3, e, cutL_run _ (by rw [ext_list]; exact mem_take_not fun j hj => by rw [List.getElem?_drop]; exact h2 _ (by omega) (by omega))]
      simp
    · rw [if_neg (by rintro (h | h); · omega
                     · exact hc h)]
      refine ⟨by omega, fun j g1 g2 => ?_, h3⟩
      by_cases e : j = i
      · subst e
        rw [hb]
        intro e2
        cases e2
        exact hc eb
      · exact h2 j g1 (by omega)
theorem cutR_fin (c : UInt8) (z : ByteArray) : ((cutR c z (z.size + 1)).1.map fun p => z.extract p.1 p.2) = cutZ c z := by
  obtain ⟨h1, h2, h3⟩ := cutR_inv (c := c) (z := z) z.size (Nat.le_refl _)
  rw [cutR, if_pos (.inl rfl)]
  have hl : z.data.toList.length = z.size := rfl
  have e : z.data.toList.drop (cutR c z z.size).2 = (z.extract (cutR c z z.size).2 z.size).data.toList := by
    rw [ext_list, List.take_of_length_le (by rw [List.length_drop]; omega)]
  rw [cutL_last (z.data.toList.drop (cutR c z z.size).2) (by
    rw [e, ext_list]
    exact mem_take_not fun j hj => by rw [List.getElem?_drop]; exact h2 _ (by omega) (by omega)), e] at h3
  unfold cutZ
  rw [h3]
  simp only [List.map_append, List.map_cons, List.map_nil, List.map_map]
  congr 1
def wordsZ (z : ByteArray) : List ByteArray := (cutZ 32 z).filter fun w => decide (0 < w.size)
def run (p : Int → Bool) (z : ByteArray) (j : Nat) : Nat := if h : j < z.size then if p (byteAt z j) then 1 + run p z (j + 1) else 0 else 0
termination_by z.size - j
def decR (w : ByteArray) : Nat → Nat
 | 0 => 0
 | i + 1 => decR w i * 10 + (byteAt w i - 48).toNat
theorem decR_lt {w : ByteArray} (h : numZ w = true) : ∀ i, i ≤ w.size → decR w i < 10 ^ i
 | 0, _ => by simp [decR]
 | i + 1, hi => by
  have ih := decR_lt h i (by omega)
  simp only [numZ, Bool.and_eq_true, List.all_eq_true, List.mem_range] at h
  have := h.1 i (by omega)
  simp only [isDg, Bool.and_eq_true, decide_eq_true_eq] at this
  rw [decR, Nat.pow_succ]
  omega
theorem atoi_dec {w : ByteArray} (h : numZ w = true) : Lib.atoi w.data.toList = some ((decR w w.size : Nat) : Int) := by
 have h0 := h
 simp only [numZ, Bool.and_eq_true, List.all_eq_true, List.mem_range, decide_eq_true_eq] at h
 have dig : ∀ i, i < w.size → ∃ b : UInt8, w.data.toList[i]? = some b ∧ Lib.digitVal b = some (byteAt w i - 48).toNat ∧ 48 ≤ b.toNat ∧ b.toNat ≤ 57 := fun i hi => by
  obtain ⟨b, h1, h2⟩ := byteAt_list hi
  have := h.1 i hi
  simp only [isDg, Bool.and_eq_true, decide_eq_true_eq] at this
  refine ⟨b, h1, ?_, by omega, by omega⟩
  unfold Lib.digitVal
  rw [if_pos (by omega), h2]
  congr 1
  omega
 have step : ∀ i, i ≤ w.size → Lib.decFrom 0 (w.data.toList.take i) = some (decR w i) := fun i => by
  induction i with
  | zero => intro _; rfl
  | succ i ih =>
   intro hi
   obtain ⟨b, h1, h2, _⟩ := dig i (by omega)
   exact Lib.decFrom_take _ i 0 _ b _ (ih (by omega)) h1 h2
 have hl : w.data.toList.length = w.size := rfl
 have hs := step w.size (Nat.le_refl _)
 rw [List.take_of_length_le (by omega)] at hs
 obtain ⟨b, h1, _, h3, h4⟩ := dig 0 h.2
 match hd : w.data.toList, h1, hs with
 | x :: r, h1, hs =>
  simp only [List.getElem?_cons_zero, Option.some.injEq] at h1
  subst h1
  have n45 : ¬ (x == 45) = true := fun e => by
   have : x = 45 := by simpa using e
   rw [this] at h3; exact absurd h3 (by decide)
  have n43 : ¬ (x == 43) = true := fun e => by
   have : x = 43 := by simpa using e
   rw [this] at h3; exact absurd h3 (by decide)
  simp only [Lib.atoi, if_neg n45, if_neg n43, Lib.decNat, List.isEmpty_cons, Bool.false_eq_true, if_false, hs, Option.map_some]
def levelZ (w : ByteArray) : Option Nat := if numZ w = true ∧ w.size ≤ 6 then some (decR w w.size) else none
def kwBegin : ByteArray := ⟨#[98, 101, 103, 105, 110]⟩
def kwUse : ByteArray := ⟨#[117, 115, 101]⟩
def kwPre : ByteArray := ⟨#[112, 114, 101, 102, 105, 120]⟩
def kwInf : ByteArray := ⟨#[105, 110, 102, 105, 120]⟩
def kwPost : ByteArray := ⟨#[112, 111, 115, 116, 102, 105, 120]⟩
def kwLeft : ByteArray := ⟨#[108, 101, 102, 116]⟩
def kwRight : ByteArray := ⟨#[114, 105, 103, 104, 116]⟩
def kwNone : ByteArray := ⟨#[110, 111, 110, 101]⟩
def sideZ (w : ByteArray) : Nat := if w = kwLeft then 1 else if w = kwRight then 2 else if w = kwNone then 3 else 0
def wrdAt (ws : List ByteArray) (i : Nat) : ByteArray := ws.getD i ByteArray.empty
def declZ (ws : List ByteArray) : Option POp :=
 if ws.length < 3 then none else match levelZ (wrdAt ws 2) with
  | none => none
  | some v => if wrdAt ws 0 = kwPre ∧ ws.length = 3 then some ⟨wrdAt ws 1, 1, v, 0⟩ else if wrdAt ws 0 = kwPost ∧ ws.length = 3 then some ⟨wrdAt ws 1, 3, v, 0⟩
   else if wrdAt ws 0 = kwInf ∧ ws.length = 4 ∧ 0 < sideZ (wrdAt ws 3) then some ⟨wrdAt ws 1, 2, v, sideZ (wrdAt ws 3)⟩ else none
structure US where
 uses : List ByteArray
 ops : List POp
 bad : Nat
def isBegin (ws : List ByteArray) : Bool := decide (ws = [kwBegin])
def usStep (st : US) (i : Nat) (ws : List ByteArray) : US :=
 if ws = [] then st else match declZ ws with
  | some o => { st with ops := st.ops ++ [o] }
  | none => if ws.length = 2 ∧ wrdAt ws 0 = kwUse then { st with uses := st.uses ++ [wrdAt ws 1] } else { st with bad := if st.bad = 0 then i + 1 else st.bad }
def usR (L : List (List ByteArray)) : Nat → US
 | 0 => ⟨[], [], 0⟩
 | i + 1 => usStep (usR L i) i (L.getD i [])
def beginAt (L : List (List ByteArray)) : Option Nat := L.findIdx? isBegin
def linesZ (z : ByteArray) : List (List ByteArray) := (cutZ 10 z).map wordsZ
def farZ (ps : List ByteArray) : Nat → Nat
 | 0 => 0
 | i + 1 => farZ ps i + (ps.getD i ByteArray.empty).size + 1
def posZ (c : UInt8) (z : ByteArray) (k : Nat) : Nat × Nat := (cutR c z (z.size + 1)).1.getD k (0, 0)
theorem cutR_chain {c : UInt8} {z : ByteArray} : ∀ i, i ≤ z.size + 1 → (cutR c z i).2 ≤ i ∧ (∀ k, k < (cutR c z i).1.length → ((cutR c z i).1.getD k (0, 0)).1 ≤ ((cutR c z i).1.getD k (0, 0)).2 ∧ ((cutR c z i).1.getD k (0, 0)).2 ≤ z.size ∧ ((cutR c z i).1.getD k (0, 0)).1 = if k = 0 then 0 else ((cutR c z i).1.getD (k - 1) (0, 0)).2 + 1) ∧ (cutR c z i).2 = if (cutR c z i).1.length = 0 then 0 else ((cutR c z i).1.getD ((cutR c z i).1.length - 1) (0, 0)).2 + 1
 | 0, _ => by simp [cutR]
 | i + 1, hi => by
  obtain ⟨h1, h2, h3⟩ := cutR_chain (c := c) (z := z) i (by omega)
  unfold cutR
  split
  ·generalize cutR c z i = q at *
   obtain ⟨D, a⟩ := q
   simp only at *
   have old : ∀ k, k < D.length → (D ++ [(a, i)]).getD k (0, 0) = D.getD k (0, 0) := fun k hk => by
    rw [List.getD_eq_getElem?_getD, List.getD_eq_getElem?_getD, List.getElem?_append_left hk]
   have new : (D ++ [(a, i)]).getD D.length (0, 0) = (a, i) := by
    rw [List.getD_eq_getElem?_getD, List.getElem?_append_right (Nat.le_refl _)]; simp
   refine ⟨Nat.le_refl _, fun k hk => ?_, ?_⟩
   ·simp only [List.length_append, List.length_singleton] at hk
    by_cases e : k < D.length
    ·rw [old k e]
     obtain ⟨g1, g2, g3⟩ := h2 k e
     refine ⟨g1, g2, g3.trans ?_⟩
     split
     ·rfl
     ·rw [old (k - 1) (by omega)]
    ·obtain rfl : k = D.length := by omega
     rw [new]
     refine ⟨h1, by simp only; omega, ?_⟩
     refine h3.trans ?_
     split
     ·rfl
     ·rw [old _ (by omega)]
   ·simp only [List.length_append, List.length_singleton, Nat.add_sub_cancel]
    rw [if_neg (by omega), new]
  ·exact ⟨by omega, h2, h3⟩
theorem pos_len (c : UInt8) (z : ByteArray) : (cutR c z (z.size + 1)).1.length = (cutZ c z).length := by rw [← cutR_fin, List.length_map]
theorem pos_far (c : UInt8) (z : ByteArray) : ∀ k, k < (cutZ c z).length → (posZ c z k).1 = farZ (cutZ c z) k ∧ (posZ c z k).2 + 1 = farZ (cutZ c z) (k + 1) ∧ (posZ c z k).1 ≤ (posZ c z k).2 ∧ (posZ c z k).2 ≤ z.size ∧ z.extract (posZ c z k).1 (posZ c z k).2 = (cutZ c z).getD k ByteArray.empty := by
 have hc := (cutR_chain (c := c) (z := z) (z.size + 1) (Nat.le_refl _)).2.1
 rw [pos_len] at hc
 have he : ∀ k, k < (cutZ c z).length → z.extract (posZ c z k).1 (posZ c z k).2 = (cutZ c z).getD k ByteArray.empty := fun k hk => by
  have h := cutR_fin c z
  rw [← h, List.getD_eq_getElem?_getD, List.getElem?_map]
  unfold posZ
  rw [List.getD_eq_getElem?_getD, List.getElem?_eq_getElem (by rw [pos_len]; exact hk)]
  rfl
 intro k
 induction k with
 | zero =>
  intro hk
  obtain ⟨g1, g2, g3⟩ := hc 0 hk
  have h0 := he 0 hk
  rw [if_pos rfl] at g3
  refine ⟨g3, ?_, g1, g2, h0⟩
  unfold farZ farZ
  rw [← h0, ByteArray.size_extract]
  show _ + 1 = 0 + (min _ _ - _) + 1
  have e1 : (posZ c z 0).1 = 0 := g3
  have e2 : (posZ c z 0).2 ≤ z.size := g2
  omega
 | succ k ih =>
  intro hk
  obtain ⟨i1, i2, _⟩ := ih (by omega)
  obtain ⟨g1, g2, g3⟩ := hc (k + 1) hk
  have h0 := he (k + 1) hk
  rw [if_neg (by omega), Nat.add_sub_cancel] at g3
  have e1 : (posZ c z (k + 1)).1 = (posZ c z k).2 + 1 := g3
  have e2 : (posZ c z (k + 1)).2 ≤ z.size := g2
  have e3 : (posZ c z (k + 1)).1 ≤ (posZ c z (k + 1)).2 := g1
  refine ⟨by omega, ?_, e3, e2, h0⟩
  rw [farZ, ← h0, ByteArray.size_extract]
  omega
structure Unt where
 uses : List ByteArray
 ops : List POp
 body : ByteArray
def unitZ (z : ByteArray) : Unt × Int × Int :=
 if 20000 < z.size then (⟨[], [], ⟨#[]⟩⟩, 1, 0) else
  match beginAt (linesZ z) with
  | none => if (usR (linesZ z) (linesZ z).length).bad = 0 then (⟨[], [], ⟨#[]⟩⟩, 3, 0) else (⟨[], [], ⟨#[]⟩⟩, 2, (usR (linesZ z) (linesZ z).length).bad)
  | some k => if (usR (linesZ z) k).bad = 0 then (⟨(usR (linesZ z) k).uses, (usR (linesZ z) k).ops, z.extract (min (farZ (cutZ 10 z) (k + 1)) z.size) z.size⟩, 0, 0) else (⟨[], [], ⟨#[]⟩⟩, 2, (usR (linesZ z) k).bad)
end Go.Proofs.YtadghlfkddkelaaGreatDoor.V
namespace Go.Proofs.YtadghlfkddkelaaGreatDoor.V
def warR (R : Nat → Nat → Bool) : Nat → Nat → Nat → Bool
 | 0, i, j => R i j
 | m + 1, i, j => warR R m i j || (warR R m i m && warR R m m j)
inductive Pth (R : Nat → Nat → Bool) (n : Nat) : Nat → Nat → Prop
 |one {i j : Nat} (h : R i j = true) : Pth R n i j
 |cons {i k j : Nat} (h : R i k = true) (hk : k < n) (r : Pth R n k j) : Pth R n i j
theorem Pth.up {R : Nat → Nat → Bool} {n m i j : Nat} (h : Pth R n i j) (hnm : n ≤ m) : Pth R m i j := by
 induction h with
 | one h => exact .one h
 | cons h hk r ih => exact .cons h (by omega) ih
theorem Pth.app {R : Nat → Nat → Bool} {n i k j : Nat} (h : Pth R n i k) (hk : k < n) (h2 : Pth R n k j) : Pth R n i j := by
 induction h with
 | one h => exact .cons h hk h2
 | cons h hk' r ih => exact .cons h hk' (ih hk h2)
theorem warR_pth {R : Nat → Nat → Bool} : ∀ (m i j : Nat), warR R m i j = true ↔ Pth R m i j
 | 0, i, j => ⟨fun h => .one h, fun h => by
  cases h with
  | one h => exact h
  | cons h hk r => exact absurd hk (Nat.not_lt_zero _)⟩
 | m + 1, i, j => by
  refine ⟨fun h => ?_, fun h => ?_⟩
  ·simp only [warR, Bool.or_eq_true, Bool.and_eq_true] at h
   rcases h with h | ⟨h1, h2⟩
   ·exact ((warR_pth m i j).1 h).up (by omega)
   ·exact (((warR_pth m i m).1 h1).up (by omega)).app (by omega) (((warR_pth m m j).1 h2).up (by omega))
  ·induction h with
   | one h => simp only [warR, Bool.or_eq_true]; exact .inl ((warR_pth m _ _).2 (.one h))
   | cons h hk r ih =>
    rename_i i k j
    simp only [warR, Bool.or_eq_true, Bool.and_eq_true] at ih ⊢
    by_cases e : k = m
    ·subst e
     refine .inr ⟨(warR_pth k _ _).2 (.one h), ?_⟩
     rcases ih with ih | ⟨_, ih⟩ <;> exact ih
    ·have hk' : k < m := by omega
     rcases ih with ih | ⟨ih1, ih2⟩
     ·exact .inl ((warR_pth m _ _).2 (.cons h hk' ((warR_pth m _ _).1 ih)))
     ·exact .inr ⟨(warR_pth m _ _).2 (.cons h hk' ((warR_pth m _ _).1 ih1)), ih2⟩
theorem warR_col {R : Nat → Nat → Bool} {m i : Nat} : warR R (m + 1) i m = warR R m i m := by
 show (warR R m i m || (warR R m i m && warR R m m m)) = _
 cases warR R m i m <;> simp
theorem warR_row {R : Nat → Nat → Bool} {m j : Nat} : warR R (m + 1) m j = warR R m m j := by
 show (warR R m m j || (warR R m m m && warR R m m j)) = _
 cases warR R m m j <;> cases warR R m m m <;> rfl
def warM (R : Nat → Nat → Bool) (m i j : Nat) (a b : Nat) : Bool := if a < i ∨ (a = i ∧ b < j) then warR R (m + 1) a b else warR R m a b
theorem warM_col {R : Nat → Nat → Bool} {m i j a : Nat} : warM R m i j a m = warR R m a m := by
 unfold warM
 split
 ·exact warR_col
 ·rfl
theorem warM_row {R : Nat → Nat → Bool} {m i j b : Nat} : warM R m i j m b = warR R m m b := by
 unfold warM
 split
 ·exact warR_row
 ·rfl
theorem warM_step {R : Nat → Nat → Bool} {m i j a b : Nat} : warM R m i (j + 1) a b = if a = i ∧ b = j then (warM R m i j i j || (warM R m i j i m && warM R m i j m j)) else warM R m i j a b := by
 by_cases h : a = i ∧ b = j
 ·obtain ⟨rfl, rfl⟩ := h
  rw [if_pos ⟨rfl, rfl⟩, warM_col, warM_row]
  unfold warM
  rw [if_pos (by omega), if_neg (by omega)]
  rfl
 ·rw [if_neg h]
  unfold warM
  by_cases h2 : a < i ∨ (a = i ∧ b < j)
  ·rw [if_pos h2, if_pos (by omega)]
  ·rw [if_neg h2, if_neg (by omega)]
theorem count_le {p q : Nat → Bool} : ∀ {l : List Nat}, (∀ j, j ∈ l → p j = true → q j = true) → l.countP p ≤ l.countP q
 | [], _ => Nat.le_refl _
 | a :: l, h => by
  have ih := count_le (l := l) fun j hj => h j (List.mem_cons_of_mem _ hj)
  rw [List.countP_cons, List.countP_cons]
  have ha := h a (by simp)
  cases hp : p a with
  | false => simp; omega
  | true => rw [ha hp]; simp; omega
theorem count_lt {p q : Nat → Bool} : ∀ {l : List Nat}, (∀ j, j ∈ l → p j = true → q j = true) → (∃ j, j ∈ l ∧ q j = true ∧ p j = false) → l.countP p < l.countP q
 | [], _, ⟨j, hj, _⟩ => by simp at hj
 | a :: l, h, ⟨j, hj, hq, hp⟩ => by
  have hl := fun j hj => h j (List.mem_cons_of_mem a hj)
  have ha := h a (by simp)
  rw [List.countP_cons, List.countP_cons]
  rcases List.mem_cons.1 hj with rfl | hj'
  ·have := count_le hl
   rw [hq, hp]; simp; omega
  ·have ih := count_lt hl ⟨j, hj', hq, hp⟩
   cases hpa : p a with
   | false => simp; omega
   | true => rw [ha hpa]; simp; omega
def rankR (R : Nat → Nat → Bool) (n i : Nat) : Nat := (List.range n).countP fun j => warR R n i j
theorem rank_lt {R : Nat → Nat → Bool} {n i k : Nat} (hc : warR R n k k = false) (hk : k < n) (h : R i k = true) : rankR R n k < rankR R n i :=
 count_lt (fun j _ hj => (warR_pth n i j).2 (.cons h hk ((warR_pth n k j).1 hj))) ⟨k, List.mem_range.2 hk, (warR_pth n i k).2 (.one h), hc⟩
open Go.RowKit
def opsHas (l : List POp) (n : Nat) (o : POp) : Bool := (List.range n).any fun i => opEq (opAt l i) o
theorem c_l1Has (l : List POp) (n : Nat) (hn : n ≤ 9223372036854775807) (o : POp) : VFun Tryz.prog 87 [.sl 4 n (opCells l), .agg o.cells] (fun av obs => obs = [] ∧ av = .lit (.bool (opsHas l n o))) := by
 have cl : ∀ (i : Nat) (c : AV), i < n → c ∈ opCells l i → Closed c := fun i c _ h => opClosed l i c h
 obtain ⟨z, kd, lv, sd⟩ := o
 simp only [POp.cells]
 refine vfun_start Tryz.func87 (by kernel_rfl) rfl (by simp [Tryz.ntmps87]) ?_; simp only [Tryz.ntmps87, Tryz.results87]; simp [go_sem]
 refine vc_loop (fun i : Nat => i ≤ n ∧ ∀ j, j < i → opEq (opAt l j) ⟨z, kd, lv, sd⟩ = false) (fun i => n - i) (fun i => .of [(0, .sl 4 n (opCells l)), (3, .ptr 0 4 0 0), (5, .lit (.int .i64 i))] [some ⟨73, 4, 1, fun _ => POp.cells ⟨z, kd, lv, sd⟩⟩]) ⟨0, ⟨by omega, by simp⟩, ?_⟩ (fun i hi => ?_)
 ·simp [go_sem, POp.cells]
  exact cl
 ·simp [go_sem]
  refine ⟨by omega, fun h => ?_, fun h => ?_⟩
  ·refine vc_drawn [] (.q 0 <| .q 1 <| .q 2 <| .q 3 <| .q 4 <| .q 5 <| .done) (by kernel_rfl) ?_
   simp [go_sem, opCells_at, POp.cells]
   refine ⟨h, .bool (opEq (opAt l i) ⟨z, kd, lv, sd⟩), fun w => ?_, ?_⟩
   ·simp only [opEq, ba_toList, ba_beq, int_beq]
    by_cases h1 : (opAt l i).text = z <;> by_cases h2 : (opAt l i).kind = kd <;> by_cases h3 : (opAt l i).level = lv <;> by_cases h4 : (opAt l i).side = sd <;> simp [h1, h2, h3, h4]
   ·simp [go_sem]
    refine ⟨fun e => ?_, fun e => ⟨i + 1, ⟨by omega, fun j hj => ?_⟩, by omega, ⟨cl, wrap_succ (by omega)⟩⟩⟩
    ·simp only [opsHas, List.any_eq_true, List.mem_range]
     exact ⟨i, h, e⟩
    ·rcases Nat.lt_succ_iff_lt_or_eq.mp hj with hj | rfl
     ·exact hi.2 j hj
     ·exact e
  ·simp only [opsHas, List.any_eq_false, List.mem_range]
   exact fun j hj => by rw [hi.2 j (by omega)]; simp
theorem argSl_sub {mem : List (Option Ob)} {k sz lo n N ty : Nat} {f f' : Nat → List AV} (hk : mem[k]? = some (some ⟨ty, sz, N, f⟩)) (hsz : 0 < sz) (hn : lo + n ≤ N) (h : ∀ i, i < n → f (lo + i) = f' i ∧ ∀ c, c ∈ f' i → Closed c) : ArgSl mem (.sub k sz lo n) sz n f' :=
 ⟨hsz, fun i => f (lo + i), by simp [contents, hk, hn], h⟩
def uniq (l : List POp) : Nat → List POp
 | 0 => []
 | i + 1 => if opsHas l i (opAt l i) then uniq l i else uniq l i ++ [opAt l i]
def union (a b : List POp) : List POp := uniq (a ++ b) (a.length + b.length)
theorem uniq_len (l : List POp) : ∀ i, (uniq l i).length ≤ i
 | 0 => by simp [uniq]
 | i + 1 => by
  have := uniq_len l i
  simp only [uniq]
  split
  ·omega
  ·simp; omega
theorem opAt_app (a b : List POp) (i : Nat) : opAt (a ++ b) i = if i < a.length then opAt a i else opAt b (i - a.length) := by
 unfold opAt
 by_cases h : i < a.length
 ·rw [if_pos h, List.getD_eq_getElem?_getD, List.getD_eq_getElem?_getD, List.getElem?_append_left h]
 ·rw [if_neg h, List.getD_eq_getElem?_getD, List.getD_eq_getElem?_getD, List.getElem?_append_right (by omega)]
theorem opCells_app (a b : List POp) (i : Nat) : opCells (a ++ b) i = joinF a.length (opCells a) (opCells b) i := by
 unfold joinF
 simp only [opCells_at, opAt_app]
 split <;> rfl
theorem opCells_one (l : List POp) (o : POp) (i : Nat) (h : i < l.length + 1) : joinF l.length (opCells l) (fun _ => o.cells) i = opCells (l ++ [o]) i := by
 rw [opCells_app]
 unfold joinF
 split
 ·rfl
 ·have : i - l.length = 0 := by omega
  rw [this]; rfl
@[go_sem] theorem opOne (l : List POp) (i : Nat) : (opCells l i).all oneAV = true := rfl
theorem c_specUnion (a b : List POp) (h : a.length + b.length ≤ 10000000) : VFun Tryz.prog 63 [.agg [.sl 4 a.length (opCells a)], .agg [.sl 4 b.length (opCells b)]] (fun av obs => av = .agg [.own 0] ∧ obs = [⟨73, 4, (union a b).length, opCells (union a b)⟩]) := by
 have cla : ∀ (i : Nat) (c : AV), i < a.length → c ∈ opCells a i → Closed c := fun i c _ h => opClosed a i c h
 have clb : ∀ (i : Nat) (c : AV), i < b.length → c ∈ opCells b i → Closed c := fun i c _ h => opClosed b i c h
 refine vfun_start Tryz.func63 (by kernel_rfl) rfl (by simp [Tryz.ntmps63]) ?_; simp only [Tryz.ntmps63, Tryz.results63]; simp [go_sem]
 refine ⟨by omega, by omega, by omega, by omega, ?_⟩
 refine vc_loopE (fun i : Nat => i ≤ a.length + b.length) (fun i => a.length + b.length - i) (fun i => .of [(4, .ptr 0 1 0 0), (5, .own 1), (6, .own 2), (7, .lit (.int .i64 i))] [some ⟨55, 1, 1, fun _ => [.lit (.slice none 0 0)]⟩, some ⟨73, 4, a.length + b.length, opCells (a ++ b)⟩, some ⟨73, 4, (uniq (a ++ b) i).length, opCells (uniq (a ++ b) i)⟩]) ⟨0, by omega, ?_⟩ (fun i hi => ?_)
 ·refine ent_ks [2, 5, 6] (by simp) (by simp) (by simp) (by simp) trivial ?_ ?_
  ·simp [go_sem]
  ·simp [go_sem]
   refine ⟨.inl fun i hi => ⟨?_, opClosed _ _⟩, .inl ⟨rfl, fun i hi => by simp [uniq] at hi⟩⟩
   rw [opCells_app]
   unfold joinF
   simp
 ·simp [go_sem]
  refine ⟨by omega, fun h1 => ?_, fun h1 => ?_⟩
  ·have hu := uniq_len (a ++ b) i
   refine vc_drawn [] (.q 0 <| .q 1 <| .q 2 <| .q 3 <| .q 4 <| .q 5 <| .q 6 <| .or 7 (.q 8 <| .done) (.nil)) (by kernel_rfl) ?_
   simp [go_sem, opCells_at]
   refine ⟨by omega, by omega, by omega, vcallV_pure (c_l1Has (a ++ b) i (by omega) (opAt (a ++ b) i)) ?_ ?_⟩
   ·simp [go_sem, POp.cells]
    exact argSl_sub (k := 1) rfl (by omega) (by omega) fun j hj => ⟨by rw [Nat.zero_add], opClosed _ _⟩
   ·simp [go_sem, opCells_at]
    refine ⟨fun e => ⟨h1, by omega, by omega, by omega, i + 1, by omega, by omega, ?_⟩, fun e => ⟨i + 1, by omega, by omega, ?_⟩⟩
    ·refine ent_ks [0, 1, 4] (by simp) (by simp) (by simp) (by simp) trivial ?_ ?_
     ·simp [go_sem]
      exact wrap_succ (by omega)
     ·have e2 : uniq (a ++ b) (i + 1) = uniq (a ++ b) i ++ [opAt (a ++ b) i] := by simp only [uniq, e]; rfl
      simp [go_sem, e2]
      refine ⟨.inl fun j _ => opClosed _ _, .inl fun j hj => ⟨?_, opClosed _ _⟩⟩
      rw [← opCells_one _ _ _ hj]
      unfold joinF
      split
      ·rfl
      ·have : j - (uniq (a ++ b) i).length = 0 := by omega
       rw [this]; rfl
    ·refine ent_ks [0, 1, 2] (by simp) (by simp) (by simp) (by simp) trivial ?_ ?_
     ·simp [go_sem]
      exact wrap_succ (by omega)
     ·have e2 : uniq (a ++ b) (i + 1) = uniq (a ++ b) i := by simp only [uniq, e]; rfl
      simp [go_sem, e2]
      exact ⟨.inl fun j _ => opClosed _ _, .inl fun j _ => opClosed _ _⟩
  ·have e : i = a.length + b.length := by omega
   subst e
   exact obsSame_one.mpr ⟨⟨73, 4, (union a b).length, opCells (union a b)⟩, ⟨rfl, rfl, rfl, fun j hj => ⟨rfl, rfl⟩⟩, rfl⟩
open Go.Maps (Keyed)
def i64 (n : Int) : Prop := -9223372036854775808 ≤ n ∧ n ≤ 9223372036854775807
def POp.rng (o : POp) : Prop := i64 o.kind ∧ i64 o.level ∧ i64 o.side
def opV (o : POp) : Value := .agg #[.string o.text, .int .i64 o.kind, .int .i64 o.level, .int .i64 o.side]
theorem opV_eq {a b : POp} : opV a = opV b ↔ opEq a b = true := by
 simp only [opV, opEq, ba_beq, int_beq, Value.agg.injEq, Array.mk.injEq, List.cons.injEq, Value.string.injEq, Value.int.injEq, true_and, and_true, Bool.and_eq_true, decide_eq_true_eq]
 exact ⟨fun ⟨h1, h2, h3, h4⟩ => ⟨⟨⟨h1, h2⟩, h3⟩, h4⟩, fun ⟨⟨⟨h1, h2⟩, h3⟩, h4⟩ => ⟨h1, h2, h3, h4⟩⟩
theorem rowOp : (73 : TypeId) < Tryz.prog.types.size := of_decide_eq_true (by kernel_rfl)
theorem co_op : Tryz.prog.cellsOf 73 = 4 := by kernel_rfl
theorem keyedOp : Keyed Tryz.prog 73 := Keyed.of_law (deep_law_laid laidOut (m := 2) (by omega) rowOp (by kernel_rfl) (by kernel_rfl))
theorem keyOp {o : POp} (h : o.wf) (hr : o.rng) : ∃ l, keyOf Tryz.prog 73 (opV o) = some l := by
 obtain ⟨z, k, lv, sd⟩ := o
 obtain ⟨h1, h2, h3⟩ := hr
 refine keyOf_struct Tryz.underlying73 (by kernel_rfl) co_op.symm (by kernel_rfl) size1 fun d => ?_
 simp only [List.mapM_cons, List.mapM_nil, co_string, co_int, List.drop_zero, List.take_succ_cons, List.take_zero, List.drop_succ_cons, keyLits_str Tryz.underlying9 h, keyLits_int Tryz.underlying3 h1, keyLits_int Tryz.underlying3 h2, keyLits_int Tryz.underlying3 h3]
 exact ⟨_, rfl⟩
noncomputable def addEs (es : List (Value × Value)) (o : POp) : List (Value × Value) := if (mget es (opV o)).isSome then es else mput es (opV o) (.int .i64 es.length)
theorem c_add (b : Nat) (es : List (Value × Value)) (o : POp) (ho : o.wf) (hr : o.rng) : VProc Tryz.prog 93 [.lit (.map (some b)), .agg o.cells] [] [(b, ⟨73, es⟩)] (fun av mem maps => av = .lit (.bool !(mget es (opV o)).isSome) ∧ mem = [] ∧ maps = [(b, ⟨73, addEs es o⟩)]) := by
 have hk := keyOp ho hr
 obtain ⟨z, kd, lv, sd⟩ := o
 simp only [POp.cells]
 refine vproc_start Tryz.func93 (by kernel_rfl) rfl (by simp [Tryz.ntmps93]) ?_; simp only [Tryz.ntmps93, Tryz.results93]; simp [go_sem]
 refine vlookK_use keyedOp hk _ zeroInt ?_
 have hf : Value.agg #[.string z, .int .i64 kd, .int .i64 lv, .int .i64 sd] = opV ⟨z, kd, lv, sd⟩ := rfl
 simp only [hf]
 cases hm : mget es (opV ⟨z, kd, lv, sd⟩) with
 | some v =>
  simp [go_sem]
  refine ⟨rfl, [], [], by simp, by simp, by simp [go_sem], by simp [go_sem], by simp [go_sem], ?_⟩
  simp [go_sem, addEs, hm]
 | none =>
  simp [go_sem]
  refine vmsetK_use keyedOp hk ?_
  simp only [hf]
  simp [go_sem]
  refine ⟨rfl, [], [], by simp, by simp, by simp [go_sem], by simp [go_sem], by simp [go_sem], ?_⟩
  simp [go_sem, addEs, hm]
def SetIs (l : List POp) (i : Nat) (es : List (Value × Value)) : Prop := (∀ j, j < i → (mget es (opV (opAt l j))).isSome = true) ∧ ∀ x v, mget es x = some v → ∃ j, j < i ∧ x = opV (opAt l j)
theorem set_has {l : List POp} {i : Nat} {es : List (Value × Value)} (h : SetIs l i es) : (mget es (opV (opAt l i))).isSome = opsHas l i (opAt l i) := by
 rw [Bool.eq_iff_iff]
 simp only [opsHas, List.any_eq_true, List.mem_range]
 constructor
 ·intro h0
  obtain ⟨v, hv⟩ := Option.isSome_iff_exists.1 h0
  obtain ⟨j, hj, e⟩ := h.2 _ v hv
  exact ⟨j, hj, opV_eq.1 e.symm⟩
 ·rintro ⟨j, hj, e⟩
  rw [← opV_eq.2 e]
  exact h.1 j hj
theorem set_step {l : List POp} {i : Nat} {es : List (Value × Value)} (h : SetIs l i es) : SetIs l (i + 1) (addEs es (opAt l i)) := by
 unfold addEs
 split
 ·rename_i h0
  refine ⟨fun j hj => ?_, fun x v hv => ?_⟩
  ·rcases Nat.lt_succ_iff_lt_or_eq.mp hj with hj | rfl
   ·exact h.1 j hj
   ·exact h0
  ·obtain ⟨j, hj, e⟩ := h.2 x v hv
   exact ⟨j, by omega, e⟩
 ·refine ⟨fun j hj => ?_, fun x v hv => ?_⟩
  ·rw [mget_mput]
   split
   ·rfl
   ·rename_i hne
    rcases Nat.lt_succ_iff_lt_or_eq.mp hj with hj | rfl
    ·exact h.1 j hj
    ·exact absurd rfl hne
  ·rw [mget_mput] at hv
   split at hv
   ·rename_i e
    exact ⟨i, by omega, e.symm⟩
   ·obtain ⟨j, hj, e⟩ := h.2 x v hv
    exact ⟨j, by omega, e⟩
def sel (a b : List POp) (q : Nat) : List POp := if q = 0 then a else b
def posQ (a b : List POp) (q : Nat) : Nat := if q = 0 then 0 else if q = 1 then a.length else a.length + b.length
theorem posQ_step (a b : List POp) (q : Nat) (h : q < 2) : posQ a b (q + 1) = posQ a b q + (sel a b q).length := by
 rcases (by omega : q = 0 ∨ q = 1) with rfl | rfl <;> simp [posQ, sel]
theorem opAt_sel (a b : List POp) (q i : Nat) (h : q < 2) (hi : i < (sel a b q).length) : opAt (a ++ b) (posQ a b q + i) = opAt (sel a b q) i := by
 rcases (by omega : q = 0 ∨ q = 1) with rfl | rfl
 ·simp only [posQ, sel, if_true] at hi ⊢
  rw [opAt_app, if_pos (by omega), Nat.zero_add]
 ·simp only [posQ, sel, if_true, show ((1 : Nat) = 0) = False by decide, if_false] at hi ⊢
  rw [opAt_app, if_neg (by omega), Nat.add_sub_cancel_left]
def opsRng (l : List POp) : Prop := ∀ i, i < l.length → (opAt l i).rng
theorem c_Union (a b : List POp) (h : a.length + b.length ≤ 10000000) (hwa : opsWf a) (hwb : opsWf b) (hra : opsRng a) (hrb : opsRng b) : VFun Tryz.prog 68 [.agg [.sl 4 a.length (opCells a)], .agg [.sl 4 b.length (opCells b)]] (fun av obs => av = .agg [.own 0] ∧ obs = [⟨73, 4, (union a b).length, opCells (union a b)⟩]) := by
 have cla : ∀ (i : Nat) (c : AV), i < a.length → c ∈ opCells a i → Closed c := fun i c _ h => opClosed a i c h
 have clb : ∀ (i : Nat) (c : AV), i < b.length → c ∈ opCells b i → Closed c := fun i c _ h => opClosed b i c h
 refine vfun_start Tryz.func68 (by kernel_rfl) rfl (by simp [Tryz.ntmps68]) ?_; simp only [Tryz.ntmps68, Tryz.results68]; simp [go_sem]
 refine fun bm => ?_
 have hL : (a ++ b).length = a.length + b.length := by simp
 have clS : ∀ q i (c : AV), c ∈ opCells (sel a b q) i → Closed c := fun q i c h => opClosed _ i c h
 refine vc_loopE (fun p : Nat × List (Value × Value) => p.1 ≤ 2 ∧ SetIs (a ++ b) (posQ a b p.1) p.2) (fun p => 2 - p.1)
  (fun p => ⟨[(4, .ptr 0 1 0 0), (5, .ptr 1 1 0 0), (6, .lit (.map (some bm))), (17, .own 2), (18, .lit (.int .i64 2)), (19, .lit (.int .i64 p.1))],
   [some ⟨55, 1, 1, fun _ => [.lit (.slice none 0 0)]⟩, some ⟨55, 1, 1, fun _ => [.own 3]⟩, some ⟨42, 1, 2, fun i => [.sl 4 (sel a b i).length (opCells (sel a b i))]⟩, some ⟨73, 4, (uniq (a ++ b) (posQ a b p.1)).length, opCells (uniq (a ++ b) (posQ a b p.1))⟩], [(bm, ⟨73, p.2⟩)], 0⟩) ⟨(0, []), ⟨by omega, by simp [posQ], by simp [mget]⟩, ?_⟩ (fun p hp => ?_)
 ·refine (Ent.adopt (j := 3) (c := 0) rfl rfl rfl 73 4 (by omega) (fun _ => [])).trans ?_
  refine ent_ks [2, 3, 4, 5] (by simp) (by simp) (by simp) (by simp) (by simp [go_sem]) ?_ ?_
  ·simp [go_sem]
  ·simp [go_sem]
   refine ⟨.inl fun i hi => ⟨?_, fun j c _ hc => clS i j c hc⟩, .inl ⟨rfl, fun i hi => by simp [posQ, uniq] at hi⟩⟩
   rcases (by omega : i = 0 ∨ i = 1) with rfl | rfl <;> rfl
 ·obtain ⟨q, es⟩ := p
  simp only at hp
  simp [go_sem]
  refine ⟨fun h1 => ?_, fun h1 => ?_⟩
  ·have hq : q < 2 := by omega
   have hsl : (sel a b q).length ≤ a.length + b.length := by
    unfold sel; split <;> omega
   have hpl : posQ a b q + (sel a b q).length ≤ a.length + b.length := by
    rcases (by omega : q = 0 ∨ q = 1) with rfl | rfl <;> simp [posQ, sel]
   refine ⟨h1, hq, by omega, ?_⟩
   refine vc_loopE (fun p : Nat × List (Value × Value) => p.1 ≤ (sel a b q).length ∧ SetIs (a ++ b) (posQ a b q + p.1) p.2) (fun p => (sel a b q).length - p.1)
    (fun p => ⟨[(4, .ptr 0 1 0 0), (5, .ptr 1 1 0 0), (6, .lit (.map (some bm))), (17, .own 2), (18, .lit (.int .i64 2)), (19, .lit (.int .i64 q)), (23, .sl 4 (sel a b q).length (opCells (sel a b q))), (24, .lit (.int .i64 (sel a b q).length)), (25, .lit (.int .i64 p.1))],
     [some ⟨55, 1, 1, fun _ => [.lit (.slice none 0 0)]⟩, some ⟨55, 1, 1, fun _ => [.own 3]⟩, some ⟨42, 1, 2, fun i => [.sl 4 (sel a b i).length (opCells (sel a b i))]⟩, some ⟨73, 4, (uniq (a ++ b) (posQ a b q + p.1)).length, opCells (uniq (a ++ b) (posQ a b q + p.1))⟩], [(bm, ⟨73, p.2⟩)], 0⟩) ⟨(0, es), ⟨by omega, by simpa using hp.2⟩, ?_⟩ (fun p hp2 => ?_)
   ·refine ent_ks [0, 1, 2, 3] (by simp) (by simp) (by simp) (by simp) (by simp [go_sem]) ?_ ?_
    ·simp [go_sem]
     exact fun i c _ hc => clS q i c hc
    ·simp [go_sem]
     refine ⟨fun i _ j c _ hc => clS i j c hc, .inl fun i _ => opClosed _ _⟩
   ·obtain ⟨i, es2⟩ := p
    simp only at hp2
    simp [go_sem, opCells_at]
    refine ⟨fun h2 => ⟨h2, ?_⟩, fun h2 => ?_⟩
    ·have he := opAt_sel a b q i hq h2
     have hw : (opAt (sel a b q) i).wf := by
      rcases (by omega : q = 0 ∨ q = 1) with rfl | rfl
      ·exact hwa i h2
      ·exact hwb i h2
     have hr : (opAt (sel a b q) i).rng := by
      rcases (by omega : q = 0 ∨ q = 1) with rfl | rfl
      ·exact hra i h2
      ·exact hrb i h2
     have hst := set_step hp2.2
     have hsh := set_has hp2.2
     rw [he] at hst hsh
     have hu := uniq_len (a ++ b) (posQ a b q + i)
     refine vcall_share [] (c_add bm es2 (opAt (sel a b q) i) hw hr) (by simp) ?_ ?_ ?_ ?_
     ·simp [go_sem, POp.cells]
     ·simp [go_sem]
     ·simp [go_sem]
     ·rintro av mem maps ⟨rfl, rfl, rfl⟩
      simp [go_sem]
      have hsi : SetIs (a ++ b) (posQ a b q + (i + 1)) (addEs es2 (opAt (sel a b q) i)) := hst
      refine ⟨fun hn => ⟨by omega, by omega, i + 1, _, ⟨by omega, hsi⟩, by omega, ?_⟩, fun hn => ⟨i + 1, _, ⟨by omega, hsi⟩, by omega, ?_⟩⟩
      ·have hh : opsHas (a ++ b) (posQ a b q + i) (opAt (sel a b q) i) = false := by rw [← hsh, hn]; rfl
       have e2 : uniq (a ++ b) (posQ a b q + (i + 1)) = uniq (a ++ b) (posQ a b q + i) ++ [opAt (sel a b q) i] := by
        show uniq (a ++ b) (posQ a b q + i + 1) = _
        simp only [uniq, he, hh]; rfl
       refine ent_ks [0, 1, 2, 6] (by simp) (by simp) (by simp) (by simp) (by simp [go_sem]) ?_ ?_
       ·simp [go_sem]
        exact ⟨fun i c _ hc => clS q i c hc, wrap_succ (by omega)⟩
       ·simp [go_sem, e2]
        refine ⟨fun i _ j c _ hc => clS i j c hc, .inl fun j hj => ⟨?_, opClosed _ _⟩⟩
        rw [← opCells_one _ _ _ hj]
        unfold joinF
        split
        ·rfl
        ·have : j - (uniq (a ++ b) (posQ a b q + i)).length = 0 := by omega
         rw [this]; rfl
      ·have hh : opsHas (a ++ b) (posQ a b q + i) (opAt (sel a b q) i) = true := by rw [← hsh, hn]
       have e2 : uniq (a ++ b) (posQ a b q + (i + 1)) = uniq (a ++ b) (posQ a b q + i) := by
        show uniq (a ++ b) (posQ a b q + i + 1) = _
        simp only [uniq, he, hh]; rfl
       refine ent_ks [0, 1, 2, 3] (by simp) (by simp) (by simp) (by simp) (by simp [go_sem]) ?_ ?_
       ·simp [go_sem]
        exact ⟨fun i c _ hc => clS q i c hc, wrap_succ (by omega)⟩
       ·simp [go_sem, e2]
        exact ⟨fun i _ j c _ hc => clS i j c hc, .inl fun j _ => opClosed _ _⟩
    ·have hi : i = (sel a b q).length := by omega
     have hps := posQ_step a b q hq
     subst hi
     refine ⟨q + 1, es2, ⟨by omega, by rw [hps]; exact hp2.2⟩, by omega, ?_⟩
     refine ent_ks [0, 1, 2, 3] (by simp) (by simp) (by simp) (by simp) (by simp [go_sem]) ?_ ?_
     ·simp [go_sem]
      exact wrap_succ (by omega)
     ·simp [go_sem, hps]
      exact ⟨fun i _ j c _ hc => clS i j c hc, .inl fun j _ => opClosed _ _⟩
  ·have hq : q = 2 := by omega
   subst hq
   have e3 : posQ a b 2 = a.length + b.length := rfl
   rw [e3]
   exact obsSame_one.mpr ⟨⟨73, 4, (union a b).length, opCells (union a b)⟩, ⟨rfl, rfl, rfl, fun j hj => ⟨rfl, rfl⟩⟩, rfl⟩
end Go.Proofs.YtadghlfkddkelaaGreatDoor.V
namespace Go.Proofs.YtadghlfkddkelaaGreatDoor.V
def scF (O : Nat → List POp) (U : Nat → List Nat) : Nat → Nat → List POp
 | 0, i => union (O i) []
 | f + 1, i => (U i).foldl (fun t u => union t (scF O U f u)) (union (O i) [])
theorem foldl_same {α β : Type} {f g : β → α → β} : ∀ {l : List α} {b : β}, (∀ b a, a ∈ l → f b a = g b a) → l.foldl f b = l.foldl g b
 | [], _, _ => rfl
 | a :: l, b, h => by
  rw [List.foldl_cons, List.foldl_cons, h b a (by simp)]
  exact foldl_same fun b a ha => h b a (List.mem_cons_of_mem _ ha)
theorem scF_stable {O : Nat → List POp} {U : Nat → List Nat} {rk : Nat → Nat} (h : ∀ i u, u ∈ U i → rk u < rk i) : ∀ (f g i : Nat), rk i ≤ f → rk i ≤ g → scF O U f i = scF O U g i
 | 0, 0, i, _, _ => rfl
 | 0, g + 1, i, hf, _ => by
  have : U i = [] := List.eq_nil_iff_forall_not_mem.2 fun u hu => by have := h i u hu; omega
  show _ = (U i).foldl _ _
  rw [this]; rfl
 | f + 1, 0, i, _, hg => by
  have : U i = [] := List.eq_nil_iff_forall_not_mem.2 fun u hu => by have := h i u hu; omega
  show (U i).foldl _ _ = _
  rw [this]; rfl
 | f + 1, g + 1, i, hf, hg => foldl_same fun t u hu => by
  have := h i u hu
  rw [scF_stable h f g u (by omega) (by omega)]
def rdD (U : Nat → List Nat) (d : Nat → Bool) : Nat → Nat → Bool
 | 0 => d
 | i + 1 => fun a => if a = i then rdD U d i i || (U i).all (rdD U d i) else rdD U d i a
def rnD (U : Nat → List Nat) (n : Nat) : Nat → Nat → Bool
 | 0 => fun _ => false
 | r + 1 => rdD U (rnD U n r) n
theorem rdD_mono {U : Nat → List Nat} {d : Nat → Bool} {a : Nat} (h : d a = true) : ∀ i, rdD U d i a = true
 | 0 => h
 | i + 1 => by
  have ih := rdD_mono (U := U) h i
  show (if a = i then _ else _) = true
  split
  ·rename_i e; subst e; rw [ih]; rfl
  ·exact ih
theorem rdD_all {U : Nat → List Nat} {d : Nat → Bool} {a : Nat} (h : ∀ u, u ∈ U a → d u = true) : ∀ i, a < i → rdD U d i a = true
 | 0, hi => by omega
 | i + 1, hi => by
  show (if a = i then _ else _) = true
  split
  ·rename_i e; subst e
   have : (U a).all (rdD U d a) = true := List.all_eq_true.2 fun u hu => rdD_mono (h u hu) a
   rw [this, Bool.or_true]
  ·exact rdD_all h i (by omega)
theorem rnD_done {U : Nat → List Nat} {n : Nat} {rk : Nat → Nat} (h : ∀ i u, i < n → u ∈ U i → u < n ∧ rk u < rk i) : ∀ (r i : Nat), i < n → rk i < r → rnD U n r i = true
 | 0, i, _, hr => by omega
 | r + 1, i, hi, hr => rdD_all (fun u hu => by
  obtain ⟨h1, h2⟩ := h i u hi hu
  exact rnD_done h r u h1 (by omega)) n hi
theorem rank_lt_n {R : Nat → Nat → Bool} {n i : Nat} (hi : i < n) (hc : warR R n i i = false) : rankR R n i < n := by
 have h := count_lt (p := fun j => warR R n i j) (q := fun _ => true) (l := List.range n) (fun _ _ _ => rfl) ⟨i, List.mem_range.2 hi, rfl, hc⟩
 have e : (List.range n).countP (fun _ => true) = n := by
  rw [List.countP_eq_length.2 fun _ _ => rfl, List.length_range]
 unfold rankR
 omega
end Go.Proofs.YtadghlfkddkelaaGreatDoor.V
namespace Go.Proofs.YtadghlfkddkelaaGreatDoor.V
open Go.RowKit
section
variable {P : Program} {n : Nat} {base : Fr} {w0 w : World} {hd : Nat → Value} {s : VS} {a : Act}
def startG (m : Nat) (args : List AV) (N : Nat) (vs0 : Nat → Value) (as0 : Nat → AV) (mem0 : List (Option Ob)) (maps0 : List (Nat × Mp)) : VS :=
 ⟨(m, .fam N vs0 as0) :: (List.range args.length).map fun j => (j, args.getD j .undef), mem0, maps0, mem0.length⟩
theorem startP_rel {fn : Func} {args : List AV} {mem0 : List (Option Ob)} {maps0 : List (Nat × Mp)} (hl : args.length ≤ fn.ntmps) {w : World} {vs : List Value} {hd0 : Nat → Value} (hlen : LenP P w (Sh w hd0 mem0 maps0) args vs)
  (hrep : ∀ (j : Nat) a u, args[j]? = some a → vs[j]? = some u → Rep w (okOf mem0 hd0) hd0 mem0.length a u) (hm : MemRel (fun _ => True) w hd0 mem0) (hmp : MapRel P (fun _ => True) w maps0) (htl : TailNot hd0 (Sh w hd0 mem0 maps0)) :
  RelH fn.ntmps ⟨P, Sh w hd0 mem0 maps0, hd0, []⟩ w hd0 (startP args mem0 maps0) { tmps := vs.toArray ++ Array.replicate (fn.ntmps - vs.toArray.size) undef, defers := [] } w := by
 obtain ⟨hlen, hgw, hlo⟩ := hlen
 have hst : ∀ t, lk (startP args mem0 maps0).tmps t = args.getD t .undef := by
  intro t
  have : ∀ (l : List Nat) (t : Nat), lk (l.map fun j => (j, args.getD j .undef)) t = if t ∈ l then args.getD t .undef else .undef := by
   intro l t
   induction l with
   | nil => rfl
   | cons x l ih =>
    simp only [List.map_cons, lk]
    by_cases e : x = t
    ·subst e; simp
    ·rw [if_neg e, ih]
     have e' : ¬ t = x := fun h => e h.symm
     simp [e']
  rw [startP, this]
  by_cases ht : t < args.length
  ·rw [if_pos (by simpa using ht)]
  ·rw [if_neg (by simpa using ht), List.getD_eq_getElem?_getD, List.getElem?_eq_none (by omega)]; rfl
 refine ⟨rfl, by simp; omega, Bel.refl _ _, ⟨fun b hb => .inl hb, hgw, hlo⟩, Nat.le_refl _, ⟨fun k hk => rfl, TailEq.refl _, htl⟩, fun b mp hb => ?_, fun t => ?_, ⟨fun k ob hk b hb => .inr (.inl ⟨k, ob, hk, hb⟩), hm.obs, hm.hds, hm.apart⟩⟩
 ·obtain ⟨_, es, clock, q1, q2⟩ := hmp b mp hb
  exact ⟨.inr (.inr (by have : lkm maps0 b = some mp := hb; rw [this]; rfl)), es, clock, q1, q2⟩
 ·rw [hst]
  by_cases ht : t < args.length
  ·have h1 : (vs.toArray ++ Array.replicate (fn.ntmps - vs.toArray.size) undef).getD t undef = vs[t]'(by omega) := by
    rw [Array.getD_eq_getD_getElem?, Array.getElem?_append_left (by simp; omega)]
    simp [show t < vs.length by omega]
   rw [h1, List.getD_eq_getElem?_getD, List.getElem?_eq_getElem ht]
   exact hrep t _ _ (List.getElem?_eq_getElem ht) (List.getElem?_eq_getElem (by omega))
  ·rw [List.getD_eq_getElem?_getD, List.getElem?_eq_none (by omega)]; exact .undef _
theorem vprocG_start {f : FuncId} {fn : Func} {c : Code} {args : List AV} {N : Nat} {vs0 : Nat → Value} {as0 : Nat → AV} {mem0 : List (Option Ob)} {maps0 : List (Nat × Mp)} {R : AV → List (Option Ob) → List (Nat × Mp) → Prop} (hf : P.funcs[f]? = some fn) (hn : (fn.name == "runtime.NumGoroutine") = false) (hb : fn.body = some c) (hl : args.length ≤ fn.ntmps)
  (h : vc P fn.ntmps c (startG fn.ntmps args N vs0 as0 mem0 maps0) (KfinP P mem0.length maps0 fn.results.toList R)) : VProcG P f args N vs0 as0 mem0 maps0 R := by
 refine ⟨⟨fn, hf, hn, by rw [hb]; rfl⟩, fun w vs hd0 hlen hrep hfam hm hmp htl => ?_⟩
 refine calls_of_wp hf hb ?_
 have hrel := (startP_rel (P := P) hl hlen hrep hm hmp htl).tell fn.ntmps (N := N) (vs := vs0) («as» := as0) hfam
 refine vc_sound rfl c hrel h fun x hd' s' a' w' h' hk => ?_
 cases x with
 | exit id => exact hk.elim
 | normal =>
  obtain ⟨v, h1, h2⟩ := vretP_sound h' hk.1 hk.2
  exact ⟨h'.defers, v, h1, v, rfl, h2⟩
 | ret =>
  obtain ⟨v, h1, h2⟩ := vretP_sound h' hk.1 hk.2
  exact ⟨h'.defers, v, h1, v, rfl, h2⟩
def vtellR (P : Program) (maps0 : List (Nat × Mp)) (rs : List ResultVar) (R : AV → List (Option Ob) → List (Nat × Mp) → Nat → (Nat → Value) → (Nat → AV) → Prop) (s : VS) : AV → Prop
 | .fam N vs as' => (∀ i, i < N → Closed (as' i)) ∧ vretP P maps0 rs (fun av mem maps => R av mem maps N vs as') s
 | _ => False
@[go_sem] theorem vtellR_f {maps0 : List (Nat × Mp)} {rs : List ResultVar} {R : AV → List (Option Ob) → List (Nat × Mp) → Nat → (Nat → Value) → (Nat → AV) → Prop} {N : Nat} {vs : Nat → Value} {as' : Nat → AV} : vtellR P maps0 rs R s (.fam N vs as') = ((∀ i, i < N → Closed (as' i)) ∧ vretP P maps0 rs (fun av mem maps => R av mem maps N vs as') s) := _root_.id rfl
def KfinGT (P : Program) (m g : Nat) (maps0 : List (Nat × Mp)) (rs : List ResultVar) (R : AV → List (Option Ob) → List (Nat × Mp) → Nat → (Nat → Value) → (Nat → AV) → Prop) (e : VX) (s : VS) : Prop := match e with
 | .exit _ => False
 | _ => s.fix = m ∧ vtellR P maps0 rs R s (lk s.tmps g)
@[go_sem] theorem KfinGT_r {m g : Nat} {maps0 : List (Nat × Mp)} {rs : List ResultVar} {R : AV → List (Option Ob) → List (Nat × Mp) → Nat → (Nat → Value) → (Nat → AV) → Prop} : KfinGT P m g maps0 rs R .ret s = (s.fix = m ∧ vtellR P maps0 rs R s (lk s.tmps g)) := _root_.id rfl
theorem vprocGT_start {f : FuncId} {fn : Func} {c : Code} {args : List AV} {N : Nat} {vs0 : Nat → Value} {as0 : Nat → AV} {mem0 : List (Option Ob)} {maps0 : List (Nat × Mp)} {R : AV → List (Option Ob) → List (Nat × Mp) → Nat → (Nat → Value) → (Nat → AV) → Prop} (hf : P.funcs[f]? = some fn) (hn : (fn.name == "runtime.NumGoroutine") = false) (hb : fn.body = some c) (hl : args.length ≤ fn.ntmps)
  (h : vc P fn.ntmps c (startG fn.ntmps args N vs0 as0 mem0 maps0) (KfinGT P mem0.length fn.ntmps maps0 fn.results.toList R)) : VProcGT P f args N vs0 as0 mem0 maps0 R := by
 refine ⟨⟨fn, hf, hn, by rw [hb]; rfl⟩, fun w vs hd0 hlen hrep hfam hm hmp htl => ?_⟩
 refine calls_of_wp hf hb ?_
 have hrel := (startP_rel (P := P) hl hlen hrep hm hmp htl).tell fn.ntmps (N := N) (vs := vs0) («as» := as0) hfam
 refine vc_sound rfl c hrel h fun x hd' s' a' w' h' hk => ?_
 have fin : s'.fix = mem0.length ∧ vtellR P maps0 fn.results.toList R s' (lk s'.tmps fn.ntmps) → ∃ v, (results fn a'.tmps).run P w' = .ok v w' ∧ Bel (Sh w hd0 mem0 maps0) w w' ∧ ∃ hd av mem maps N vs1 as1, (R av mem maps N vs1 as1 ∧ ∀ i, i < N → Closed (as1 i) ∧ Rep w' (okOf mem hd) hd mem.length (as1 i) (vs1 i)) ∧ PostOk mem0 maps0 av mem maps ∧
   ((∀ k, k < mem0.length → hd k = hd0 k) ∧ TailEq hd0 hd) ∧ MemRel (Sh w hd0 mem0 maps0) w' hd mem ∧ MapRel P (Sh w hd0 mem0 maps0) w' maps ∧ Rep w' (okOf mem hd) hd mem.length av v := fun hk => by
  obtain ⟨hfix, hk⟩ := hk
  have ht := h'.tm fn.ntmps
  generalize a'.tmps.getD fn.ntmps undef = u0 at ht
  generalize lk s'.tmps fn.ntmps = x at hk ht
  match x, hk with
  | .fam N1 vs1 as1, ⟨hcl, hk⟩ =>
   obtain ⟨v, h1, h2, hd2, av, mem, maps, h3, h4, h5, h6, h7, h8, h9⟩ := vretP_soundX h' hfix hk
   cases ht with
   | fam _ _ _ _ ht => exact ⟨v, h1, h2, hd2, av, mem, maps, N1, vs1, as1, ⟨h3, fun i hi => ⟨hcl i hi, Rep.closed (hcl i hi) (fun ad u q1 q2 => ⟨q2, h9 _ q1⟩) (ht i hi)⟩⟩, h4, h5, h6, h7, h8⟩
 cases x with
 | exit id => exact hk.elim
 | normal =>
  obtain ⟨v, h1, h2⟩ := fin hk
  exact ⟨h'.defers, v, h1, v, rfl, h2⟩
 | ret =>
  obtain ⟨v, h1, h2⟩ := fin hk
  exact ⟨h'.defers, v, h1, v, rfl, h2⟩
def QD (pv : Value) (base : Fr) (w0 : World) (M0 : List (Nat × Mp)) : Exit → Act → World → Prop := fun e a w => e = .panic [{ v := pv, recovered := false }] ∧ a.defers = base.ds ∧ Bel base.may w0 w ∧ MapRel base.P base.may w M0
theorem QD.free {pv : Value} {M0 : List (Nat × Mp)} {base : Fr} {w0 : World} : QFree (QD pv base w0 M0) := fun _ _ d _ _ h => by cases d <;> exact h
end
section
variable {P : Program} {n : Nat} {base : Fr} {w0 : World}
end
section
variable {P : Program} {n : Nat} {s : VS} {pv : Value} {M0 : List (Nat × Mp)} {all r : List Oper} {d : Option Tmp} {op : Op} {ty : TypeId} {ps : String} {af : Array Edge} {g : Option (Nat × Bool)}
theorem vcall_gt {f : FuncId} {avs args' : List AV} {k : AV → VS → Prop} {N : Nat} {vs0 : Nat → Value} {as0 as1 : Nat → AV} {mem0 : List (Option Ob)} {maps0 : List (Nat × Mp)} {R : AV → List (Option Ob) → List (Nat × Mp) → Nat → (Nat → Value) → (Nat → AV) → Prop} (ks : List Nat) (t t' : Nat) (h : VProcGT P f args' N vs0 as1 mem0 maps0 R) (hnd : ks.Nodup) (hg : lk s.tmps t = .fam N vs0 as0) (hg2 : ∀ i, i < N → Rn (fun j => ks.getD j 0) ks.length (as0 i) (as1 i)) (ha : CellsRn (fun j => ks.getD j 0) ks.length avs args')
  (hs : ShMem (fun j => ks.getD j 0) ks.length s.mem ks mem0) (hm : MapsLe s.maps maps0)
  (hk : ∀ av mem' maps' N' vs' as', R av mem' maps' N' vs' as' → k (ren (backN ks s.mem.length) av) { s with tmps := (t', .fam N' vs' as') :: s.tmps, mem := mergeM s.mem ks mem', maps := maps' ++ s.maps }) : vcallP P f avs s k :=
 .inr (.inr (.inr (.inr (.inr ⟨ks, args', mem0, maps0, t, N, vs0, as0, as1, t', hnd, ha, ⟨hg, hg2⟩, hs, mapsLe_get hm, h.mono fun av mem' maps' N vs as' r => hk av mem' maps' N vs as' r⟩))))
section
variable {ι : Type} {I : ι → Prop} {μ : ι → Nat} {S : ι → VS} {i : ι}
end
end
attribute [go_sem] startG
end Go.Proofs.YtadghlfkddkelaaGreatDoor.V
namespace Go.Proofs.YtadghlfkddkelaaGreatDoor.V
open Go.RowKit
open Go.ChangeMaps (setBlock)
section
variable {P : Program} {n : Nat} {base : Fr} {w0 w : World} {hd : Nat → Value} {s : VS} {a : Act}
theorem free_ok (mem : List (Option Ob)) (hd : Nat → Value) (k b : Nat) (h : okOf mem hd b) : okOf (mem.set k none) hd b := by
 refine ⟨fun q ob hq => h.1 q ob ?_, h.2⟩
 by_cases e : k = q
 ·subst e
  rw [List.getElem?_set_self'] at hq
  cases hm : mem[k]? <;> rw [hm] at hq <;> simp at hq
 ·rwa [List.getElem?_set_ne e] at hq
theorem free_get {mem : List (Option Ob)} {k q : Nat} {ob : Ob} (h : (mem.set k none)[q]? = some (some ob)) : mem[q]? = some (some ob) ∧ q ≠ k := by
 by_cases e : k = q
 ·subst e
  rw [List.getElem?_set_self'] at h
  cases hm : mem[k]? <;> rw [hm] at h <;> simp at h
 ·rw [List.getElem?_set_ne e] at h
  exact ⟨h, fun e' => e e'.symm⟩
theorem RelH.free (h : RelH n base w0 hd s a w) (k : Nat) : RelH n base w0 hd { s with mem := s.mem.set k none } a w := by
 have hc : ∀ ad u, okOf s.mem hd ad.block → w.cell? ad = some u → w.cell? ad = some u ∧ okOf (s.mem.set k none) hd ad.block := fun ad u ho hcell => ⟨hcell, free_ok _ _ _ _ ho⟩
 refine ⟨h.defers, h.size, h.below, h.le, by simpa using h.fixl, h.fix, h.mp, fun t => (h.tm t).mono hc (fun _ _ => rfl) (by simp), ⟨fun q ob hq => h.me.alw q ob (free_get hq).1, fun q ob hq => ?_, fun q hq => h.me.hds q (by simpa using hq), fun q q' ob ob' hq hq' => h.me.apart q q' ob ob' (free_get hq).1 (free_get hq').1⟩⟩
 obtain ⟨hs, vals, ho, hr⟩ := h.me.obs q ob (free_get hq).1
 refine ⟨hs, vals, ho, fun i hi => ⟨(hr i hi).1, fun j av hj => ?_⟩⟩
 obtain ⟨u, h1, h2, h3⟩ := (hr i hi).2 j av hj
 exact ⟨u, h1, h2, h3.mono hc (fun _ _ => rfl) (by simp)⟩
theorem RelH.freed (h : RelH n base w0 hd s a w) {k : Nat} {ob : Ob} (hk : s.mem[k]? = some (some ob)) (hn : 0 < ob.n) {v : Value} (hv : Rep w (okOf s.mem hd) hd s.mem.length (.ptr k ob.sz 0 0) v) : Rep w (okOf (s.mem.set k none) hd) hd (s.mem.set k none).length (.bptr (ob.f 0)) v := by
 have hc : ∀ ad u, okOf s.mem hd ad.block → w.cell? ad = some u → w.cell? ad = some u ∧ okOf (s.mem.set k none) hd ad.block := fun ad u ho hcell => ⟨hcell, free_ok _ _ _ _ ho⟩
 cases hv with
 | ptr _ _ _ _ b n' c' hlt hb =>
  have hcells := h.cells_ hk hb hn
  obtain ⟨hs, vals, ho, hr⟩ := h.me.obs k ob hk
  have hlen := (hr 0 hn).1
  have hown : (hd k).ownBlock = some b := by rw [hb]; rfl
  refine .bptr (ob.f 0) _ (fun j => (w.cell? ((⟨b, 0 * ob.sz, none⟩ : Addr).add j)).getD undef) (fun e => by rw [e] at hlen; simp at hlen; omega) ⟨fun q ob' hq e => ?_, h.ownTail (h.me.alw k ob hk b hown)⟩ (fun j hj => ?_) fun j av hj => ?_
  ·obtain ⟨hq1, hq2⟩ := free_get hq
   rcases h.me.apart q k ob' ob hq1 hk hq2 with e' | e'
   ·rw [e] at e'; cases e'
   ·exact e' (by rw [e, hown])
  ·obtain ⟨u, h1, _⟩ := hcells j _ (List.getElem?_eq_getElem hj)
   show w.cell? ((⟨b, 0 * ob.sz + 0, none⟩ : Addr).add j) = _
   rw [Nat.add_zero, h1]; rfl
  ·obtain ⟨u, h1, h2⟩ := hcells j av hj
   rw [h1]
   exact h2.mono hc (fun _ _ => rfl) (by simp)
end
end Go.Proofs.YtadghlfkddkelaaGreatDoor.V
namespace Go.Proofs.YtadghlfkddkelaaGreatDoor.V
open Go.RowKit
section
variable {P : Program} {n : Nat} {base : Fr} {w0 w : World} {hd : Nat → Value} {s : VS} {a : Act}
theorem lk_map {ts : List Nat} {x : AV} {r : List (Nat × AV)} {u : Nat} : lk (ts.map (fun t => (t, x)) ++ r) u = if u ∈ ts then x else lk r u := by
 induction ts with
 | nil => simp
 | cons t ts ih =>
  simp only [List.map_cons, List.cons_append, lk]
  by_cases e : t = u
  ·subst e; simp
  ·rw [if_neg e, ih]
   have e' : ¬ u = t := fun h => e h.symm
   simp [e']
theorem RelH.rowSl (h : RelH n base w0 hd s a w) {k : Nat} {ob : Ob} (hk : s.mem[k]? = some (some ob)) (hc : ∀ i, i < ob.n → ∀ c, c ∈ ob.f i → Closed c) : Rep w (okOf (s.mem.set k none) hd) hd (s.mem.set k none).length (.sl ob.sz ob.n ob.f) (hd k) := by
 obtain ⟨hs, vals, ho, hr⟩ := h.me.obs k ob hk
 have hok : ∀ ad u, okOf s.mem hd ad.block → w.cell? ad = some u → w.cell? ad = some u ∧ okOf (s.mem.set k none) hd ad.block := fun ad u ho hcell => ⟨hcell, free_ok _ _ _ _ ho⟩
 rcases ho.2 with ⟨e, h0⟩ | ⟨g, cap, cur, e, h3, h1, h2, h4⟩
 ·rw [e, show Value.slice none 0 0 = Value.slice none ob.n 0 by rw [h0]]
  exact .sl _ _ _ none 0 (fun _ _ => undef) (by omega) (by omega) hs (fun i hi => (hr i hi).1) (fun hp => by omega) (fun i j av hi => by omega)
 ·have hcells := fun i hi => h.cells_ hk e (i := i) hi
  have hown : (hd k).ownBlock = some g := by rw [e]; rfl
  rw [e]
  refine .sl _ _ _ _ _ (fun i j => (w.cell? ((⟨g, i * ob.sz, none⟩ : Addr).add j)).getD undef) (by omega) (by simp only [maxLen] at h2; omega) hs (fun i hi => (hr i hi).1) (fun hp => ⟨_, rfl, ⟨fun q ob' hq e' => ?_, h.ownTail (h.me.alw k ob hk g hown)⟩, fun i j hi hj => ?_⟩) fun i j av hi hj => ?_
  ·obtain ⟨hq1, hq2⟩ := free_get hq
   rcases h.me.apart q k ob' ob hq1 hk hq2 with e2 | e2
   ·rw [e'] at e2; cases e2
   ·exact e2 (by rw [e', hown])
  ·obtain ⟨u, h1, _⟩ := hcells i hi j _ (List.getElem?_eq_getElem (by rw [(hr i hi).1]; exact hj))
   have e3 : ((⟨g, 0, none⟩ : Addr).add (i * ob.sz + j)) = (⟨g, i * ob.sz, none⟩ : Addr).add j := by
    by_cases hj0 : j = 0
    ·subst hj0
     by_cases hi0 : i * ob.sz = 0
     ·simp [Addr.add, hi0]
     ·simp only [Addr.add, Nat.add_zero]; rw [if_neg hi0]; simp
    ·have hne : ¬ (i * ob.sz + j = 0) := by omega
     simp only [Addr.add]; rw [if_neg hne, if_neg hj0]; simp
   rw [e3, h1]; rfl
  ·obtain ⟨u, h1, h2⟩ := hcells i hi j av hj
   simp only [h1]
   exact Rep.closed (hc i hi av (List.mem_of_getElem? hj)) (fun ad u' g1 g2 => ⟨g2, free_ok _ _ _ _ g1⟩) h2
end
theorem Ent.give {s : VS} (ts : List Nat) (k : Nat) {ob : Ob} (hk : s.mem[k]? = some (some ob)) (hc : ∀ i, i < ob.n → ∀ c, c ∈ ob.f i → Closed c) (ht : ∀ t, t ∈ ts → lk s.tmps t = .own k) :
  Ent s { s with tmps := ts.map (fun t => (t, .sl ob.sz ob.n ob.f)) ++ s.tmps, mem := s.mem.set k none } := by
 intro n base w0 hd a w h
 have hf := h.free k
 have hr := h.rowSl hk hc
 refine ⟨hd, hf.defers, hf.size, hf.below, hf.le, hf.fixl, hf.fix, hf.mp, fun u => ?_, hf.me⟩
 simp only [lk_map]
 split
 ·rename_i hu
  have := h.tm u
  rw [ht u hu] at this
  generalize a.tmps.getD u undef = v at this
  cases this
  exact hr
 ·exact hf.tm u
end Go.Proofs.YtadghlfkddkelaaGreatDoor.V
namespace Go.Proofs.YtadghlfkddkelaaGreatDoor.V
open Go.RowKit
theorem Ent.giveIn {s : VS} (j k c : Nat) {ob oj : Ob} (hk : s.mem[k]? = some (some ob)) (hcl : ∀ i, i < ob.n → ∀ c, c ∈ ob.f i → Closed c) (hj : s.mem[j]? = some (some oj)) (hjk : j ≠ k) (hc : ∀ i, i < oj.n → (oj.f i)[c]? = some (.own k)) :
  Ent s { s with mem := (s.mem.set k none).set j (some { oj with f := fun i => (oj.f i).set c (.sl ob.sz ob.n ob.f) }) } := by
 intro n base w0 hd a w h
 have hf := h.free k
 have hr := h.rowSl hk hcl
 have hj' : (s.mem.set k none)[j]? = some (some oj) := by rw [List.getElem?_set_ne (fun e => hjk e.symm)]; exact hj
 refine ⟨hd, hf.recell (s := { s with mem := s.mem.set k none }) hj' rfl rfl rfl fun i hi => ⟨by simp, fun q av av' u h1 h2 h3 => ?_⟩⟩
 simp only at h2
 rw [List.getElem?_set] at h2
 by_cases e : c = q
 ·subst e
  rw [if_pos rfl] at h2
  split at h2
  ·rw [hc i hi] at h1
   cases h1; cases h2
   cases h3
   exact hr
  ·cases h2
 ·rw [if_neg e, h1] at h2
  cases h2; exact h3
theorem Ent.giveAt {s : VS} (j k i0 c : Nat) {ob oj : Ob} (hk : s.mem[k]? = some (some ob)) (hcl : ∀ i, i < ob.n → ∀ c, c ∈ ob.f i → Closed c) (hj : s.mem[j]? = some (some oj)) (hjk : j ≠ k) (hc : (oj.f i0)[c]? = some (.own k)) :
  Ent s { s with mem := (s.mem.set k none).set j (some { oj with f := fun i => if i = i0 then (oj.f i).set c (.sl ob.sz ob.n ob.f) else oj.f i }) } := by
 intro n base w0 hd a w h
 have hf := h.free k
 have hr := h.rowSl hk hcl
 have hj' : (s.mem.set k none)[j]? = some (some oj) := by rw [List.getElem?_set_ne (fun e => hjk e.symm)]; exact hj
 refine ⟨hd, hf.recell (s := { s with mem := s.mem.set k none }) hj' rfl rfl rfl fun i hi => ⟨by simp only; split <;> simp, fun q av av' u h1 h2 h3 => ?_⟩⟩
 simp only at h2
 by_cases ei : i = i0
 ·subst ei
  rw [if_pos rfl, List.getElem?_set] at h2
  by_cases e : c = q
  ·subst e
   rw [if_pos rfl] at h2
   split at h2
   ·rw [hc] at h1
    cases h1; cases h2
    cases h3
    exact hr
   ·cases h2
  ·rw [if_neg e, h1] at h2
   cases h2; exact h3
 ·rw [if_neg ei, h1] at h2
  cases h2; exact h3
theorem outAt_all {idx : Nat → Nat} {ks : List Nat} {ob : Ob} (h : ∀ i, (ob.f i).all isLit = true) : OutAt idx ks ob (some (some ob)) = True := eq_true (by
 obtain ⟨ty, sz, n, f⟩ := ob
 exact outAt_lits (fun _ _ => rfl) (fun i _ => h i))
def txAt (ws : List ByteArray) (i : Nat) : ByteArray := ws.getD i ByteArray.empty
def txCells (ws : List ByteArray) (i : Nat) : List AV := [.lit (.string (txAt ws i))]
theorem txCells_at (ws : List ByteArray) (i : Nat) : txCells ws i = [.lit (.string (txAt ws i))] := rfl
theorem txClosed (l : List ByteArray) (i : Nat) (c : AV) (h : c ∈ txCells l i) : Closed c := by
 simp [txCells] at h; subst h; exact .lit _
theorem txLit (l : List ByteArray) (i : Nat) : (txCells l i).all isLit = true := rfl
@[go_sem] theorem txCells_ren (f : Nat → Nat) (l : List ByteArray) (i : Nat) : (txCells l i).map (ren1 f) = txCells l i := rfl
@[go_sem] theorem txCells_one (l : List ByteArray) (i : Nat) : (txCells l i).all oneAV = true := rfl
def txRow (ws : List ByteArray) : Option Ob := some ⟨9, 1, ws.length, txCells ws⟩
def RowIs (f : Nat → List AV) (ws : List ByteArray) : Prop := ∀ i, i < ws.length → f i = txCells ws i
theorem RowIs.rfl {ws : List ByteArray} : RowIs (txCells ws) ws := fun _ _ => _root_.rfl
theorem RowIs.one {z : ByteArray} : RowIs (fun i => [[AV.lit (.string z)]][i]?.getD []) [z] := fun i hi => by
 obtain rfl : i = 0 := by simpa using hi
 exact _root_.rfl
theorem RowIs.join {n : Nat} {f g : Nat → List AV} {a b : List ByteArray} (hf : RowIs f a) (hg : RowIs g b) (hn : n = a.length) : RowIs (joinF n f g) (a ++ b) := fun i hi => by
 subst hn
 unfold joinF txCells txAt
 by_cases h : i < a.length
 ·rw [if_pos h, hf i h, List.getD_eq_getElem?_getD, List.getElem?_append_left h]
  simp [txCells, txAt]
 ·simp only [List.length_append] at hi
  rw [if_neg h, hg _ (by omega), List.getD_eq_getElem?_getD, List.getElem?_append_right (by omega)]
  simp [txCells, txAt]
theorem tx_same {ty n : Nat} {f : Nat → List AV} {ws ws' : List ByteArray} (h : RowIs f ws) (e : ws = ws') (hn : n = ws'.length) : ObsSame [⟨ty, 1, n, f⟩] [⟨ty, 1, ws'.length, txCells ws'⟩] := by
 subst e; subst hn
 exact obsSame_one.mpr ⟨⟨ty, 1, ws.length, txCells ws⟩, ⟨rfl, rfl, rfl, fun j hj => ⟨h j hj, txLit _ j⟩⟩, rfl⟩
theorem tx_new {g : Nat → Nat} {m : Nat} (T : List ByteArray) (w : ByteArray) : (∀ i, i < T.length + 1 → CellsRn g m (joinF T.length (txCells T) (fun i => [[AV.lit (.string w)]][i]?.getD []) i) (txCells (T ++ [w]) i)) = True := eq_true fun i hi => by
 have : joinF T.length (txCells T) (fun i => [[AV.lit (.string w)]][i]?.getD []) i = txCells (T ++ [w]) i := by
  unfold joinF txCells txAt
  by_cases h : i < T.length
  ·rw [if_pos h, List.getD_eq_getElem?_getD, List.getD_eq_getElem?_getD, List.getElem?_append_left h]
  ·have : i = T.length := by omega
   subst this
   rw [if_neg (by omega), List.getD_eq_getElem?_getD, List.getElem?_append_right (by omega)]
   simp
 rw [this]
 exact cellsRn_lits (txLit _ i)
end Go.Proofs.YtadghlfkddkelaaGreatDoor.V
namespace Go.Proofs.YtadghlfkddkelaaGreatDoor.V
open Go.RowKit
theorem K5 : (∀ t : List ByteArray, txRow t = some ⟨9, 1, t.length, txCells t⟩) ∧ (∀ l i c, (c ∈ opCells l i → Closed c) = True) ∧ (∀ l i c, (c ∈ txCells l i → Closed c) = True) ∧
  (∀ g m l i, CellsRn g m (opCells l i) (opCells l i) = True) ∧ (∀ g m l i, CellsRn g m (txCells l i) (txCells l i) = True) ∧
  (∀ (g : Nat → Nat) ks ty n l, OutAt g ks ⟨ty, 4, n, opCells l⟩ (some (some ⟨ty, 4, n, opCells l⟩)) = True) ∧ (∀ (g : Nat → Nat) ks ty n l, OutAt g ks ⟨ty, 1, n, txCells l⟩ (some (some ⟨ty, 1, n, txCells l⟩)) = True) :=
 ⟨fun _ => rfl, fun _ _ _ => eq_true (opClosed _ _ _), fun _ _ _ => eq_true (txClosed _ _ _),
  fun _ _ _ i => eq_true (cellsRn_lits (opLit _ i)), fun _ _ _ i => eq_true (cellsRn_lits (txLit _ i)),
  fun _ _ _ _ _ => outAt_all fun i => opLit _ i, fun _ _ _ _ _ => outAt_all fun i => txLit _ i⟩
section
variable {P : Program} {s : VS}
theorem uS {f : FuncId} {avs args' : List AV} {k : AV → VS → Prop} {mem0 : List (Option Ob)} {maps0 : List (Nat × Mp)} {R : AV → List (Option Ob) → List (Nat × Mp) → Prop} (ks : List Nat) (h : VProc P f args' mem0 maps0 R)
  (hk : ∀ av mem' maps', R av mem' maps' → k (ren (backN ks s.mem.length) av) { s with mem := mergeM s.mem ks mem', maps := maps' ++ s.maps })
  (hnd : ks.Nodup := by simp) (ha : CellsRn (fun j => ks.getD j 0) ks.length avs args' := by simp [go_sem, K5]) (hs : ShMem (fun j => ks.getD j 0) ks.length s.mem ks mem0 := by simp [go_sem, K5]) (hm : MapsLe s.maps maps0 := by simp [go_sem]) : vcallP P f avs s k := vcall_share ks h hnd ha hs hm hk
theorem uSF {f : FuncId} {avs args' : List AV} {k : AV → VS → Prop} {mem0 : List (Option Ob)} {maps0 : List (Nat × Mp)} {R : AV → List (Option Ob) → List (Nat × Mp) → Prop} (ks : List Nat) (h : VProc P f args' mem0 maps0 R)
  (hk : ∀ av mem' maps', R av mem' maps' → FreshM s.maps maps0 maps' → k (ren (backN ks s.mem.length) av) { s with mem := mergeM s.mem ks mem', maps := maps' ++ s.maps })
  (hnd : ks.Nodup := by simp) (ha : CellsRn (fun j => ks.getD j 0) ks.length avs args' := by simp [go_sem, K5]) (hs : ShMem (fun j => ks.getD j 0) ks.length s.mem ks mem0 := by simp [go_sem, K5]) (hm : MapsLe s.maps maps0 := by simp [go_sem]) : vcallP P f avs s k := vcall_shareF ks h hnd ha hs hm hk
theorem uE (ks : List Nat) {t t' : List (Nat × AV)} {m m' : List (Option Ob)} {M M' : List (Nat × Mp)} {x : Nat}
  (h4 : MemS (fun j => ks.getD j 0) ks.length m ks m' := by simp [go_sem, K5]) (h1 : TmpsR (fun j => ks.getD j 0) ks.length t t' := by simp [go_sem, K5]) (hnd : ks.Nodup := by simp) (hlt : ∀ k, k ∈ ks → k < m.length := by simp) (hx : x ≤ ks.length := by simp) (hf : ∀ k, k < x → ks.getD k 0 = k := by first | decide | (dsimp only; decide)) (hM : MapsLe M M' := by simp [go_sem]) : Ent ⟨t, m, M, x⟩ ⟨t', m', M', x⟩ := ent_ks ks hnd hlt hx hf hM h1 h4
theorem uF {maps0 : List (Nat × Mp)} {R : AV → List (Option Ob) → List (Nat × Mp) → Prop} {av : AV} (ex : List Nat) (mem' : List (Option Ob)) 
  (hm : MemOut (idxOut s.fix ex) (outKs s.fix ex) s.mem (outKs s.fix ex) mem' := by simp [go_sem, K5]) (hR : R (ren (idxOut s.fix ex) av) mem' s.maps := by simp [go_sem, K5]) (hnd : ex.Nodup := by simp) (he : ∀ e, e ∈ ex → s.fix ≤ e ∧ e < s.mem.length := by simp) (hq : (∀ q, q ∈ ownsV av → q ∈ outKs s.fix ex) ∧ clW av := by simp [go_sem]) 
  (hM : ∀ b, (lkm maps0 b).isSome = true → (lkm s.maps b).isSome = true := by simp [go_sem]) : vendP maps0 R s av := ⟨rfl, ex, mem', hnd, he, hq, hm, hM, hR⟩
end
end Go.Proofs.YtadghlfkddkelaaGreatDoor.V
namespace Go.Proofs.YtadghlfkddkelaaGreatDoor.V
open Go.RowKit
theorem vfun_below {P : Program} {f : FuncId} {vs : List Value} {v : Value} (hf : FnOk P f) (h : ∀ w, Calls P f vs.toArray w fun e w' => e = .returned v ∧ Below w.heap.size w w') : VFun P f (vs.map .lit) (fun av obs => obs = [] ∧ av = .lit v) := by
 refine ⟨hf, fun w us hl hu => ?_⟩
 have e : us = vs := by
  have hl' : vs.length = us.length := by simpa using hl.1
  apply List.ext_getElem hl'.symm
  intro j h1 h2
  have := hu j (.lit vs[j]) us[j] (by simp [h2]) (List.getElem?_eq_getElem h1)
  generalize us[j] = x at this
  generalize vs[j] = y at this
  cases this
  rfl
 subst e
 refine (h w).mono fun e w' ⟨he, hw⟩ => ?_
 subst he
 exact ⟨v, rfl, ⟨hw.os, hw.tape, hw.output, hw.size, fun k hk _ => hw.block k hk⟩, fun _ => undef, .lit v, [], ⟨rfl, rfl⟩, rfl, fun ob h => by simp at h, ⟨fun k ob h => by simp at h, fun k ob h => by simp at h, fun k h => by simp at h, fun k k' ob ob' h => by simp at h⟩, .lit v⟩
def digitBytes : ByteArray := { data := #[48, 49, 50, 51, 52, 53, 54, 55, 56, 57] }
theorem contains_digit (b : UInt8) : digitBytes.data.toList.contains b = isDg b.toNat := by
 revert b
 have h : (List.range 256).all (fun n => digitBytes.data.toList.contains n.toUInt8 == isDg n) = true := by kernel_rfl
 intro b
 have := List.all_eq_true.mp h b.toNat (List.mem_range.mpr b.toNat_lt)
 simpa using this
theorem dropWhile_all {α : Type} {p : α → Bool} {l : List α} : l.dropWhile p = [] ↔ ∀ x, x ∈ l → p x = true := by
 induction l with
 | nil => simp
 | cons a l ih =>
  rw [List.dropWhile_cons]
  split
  ·rename_i h; simp [ih, h]
  ·rename_i h; simp [h]
theorem trim_nil {l cs : List UInt8} : Lib.trimS l cs = [] ↔ ∀ x, x ∈ l → cs.contains x = true := by
 unfold Lib.trimS Lib.trimLeftS
 rw [dropWhile_all]
 unfold Lib.trimRightS
 constructor
 ·intro h x hx
  have hd : l = (l.reverse.dropWhile (cs.contains ·)).reverse ++ (l.reverse.takeWhile (cs.contains ·)).reverse := by
   rw [← List.reverse_append, List.takeWhile_append_dropWhile, List.reverse_reverse]
  rw [hd, List.mem_append] at hx
  rcases hx with hx | hx
  ·exact h x hx
  ·rw [List.mem_reverse] at hx
   exact List.all_eq_true.mp (List.all_takeWhile (p := (cs.contains ·)) (l := l.reverse)) x hx
 ·intro h x hx
  rw [List.mem_reverse] at hx
  exact h x (List.mem_reverse.mp ((List.dropWhile_sublist _).subset hx))
def trimDg (z : ByteArray) : ByteArray := ⟨(Lib.trimS z.data.toList digitBytes.data.toList).toArray⟩
theorem trimDg_num (z : ByteArray) (h : 0 < z.size) : decide (trimDg z = ⟨#[]⟩) = numZ z := by
 have e : trimDg z = ⟨#[]⟩ ↔ ∀ i, i < z.size → isDg (byteAt z i) = true := by
  unfold trimDg
  rw [ByteArray.mk.injEq, Array.mk.injEq, trim_nil]
  simp only [contains_digit]
  constructor
  ·intro h i hi
   have := h (z.data.toList[i]'hi) (List.getElem_mem _)
   unfold byteAt
   rw [dif_pos hi]
   exact this
  ·intro h x hx
   obtain ⟨i, hi, rfl⟩ := List.getElem_of_mem hx
   have := h i hi
   unfold byteAt at this
   rw [dif_pos (show i < z.size from hi)] at this
   exact this
 rw [Bool.eq_iff_iff, decide_eq_true_eq, e]
 simp only [numZ, h, decide_true, Bool.and_true, List.all_eq_true, List.mem_range]
theorem c_trim (z : ByteArray) (hz : z.size ≤ 9223372036854775807) : VFun Tryz.prog 157 [.lit (.string z), .lit (.string digitBytes)] (fun av obs => obs = [] ∧ av = .lit (.string (trimDg z))) :=
 vfun_below (vs := [.string z, .string digitBytes]) ⟨_, Tryz.func157, rfl, rfl⟩ (fun w => Any.strings_Trim_laid Tryz.lays160 (by kernel_rfl) z digitBytes w hz (by decide) (ascii_of_all (by decide)))
theorem ba_nil {z : ByteArray} : z.toList = [] ↔ z.size = 0 := by
 rw [ByteArray.toList_eq]
 constructor
 ·intro h
  show z.data.size = 0
  rw [← Array.length_toList, h]; rfl
 ·intro h
  apply List.eq_nil_of_length_eq_zero
  rw [Array.length_toList]; exact h
theorem ba_empty {z : ByteArray} : z.toList.isEmpty = decide (z = ⟨#[]⟩) := by
 rw [Bool.eq_iff_iff, List.isEmpty_iff, decide_eq_true_iff, ba_nil]
 constructor
 ·intro h
  exact ByteArray.ext (Array.eq_empty_of_size_eq_zero h)
 ·intro h
  rw [h]; rfl
theorem cutL_count (c : UInt8) : ∀ l : List UInt8, (cutL c l).length ≤ l.length + 1
 | [] => by simp [cutL]
 | b :: r => by
  have ih := cutL_count c r
  unfold cutL
  split
  ·simp; omega
  ·split
   ·rename_i h; rw [h] at ih; simp at ih ⊢; omega
   ·simp
theorem count_cut {c : UInt8} : ∀ (k : Nat) (l : List UInt8), l.length ≤ k → Lib.count l [c] + 1 = (cutL c l).length
 | k, l, hk => by
  rcases index_one (c := c) l with ⟨h1, h2⟩ | ⟨p, r, rfl, h1, h2⟩
  ·rw [Lib.count_miss h2, cutL_last l h1]; rfl
  ·rw [Lib.count_hit (by simp) h2, cutL_run p h1]
   match k, hk with
   | 0, hk => simp at hk
   | k + 1, hk =>
    have hr : r.length ≤ k := by simp at hk; omega
    have e : (p ++ c :: r).drop (p.length + [c].length) = r := by simp
    rw [e, List.length_cons, ← count_cut k r hr]
    omega
theorem cutZ_len (c : UInt8) (z : ByteArray) : (cutZ c z).length ≤ z.size + 1 := by
 unfold cutZ
 rw [List.length_map]
 exact cutL_count c _
theorem c_split (c : UInt8) (z : ByteArray) (hz : z.size ≤ 1048576) : VFun Tryz.prog 82 [.lit (.string z), .lit (.string ⟨#[c]⟩)] (fun av obs => av = .own 0 ∧ obs = [⟨9, 1, (cutZ c z).length, txCells (cutZ c z)⟩]) := by
 refine ⟨⟨_, Tryz.func82, rfl, rfl⟩, fun w us hl hu => ?_⟩
 have e : us = [.string z, .string ⟨#[c]⟩] := by
  have hl' := hl.1
  match us, hl', hu with
  | [x, y], _, hu =>
   have h0 := hu 0 _ x rfl rfl
   have h1 := hu 1 _ y rfl rfl
   cases h0; cases h1; rfl
 subst e
 obtain ⟨hsz, W, hW, hLX, hsame⟩ := hl.2.1
 obtain ⟨m, hm⟩ := Tryz.laysM146.s1_3 W hW
 have hm' : w.cell? ⟨0, 0, none⟩ = some (.int .i64 m) := by
  have h0 := hsame 0 (by decide)
  have hm : W.cell? ⟨0, 0, none⟩ = some (.int .i64 m) := hm
  unfold World.cell? at hm ⊢
  simp only at hm ⊢
  rw [h0]; exact hm
 refine (Any.strings_Split Tryz.lays146 (by kernel_rfl) z ⟨#[c]⟩ m w (by omega) hm' (Nat.le_refl _)).mono fun e w' ⟨he, hw⟩ => ?_
 rw [cutZ_split] at hw
 have hcnt : Lib.countB z ⟨#[c]⟩ + 1 = (cutZ c z).length := by
  unfold cutZ
  rw [List.length_map, ← count_cut _ _ (Nat.le_refl _)]
 rw [hcnt] at he
 subst he
 have hlen := cutZ_len c z
 subst hw
 refine ⟨_, rfl, World.grownBy_alloc w _ none, fun _ => .slice (some ⟨w.heap.size, 0, none⟩) (cutZ c z).length (cutZ c z).length, .own 0, _, ⟨rfl, rfl⟩, rfl, fun ob ho i hi => ?_, ⟨fun k ob hk b hb => ?_, fun k ob hk => ?_, fun k hk => ⟨_, _, _, rfl⟩, fun k k' o o' hk hk' hne => ?_⟩, .own 0 (by simp)⟩
 ·simp only [List.mem_singleton] at ho
  subst ho
  exact txLit _ i
 ·simp only [Value.ownBlock, Option.some.injEq] at hb
  omega
 ·have e0 : k = 0 := by have := (List.getElem?_eq_some_iff.1 hk).1; simpa using this
  subst e0
  simp only [List.map_cons, List.map_nil, List.getElem?_cons_zero, Option.some.injEq] at hk
  subst hk
  refine ⟨Nat.one_pos, (cutZ c z).map Value.string, ⟨by simp, .inr ⟨w.heap.size, (cutZ c z).length, ((cutZ c z).map Value.string).toArray, rfl, ⟨9, (0, 0), heap_alloc_new _ _, .inl ⟨rfl, rfl⟩⟩, Nat.le_refl _, by simp only [maxLen]; omega, by simp, by simp only [Nat.mul_one, List.toList_toArray]; rw [List.take_of_length_le (by simp)]⟩⟩, fun i hi => ⟨rfl, fun j a ha => ?_⟩⟩
  have hj : j = 0 := by have := (List.getElem?_eq_some_iff.1 ha).1; simpa [txCells] using this
  subst hj
  simp only [txCells, List.getElem?_cons_zero, Option.some.injEq] at ha
  subst ha
  refine ⟨.string (txAt (cutZ c z) i), ?_, rfl, .lit _⟩
  have hi' : i < (cutZ c z).length := hi
  simp only [Nat.mul_one, Nat.add_zero, List.getElem?_map, txAt, List.getD_eq_getElem?_getD]
  rw [List.getElem?_eq_getElem hi']
  rfl
 ·have e0 : k = 0 := by have := (List.getElem?_eq_some_iff.1 hk).1; simpa using this
  have e1 : k' = 0 := by have := (List.getElem?_eq_some_iff.1 hk').1; simpa using this
  omega
def wR (z : ByteArray) (i : Nat) : List ByteArray := ((cutR 32 z i).1.map fun p => z.extract p.1 p.2).filter fun w => decide (0 < w.size)
theorem wR_fin (z : ByteArray) : wR z (z.size + 1) = wordsZ z := by rw [wR, cutR_fin]; rfl
theorem cutR_skip {c : UInt8} {z : ByteArray} {i : Nat} (h : ¬ (i = z.size ∨ byteAt z i = c.toNat)) : cutR c z (i + 1) = cutR c z i := by rw [cutR, if_neg h]
theorem cutR_hit {c : UInt8} {z : ByteArray} {i : Nat} (h : i = z.size ∨ byteAt z i = c.toNat) : cutR c z (i + 1) = ((cutR c z i).1 ++ [((cutR c z i).2, i)], i + 1) := by rw [cutR, if_pos h]
theorem cutR_le {c : UInt8} {z : ByteArray} {i : Nat} (h : i ≤ z.size + 1) : (cutR c z i).2 ≤ i ∧ (cutR c z i).1.length ≤ i := by
  induction i with
  | zero => simp [cutR]
  | succ i ih =>
    have := ih (by omega)
    by_cases e : i = z.size ∨ byteAt z i = c.toNat
    · rw [cutR_hit e]; simp; omega
    · rw [cutR_skip e]; omega
theorem wR_hit {z : ByteArray} {i : Nat} (hi : i ≤ z.size) (h : i = z.size ∨ byteAt z i = 32) : wR z (i + 1) = if (cutR 32 z i).2 < i then wR z i ++ [z.extract (cutR 32 z i).2 i] else wR z i := by
  rw [wR, cutR_hit h]
  simp only [List.map_append, List.map_cons, List.map_nil, List.filter_append]
  have hs : (z.extract (cutR 32 z i).2 i).size = i - (cutR 32 z i).2 := by rw [ByteArray.size_extract]; omega
  split
  · rename_i h
    rw [List.filter_cons_of_pos (by simp only [hs, decide_eq_true_eq]; omega)]
    rfl
  · rename_i h
    rw [List.filter_cons_of_neg (by simp only [hs, decide_eq_true_eq]; omega)]
    simp [wR]
theorem wR_len {z : ByteArray} {i : Nat} (h : i ≤ z.size + 1) : (wR z i).length ≤ i := Nat.le_trans (List.length_filter_le _ _) (by rw [List.length_map]; exact (cutR_le h).2)
set_option maxRecDepth 100000 in
theorem c_l5Words (z : ByteArray) (hz : z.size ≤ 1048576) : VFun Tryz.prog 79 [.lit (.string z)] (fun av obs => av = .own 0 ∧ obs = [⟨9, 1, (wordsZ z).length, txCells (wordsZ z)⟩]) := by
  refine vfun_start Tryz.func79 (by kernel_rfl) rfl (by simp [Tryz.ntmps79]) ?_; simp only [Tryz.ntmps79, Tryz.results79]; simp [go_sem]
  refine vc_loopE (fun i : Nat => i ≤ z.size + 1) (fun i => z.size + 1 - i) (fun i => .of [(0, .lit (.string z)), (3, .own 0), (4, .lit (.int .i64 (cutR 32 z i).2)), (5, .lit (.int .i64 i))] [some ⟨9, 1, (wR z i).length, txCells (wR z i)⟩]) ⟨0, by omega, ?_⟩ (fun i hi => ?_)
  · exact uE [0] (h1 := by simp [go_sem, cutR]) (h4 := by simp [go_sem, K5, wR, cutR])
  · have hc := cutR_le (c := 32) hi
    have hl := wR_len hi
    have hwr : i ≤ z.size → IntKind.i64.wrap ((i : Int) + 1) = (i : Int) + 1 := fun h => wrap_i64 (by omega)
    have step : (i = z.size ∨ byteAt z i = 32) → (cutR 32 z (i + 1)).2 = i + 1 := fun e => by rw [cutR_hit e]
    have grow : ∀ (hw : i ≤ z.size) (e : i = z.size ∨ byteAt z i = 32), (cutR 32 z i).2 < i → wR z (i + 1) = wR z i ++ [z.extract (cutR 32 z i).2 i] := fun hw e h => by rw [wR_hit hw e, if_pos h]
    have keep : ∀ (hw : i ≤ z.size) (e : i = z.size ∨ byteAt z i = 32), ¬ (cutR 32 z i).2 < i → wR z (i + 1) = wR z i := fun hw e h => by rw [wR_hit hw e, if_neg h]
    simp [go_sem]
    refine ⟨fun hw => ?_, fun hgt => ?_⟩
    · have hwr := hwr hw
      refine ⟨fun hne => ⟨by omega, fun hb => ⟨fun hlt => ⟨by omega, by omega, by omega, by omega, i + 1, by omega, by omega, ?_⟩, fun hge => ⟨i + 1, by omega, by omega, ?_⟩⟩, fun hb => ⟨i + 1, by omega, by omega, ?_⟩⟩, fun he => ⟨fun hlt => ⟨by omega, by omega, by omega, by omega, i + 1, by omega, by omega, ?_⟩, fun hge => ⟨i + 1, by omega, by omega, ?_⟩⟩⟩
      · have g := grow hw (.inr hb) hlt
        have s1 := step (.inr hb)
        exact uE [2] (h1 := by simp [go_sem, hwr, s1]) (h4 := by simp [go_sem, K5, g, tx_new])
      · have g := keep hw (.inr hb) (by omega)
        have s1 := step (.inr hb)
        exact uE [0] (h1 := by simp [go_sem, hwr, s1]) (h4 := by simp [go_sem, K5, g])
      · have s1 : cutR 32 z (i + 1) = cutR 32 z i := cutR_skip (by rintro (h | h); · omega
                                                                   · exact hb h)
        exact uE [0] (h1 := by simp [go_sem, hwr, s1]) (h4 := by simp [go_sem, K5, wR, s1])
      · have hz' : i = z.size := by omega
        have g := grow hw (.inl hz') hlt
        have s1 := step (.inl hz')
        exact uE [2] (h1 := by simp [go_sem, hwr, s1]) (h4 := by simp [go_sem, K5, g, tx_new])
      · have hz' : i = z.size := by omega
        have g := keep hw (.inl hz') (by omega)
        have s1 := step (.inl hz')
        exact uE [0] (h1 := by simp [go_sem, hwr, s1]) (h4 := by simp [go_sem, K5, g])
    · obtain rfl : i = z.size + 1 := by omega
      rw [← wR_fin]
      exact tx_same .rfl rfl rfl
structure PLin where
  ws : List ByteArray
  a : Nat
  b : Nat
deriving Inhabited
def PLin.cells (l : PLin) : List AV := [.sl 1 l.ws.length (txCells l.ws), .lit (.int .i64 l.a), .lit (.int .i64 l.b)]
def linAt (L : List PLin) (i : Nat) : PLin := L.getD i default
def linCells (L : List PLin) (i : Nat) : List AV := (linAt L i).cells
theorem linCells_at (L : List PLin) (i : Nat) : linCells L i = [.sl 1 (linAt L i).ws.length (txCells (linAt L i).ws), .lit (.int .i64 (linAt L i).a), .lit (.int .i64 (linAt L i).b)] := rfl
theorem linClosed (L : List PLin) (i : Nat) (c : AV) (h : c ∈ linCells L i) : Closed c := by
  rw [linCells_at] at h
  simp at h
  rcases h with rfl | rfl | rfl
  · exact .sl _ _ _ fun i c _ h => txClosed _ i c h
  · exact .lit _
  · exact .lit _
theorem cellsRn_closed {f : Nat → Nat} {m : Nat} : ∀ {l : List AV}, (∀ c, c ∈ l → Closed c) → CellsRn f m l l
  | [], _ => trivial
  | a :: r, h => ⟨.closed _ (h a (by simp)), cellsRn_closed fun c hc => h c (by simp [hc])⟩
@[go_sem] theorem linCells_ren (f : Nat → Nat) (L : List PLin) (i : Nat) : (linCells L i).map (ren1 f) = linCells L i := rfl
@[go_sem] theorem linCells_one (L : List PLin) (i : Nat) : (linCells L i).all oneAV = true := rfl
theorem linOut {g : Nat → Nat} {ks : List Nat} {ty n : Nat} {L : List PLin} : OutAt g ks ⟨ty, 3, n, linCells L⟩ (some (some ⟨ty, 3, n, linCells L⟩)) :=
  ⟨rfl, rfl, rfl, fun i hi => ⟨rfl, fun c hc => by
    have hc : c ∈ linCells L i := hc
    rw [linCells_at] at hc
    simp at hc
    rcases hc with rfl | rfl | rfl
    · exact .inr ⟨⟨_, _, _, rfl⟩, .sl _ _ _ fun i c _ h => txClosed _ i c h⟩
    · exact .inl rfl
    · exact .inl rfl, fun c hc q hq => by
    have hc : c ∈ linCells L i := hc
    rw [linCells_at] at hc
    simp at hc
    rcases hc with rfl | rfl | rfl <;> simp [owns1] at hq⟩⟩
def linRow (L : List PLin) : Option Ob := some ⟨95, 3, L.length, linCells L⟩
theorem KL : (∀ L, linRow L = some ⟨95, 3, L.length, linCells L⟩) ∧ (∀ L i c, (c ∈ linCells L i → Closed c) = True) ∧ (∀ g m L i, CellsRn g m (linCells L i) (linCells L i) = True) ∧ (∀ (g : Nat → Nat) ks ty n L, OutAt g ks ⟨ty, 3, n, linCells L⟩ (some (some ⟨ty, 3, n, linCells L⟩)) = True) :=
  ⟨fun _ => rfl, fun _ _ _ => eq_true (linClosed _ _ _), fun _ _ L i => eq_true (cellsRn_closed fun c h => linClosed L i c h), fun _ _ _ _ _ => eq_true linOut⟩
def lnR (z : ByteArray) (i : Nat) : List PLin := (cutR 10 z i).1.map fun p => ⟨wordsZ (z.extract p.1 p.2), p.1, p.2⟩
def linesP (z : ByteArray) : List PLin := lnR z (z.size + 1)
theorem lnR_hit {z : ByteArray} {i : Nat} (h : i = z.size ∨ byteAt z i = 10) : lnR z (i + 1) = lnR z i ++ [⟨wordsZ (z.extract (cutR 10 z i).2 i), (cutR 10 z i).2, i⟩] := by rw [lnR, cutR_hit h]; simp [lnR]
theorem lnR_len {z : ByteArray} {i : Nat} (h : i ≤ z.size + 1) : (lnR z i).length ≤ i := by rw [lnR, List.length_map]; exact (cutR_le h).2
theorem wordsZ_len (z : ByteArray) : (wordsZ z).length ≤ z.size + 1 := by rw [← wR_fin]; exact wR_len (Nat.le_refl _)
theorem linAt_app (T : List PLin) (x : PLin) (i : Nat) (hi : i < T.length + 1) : linAt (T ++ [x]) i = if i = T.length then x else linAt T i := by
  unfold linAt
  by_cases h : i = T.length
  · subst h
    rw [if_pos rfl, List.getD_eq_getElem?_getD, List.getElem?_append_right (Nat.le_refl _)]; simp
  · rw [if_neg h, List.getD_eq_getElem?_getD, List.getD_eq_getElem?_getD, List.getElem?_append_left (by omega)]
theorem lin_new {g : Nat → Nat} {m k : Nat} (T : List PLin) (ws : List ByteArray) (a b : Nat) : (∀ i, i < T.length + 1 → CellsRn g m (if i = T.length then (joinF T.length (linCells T) (fun q => [[AV.own k, AV.lit (.int .i64 a), AV.lit (.int .i64 b)]][q]?.getD []) i).set 0 (.sl 1 ws.length (txCells ws)) else joinF T.length (linCells T) (fun q => [[AV.own k, AV.lit (.int .i64 a), AV.lit (.int .i64 b)]][q]?.getD []) i) (linCells (T ++ [⟨ws, a, b⟩]) i)) = True := eq_true fun i hi => by
  have : (if i = T.length then (joinF T.length (linCells T) (fun q => [[AV.own k, AV.lit (.int .i64 a), AV.lit (.int .i64 b)]][q]?.getD []) i).set 0 (.sl 1 ws.length (txCells ws)) else joinF T.length (linCells T) (fun q => [[AV.own k, AV.lit (.int .i64 a), AV.lit (.int .i64 b)]][q]?.getD []) i) = linCells (T ++ [⟨ws, a, b⟩]) i := by
    unfold joinF
    rw [show linCells (T ++ [⟨ws, a, b⟩]) i = (linAt (T ++ [⟨ws, a, b⟩]) i).cells from rfl, linAt_app T _ i hi]
    by_cases h : i = T.length
    · subst h
      simp [PLin.cells]
    · rw [if_neg h, if_pos (by omega), if_neg h]
      rfl
  rw [this]
  exact cellsRn_closed fun c h => linClosed _ i c h
set_option maxRecDepth 100000 in
theorem c_l5Lines (z : ByteArray) (hz : z.size ≤ 1048576) : VProc Tryz.prog 53 [.lit (.string z)] [] [] (fun av mem maps => av = .own 0 ∧ mem = [linRow (linesP z)] ∧ maps = []) := by
  refine vproc_start Tryz.func53 (by kernel_rfl) rfl (by simp [Tryz.ntmps53]) ?_; simp only [Tryz.ntmps53, Tryz.results53]; simp [go_sem]
  refine vc_loopE (fun i : Nat => i ≤ z.size + 1) (fun i => z.size + 1 - i) (fun i => .of [(0, .lit (.string z)), (3, .own 0), (4, .lit (.int .i64 (cutR 10 z i).2)), (5, .lit (.int .i64 i))] [linRow (lnR z i)]) ⟨0, by omega, ?_⟩ (fun i hi => ?_)
  · exact uE [0] (h1 := by simp [go_sem, cutR]) (h4 := by simp [go_sem, KL, lnR, cutR])
  · have hc := cutR_le (c := 10) hi
    have hl := lnR_len hi
    have hwr : i ≤ z.size → IntKind.i64.wrap ((i : Int) + 1) = (i : Int) + 1 := fun h => wrap_i64 (by omega)
    simp [go_sem, KL]
    have step : (i = z.size ∨ byteAt z i = 10) → (cutR 10 z (i + 1)).2 = i + 1 := fun e => by rw [cutR_hit e]
    have hw1 := c_l5Words (z.extract (cutR 10 z i).2 i) (by rw [ByteArray.size_extract]; omega)
    have hwl := wordsZ_len (z.extract (cutR 10 z i).2 i)
    rw [ByteArray.size_extract] at hwl
    refine ⟨fun hw => ?_, fun hgt => ?_⟩
    · have hwr := hwr hw
      refine ⟨fun hne => ⟨by omega, fun hb => ⟨by omega, by omega, vcall_use hw1 (by simp [go_sem]) ?_⟩, fun hb => ⟨i + 1, by omega, by omega, ?_⟩⟩, fun he => ⟨by omega, by omega, vcall_use hw1 (by simp [go_sem]) ?_⟩⟩
      · rintro av obs ⟨rfl, rfl⟩
        simp [go_sem]
        have s1 := step (.inr hb)
        have g := lnR_hit (z := z) (i := i) (.inr hb)
        refine ⟨by omega, by omega, i + 1, by omega, by omega, ?_⟩
        refine Ent.trans (Ent.giveAt 3 1 (lnR z i).length 0 rfl (fun i _ c h => txClosed _ i c h) rfl (by decide) ?_) ?_
        · simp [joinF]
        · simp only [List.set_cons_succ, List.set_cons_zero]
          exact uE [3] (h1 := by simp [go_sem, hwr, s1]) (h4 := by simp [go_sem, KL, g, lin_new])
      · have s1 : cutR 10 z (i + 1) = cutR 10 z i := cutR_skip (by rintro (h | h); · omega
                                                                   · exact hb h)
        exact uE [0] (h1 := by simp [go_sem, hwr, s1]) (h4 := by simp [go_sem, KL, lnR, s1])
      · rintro av obs ⟨rfl, rfl⟩
        simp [go_sem]
        have hz' : i = z.size := by omega
        have s1 := step (.inl hz')
        have g := lnR_hit (z := z) (i := i) (.inl hz')
        refine ⟨by omega, by omega, i + 1, by omega, by omega, ?_⟩
        refine Ent.trans (Ent.giveAt 3 1 (lnR z i).length 0 rfl (fun i _ c h => txClosed _ i c h) rfl (by decide) ?_) ?_
        · simp [joinF]
        · simp only [List.set_cons_succ, List.set_cons_zero]
          exact uE [3] (h1 := by simp [go_sem, hwr, s1]) (h4 := by simp [go_sem, KL, g, lin_new])
    · obtain rfl : i = z.size + 1 := by omega
      exact uF [0] [linRow (linesP z)] (hm := by simp [go_sem, KL, linesP]) (hR := by simp [go_sem, KL])
theorem ba_kw {w : ByteArray} {l : List UInt8} : (w.toList = l) = (w = ⟨l.toArray⟩) := propext ⟨fun h => by
 rw [ByteArray.toList_eq] at h
 cases w
 simp only at h
 rw [← h], fun h => by rw [h, ByteArray.toList_eq]⟩
theorem KW5 : (∀ w : ByteArray, (w.toList = [98, 101, 103, 105, 110]) = (w = kwBegin)) ∧ (∀ w : ByteArray, (w.toList = [117, 115, 101]) = (w = kwUse)) ∧ (∀ w : ByteArray, (w.toList = [112, 114, 101, 102, 105, 120]) = (w = kwPre)) ∧ (∀ w : ByteArray, (w.toList = [105, 110, 102, 105, 120]) = (w = kwInf)) ∧ (∀ w : ByteArray, (w.toList = [112, 111, 115, 116, 102, 105, 120]) = (w = kwPost)) ∧ (∀ w : ByteArray, (w.toList = [108, 101, 102, 116]) = (w = kwLeft)) ∧ (∀ w : ByteArray, (w.toList = [114, 105, 103, 104, 116]) = (w = kwRight)) ∧ (∀ w : ByteArray, (w.toList = [110, 111, 110, 101]) = (w = kwNone)) :=
 ⟨fun _ => ba_kw, fun _ => ba_kw, fun _ => ba_kw, fun _ => ba_kw, fun _ => ba_kw, fun _ => ba_kw, fun _ => ba_kw, fun _ => ba_kw⟩
theorem KW6 : (¬ kwPost = kwPre) ∧ (¬ kwInf = kwPre) ∧ (¬ kwInf = kwPost) ∧ (¬ kwPre = kwPost) ∧ (¬ kwPre = kwInf) ∧ (¬ kwPost = kwInf) := by decide
def iOf : Option Nat → Int
 | some k => k
 | none => -1
def beginP (L : List PLin) : Option Nat := L.findIdx? fun l => isBegin l.ws
theorem linesP_ws (z : ByteArray) : (linesP z).map (·.ws) = linesZ z := by
 unfold linesP lnR linesZ
 rw [← cutR_fin]
 simp [List.map_map, Function.comp_def]
theorem beginP_eq (z : ByteArray) : beginP (linesP z) = beginAt (linesZ z) := by
 rw [← linesP_ws]
 unfold beginP beginAt
 rw [List.findIdx?_map]
 rfl
theorem beginP_none {L : List PLin} (h : ∀ j, j < L.length → isBegin (linAt L j).ws = false) : beginP L = none := by
 unfold beginP
 rw [List.findIdx?_eq_none_iff]
 intro x hx
 obtain ⟨j, hj⟩ := List.getElem?_of_mem hx
 have := h j (List.getElem?_eq_some_iff.1 hj).1
 unfold linAt at this
 rw [List.getD_eq_getElem?_getD, hj] at this
 exact this
theorem beginP_some {L : List PLin} {i : Nat} (hi : i < L.length) (h : ∀ j, j < i → isBegin (linAt L j).ws = false) (hb : isBegin (linAt L i).ws = true) : beginP L = some i := by
 unfold beginP
 rw [List.findIdx?_eq_some_iff_getElem]
 have e : ∀ j (hj : j < L.length), linAt L j = L[j] := fun j hj => by
  unfold linAt; rw [List.getD_eq_getElem?_getD, List.getElem?_eq_getElem hj]; rfl
 refine ⟨hi, by rw [← e i hi]; exact hb, fun j hj => ?_⟩
 rw [← e j (by omega), h j hj]
 simp
set_option maxRecDepth 100000 in
theorem c_l5Begin (L : List PLin) (hL : L.length ≤ 2000000) (hW : ∀ i, (linAt L i).ws.length ≤ 2000000) : VFun Tryz.prog 54 [.sl 3 L.length (linCells L)] (fun av obs => obs = [] ∧ av = .lit (.int .i64 (iOf (beginP L)))) := by
 refine vfun_start Tryz.func54 (by kernel_rfl) rfl (by simp [Tryz.ntmps54]) ?_; simp only [Tryz.ntmps54, Tryz.results54]; simp [go_sem]
 refine vc_loop (fun i : Nat => i ≤ L.length ∧ ∀ j, j < i → isBegin (linAt L j).ws = false) (fun i => L.length - i) (fun i => .of [(0, .sl 3 L.length (linCells L)), (3, .lit (.int .i64 i))] []) ⟨0, ⟨by omega, fun j h => by omega⟩, ?_⟩ (fun i hi => ?_)
 ·simp [go_sem, KL]
 ·obtain ⟨hi, hj⟩ := hi
  have hwr : i < L.length → IntKind.i64.wrap ((i : Int) + 1) = (i : Int) + 1 := fun h => wrap_i64 (by omega)
  have next : i < L.length → isBegin (linAt L i).ws = false → ∀ j, j < i + 1 → isBegin (linAt L j).ws = false := fun h e j h2 => by
   by_cases e2 : j = i
   ·rw [e2]; exact e
   ·exact hj j (by omega)
  have one : ∀ ws : List ByteArray, ws.length = 1 → ws = [txAt ws 0] := fun ws h => by
   obtain ⟨x, rfl⟩ := List.length_eq_one_iff.1 h
   rfl
  simp [go_sem, linCells_at, txCells_at, KW5, K5]
  refine ⟨by omega, fun h => ⟨h, ?_⟩, fun h => ?_⟩
  ·have hwr := hwr h
   have hWi := hW i
   have cl : ∀ (i : Nat) (c : AV), i < L.length → (c = AV.sl 1 (linAt L i).ws.length (txCells (linAt L i).ws) ∨ c = AV.lit (Value.int IntKind.i64 ↑(linAt L i).a) ∨ c = AV.lit (Value.int IntKind.i64 ↑(linAt L i).b)) → Closed c := fun i c _ h => linClosed L i c (by rw [linCells_at]; simpa using h)
   refine ⟨by omega, fun h1 => ⟨h, by omega, fun h2 => ?_, fun h2 => ⟨i + 1, ⟨by omega, next h ?_⟩, by omega, cl, by rw [hwr]; rfl⟩⟩, fun h1 => ⟨i + 1, ⟨by omega, next h ?_⟩, by omega, cl, by rw [hwr]; rfl⟩⟩
   ·have e := one (linAt L i).ws (by omega)
    rw [h2] at e
    rw [beginP_some h hj (by simp [isBegin, e])]
    rfl
   ·simp only [isBegin, decide_eq_false_iff_not]
    intro e
    rw [e] at h2
    exact h2 rfl
   ·simp only [isBegin, decide_eq_false_iff_not]
    intro e
    rw [e] at h1
    exact h1 rfl
  ·rw [beginP_none fun j h2 => hj j (by omega)]
   rfl
def lvlI (w : ByteArray) : Int := match levelZ w with
 | some v => v
 | none => -1
set_option maxRecDepth 100000 in
theorem c_l5Level (w : ByteArray) (hw : w.size ≤ 1048576) : VFun Tryz.prog 80 [.lit (.string w)] (fun av obs => obs = [] ∧ av = .lit (.int .i64 (lvlI w))) := by
 have h1 := c_l2IsNumber w (by omega)
 refine vfun_start Tryz.func80 (by kernel_rfl) rfl (by simp [Tryz.ntmps80]) ?_; simp only [Tryz.ntmps80, Tryz.results80]; simp [go_sem]
 refine vcall_pure h1 (by simp [go_sem]) ?_
 simp [go_sem]
 have hlv : numZ w = true → w.size ≤ 6 → lvlI w = (decR w w.size : Nat) := fun h h2 => by unfold lvlI levelZ; rw [if_pos ⟨h, h2⟩]
 refine ⟨fun hn => ⟨fun h6 => ?_, fun h6 => ?_⟩, fun hn => ?_⟩
 ·unfold lvlI levelZ
  rw [if_neg (by omega)]
 ·refine vc_loop (fun i : Nat => i ≤ w.size) (fun i => w.size - i) (fun i => .of [(0, .lit (.string w)), (3, .lit (.int .i64 (decR w i))), (4, .lit (.int .i64 i))] []) ⟨0, by omega, ?_⟩ (fun i hi => ?_)
  ·simp [go_sem, decR]
  ·have hd := decR_lt hn i hi
   have hp : 10 ^ i ≤ 10 ^ 6 := Nat.pow_le_pow_right (by omega) (by omega)
   simp [go_sem]
   refine ⟨fun h => ⟨h, ?_⟩, fun h => ?_⟩
   ·have hg : 48 ≤ byteAt w i ∧ byteAt w i ≤ 57 := by
     simp only [numZ, Bool.and_eq_true, List.all_eq_true, List.mem_range] at hn
     have := hn.1 i h
     simpa [isDg] using this
    have hd2 := decR_lt hn (i + 1) h
    have hp2 : 10 ^ (i + 1) ≤ 10 ^ 6 := Nat.pow_le_pow_right (by omega) (by omega)
    have e1 : IntKind.u8.wrap (byteAt w i - 48) = byteAt w i - 48 := u8_small (by omega)
    rw [e1]
    refine ⟨i + 1, h, by omega, ?_, wrap_succ (by omega)⟩
    have hk : decR w i ≤ 1000000 := by omega
    rw [wrap_i64 (n := byteAt w i - 48) (by omega), wrap_i64 (n := (decR w i : Int) * 10) (by omega), wrap_i64 (by omega)]
    rw [decR]
    omega
   ·obtain rfl : i = w.size := by omega
    rw [hlv hn (by omega)]
 ·unfold lvlI levelZ
  rw [if_neg (by simp [hn])]
set_option maxRecDepth 100000 in
theorem c_l5Side (w : ByteArray) : VFun Tryz.prog 81 [.lit (.string w)] (fun av obs => obs = [] ∧ av = .lit (.int .i64 (sideZ w : Nat))) := by
 refine vfun_start Tryz.func81 (by kernel_rfl) rfl (by simp [Tryz.ntmps81]) ?_; simp only [Tryz.ntmps81, Tryz.results81]; simp [go_sem]
 simp [go_sem, KW5]
 unfold sideZ
 refine ⟨fun h => by rw [if_pos h]; rfl, fun h => ⟨fun h2 => by rw [if_neg h, if_pos h2]; rfl, fun h2 => ⟨fun h3 => by rw [if_neg h, if_neg h2, if_pos h3]; rfl, fun h3 => by rw [if_neg h, if_neg h2, if_neg h3]; rfl⟩⟩⟩
def nilOp : POp := ⟨⟨#[]⟩, 0, 0, 0⟩
def declV (ws : List ByteArray) : List AV := match declZ ws with
 | some o => [.agg o.cells, .lit (.bool true)]
 | none => [.agg nilOp.cells, .lit (.bool false)]
theorem lvlI_none {w : ByteArray} (h : levelZ w = none) : lvlI w = -1 := by unfold lvlI; rw [h]
theorem lvlI_some {w : ByteArray} {v : Nat} (h : levelZ w = some v) : lvlI w = v := by unfold lvlI; rw [h]
theorem declV_short {ws : List ByteArray} (h : ws.length < 3) : declV ws = [.agg nilOp.cells, .lit (.bool false)] := by unfold declV declZ; rw [if_pos h]
theorem declV_lev {ws : List ByteArray} (h : levelZ (txAt ws 2) = none) : declV ws = [.agg nilOp.cells, .lit (.bool false)] := by
 unfold declV declZ
 have h : levelZ (wrdAt ws 2) = none := h
 rw [h]
 by_cases h2 : ws.length < 3 <;> simp only [h2, if_true, if_false]
theorem declV_go {ws : List ByteArray} {v : Nat} (hl : ¬ ws.length < 3) (h : levelZ (txAt ws 2) = some v) : declV ws = if txAt ws 0 = kwPre ∧ ws.length = 3 then [.agg (⟨txAt ws 1, 1, v, 0⟩ : POp).cells, .lit (.bool true)] else if txAt ws 0 = kwPost ∧ ws.length = 3 then [.agg (⟨txAt ws 1, 3, v, 0⟩ : POp).cells, .lit (.bool true)]
   else if txAt ws 0 = kwInf ∧ ws.length = 4 ∧ 0 < sideZ (txAt ws 3) then [.agg (⟨txAt ws 1, 2, v, sideZ (txAt ws 3)⟩ : POp).cells, .lit (.bool true)] else [.agg nilOp.cells, .lit (.bool false)] := by
 unfold declV declZ
 have h : levelZ (wrdAt ws 2) = some v := h
 rw [if_neg hl, h]
 show (match (if txAt ws 0 = kwPre ∧ ws.length = 3 then some (⟨txAt ws 1, 1, v, 0⟩ : POp) else if txAt ws 0 = kwPost ∧ ws.length = 3 then some ⟨txAt ws 1, 3, v, 0⟩ else if txAt ws 0 = kwInf ∧ ws.length = 4 ∧ 0 < sideZ (txAt ws 3) then some ⟨txAt ws 1, 2, v, sideZ (txAt ws 3)⟩ else none) with
  | some o => [AV.agg o.cells, .lit (.bool true)]
  | none => [.agg nilOp.cells, .lit (.bool false)]) = _
 by_cases hA : txAt ws 0 = kwPre ∧ ws.length = 3
 ·rw [if_pos hA, if_pos hA]
 rw [if_neg hA, if_neg hA]
 by_cases hB : txAt ws 0 = kwPost ∧ ws.length = 3
 ·rw [if_pos hB, if_pos hB]
 rw [if_neg hB, if_neg hB]
 by_cases hC : txAt ws 0 = kwInf ∧ ws.length = 4 ∧ 0 < sideZ (txAt ws 3)
 ·rw [if_pos hC, if_pos hC]
 rw [if_neg hC, if_neg hC]
set_option maxRecDepth 100000 in
theorem c_l5OpOf (ws : List ByteArray) (hl : ws.length ≤ 2000000) (hB : ∀ i, (txAt ws i).size ≤ 1048576) : VFun Tryz.prog 55 [.sl 1 ws.length (txCells ws)] (fun av obs => obs = [] ∧ av = .tup (declV ws)) := by
 have h1 := c_l5Level (txAt ws 2) (hB 2)
 have h2 := c_l5Side (txAt ws 3)
 by_cases h3 : ws.length < 3
 ·rw [declV_short h3]
  refine vfun_start Tryz.func55 (by kernel_rfl) rfl (by simp [Tryz.ntmps55]) ?_; simp only [Tryz.ntmps55, Tryz.results55]; simp [go_sem]
  simp [go_sem, txCells_at, KW5]
  exact ⟨by omega, fun h => absurd h (by omega), fun h => by simp [nilOp, POp.cells]⟩
 match hlev : levelZ (txAt ws 2) with
 | none =>
  rw [lvlI_none hlev] at h1
  rw [declV_lev hlev]
  refine vfun_start Tryz.func55 (by kernel_rfl) rfl (by simp [Tryz.ntmps55]) ?_; simp only [Tryz.ntmps55, Tryz.results55]; simp [go_sem]
  simp [go_sem, txCells_at, KW5]
  refine ⟨by omega, fun h => ⟨by omega, vcall_pure h1 (by simp [go_sem]) ?_⟩, fun h => absurd h (by omega)⟩
  simp [go_sem, nilOp, POp.cells]
 | some v =>
  rw [lvlI_some hlev] at h1
  rw [declV_go h3 hlev]
  refine vfun_start Tryz.func55 (by kernel_rfl) rfl (by simp [Tryz.ntmps55]) ?_; simp only [Tryz.ntmps55, Tryz.results55]; simp [go_sem]
  simp [go_sem, txCells_at, KW5]
  refine ⟨by omega, fun h => ⟨by omega, vcall_pure h1 (by simp [go_sem]) ?_⟩, fun h => absurd h (by omega)⟩
  simp [go_sem, txCells_at, KW5]
  refine ⟨fun h => absurd h (by omega), ?_⟩
  refine vc_drawn [9] (.q 0 <| .q 1 <| .q 2 <| .q 3 <| .q 4 <| .q 5 <| .or 6 (.q 7 <| .or 8 (.or 9 (.done) (.nil)) (.nil)) (.or 8 (.or 6 (.q 7 <| .or 9 (.done) (.nil)) (.nil)) (.nil))) (by kernel_rfl) ?_
  simp [go_sem, txCells_at, KW5]
  refine ⟨by omega, by omega, vcallV_pure h1 (by simp [go_sem]) ?_, vcallV_pure h1 (by simp [go_sem]) ?_⟩
  all_goals
   have e0 : 0 < ws.length := by omega
   have e1 : ws.length ≤ 9223372036854775807 := by omega
   by_cases a0 : txAt ws 0 = kwPre
   ·by_cases a1 : ws.length = 3
    ·simp [go_sem, txCells_at, KW5, KW6, a0, a1, POp.cells, nilOp]
    ·have a2 : ¬ (ws.length : Int) = 3 := by omega
     simp [go_sem, txCells_at, KW5, KW6, a0, a1, a2, e0, e1, POp.cells, nilOp]
   by_cases b0 : txAt ws 0 = kwPost
   ·by_cases a1 : ws.length = 3
    ·simp [go_sem, txCells_at, KW5, KW6, b0, a1, POp.cells, nilOp]
    ·have a2 : ¬ (ws.length : Int) = 3 := by omega
     simp [go_sem, txCells_at, KW5, KW6, b0, a1, a2, e0, e1, POp.cells, nilOp]
   by_cases c0 : txAt ws 0 = kwInf
   ·by_cases a1 : ws.length = 4
    ·simp [go_sem, txCells_at, KW5, KW6, c0, a1, POp.cells, nilOp]
     refine vcall_pure h2 (by simp [go_sem]) ?_
     simp [go_sem, txCells_at, KW5, KW6, c0, a1, POp.cells, nilOp]
     refine fun c2 => vcall_pure h2 (by simp [go_sem]) ?_
     simp [go_sem, c2, POp.cells]
    ·have a2 : ¬ (ws.length : Int) = 4 := by omega
     simp [go_sem, txCells_at, KW5, KW6, c0, a1, a2, e0, e1, POp.cells, nilOp]
   ·simp [go_sem, txCells_at, KW5, KW6, a0, b0, c0, e0, e1, POp.cells, nilOp]
def opRow5 (l : List POp) : Option Ob := some ⟨73, 4, l.length, opCells l⟩
theorem op_new5 {g : Nat → Nat} {m : Nat} (l : List POp) (o : POp) : (∀ i, i < l.length + 1 → CellsRn g m (joinF l.length (opCells l) (fun q => [[AV.lit (.string o.text), AV.lit (.int .i64 o.kind), AV.lit (.int .i64 o.level), AV.lit (.int .i64 o.side)]][q]?.getD []) i) (opCells (l ++ [o]) i)) = True := eq_true fun i hi => by
 have : joinF l.length (opCells l) (fun q => [[AV.lit (.string o.text), AV.lit (.int .i64 o.kind), AV.lit (.int .i64 o.level), AV.lit (.int .i64 o.side)]][q]?.getD []) i = opCells (l ++ [o]) i := by
  unfold joinF
  by_cases h : i < l.length
  ·rw [if_pos h]
   show (l.getD i default).cells = ((l ++ [o]).getD i default).cells
   rw [List.getD_eq_getElem?_getD, List.getD_eq_getElem?_getD, List.getElem?_append_left h]
  ·have : i = l.length := by omega
   subst this
   rw [if_neg h]
   show _ = ((l ++ [o]).getD l.length default).cells
   rw [List.getD_eq_getElem?_getD, List.getElem?_append_right (by omega)]
   simp [POp.cells]
 rw [this]
 exact cellsRn_lits (opLit _ i)
theorem argSl_own5 {mem : List (Option Ob)} {k sz n N ty : Nat} {f f' : Nat → List AV} (hk : mem[k]? = some (some ⟨ty, sz, N, f⟩)) (hsz : 0 < sz) (hn : N = n) (h : ∀ i, i < n → f i = f' i) (hc : ∀ (i : Nat) c, i < n → c ∈ f' i → Closed c) : ArgSl mem (.own k) sz n f' :=
 ⟨hsz, f, by simp [contents, hk, hn], fun i hi => ⟨h i hi, fun c hc' => hc i c hi hc'⟩⟩
theorem ext_end (z : ByteArray) : z.extract z.size z.size = ⟨#[]⟩ := by
 apply ByteArray.ext
 rw [ByteArray.data_extract]
 simp
def untR (u : Unt) (c ln : Int) (av : AV) (obs : List Ob) : Prop := av = .tup [.agg [.own 0, .own 1, .lit (.string u.body)], .lit (.int .i64 c), .lit (.int .i64 ln)] ∧ obs = [⟨9, 1, u.uses.length, txCells u.uses⟩, ⟨73, 4, u.ops.length, opCells u.ops⟩]
def untNil (u : Unt) (c ln : Int) (av : AV) (obs : List Ob) : Prop := av = .tup [.agg [.lit (.slice none 0 0), .lit (.slice none 0 0), .lit (.string u.body)], .lit (.int .i64 c), .lit (.int .i64 ln)] ∧ obs = [] ∧ u.uses = [] ∧ u.ops = []
theorem wordsZ_size {z w : ByteArray} (h : w ∈ wordsZ z) : w.size ≤ z.size := by
 rw [← wR_fin] at h
 unfold wR at h
 have h := (List.mem_filter.1 h).1
 rw [List.mem_map] at h
 obtain ⟨p, _, rfl⟩ := h
 rw [ByteArray.size_extract]; omega
theorem linAt_def {z : ByteArray} {i : Nat} : (linAt (linesP z) i) = if i < (linesP z).length then ⟨wordsZ (z.extract (posZ 10 z i).1 (posZ 10 z i).2), (posZ 10 z i).1, (posZ 10 z i).2⟩ else default := by
 unfold linAt linesP lnR posZ
 rw [List.getD_eq_getElem?_getD, List.getElem?_map, List.length_map]
 by_cases h : i < (cutR 10 z (z.size + 1)).1.length
 ·rw [if_pos h, List.getD_eq_getElem?_getD, List.getElem?_eq_getElem h]; rfl
 ·rw [if_neg h, List.getElem?_eq_none (by omega)]; rfl
theorem linWs_len (z : ByteArray) (i : Nat) : (linAt (linesP z) i).ws.length ≤ z.size + 1 := by
 rw [linAt_def]
 split
 ·have := wordsZ_len (z.extract (posZ 10 z i).1 (posZ 10 z i).2)
  rw [ByteArray.size_extract] at this
  simp only
  omega
 ·exact Nat.zero_le _
theorem linWs_size (z : ByteArray) (i j : Nat) : (txAt (linAt (linesP z) i).ws j).size ≤ z.size := by
 rw [linAt_def]
 split
 ·simp only [txAt]
  rw [List.getD_eq_getElem?_getD]
  cases h : (wordsZ (z.extract (posZ 10 z i).1 (posZ 10 z i).2))[j]? with
  | none => exact Nat.zero_le _
  | some w =>
   have := wordsZ_size (List.mem_of_getElem? h)
   rw [ByteArray.size_extract] at this
   simp only [Option.getD_some]
   omega
 ·exact Nat.zero_le _
theorem linesP_len (z : ByteArray) : (linesP z).length = (cutZ 10 z).length := by unfold linesP lnR; rw [List.length_map, pos_len]
theorem linesP_le (z : ByteArray) : (linesP z).length ≤ z.size + 1 := lnR_len (Nat.le_refl _)
theorem linesZ_len (z : ByteArray) : (linesZ z).length = (linesP z).length := by rw [← linesP_ws, List.length_map]
theorem linWs (z : ByteArray) (i : Nat) : (linesZ z).getD i [] = (linAt (linesP z) i).ws := by
 rw [← linesP_ws]
 unfold linAt
 rw [List.getD_eq_getElem?_getD, List.getD_eq_getElem?_getD, List.getElem?_map]
 cases (linesP z)[i]? <;> rfl
theorem usR_len (L : List (List ByteArray)) : ∀ i, (usR L i).uses.length ≤ i ∧ (usR L i).ops.length ≤ i
 | 0 => by simp [usR]
 | i + 1 => by
  have := usR_len L i
  unfold usR usStep
  split
  ·omega
  ·split
   ·simp; omega
   ·split
    ·simp; omega
    ·simp; omega
theorem usR_stick {L : List (List ByteArray)} {i : Nat} (h : (usR L i).bad ≠ 0) : ∀ k, (usR L (i + k)).bad = (usR L i).bad
 | 0 => rfl
 | k + 1 => by
  have ih := usR_stick h k
  show (usStep (usR L (i + k)) (i + k) _).bad = _
  unfold usStep
  split
  ·exact ih
  ·split
   ·exact ih
   ·split
    ·exact ih
    ·rw [if_neg (by rw [ih]; exact h)]; exact ih
theorem usStep_op {st : US} {i : Nat} {ws : List ByteArray} {o : POp} (h : declZ ws = some o) : usStep st i ws = { st with ops := st.ops ++ [o] } := by
 unfold usStep
 rw [if_neg (by rintro rfl; simp [declZ] at h), h]
theorem usStep_use {st : US} {i : Nat} {ws : List ByteArray} (h : declZ ws = none) (h2 : ws.length = 2) (h3 : txAt ws 0 = kwUse) : usStep st i ws = { st with uses := st.uses ++ [txAt ws 1] } := by
 unfold usStep
 rw [if_neg (by rintro rfl; simp at h2), h]
 simp only
 rw [if_pos ⟨h2, h3⟩]; rfl
theorem usStep_bad {st : US} {i : Nat} {ws : List ByteArray} (h : declZ ws = none) (h2 : ¬ (ws.length = 2 ∧ txAt ws 0 = kwUse)) (h3 : 0 < ws.length) (h0 : st.bad = 0) : usStep st i ws = { st with bad := i + 1 } := by
 unfold usStep
 rw [if_neg (by rintro rfl; simp at h3), h]
 simp only
 have h2 : ¬ (ws.length = 2 ∧ wrdAt ws 0 = kwUse) := h2
 rw [if_neg h2, if_pos h0]
theorem usStep_nil {st : US} {i : Nat} {ws : List ByteArray} (h : ws.length = 0) : usStep st i ws = st := by
 unfold usStep
 rw [if_pos (List.length_eq_zero_iff.1 h)]
def endZ (z : ByteArray) (B : Int) (E : Nat) : Prop := (B = -1 ∧ E = (linesP z).length ∧ beginP (linesP z) = none) ∨ (B = E ∧ E < (linesP z).length ∧ beginP (linesP z) = some E)
theorem endZ_ex (z : ByteArray) : ∃ B E, iOf (beginP (linesP z)) = B ∧ endZ z B E := by
 match h : beginP (linesP z) with
 | none => exact ⟨-1, (linesP z).length, rfl, .inl ⟨rfl, rfl, h⟩⟩
 | some k =>
  refine ⟨k, k, rfl, .inr ⟨rfl, ?_, h⟩⟩
  unfold beginP at h
  rw [List.findIdx?_eq_some_iff_getElem] at h
  exact h.1
theorem unit_bad {z : ByteArray} {B : Int} {E : Nat} (hz : ¬ 20000 < z.size) (hE : endZ z B E) (h : (usR (linesZ z) E).bad ≠ 0) : unitZ z = ((⟨[], [], ⟨#[]⟩⟩ : Unt), (2 : Int), ((usR (linesZ z) E).bad : Int)) := by
 unfold unitZ
 rw [if_neg hz, ← beginP_eq]
 rcases hE with ⟨_, rfl, e⟩ | ⟨_, _, e⟩
 ·rw [e]; simp only [linesZ_len]; rw [if_neg h]
 ·rw [e]; simp only; rw [if_neg h]
theorem unit_none {z : ByteArray} {B : Int} {E : Nat} (hz : ¬ 20000 < z.size) (hE : endZ z B E) (hB : B < 0) (h : (usR (linesZ z) E).bad = 0) : unitZ z = ((⟨[], [], ⟨#[]⟩⟩ : Unt), (3 : Int), (0 : Int)) := by
 unfold unitZ
 rw [if_neg hz, ← beginP_eq]
 rcases hE with ⟨_, rfl, e⟩ | ⟨e1, _, e⟩
 ·rw [e]; simp only [linesZ_len]; rw [if_pos h]
 ·omega
theorem unit_some {z : ByteArray} {B : Int} {E : Nat} (hz : ¬ 20000 < z.size) (hE : endZ z B E) (hB : ¬ B < 0) (h : (usR (linesZ z) E).bad = 0) :
  unitZ z = (⟨(usR (linesZ z) E).uses, (usR (linesZ z) E).ops, z.extract (min ((linAt (linesP z) E).b + 1) z.size) z.size⟩, 0, 0) ∧ (linAt (linesP z) E).b ≤ z.size := by
 rcases hE with ⟨rfl, _⟩ | ⟨e1, e2, e⟩
 ·omega
 have hp := pos_far 10 z E (by rw [← linesP_len]; exact e2)
 have hb : (linAt (linesP z) E).b = (posZ 10 z E).2 := by rw [linAt_def, if_pos e2]
 refine ⟨?_, by rw [hb]; exact hp.2.2.2.1⟩
 unfold unitZ
 rw [if_neg hz, ← beginP_eq, e]
 simp only
 rw [if_pos h, ← hp.2.1, hb]
set_option maxRecDepth 100000 in
theorem c_specReadUnit1 (z : ByteArray) (hz : z.size ≤ 1048576) : VFun Tryz.prog 22 [.lit (.string z)] (fun av obs => untR (unitZ z).1 (unitZ z).2.1 (unitZ z).2.2 av obs ∨ untNil (unitZ z).1 (unitZ z).2.1 (unitZ z).2.2 av obs) := by
 have h1 := c_l5Lines z hz
 refine vfun_start Tryz.func22 (by kernel_rfl) rfl (by simp [Tryz.ntmps22]) ?_; simp only [Tryz.ntmps22, Tryz.results22]; simp [go_sem]
 refine ⟨fun hbig => .inr ?_, fun hsm => ?_⟩
 ·have e : unitZ z = ((⟨[], [], ⟨#[]⟩⟩ : Unt), (1 : Int), (0 : Int)) := by unfold unitZ; rw [if_pos (by omega)]
  rw [e]
  exact ⟨rfl, rfl, rfl, rfl⟩
 ·have hsm : ¬ 20000 < z.size := by omega
  have hL1 := linesP_le z
  have hL2 := linWs_len z
  have hL3 := linWs_size z
  have hws := linWs z
  have hul := usR_len (linesZ z)
  obtain ⟨B, E, hB, hE⟩ := endZ_ex z
  have h2 := c_l5Begin (linesP z) (by omega) (fun i => by have := hL2 i; omega)
  rw [hB] at h2
  have u1 := fun h => unit_bad (z := z) hsm hE h
  have u2 := fun h h' => unit_none (z := z) hsm hE h h'
  have u3 := fun h h' => unit_some (z := z) hsm hE h h'
  have hE1 : E ≤ (linesP z).length := by rcases hE with ⟨_, e, _⟩ | ⟨_, e, _⟩ <;> omega
  have hE2 : B < 0 → E = (linesP z).length := fun h => by rcases hE with ⟨_, e, _⟩ | ⟨e, _, _⟩ <;> omega
  have hE3 : ¬ B < 0 → B = E ∧ E < (linesP z).length := fun h => by rcases hE with ⟨e, _, _⟩ | ⟨e, e2, _⟩ <;> omega
  refine uS [] h1 ?_
  rintro av mem' maps' ⟨rfl, rfl, rfl⟩
  simp [go_sem, KL]
  refine vcall_pure h2 (by simp [go_sem]; exact argSl_own5 rfl (by omega) rfl (fun _ _ => rfl) fun i c _ h => linClosed _ i c h) ?_
  simp [go_sem]
  refine ⟨fun hB0 => ⟨by omega, ?_⟩, fun hB0 => ?_⟩
  case' refine_1 => have e7 : ((linesP z).length : Int) = E := by rw [hE2 hB0]
  case' refine_2 => have e7 : B = E := (hE3 (by omega)).1
  all_goals
   refine vc_loopE (fun i : Nat => i ≤ E ∧ (usR (linesZ z) i).bad = 0) (fun i => E - i) (fun i => .of [(0, .lit (.string z)), (2, .ptr 0 3 0 0), (5, .own 1), (6, .lit (.int .i64 B)), (7, .lit (.int .i64 E)), (8, .ptr 4 3 0 0), (9, .lit (.int .i64 i))]
    [some ⟨44, 3, 1, fun _ => [.lit (.slice none 0 0), .lit (.slice none 0 0), .lit (.string ⟨#[]⟩)]⟩, linRow (linesP z), txRow (usR (linesZ z) i).uses, opRow5 (usR (linesZ z) i).ops, some ⟨44, 3, 1, fun _ => [.own 2, .own 3, .lit (.string ⟨#[]⟩)]⟩]) ⟨0, ⟨by omega, rfl⟩, ?_⟩ (fun i hi => ?_)
   ·exact uE [0, 1, 2, 3, 4] (h1 := by simp [go_sem, e7]) (h4 := by simp [go_sem, KL, K5, opRow5, usR])
   ·obtain ⟨hi1, hi2⟩ := hi
    have hl := hul i
    have hwl := hL2 i
    have h3 := c_l5OpOf (linAt (linesP z) i).ws (by omega) (fun j => by have := hL3 i j; omega)
    have hnx : usR (linesZ z) (i + 1) = usStep (usR (linesZ z) i) i (linAt (linesP z) i).ws := by rw [← hws]; rfl
    have hwr : IntKind.i64.wrap ((i : Int) + 1) = (i : Int) + 1 := wrap_i64 (by omega)
    simp [go_sem, KL, K5, opRow5, linCells_at]
    refine ⟨fun h => ⟨by omega, ?_⟩, fun h => ?_⟩
    ·cases hd : declZ (linAt (linesP z) i).ws with
     | some o =>
      rw [declV, hd] at h3
      rw [usStep_op hd] at hnx
      refine vcall_use h3 (by simp [go_sem]; exact argSl_refl (by omega) fun i c _ h => txClosed _ i c h) ?_
      rintro av obs ⟨rfl, rfl⟩
      simp [go_sem, POp.cells]
      refine ⟨by omega, by omega, i + 1, ⟨by omega, by rw [hnx]; exact hi2⟩, by omega, ?_⟩
      exact uE [0, 1, 2, 7, 4] (h1 := by simp [go_sem, hwr]) (h4 := by simp [go_sem, KL, K5, hnx, op_new5])
     | none =>
      rw [declV, hd] at h3
      refine vcall_use h3 (by simp [go_sem]; exact argSl_refl (by omega) fun i c _ h => txClosed _ i c h) ?_
      rintro av obs ⟨rfl, rfl⟩
      simp [go_sem, nilOp, POp.cells, txCells_at, KW5]
      have bad : ∀ (h2 : ¬ ((linAt (linesP z) i).ws.length = 2 ∧ txAt (linAt (linesP z) i).ws 0 = kwUse)) (h3 : 0 < (linAt (linesP z) i).ws.length), unitZ z = ((⟨[], [], ⟨#[]⟩⟩ : Unt), (2 : Int), ((i + 1 : Nat) : Int)) := fun g1 g2 => by
       rw [usStep_bad hd g1 g2 hi2] at hnx
       have s1 : (usR (linesZ z) (i + 1)).bad ≠ 0 := by rw [hnx]; simp
       have s2 := usR_stick s1 (E - (i + 1))
       rw [show i + 1 + (E - (i + 1)) = E by omega] at s2
       rw [u1 (by rw [s2]; exact s1), s2, hnx]
      have nil : (linAt (linesP z) i).ws = [] → usR (linesZ z) (i + 1) = usR (linesZ z) i := fun g => by rw [hnx, usStep_nil (by rw [g]; rfl)]
      refine ⟨by omega, fun g1 => ⟨by omega, fun g2 => ?_, fun g2 => ⟨by omega, fun g3 => .inr ?_, fun g3 => ⟨i + 1, ⟨by omega, by rw [nil g3]; exact hi2⟩, by omega, ?_⟩⟩⟩, fun g1 => ⟨by omega, fun g3 => .inr ?_, fun g3 => ⟨i + 1, ⟨by omega, by rw [nil g3]; exact hi2⟩, by omega, ?_⟩⟩⟩
      ·refine vc_drawn [6,8] (.q 0 <| .q 1 <| .q 2 <| .q 3 <| .q 4 <| .or 5 (.or 6 (.q 7 <| .or 8 (.done) (.nil)) (.nil)) (.nil)) (by kernel_rfl) ?_
       simp [go_sem, txCells_at]
       rw [usStep_use hd (by omega) g2] at hnx
       refine ⟨by omega, by omega, by omega, i + 1, ⟨by omega, by rw [hnx]; exact hi2⟩, by omega, ?_⟩
       exact uE [0, 1, 7, 3, 4] (h1 := by simp [go_sem, hwr]) (h4 := by simp [go_sem, KL, K5, hnx, tx_new])
      ·rw [bad (fun g => g2 g.2) g3]
       exact ⟨by rw [hwr]; rfl, rfl, rfl, rfl⟩
      ·exact uE [0, 1, 2, 3, 4] (h1 := by simp [go_sem, hwr]) (h4 := by simp [go_sem, KL, K5, nil g3])
      ·rw [bad (fun g => g1 (by rw [g.1]; rfl)) g3]
       exact ⟨by rw [hwr]; rfl, rfl, rfl, rfl⟩
      ·exact uE [0, 1, 2, 3, 4] (h1 := by simp [go_sem, hwr]) (h4 := by simp [go_sem, KL, K5, nil g3])
    ·have hiE : i = E := by omega
     subst hiE
     refine ⟨fun g => .inr ?_, fun g => ?_⟩
     ·rw [u2 g hi2]
      exact ⟨rfl, rfl, rfl, rfl⟩
     ·obtain ⟨g1, g2⟩ := hE3 (by omega)
      obtain ⟨g3, g4⟩ := u3 (by omega) hi2
      have e8 : B.toNat = i := by omega
      have hw : IntKind.i64.wrap (((linAt (linesP z) i).b : Int) + 1) = ((linAt (linesP z) i).b : Int) + 1 := wrap_i64 (by omega)
      have e9 : (((linAt (linesP z) i).b : Int) + 1).toNat = (linAt (linesP z) i).b + 1 := by omega
      have o1 : ObsSame [⟨9, 1, (usR (linesZ z) i).uses.length, txCells (usR (linesZ z) i).uses⟩, ⟨73, 4, (usR (linesZ z) i).ops.length, opCells (usR (linesZ z) i).ops⟩] [⟨9, 1, (usR (linesZ z) i).uses.length, txCells (usR (linesZ z) i).uses⟩, ⟨73, 4, (usR (linesZ z) i).ops.length, opCells (usR (linesZ z) i).ops⟩] :=
       ⟨⟨rfl, rfl, rfl, fun j hj => ⟨rfl, txLit _ j⟩⟩, ⟨rfl, rfl, rfl, fun j hj => ⟨rfl, opLit _ j⟩⟩, trivial⟩
      rw [e8, g3, hw, e9]
      refine ⟨by omega, by omega, g2, fun g5 => ⟨by omega, by omega, g2, by omega, by omega, _, o1, .inl ⟨?_, rfl⟩⟩, fun g5 => ⟨_, o1, .inl ⟨?_, rfl⟩⟩⟩
      ·simp only
       rw [Nat.min_eq_left (by omega)]; rfl
      ·simp only
       rw [Nat.min_eq_right (by omega), ext_end]; rfl
end Go.Proofs.YtadghlfkddkelaaGreatDoor.V
namespace Go.Proofs.YtadghlfkddkelaaGreatDoor.V
open Go.RowKit
section
variable {P : Program} {n : Nat} {base : Fr} {w0 w : World} {hd : Nat → Value} {s : VS} {a : Act}
theorem RelH.rowSub (h : RelH n base w0 hd s a w) {k : Nat} {ob : Ob} (hk : s.mem[k]? = some (some ob)) (hc : ∀ i, i < ob.n → ∀ c, c ∈ ob.f i → Closed c) {m c : Nat} {A : Option Addr} (hm : m ≤ ob.n) (hmc : m ≤ c)
  (hA : 0 < m → ∃ b n' c', hd k = .slice (some ⟨b, 0, none⟩) n' c' ∧ A = some ⟨b, 0, none⟩) : Rep w (okOf (s.mem.set k none) hd) hd (s.mem.set k none).length (.sl ob.sz m ob.f) (.slice A m c) := by
 obtain ⟨hs, vals, ho, hr⟩ := h.me.obs k ob hk
 rcases id ho.2 with ⟨e, h0⟩ | ⟨g, cap, cur, e, h3, h1, h2, h4⟩
 ·have hm0 : m = 0 := by omega
  subst hm0
  exact .sl _ _ _ A c (fun _ _ => undef) hmc (by omega) hs (fun i hi => by omega) (fun hp => by omega) (fun i j av hi => by omega)
 ·have hcells := fun i hi => h.cells_ hk e (i := i) hi
  have hown : (hd k).ownBlock = some g := by rw [e]; rfl
  refine .sl _ _ _ _ _ (fun i j => (w.cell? ((⟨g, i * ob.sz, none⟩ : Addr).add j)).getD undef) hmc (by simp only [maxLen] at h2; omega) hs (fun i hi => (hr i (by omega)).1) (fun hp => ?_) fun i j av hi hj => ?_
  ·obtain ⟨b, n', c', e5, rfl⟩ := hA hp
   rw [e] at e5
   simp only [Value.slice.injEq, Option.some.injEq, Addr.mk.injEq, and_true] at e5
   obtain ⟨rfl, _, _⟩ := e5
   refine ⟨_, rfl, ⟨fun q ob' hq e' => ?_, h.ownTail (h.me.alw k ob hk g hown)⟩, fun i j hi hj => ?_⟩
   ·obtain ⟨hq1, hq2⟩ := free_get hq
    rcases h.me.apart q k ob' ob hq1 hk hq2 with e2 | e2
    ·rw [e'] at e2; cases e2
    ·exact e2 (by rw [e', hown])
   ·obtain ⟨u, h1, _⟩ := hcells i (by omega) j _ (List.getElem?_eq_getElem (by rw [(hr i (by omega)).1]; exact hj))
    have e3 : ((⟨g, 0, none⟩ : Addr).add (i * ob.sz + j)) = (⟨g, i * ob.sz, none⟩ : Addr).add j := by
     by_cases hj0 : j = 0
     ·subst hj0
      by_cases hi0 : i * ob.sz = 0
      ·simp [Addr.add, hi0]
      ·simp only [Addr.add, Nat.add_zero]; rw [if_neg hi0]; simp
     ·have hne : ¬ (i * ob.sz + j = 0) := by omega
      simp only [Addr.add]; rw [if_neg hne, if_neg hj0]; simp
    rw [e3, h1]; rfl
  ·obtain ⟨u, h1, h2⟩ := hcells i (by omega) j av hj
   simp only [h1]
   exact Rep.closed (hc i (by omega) av (List.mem_of_getElem? hj)) (fun ad u' g1 g2 => ⟨g2, free_ok _ _ _ _ g1⟩) h2
end
theorem Rep.slExt {w : World} {ok : Nat → Prop} {hd : Nat → Value} {m sz n : Nat} {f f' : Nat → List AV} {v : Value} (h : Rep w ok hd m (.sl sz n f) v) (e : ∀ i, i < n → f i = f' i) : Rep w ok hd m (.sl sz n f') v := by
 cases h with
 | sl _ _ _ A c u hc hm hsz hl ha h => exact .sl _ _ _ A c u hc hm hsz (fun i hi => by rw [← e i hi]; exact hl i hi) ha fun i j a hi hj => h i j a hi (by rw [e i hi]; exact hj)
theorem VProc.giveR {P : Program} {f : FuncId} {args : List AV} {R R' : AV → List (Option Ob) → List (Nat × Mp) → Prop} (h : VProc P f args [] [] R)
  (hr : ∀ av mem maps, R av mem maps → ∃ ob m f', (∀ i, i < m → ob.f i = f' i) ∧ mem = [some ob] ∧ maps = [] ∧ m ≤ ob.n ∧ (∀ i, i < ob.n → ∀ c, c ∈ ob.f i → Closed c) ∧ (av = .own 0 ∧ m = ob.n ∨ av = .sub 0 ob.sz 0 m) ∧ R' (.sl ob.sz m f') [] []) : VProc P f args [] [] R' := by
 refine ⟨h.1, fun w vs hd0 hl hv hm hmp ht => (h.2 w vs hd0 hl hv hm hmp ht).mono fun e w' ⟨v, e1, g, hd, av, mem, maps, r, po, hx, me, mp, rp⟩ => ?_⟩
 obtain ⟨ob, m, f', hff, rfl, rfl, hmn, hcl, hav, r'⟩ := hr av mem maps r
 have h : RelH 0 ⟨P, Sh w hd0 [] [], hd0, []⟩ w hd ⟨[], [some ob], [], 0⟩ ⟨#[], []⟩ w' :=
  ⟨rfl, rfl, g, ⟨fun b hb => .inl hb, hl.2.1, hl.2.2⟩, Nat.zero_le _, ⟨fun k hk => absurd hk (Nat.not_lt_zero k), hx.2, ht⟩, mp, fun t => .undef _, me⟩
 have hcl' : Closed (.sl ob.sz m ob.f) := .sl _ _ _ fun i c hi hc => hcl i (by omega) c hc
 have fin : ∀ {v}, Rep w' (okOf ([some ob].set 0 none) hd) hd ([some ob].set 0 none).length (.sl ob.sz m ob.f) v → Rep w' (okOf [] hd) hd 0 (.sl ob.sz m ob.f) v := fun hrep =>
  Rep.closed hcl' (fun ad u g1 g2 => ⟨g2, fun k ob hk => by simp at hk, g1.2⟩) hrep
 have hsz : ∃ v', v = v' ∧ Rep w' (okOf [] hd) hd 0 (.sl ob.sz m ob.f) v' := by
  rcases hav with ⟨rfl, rfl⟩ | rfl
  ·cases rp with
   | own _ _ => exact ⟨_, rfl, fin (h.rowSl (k := 0) rfl hcl)⟩
  ·cases rp with
   | sub _ _ _ _ A c hk hc ha => exact ⟨_, rfl, fin (h.rowSub (k := 0) rfl hcl hmn hc (fun hp => by obtain ⟨b, n', c', q1, q2, _⟩ := ha (by omega); exact ⟨b, n', c', q1, by rw [q2]; simp⟩))⟩
 obtain ⟨v', rfl, hrep⟩ := hsz
 have hcl2 : Closed (.sl ob.sz m f') := .sl _ _ _ fun i c hi hc => hcl i (by omega) c (by rw [hff i hi]; exact hc)
 exact ⟨v, e1, g, hd, _, _, _, r', ⟨Nat.zero_le _, .inr hcl2, fun k ob hk => by simp at hk, fun b hb => hb⟩, ⟨fun k hk => by simp at hk, hx.2⟩, ⟨fun k ob hk => by simp at hk, fun k ob hk => by simp at hk, fun k hk => absurd hk (Nat.not_lt_zero k), fun k k' o o' hk => by simp at hk⟩, mp, hrep.slExt hff⟩
end Go.Proofs.YtadghlfkddkelaaGreatDoor.V
namespace Go.Proofs.YtadghlfkddkelaaGreatDoor.V
open Go.RowKit
def emptyFn : Value := .func (.func 121) #[] #[]
theorem c_wordsFn (z : ByteArray) : VFun Tryz.prog 121 [.lit (.string z)] (fun av obs => obs = [] ∧ av = .lit (.bool (decide (z = ByteArray.empty)))) := by
 refine vfun_start Tryz.func121 (by kernel_rfl) rfl (by simp [Tryz.ntmps121]) ?_; simp only [Tryz.ntmps121, Tryz.results121]; simp [go_sem]
 show z.toList.isEmpty = _
 rw [ba_empty]
 rfl
def firstE (ws : List ByteArray) : Option Nat := ws.findIdx? fun w => decide (w = ByteArray.empty)
theorem firstE_none {ws : List ByteArray} (h : ∀ j, j < ws.length → ¬ txAt ws j = ByteArray.empty) : firstE ws = none := by
 unfold firstE
 rw [List.findIdx?_eq_none_iff]
 intro x hx
 obtain ⟨j, hj⟩ := List.getElem?_of_mem hx
 have := h j (List.getElem?_eq_some_iff.1 hj).1
 unfold txAt at this
 rw [List.getD_eq_getElem?_getD, hj] at this
 simpa using this
theorem firstE_some {ws : List ByteArray} {i : Nat} (hi : i < ws.length) (h : ∀ j, j < i → ¬ txAt ws j = ByteArray.empty) (hb : txAt ws i = ByteArray.empty) : firstE ws = some i := by
 unfold firstE
 rw [List.findIdx?_eq_some_iff_getElem]
 have e : ∀ j (hj : j < ws.length), txAt ws j = ws[j] := fun j hj => by
  unfold txAt; rw [List.getD_eq_getElem?_getD, List.getElem?_eq_getElem hj]; rfl
 refine ⟨hi, by rw [← e i hi]; simpa using hb, fun j hj => ?_⟩
 rw [← e j (by omega)]
 simpa using h j hj
set_option maxRecDepth 100000 in
theorem c_indexFunc (ws : List ByteArray) (hl : ws.length ≤ 2000000) : VFun Tryz.prog 156 [.sl 1 ws.length (txCells ws), .lit emptyFn] (fun av obs => obs = [] ∧ av = .lit (.int .i64 (iOf (firstE ws)))) := by
 refine vfun_start Tryz.func156 (by kernel_rfl) rfl (by simp [Tryz.ntmps156]) ?_; simp only [Tryz.ntmps156, Tryz.results156]; simp [go_sem]
 simp [go_sem, K5, emptyFn]
 refine ⟨by omega, vc_loop (fun i : Nat => i ≤ ws.length ∧ ∀ j, j < i → ¬ txAt ws j = ByteArray.empty) (fun i => ws.length - i) (fun i => .of [(0, .sl 1 ws.length (txCells ws)), (1, .lit (.func (.func 121) #[] #[])), (7, .lit (.int .i64 ws.length)), (8, .lit (.int .i64 i))] []) ⟨0, ⟨by omega, fun j h => by omega⟩, ?_⟩ (fun i hi => ?_)⟩
 ·simp [go_sem, K5]
 ·obtain ⟨hi, hj⟩ := hi
  simp [go_sem, K5, txCells_at]
  refine ⟨fun h => ⟨h, vcall_pure (c_wordsFn (txAt ws i)) (by simp [go_sem]) ?_⟩, fun h => ?_⟩
  ·simp [go_sem]
   refine ⟨fun h2 => ?_, fun h2 => ⟨i + 1, ⟨h, fun j h3 => ?_⟩, by omega, fun i c _ h => txClosed ws i c h, wrap_succ (by omega)⟩⟩
   ·rw [firstE_some h hj h2]; rfl
   ·by_cases e : j = i
    ·rw [e]; exact h2
    ·exact hj j (by omega)
  ·rw [firstE_none fun j h2 => hj j (by omega)]; rfl
def delR (ws : List ByteArray) (i : Nat) : List ByteArray := (ws.take i).filter fun w => decide (0 < w.size)
theorem delR_len (ws : List ByteArray) (i : Nat) : (delR ws i).length ≤ i := Nat.le_trans (List.length_filter_le _ _) (by rw [List.length_take]; omega)
theorem delR_fin (ws : List ByteArray) : delR ws ws.length = ws.filter fun w => decide (0 < w.size) := by unfold delR; rw [List.take_length]
theorem delR_succ {ws : List ByteArray} {i : Nat} (h : i < ws.length) : delR ws (i + 1) = if txAt ws i = ByteArray.empty then delR ws i else delR ws i ++ [txAt ws i] := by
 unfold delR
 rw [List.take_succ_eq_append_getElem h, List.filter_append]
 have e : txAt ws i = ws[i] := by unfold txAt; rw [List.getD_eq_getElem?_getD, List.getElem?_eq_getElem h]; rfl
 rw [e]
 by_cases h2 : ws[i] = ByteArray.empty
 ·rw [if_pos h2, List.filter_cons_of_neg (by rw [h2]; simp)]; simp
 ·rw [if_neg h2, List.filter_cons_of_pos (by simp; exact Nat.pos_of_ne_zero fun h0 => h2 (by apply ByteArray.ext; exact Array.eq_empty_of_size_eq_zero h0))]; simp
theorem delR_first {ws : List ByteArray} {k : Nat} (hk : firstE ws = some k) : k < ws.length ∧ (∀ j, j < k → ¬ txAt ws j = ByteArray.empty) ∧ txAt ws k = ByteArray.empty := by
 unfold firstE at hk
 rw [List.findIdx?_eq_some_iff_getElem] at hk
 obtain ⟨h1, h2, h3⟩ := hk
 have e : ∀ j (hj : j < ws.length), txAt ws j = ws[j] := fun j hj => by
  unfold txAt; rw [List.getD_eq_getElem?_getD, List.getElem?_eq_getElem hj]; rfl
 refine ⟨h1, fun j hj => ?_, by rw [e k h1]; simpa using h2⟩
 rw [e j (by omega)]
 simpa using h3 j hj
theorem delR_pre {ws : List ByteArray} {k : Nat} (hk : ∀ j, j < k → ¬ txAt ws j = ByteArray.empty) (hl : k ≤ ws.length) : delR ws k = ws.take k := by
 induction k with
 | zero => simp [delR]
 | succ k ih =>
  rw [delR_succ (by omega), if_neg (hk k (by omega)), ih (fun j hj => hk j (by omega)) (by omega), List.take_succ_eq_append_getElem (by omega)]
  congr 2
  unfold txAt; rw [List.getD_eq_getElem?_getD, List.getElem?_eq_getElem (by omega)]; rfl
def rowD (ws : List ByteArray) (j : Nat) : List ByteArray := delR ws j ++ ws.drop (delR ws j).length
theorem rowD_len {ws : List ByteArray} {j : Nat} (h : j ≤ ws.length) : (rowD ws j).length = ws.length := by
 have := delR_len ws j
 unfold rowD
 rw [List.length_append, List.length_drop]; omega
theorem rowD_at {ws : List ByteArray} {j : Nat} : txAt (rowD ws j) j = txAt ws j := by
 have := delR_len ws j
 unfold txAt rowD
 rw [List.getD_eq_getElem?_getD, List.getD_eq_getElem?_getD, List.getElem?_append_right (by omega), List.getElem?_drop]
 congr 2; omega
theorem rowD_put {ws : List ByteArray} {j : Nat} (h : j < ws.length) (hn : ¬ txAt ws j = ByteArray.empty) : rowD ws (j + 1) = (rowD ws j).set (delR ws j).length (txAt ws j) := by
 have hd := delR_len ws j
 unfold rowD
 rw [delR_succ h, if_neg hn, List.set_append_right _ _ (Nat.le_refl _), Nat.sub_self, List.length_append, List.length_singleton]
 rw [List.drop_eq_getElem_cons (i := (delR ws j).length) (by omega), List.set_cons_zero, List.append_assoc]
 rfl
theorem rowD_keep {ws : List ByteArray} {j : Nat} (h : j < ws.length) (hn : txAt ws j = ByteArray.empty) : rowD ws (j + 1) = rowD ws j := by
 unfold rowD
 rw [delR_succ h, if_pos hn]
theorem tx_put {g : Nat → Nat} {m n k : Nat} {l : List ByteArray} {x : ByteArray} (hn : l.length = n) (hk : k < n) : (∀ i, i < n → CellsRn g m (updF n (txCells l) k 0 [AV.lit (.string x)] i) (txCells (l.set k x) i)) := fun i hi => by
 have : updF n (txCells l) k 0 [AV.lit (.string x)] i = txCells (l.set k x) i := by
  unfold updF txCells txAt splice
  simp only [List.getD_eq_getElem?_getD, List.getElem?_set]
  by_cases e : n = 1
  ·have e1 : k = 0 := by omega
   have e2 : i = 0 := by omega
   subst e1; subst e2
   simp [e, hn]
  ·by_cases e2 : i = k
   ·subst e2; simp [e, hn, hi]
   ·have e3 : ¬ k = i := fun h => e2 h.symm
    simp [e, e2, e3]
 rw [this]
 exact cellsRn_lits (txLit _ i)
def delPost (ws : List ByteArray) (av : AV) (mem : List (Option Ob)) (maps : List (Nat × Mp)) : Prop := maps = [] ∧ ∃ f m, mem = [some ⟨9, 1, ws.length, f⟩] ∧ m = (ws.filter fun w => decide (0 < w.size)).length ∧ (av = .own 0 ∧ m = ws.length ∨ av = .sub 0 1 0 m) ∧
  (∀ i, (f i).all isLit = true) ∧ ∀ i, i < m → f i = txCells (ws.filter fun w => decide (0 < w.size)) i
set_option maxRecDepth 100000 in
theorem c_deleteFunc (ws : List ByteArray) (hl : ws.length ≤ 2000000) : VProc Tryz.prog 120 [.own 0, .lit emptyFn] [txRow ws] [] (delPost ws) := by
 have h1 := c_indexFunc ws hl
 match hf : firstE ws with
 | none =>
  rw [hf] at h1
  refine vproc_start Tryz.func120 (by kernel_rfl) rfl (by simp [Tryz.ntmps120]) ?_; simp only [Tryz.ntmps120, Tryz.results120]; simp [go_sem]
  simp [go_sem, K5]
  refine vcall_pure h1 (by simp [go_sem]; exact argSl_own5 rfl (by omega) rfl (fun _ _ => rfl) fun i c _ h => txClosed ws i c h) ?_
  simp [go_sem, iOf]
  have e : (ws.filter fun w => decide (0 < w.size)) = ws := by
   rw [← delR_fin, delR_pre (fun j hj e => ?_) (Nat.le_refl _), List.take_length]
   unfold firstE at hf
   rw [List.findIdx?_eq_none_iff] at hf
   have := hf (txAt ws j) (by unfold txAt; rw [List.getD_eq_getElem?_getD, List.getElem?_eq_getElem hj]; exact List.getElem_mem hj)
   simp [e] at this
  refine uF [] [txRow ws] (hR := ⟨rfl, txCells ws, ws.length, rfl, by rw [e], .inl ⟨rfl, rfl⟩, fun i => txLit _ i, fun i hi => by rw [e]⟩)
 | some k =>
  rw [hf] at h1
  obtain ⟨f1, f2, f3⟩ := delR_first hf
  refine vproc_start Tryz.func120 (by kernel_rfl) rfl (by simp [Tryz.ntmps120]) ?_; simp only [Tryz.ntmps120, Tryz.results120]; simp [go_sem]
  simp [go_sem, K5]
  refine vcall_pure h1 (by simp [go_sem]; exact argSl_own5 rfl (by omega) rfl (fun _ _ => rfl) fun i c _ h => txClosed ws i c h) ?_
  simp [go_sem, iOf]
  refine vc_loopE (fun j : Nat => j ≤ ws.length) (fun j => ws.length - j) (fun j => ⟨[(0, .own 0), (1, .lit (.func (.func 121) #[] #[])), (5, .lit (.int .i64 (delR ws j).length)), (6, .lit (.int .i64 j))], [txRow (rowD ws j)], [], 1⟩) ⟨k + 1, by omega, ?_⟩ (fun j hj => ?_)
  ·have e0 : delR ws (k + 1) = ws.take k := by rw [delR_succ f1, if_pos f3, delR_pre f2 (by omega)]
   have e1 : (delR ws (k + 1)).length = k := by rw [e0, List.length_take]; omega
   have e2 : rowD ws (k + 1) = ws := by unfold rowD; rw [e1, e0, List.take_append_drop]
   have hwr : IntKind.i64.wrap ((k : Int) + 1) = (k : Int) + 1 := wrap_i64 (by omega)
   exact uE [0] (h1 := by simp [go_sem, e1, hwr, emptyFn]) (h4 := by simp [go_sem, K5, e2])
  ·have hd := delR_len ws j
   have hr := rowD_len hj
   have ha := rowD_at (ws := ws) (j := j)
   simp [go_sem, K5, hr, txCells_at, ha]
   refine ⟨by omega, fun h => ⟨h, vcall_pure (c_wordsFn (txAt ws j)) (by simp [go_sem]) ?_⟩, fun h => ?_⟩
   ·have hwr : IntKind.i64.wrap ((j : Int) + 1) = (j : Int) + 1 := wrap_i64 (by omega)
    have hwd : IntKind.i64.wrap (((delR ws j).length : Int) + 1) = ((delR ws j).length : Int) + 1 := wrap_i64 (by omega)
    simp [go_sem]
    refine ⟨fun hn => ⟨by omega, j + 1, h, by omega, ?_⟩, fun hn => ⟨j + 1, h, by omega, ?_⟩⟩
    ·have s1 : delR ws (j + 1) = delR ws j ++ [txAt ws j] := by rw [delR_succ h, if_neg hn]
     have s2 := rowD_put h hn
     have s3 : (rowD ws (j + 1)).length = ws.length := rowD_len h
     exact uE [0] (h1 := by simp [go_sem, hwr, hwd, s1]) (h4 := by simp [go_sem, K5, s3]; rw [s2]; exact .inr (tx_put hr (by omega)))
    ·have s1 : delR ws (j + 1) = delR ws j := by rw [delR_succ h, if_pos hn]
     have s2 := rowD_keep h hn
     exact uE [0] (h1 := by simp [go_sem, hwr, s1]) (h4 := by simp [go_sem, K5, s2, hr])
   ·obtain rfl : j = ws.length := by omega
    have hz0 : zeroIs Tryz.prog 9 (.string ⟨#[]⟩) := fun w => Tryz.zeroValue9 w
    refine ⟨by omega, by omega, .string ⟨#[]⟩, hz0, rfl, rfl, by omega, ?_⟩
    refine uF [] [some ⟨9, 1, ws.length, clrF (txCells (rowD ws ws.length)) (delR ws ws.length).length (ws.length - (delR ws ws.length).length) (.string ⟨#[]⟩)⟩] (hm := ?_) (hR := ⟨rfl, _, (delR ws ws.length).length, rfl, by rw [delR_fin], .inr rfl, fun i => ?_, fun i hi => ?_⟩)
    ·simp [go_sem]
     exact of_eq_true (outAt_all fun i => by
      simp only
      unfold clrF
      split
      ·rfl
      ·exact txLit _ i)
    ·unfold clrF
     split
     ·rfl
     ·exact txLit _ i
    ·unfold clrF
     rw [if_neg (by omega)]
     have : txAt (rowD ws ws.length) i = txAt (delR ws ws.length) i := by
      unfold txAt rowD
      rw [List.getD_eq_getElem?_getD, List.getD_eq_getElem?_getD, List.getElem?_append_left hi]
     simp only [txCells_at, this, delR_fin]
theorem ren_lits {g : Nat → Nat} : ∀ {l : List AV}, l.all isLit = true → l.map (ren1 g) = l
 | [], _ => rfl
 | a :: r, h => by
  simp only [List.all_cons, Bool.and_eq_true] at h
  rw [List.map_cons, ren_lits h.2]
  cases a <;> simp [isLit] at h <;> rfl
theorem c_words (z : ByteArray) (hz : z.size ≤ 1048576) : VProc Tryz.prog 83 [.lit (.string z)] [] [] (fun av mem maps => av = .sl 1 (wordsZ z).length (txCells (wordsZ z)) ∧ mem = [] ∧ maps = []) := by
 have hl := cutZ_len 32 z
 have h1 := c_split 32 z hz
 have h2 := c_deleteFunc (cutZ 32 z) (by omega)
 have h : VProc Tryz.prog 83 [.lit (.string z)] [] [] (delPost (cutZ 32 z)) := by
  refine vproc_start Tryz.func83 (by kernel_rfl) rfl (by simp [Tryz.ntmps83]) ?_; simp only [Tryz.ntmps83, Tryz.results83]; simp [go_sem]
  refine vcall_use h1 (by simp [go_sem]) ?_
  rintro av obs ⟨rfl, rfl⟩
  simp [go_sem]
  refine uS [0] h2 ?_ (ha := by simp [go_sem, K5]; rfl)
  rintro av mem maps ⟨rfl, f, m, rfl, hm, hav, hlit, hf⟩
  have hren : (fun i => List.map (ren1 (backN [0] 1)) (f i)) = f := funext fun i => ren_lits (hlit i)
  rcases hav with ⟨rfl, hav⟩ | rfl
  ·simp [go_sem]
   rw [hren]
   exact uF [0] [some ⟨9, 1, (cutZ 32 z).length, f⟩] (hm := by simp [go_sem]; exact of_eq_true (outAt_all hlit)) (hR := ⟨rfl, f, m, rfl, hm, .inl ⟨rfl, hav⟩, hlit, hf⟩)
  ·simp [go_sem]
   rw [hren]
   exact uF [0] [some ⟨9, 1, (cutZ 32 z).length, f⟩] (hm := by simp [go_sem]; exact of_eq_true (outAt_all hlit)) (hR := ⟨rfl, f, m, rfl, hm, .inr rfl, hlit, hf⟩)
 refine h.giveR fun av mem maps hp => ?_
 obtain ⟨rfl, f, m, rfl, hm, hav, hlit, hf⟩ := hp
 refine ⟨_, m, txCells (wordsZ z), hf, rfl, rfl, ?_, fun i hi c hc => ?_, hav, ?_⟩
 ·rw [hm]; exact List.length_filter_le _ _
 ·have := List.all_eq_true.1 (hlit i) c hc
  cases c with
  | lit v => exact .lit v
  | _ => simp [isLit] at this
 ·rw [hm]; exact ⟨rfl, rfl, rfl⟩
theorem vfun_below2 {P : Program} {f : FuncId} {vs : List Value} {x y : Value} (hf : FnOk P f) (h : ∀ w, Calls P f vs.toArray w fun e w' => e = .returned (.tuple #[x, y]) ∧ Below w.heap.size w w') : VFun P f (vs.map .lit) (fun av obs => obs = [] ∧ av = .tup [.lit x, .lit y]) := by
 refine ⟨hf, fun w us hl hu => ?_⟩
 have e : us = vs := by
  have hl' : vs.length = us.length := by simpa using hl.1
  apply List.ext_getElem hl'.symm
  intro j h1 h2
  have := hu j (.lit vs[j]) us[j] (by simp [h2]) (List.getElem?_eq_getElem h1)
  generalize us[j] = x at this
  generalize vs[j] = y at this
  cases this
  rfl
 subst e
 refine (h w).mono fun e w' ⟨he, hw⟩ => ?_
 subst he
 refine ⟨_, rfl, ⟨hw.os, hw.tape, hw.output, hw.size, fun k hk _ => hw.block k hk⟩, fun _ => undef, .tup [.lit x, .lit y], [], ⟨rfl, rfl⟩, rfl, fun ob h => by simp at h, ⟨fun k ob h => by simp at h, fun k ob h => by simp at h, fun k h => by simp at h, fun k k' o o' h => by simp at h⟩, .tup _ [x, y] rfl fun j a u ha hu => ?_⟩
 match j with
 | 0 => simp at ha hu; subst ha; subst hu; exact .lit _
 | 1 => simp at ha hu; subst ha; subst hu; exact .lit _
 | j + 2 => simp at ha
theorem c_atoi {w : ByteArray} (h : numZ w = true) (hs : w.size ≤ 6) : VFun Tryz.prog 158 [.lit (.string w)] (fun av obs => obs = [] ∧ av = .tup [.lit (.int .i64 (decR w w.size : Nat)), .lit .nilIface]) :=
 vfun_below2 (vs := [.string w]) ⟨_, Tryz.func158, rfl, rfl⟩ fun W => (Any.strconv_Atoi Tryz.lays172 w _ (by omega) (atoi_dec h) W).mono fun e w' ⟨he, t, hw⟩ => ⟨he, by rw [hw]; exact Lib.bytesWorld_below W _ t⟩
set_option maxRecDepth 100000 in
theorem c_levelOf (w : ByteArray) (hw : w.size ≤ 1048576) : VFun Tryz.prog 124 [.lit (.string w)] (fun av obs => obs = [] ∧ av = .tup (match levelZ w with | some v => [.lit (.int .i64 v), .lit (.bool true)] | none => [.lit (.int .i64 0), .lit (.bool false)])) := by
 have h1 := c_trim w (by omega)
 have lvN : ¬ (numZ w = true ∧ w.size ≤ 6) → levelZ w = none := fun h => by unfold levelZ; rw [if_neg h]
 have lvS : (numZ w = true ∧ w.size ≤ 6) → levelZ w = some (decR w w.size) := fun h => by unfold levelZ; rw [if_pos h]
 refine vfun_start Tryz.func124 (by kernel_rfl) rfl (by simp [Tryz.ntmps124]) ?_; simp only [Tryz.ntmps124, Tryz.results124]; simp [go_sem]
 refine ⟨fun hp => ⟨fun h6 => ?_, fun h6 => ?_⟩, fun hp => ?_⟩
 ·have hn := trimDg_num w (by omega)
  refine vcall_pure h1 (by simp [go_sem, digitBytes]) ?_
  simp [go_sem]
  refine ⟨fun hd => ?_, fun hd => ?_⟩
  ·have hnz : ¬ numZ w = true := fun e => hd (by
    rw [← hn] at e
    rw [of_decide_eq_true e, ByteArray.toList_eq])
   rw [lvN (fun h => hnz h.1)]
  ·have hnz : numZ w = true := by
    rw [← hn]
    exact decide_eq_true (ByteArray.ext (by rw [ByteArray.toList_eq] at hd; exact Array.toList_inj.1 (by rw [hd])))
   have h2 := c_atoi hnz (by omega)
   rw [lvS ⟨hnz, by omega⟩]
   refine vcall_use h2 (by simp [go_sem]) ?_
   rintro av obs ⟨rfl, rfl⟩
   simp [go_sem]
   refine vc_drawn [] (.q 0 <| .q 1 <| .q 2 <| .q 3 <| .q 4 <| .done) (by kernel_rfl) ?_
   simp [go_sem]
 ·rw [lvN (fun h => by omega)]
 ·rw [lvN (fun h => by
   have := h.1
   simp only [numZ, Bool.and_eq_true, decide_eq_true_eq] at this
   omega)]
def atI (ws : List ByteArray) (x : ByteArray) : Option Nat := ws.findIdx? fun w => decide (w = x)
theorem atI_none {ws : List ByteArray} {x : ByteArray} (h : ∀ j, j < ws.length → ¬ txAt ws j = x) : atI ws x = none := by
 unfold atI
 rw [List.findIdx?_eq_none_iff]
 intro y hy
 obtain ⟨j, hj⟩ := List.getElem?_of_mem hy
 have := h j (List.getElem?_eq_some_iff.1 hj).1
 unfold txAt at this
 rw [List.getD_eq_getElem?_getD, hj] at this
 simpa using this
theorem atI_some {ws : List ByteArray} {x : ByteArray} {i : Nat} (hi : i < ws.length) (h : ∀ j, j < i → ¬ txAt ws j = x) (hb : txAt ws i = x) : atI ws x = some i := by
 unfold atI
 rw [List.findIdx?_eq_some_iff_getElem]
 have e : ∀ j (hj : j < ws.length), txAt ws j = ws[j] := fun j hj => by
  unfold txAt; rw [List.getD_eq_getElem?_getD, List.getElem?_eq_getElem hj]; rfl
 refine ⟨hi, by rw [← e i hi]; simpa using hb, fun j hj => ?_⟩
 rw [← e j (by omega)]
 simpa using h j hj
set_option maxRecDepth 100000 in
theorem c_indexS (ws : List ByteArray) (hl : ws.length ≤ 2000000) (x : ByteArray) : VFun Tryz.prog 122 [.sl 1 ws.length (txCells ws), .lit (.string x)] (fun av obs => obs = [] ∧ av = .lit (.int .i64 (iOf (atI ws x)))) := by
 refine vfun_start Tryz.func122 (by kernel_rfl) rfl (by simp [Tryz.ntmps122]) ?_; simp only [Tryz.ntmps122, Tryz.results122]; simp [go_sem]
 refine ⟨by omega, vc_loop (fun i : Nat => i ≤ ws.length ∧ ∀ j, j < i → ¬ txAt ws j = x) (fun i => ws.length - i) (fun i => .of [(0, .sl 1 ws.length (txCells ws)), (1, .lit (.string x)), (7, .lit (.int .i64 ws.length)), (8, .lit (.int .i64 i))] []) ⟨0, ⟨by omega, fun j h => by omega⟩, ?_⟩ (fun i hi => ?_)⟩
 ·simp [go_sem, K5]
 ·obtain ⟨hi, hj⟩ := hi
  simp [go_sem, K5, txCells_at]
  refine ⟨fun h => ⟨h, fun e => ?_, fun e => ⟨i + 1, ⟨h, fun j h3 => ?_⟩, by omega, wrap_succ (by omega)⟩⟩, fun h => ?_⟩
  ·rw [atI_some h hj ((ba_toList _ _).1 e).symm]; rfl
  ·by_cases e2 : j = i
   ·rw [e2]; exact fun e3 => e (by rw [e3])
   ·exact hj j (by omega)
  ·rw [atI_none fun j h2 => hj j (by omega)]; rfl
def kindL : List ByteArray := [⟨#[]⟩, kwPre, kwInf, kwPost]
def sideL : List ByteArray := [⟨#[]⟩, kwLeft, kwRight, kwNone]
theorem row4 {a b c d : ByteArray} {ty : Nat} : ObsSame [⟨ty, 1, 4, fun i => [[AV.lit (.string a)], [AV.lit (.string b)], [AV.lit (.string c)], [AV.lit (.string d)]][i]?.getD []⟩] [⟨ty, 1, 4, txCells [a, b, c, d]⟩] :=
 obsSame_one.mpr ⟨⟨ty, 1, 4, txCells [a, b, c, d]⟩, ⟨rfl, rfl, rfl, fun j hj => ⟨by
  match j, hj with
  | 0, _ => rfl
  | 1, _ => rfl
  | 2, _ => rfl
  | 3, _ => rfl
  | j + 4, hj => exact absurd hj (by simp only; omega), by
  match j, hj with
  | 0, _ => rfl
  | 1, _ => rfl
  | 2, _ => rfl
  | 3, _ => rfl
  | j + 4, hj => exact absurd hj (by simp only; omega)⟩⟩, rfl⟩
theorem c_kindNames : VFun Tryz.prog 123 [] (fun av obs => av = .own 0 ∧ obs = [⟨9, 1, 4, txCells kindL⟩]) := by
 refine vfun_start Tryz.func123 (by kernel_rfl) rfl (by simp [Tryz.ntmps123]) ?_; simp only [Tryz.ntmps123, Tryz.results123]; simp [go_sem]
 exact row4
theorem c_sideNames : VFun Tryz.prog 125 [] (fun av obs => av = .own 0 ∧ obs = [⟨9, 1, 4, txCells sideL⟩]) := by
 refine vfun_start Tryz.func125 (by kernel_rfl) rfl (by simp [Tryz.ntmps125]) ?_; simp only [Tryz.ntmps125, Tryz.results125]; simp [go_sem]
 exact row4
theorem declZ_short {ws : List ByteArray} (h : ws.length < 3) : declZ ws = none := by unfold declZ; rw [if_pos h]
theorem declZ_lev {ws : List ByteArray} (h : levelZ (txAt ws 2) = none) : declZ ws = none := by
  unfold declZ
  have h : levelZ (wrdAt ws 2) = none := h
  rw [h]
  by_cases h2 : ws.length < 3 <;> simp only [h2, if_true, if_false]
theorem declZ_go {ws : List ByteArray} {v : Nat} (hl : ¬ ws.length < 3) (h : levelZ (txAt ws 2) = some v) : declZ ws = if txAt ws 0 = kwPre ∧ ws.length = 3 then some (⟨txAt ws 1, 1, v, 0⟩ : POp) else if txAt ws 0 = kwPost ∧ ws.length = 3 then some ⟨txAt ws 1, 3, v, 0⟩
      else if txAt ws 0 = kwInf ∧ ws.length = 4 ∧ 0 < sideZ (txAt ws 3) then some ⟨txAt ws 1, 2, v, sideZ (txAt ws 3)⟩ else none := by
  unfold declZ
  have h : levelZ (wrdAt ws 2) = some v := h
  rw [if_neg hl, h]
  rfl
theorem declZ_no {ws : List ByteArray} (h : ¬ (txAt ws 0 = kwPre ∧ ws.length = 3) ∧ ¬ (txAt ws 0 = kwPost ∧ ws.length = 3) ∧ ¬ (txAt ws 0 = kwInf ∧ ws.length = 4 ∧ 0 < sideZ (txAt ws 3))) : declZ ws = none := by
  by_cases h3 : ws.length < 3
  · exact declZ_short h3
  · cases hv : levelZ (txAt ws 2) with
    | none => exact declZ_lev hv
    | some v => rw [declZ_go h3 hv, if_neg h.1, if_neg h.2.1, if_neg h.2.2]
theorem kind_cases (w : ByteArray) : (w = kwPre ∧ iOf (atI kindL w) = 1) ∨ (w = kwInf ∧ iOf (atI kindL w) = 2) ∨ (w = kwPost ∧ iOf (atI kindL w) = 3) ∨ (¬ w = kwPre ∧ ¬ w = kwInf ∧ ¬ w = kwPost ∧ iOf (atI kindL w) < 1) := by
  by_cases h1 : w = kwPre
  · exact .inl ⟨h1, by rw [h1]; rfl⟩
  by_cases h2 : w = kwInf
  · exact .inr (.inl ⟨h2, by rw [h2]; rfl⟩)
  by_cases h3 : w = kwPost
  · exact .inr (.inr (.inl ⟨h3, by rw [h3]; rfl⟩))
  refine .inr (.inr (.inr ⟨h1, h2, h3, ?_⟩))
  by_cases h4 : w = ⟨#[]⟩
  · rw [h4]; decide
  · have e : ∀ {x : ByteArray}, ¬ w = x → decide (x = w) = false := fun h => decide_eq_false fun h' => h h'.symm
    have : atI kindL w = none := by
      unfold atI kindL
      simp only [List.findIdx?_cons, e h1, e h2, e h3, e h4, List.findIdx?_nil]
      rfl
    rw [this]; decide
theorem side_cases (w : ByteArray) : (0 < sideZ w ∧ iOf (atI sideL w) = sideZ w) ∨ (sideZ w = 0 ∧ iOf (atI sideL w) ≤ 0) := by
  by_cases h1 : w = kwLeft
  · rw [h1]; exact .inl (by decide)
  by_cases h2 : w = kwRight
  · rw [h2]; exact .inl (by decide)
  by_cases h3 : w = kwNone
  · rw [h3]; exact .inl (by decide)
  refine .inr ⟨by unfold sideZ; rw [if_neg h1, if_neg h2, if_neg h3], ?_⟩
  by_cases h4 : w = ⟨#[]⟩
  · rw [h4]; decide
  · have e : ∀ {x : ByteArray}, ¬ w = x → decide (x = w) = false := fun h => decide_eq_false fun h' => h h'.symm
    have : atI sideL w = none := by
      unfold atI sideL
      simp only [List.findIdx?_cons, e h1, e h2, e h3, e h4, List.findIdx?_nil]
      rfl
    rw [this]; decide
def declPost (ws : List ByteArray) (av : AV) (obs : List Ob) : Prop := obs = [] ∧ ∃ o', av = .tup [.agg (POp.cells o'), .lit (.bool (declZ ws).isSome)] ∧ ∀ o, declZ ws = some o → o' = o
theorem c_kindIx (w : ByteArray) : VFun Tryz.prog 122 [.sl 1 4 (txCells kindL), .lit (.string w)] (fun av obs => obs = [] ∧ av = .lit (.int .i64 (iOf (atI kindL w)))) := c_indexS kindL (by decide) w
theorem c_sideIx (w : ByteArray) : VFun Tryz.prog 122 [.sl 1 4 (txCells sideL), .lit (.string w)] (fun av obs => obs = [] ∧ av = .lit (.int .i64 (iOf (atI sideL w)))) := c_indexS sideL (by decide) w
set_option maxRecDepth 100000 in
theorem c_declared (ws : List ByteArray) (hl : ws.length ≤ 2000000) (h0 : 0 < ws.length) (hB : ∀ i, (txAt ws i).size ≤ 1048576) : VFun Tryz.prog 84 [.sl 1 ws.length (txCells ws)] (declPost ws) := by
  have h1 := c_kindIx (txAt ws 0)
  have h2 := c_sideIx (txAt ws 3)
  have h3 := c_levelOf (txAt ws 2) (hB 2)
  have hk := kind_cases (txAt ws 0)
  have hs := side_cases (txAt ws 3)
  generalize iOf (atI kindL (txAt ws 0)) = kI at *
  generalize iOf (atI sideL (txAt ws 3)) = sI at *
  have fin : declZ ws = none → declPost ws (.tup [.agg [AV.lit (Value.string { data := #[] }), AV.lit (Value.int IntKind.i64 0), AV.lit (Value.int IntKind.i64 0), AV.lit (Value.int IntKind.i64 0)], .lit (.bool false)]) [] := fun hn => ⟨rfl, ⟨⟨#[]⟩, 0, 0, 0⟩, by rw [hn]; rfl, fun o h => by rw [hn] at h; cases h⟩
  have k6 := KW6
  have n1 : kI < 1 → declZ ws = none := fun h => declZ_no (by
    rcases hk with ⟨e, e1⟩ | ⟨e, e1⟩ | ⟨e, e1⟩ | ⟨e, e1, e2, _⟩
    · omega
    · omega
    · omega
    · exact ⟨fun h => e h.1, fun h => e2 h.1, fun h => e1 h.1⟩)
  have n2 : kI = 2 → ¬ ws.length = 4 → declZ ws = none := fun h h4 => declZ_no (by
    rcases hk with ⟨e, e1⟩ | ⟨e, e1⟩ | ⟨e, e1⟩ | ⟨e, e1, e2, _⟩
    · omega
    · exact ⟨fun h => k6.2.1 (e ▸ h.1), fun h => k6.2.2.1 (e ▸ h.1), fun h => h4 h.2.1⟩
    · omega
    · omega)
  have n3 : ¬ kI = 2 → 1 ≤ kI → ¬ ws.length = 3 → declZ ws = none := fun h h' h4 => declZ_no (by
    rcases hk with ⟨e, e1⟩ | ⟨e, e1⟩ | ⟨e, e1⟩ | ⟨e, e1, e2, _⟩
    · exact ⟨fun h => h4 h.2, fun h => h4 h.2, fun h => k6.2.1 (h.1 ▸ e)⟩
    · omega
    · exact ⟨fun h => h4 h.2, fun h => h4 h.2, fun h => k6.2.2.1 (h.1 ▸ e)⟩
    · omega)
  have f1 : ∀ {v : Nat}, ¬ kI = 2 → 1 ≤ kI → ws.length = 3 → levelZ (txAt ws 2) = some v → declPost ws (.tup [.agg [.lit (.string (txAt ws 1)), .lit (.int .i64 kI), .lit (.int .i64 v), .lit (.int .i64 0)], .lit (.bool true)]) [] := fun {v} g1 g2 g3 g4 => by
    rcases hk with ⟨e, e1⟩ | ⟨e, e1⟩ | ⟨e, e1⟩ | ⟨e, e1, e2, _⟩
    · have hd : declZ ws = some ⟨txAt ws 1, 1, v, 0⟩ := by rw [declZ_go (by omega) g4, if_pos ⟨e, g3⟩]
      subst e1
      exact ⟨rfl, ⟨txAt ws 1, 1, v, 0⟩, by rw [hd]; rfl, fun o h => by rw [hd] at h; cases h; rfl⟩
    · omega
    · have hd : declZ ws = some ⟨txAt ws 1, 3, v, 0⟩ := by rw [declZ_go (by omega) g4, if_neg (fun h => k6.1 (e ▸ h.1)), if_pos ⟨e, g3⟩]
      subst e1
      exact ⟨rfl, ⟨txAt ws 1, 3, v, 0⟩, by rw [hd]; rfl, fun o h => by rw [hd] at h; cases h; rfl⟩
    · omega
  have f2 : ∀ {v : Nat}, kI = 2 → ws.length = 4 → levelZ (txAt ws 2) = some v → declPost ws (.tup [.agg [.lit (.string (txAt ws 1)), .lit (.int .i64 2), .lit (.int .i64 v), .lit (.int .i64 sI)], .lit (.bool (decide (0 < sI)))]) [] := fun {v} g1 g3 g4 => by
    rcases hk with ⟨e, e1⟩ | ⟨e, e1⟩ | ⟨e, e1⟩ | ⟨e, e1, e2, _⟩
    · omega
    · have hd : declZ ws = if txAt ws 0 = kwInf ∧ ws.length = 4 ∧ 0 < sideZ (txAt ws 3) then some ⟨txAt ws 1, 2, v, sideZ (txAt ws 3)⟩ else none := by rw [declZ_go (by omega) g4, if_neg (fun h => k6.2.1 (e ▸ h.1)), if_neg (fun h => k6.2.2.1 (e ▸ h.1))]
      rcases hs with ⟨s1, s2⟩ | ⟨s1, s2⟩
      · rw [if_pos ⟨e, g3, s1⟩] at hd
        subst s2
        exact ⟨rfl, ⟨txAt ws 1, 2, v, sideZ (txAt ws 3)⟩, by rw [hd]; simp [POp.cells]; exact s1, fun o h => by rw [hd] at h; cases h; rfl⟩
      · rw [if_neg (fun h => by omega)] at hd
        exact ⟨rfl, ⟨txAt ws 1, 2, v, sI⟩, by rw [hd]; simp [POp.cells]; exact s2, fun o h => by rw [hd] at h; cases h⟩
    · omega
    · omega
  refine vfun_start Tryz.func84 (by kernel_rfl) rfl (by simp [Tryz.ntmps84]) ?_; simp only [Tryz.ntmps84, Tryz.results84]; simp [go_sem]
  refine vc_drawn [7] (.q 1 <| .q 2 <| .q 3 <| .or 0 (.or 4 (.q 5 <| .or 6 (.or 7 (.done) (.nil)) (.nil)) (.or 6 (.or 4 (.q 5 <| .or 7 (.done) (.nil)) (.nil)) (.nil))) (.or 6 (.or 0 (.or 4 (.q 5 <| .or 7 (.done) (.nil)) (.nil)) (.nil)) (.nil))) (by kernel_rfl) ?_
  simp [go_sem, txCells_at]
  refine ⟨h0, vcallV_use c_kindNames (by simp [go_sem]) ?_, vcallV_use c_kindNames (by simp [go_sem]) ?_⟩
  all_goals rintro av obs ⟨rfl, rfl⟩
  all_goals simp [go_sem, txCells_at]
  all_goals first
    | refine ⟨vcallV_use h1 (by simp [go_sem]; exact argSl_own5 rfl (by decide) rfl (fun _ _ => rfl) fun i c _ h => txClosed _ i c h) ?_, vcallV_use h1 (by simp [go_sem]; exact argSl_own5 rfl (by decide) rfl (fun _ _ => rfl) fun i c _ h => txClosed _ i c h) ?_⟩
    | refine vcallV_use h1 (by simp [go_sem]; exact argSl_own5 rfl (by decide) rfl (fun _ _ => rfl) fun i c _ h => txClosed _ i c h) ?_
  all_goals rintro av obs ⟨rfl, rfl⟩
  all_goals simp [go_sem, txCells_at]
  all_goals refine ⟨fun e => ⟨fun e1 => ⟨by omega, fun e2 => fin (n2 e (by omega)), fun e2 => ⟨by omega, by omega, ?_⟩⟩, fun e2 => fin (n1 e2)⟩, fun e => ⟨fun e1 => ⟨by omega, fun e2 => fin (n3 e e1 (by omega)), fun e2 => ⟨by omega, by omega, ?_⟩⟩, fun e2 => fin (n1 e2)⟩⟩
  all_goals
    cases hlev : levelZ (txAt ws 2) with
    | none =>
      rw [hlev] at h3
      refine vcall_use h3 (by simp [go_sem]) ?_
      rintro av obs ⟨rfl, rfl⟩
      simp [go_sem]
      exact fin (declZ_lev hlev)
    | some v =>
      rw [hlev] at h3
      refine vcall_use h3 (by simp [go_sem]) ?_
      rintro av obs ⟨rfl, rfl⟩
      simp [go_sem, e]
      first
        | exact f1 e e1 (by omega) hlev
        | (refine vc_drawn [6] (.q 1 <| .q 2 <| .q 3 <| .or 0 (.or 4 (.q 5 <| .or 6 (.done) (.nil)) (.nil)) (.nil)) (by kernel_rfl) ?_
           simp [go_sem, txCells_at]
           refine ⟨by omega, vcallV_use c_sideNames (by simp [go_sem]) ?_⟩
           rintro av obs ⟨rfl, rfl⟩
           simp [go_sem, txCells_at]
           refine vcallV_use h2 (by simp [go_sem]; exact argSl_own5 rfl (by decide) rfl (fun _ _ => rfl) fun i c _ h => txClosed _ i c h) ?_
           rintro av obs ⟨rfl, rfl⟩
           simp [go_sem]
           exact f2 e (by omega) hlev)
noncomputable def lmR (L : List (List ByteArray)) : Nat → List (Value × Value)
 | 0 => []
 | i + 1 => match declZ (L.getD i []) with
  | some o => mput (lmR L i) (opV o) (.int .i64 i)
  | none => lmR L i
def lnZ (z : ByteArray) (j : Nat) : List ByteArray := (linesZ z).getD j []
theorem begin_none {z : ByteArray} (h : ∀ j, j < (cutZ 10 z).length → isBegin (lnZ z j) = false) : beginAt (linesZ z) = none := by
 rw [← beginP_eq]
 exact beginP_none fun j hj => by rw [← linWs]; exact h j (by rw [← linesP_len]; exact hj)
theorem begin_some {z : ByteArray} {i : Nat} (hi : i < (cutZ 10 z).length) (h : ∀ j, j < i → isBegin (lnZ z j) = false) (hb : isBegin (lnZ z i) = true) : beginAt (linesZ z) = some i := by
 rw [← beginP_eq]
 exact beginP_some (by rw [linesP_len]; exact hi) (fun j hj => by rw [← linWs]; exact h j hj) (by rw [← linWs]; exact hb)
theorem unitZ_bad {z : ByteArray} {k : Nat} (hz : ¬ 20000 < z.size) (h : beginAt (linesZ z) = some k ∨ beginAt (linesZ z) = none ∧ k = (cutZ 10 z).length) (hb : 0 < (usR (linesZ z) k).bad) : unitZ z = ((⟨[], [], ⟨#[]⟩⟩ : Unt), (2 : Int), ((usR (linesZ z) k).bad : Int)) := by
 unfold unitZ
 rw [if_neg hz]
 rcases h with e | ⟨e, rfl⟩
 ·rw [e]; simp only; rw [if_neg (by omega)]
 ·rw [e]; simp only [linesZ_len, linesP_len]; rw [if_neg (by omega)]
theorem unitZ_none {z : ByteArray} (hz : ¬ 20000 < z.size) (e : beginAt (linesZ z) = none) (hb : (usR (linesZ z) (cutZ 10 z).length).bad = 0) : unitZ z = ((⟨[], [], ⟨#[]⟩⟩ : Unt), (3 : Int), (0 : Int)) := by
 unfold unitZ
 rw [if_neg hz, e]; simp only [linesZ_len, linesP_len]; rw [if_pos hb]
theorem unitZ_some {z : ByteArray} {k : Nat} (hz : ¬ 20000 < z.size) (e : beginAt (linesZ z) = some k) (hb : (usR (linesZ z) k).bad = 0) : unitZ z = ((⟨(usR (linesZ z) k).uses, (usR (linesZ z) k).ops, z.extract (min (farZ (cutZ 10 z) (k + 1)) z.size) z.size⟩ : Unt), (0 : Int), (0 : Int)) := by
 unfold unitZ
 rw [if_neg hz, e]; simp only; rw [if_pos hb]
def srcOb (u : Unt) (b : Nat) (n : Nat) (k1 k2 k3 : Nat) : Option Ob := some ⟨103, 6, 1, fun _ => [.own k1, .own k2, .lit (.string u.body), .own k3, .lit (.map (some b)), .lit (.int .i64 n)]⟩
def srcPost (z : ByteArray) (av : AV) (mem : List (Option Ob)) (maps : List (Nat × Mp)) : Prop :=
 (∃ k b, beginAt (linesZ z) = some k ∧ (unitZ z).2 = (0, 0) ∧ av = .tup [.ptr 0 6 0 0, .lit (.int .i64 0), .lit (.int .i64 0)] ∧ mem = [srcOb (unitZ z).1 b (min (farZ (cutZ 10 z) (k + 1)) z.size) 1 2 3, txRow (unitZ z).1.uses, opRow5 (unitZ z).1.ops, txRow ((cutZ 10 z).take k)] ∧ maps = [(b, ⟨73, lmR (linesZ z) k⟩)]) ∨
 (¬ (unitZ z).2.1 = 0 ∧ (unitZ z).1.uses = [] ∧ (unitZ z).1.ops = [] ∧ (unitZ z).1.body = ⟨#[]⟩ ∧ av = .tup [.lit (.pointer none), .lit (.int .i64 (unitZ z).2.1), .lit (.int .i64 (unitZ z).2.2)] ∧ mem = [])
theorem usStep_bad1 {st : US} {i : Nat} {ws : List ByteArray} (h : declZ ws = none) (h2 : ¬ (ws.length = 2 ∧ txAt ws 0 = kwUse)) (h0 : ¬ st.bad = 0) : usStep st i ws = st := by
 unfold usStep
 split
 ·rfl
 ·rw [h]
  simp only
  have h2 : ¬ (ws.length = 2 ∧ wrdAt ws 0 = kwUse) := h2
  rw [if_neg h2]
  first
   |done
   |rfl
   |rw [if_neg h0]
theorem declZ_ok {ws : List ByteArray} {o : POp} (h : declZ ws = some o) (hB : ∀ i, (txAt ws i).size ≤ 1048576) : o.wf ∧ o.rng := by
 by_cases h3 : ws.length < 3
 ·rw [declZ_short h3] at h; cases h
 cases hv : levelZ (txAt ws 2) with
 | none => rw [declZ_lev hv] at h; cases h
 | some v =>
  have hlt : v < 1000000 := by
   unfold levelZ at hv
   split at hv
   ·rename_i hh
    cases hv
    have := decR_lt hh.1 _ (Nat.le_refl _)
    have hp : 10 ^ (txAt ws 2).size ≤ 10 ^ 6 := Nat.pow_le_pow_right (by omega) hh.2
    omega
   ·cases hv
  have hsd : sideZ (txAt ws 3) ≤ 3 := by unfold sideZ; (repeat' split) <;> omega
  have hb := hB 1
  rw [declZ_go h3 hv] at h
  split at h
  ·cases h; exact ⟨by simp only [POp.wf, maxLen]; omega, by simp only [POp.rng, i64]; omega⟩
  ·split at h
   ·cases h; exact ⟨by simp only [POp.wf, maxLen]; omega, by simp only [POp.rng, i64]; omega⟩
   ·split at h
    ·cases h; exact ⟨by simp only [POp.wf, maxLen]; omega, by simp only [POp.rng, i64]; omega⟩
    ·cases h
theorem srcOut {ty : Nat} {x y u : Value} : OutAt (idxOut 0 [0, 2, 3, 4]) [0, 2, 3, 4] ⟨ty, 6, 1, fun _ => [.own 1, .own 2, .lit x, .own 3, .lit y, .lit u]⟩ (some (some ⟨ty, 6, 1, fun _ => [.own 2, .own 3, .lit x, .own 4, .lit y, .lit u]⟩)) :=
 ⟨rfl, rfl, rfl, fun i hi => ⟨rfl, fun c hc => by
  simp at hc
  rcases hc with rfl | rfl | rfl | rfl | rfl | rfl <;> exact .inl rfl, fun c hc q hq => by
  simp at hc
  rcases hc with rfl | rfl | rfl | rfl | rfl | rfl <;> simp [owns1] at hq <;> simp [hq]⟩⟩
theorem farZ_le (z : ByteArray) {i : Nat} (h : i ≤ (cutZ 10 z).length) : farZ (cutZ 10 z) i ≤ z.size + 1 := by
 cases i with
 | zero => simp [farZ]
 | succ i =>
  obtain ⟨_, h2, _, h4, _⟩ := pos_far 10 z i h
  rw [← h2]; omega
theorem pieceZ_size {c : UInt8} {z : ByteArray} (i : Nat) : (txAt (cutZ c z) i).size ≤ z.size := by
 by_cases h : i < (cutZ c z).length
 ·obtain ⟨_, _, _, _, h5⟩ := pos_far c z i h
  have : txAt (cutZ c z) i = (cutZ c z).getD i ByteArray.empty := rfl
  rw [this, ← h5, ByteArray.size_extract]; omega
 ·unfold txAt
  rw [List.getD_eq_getElem?_getD, List.getElem?_eq_none (by omega)]
  exact Nat.zero_le _
theorem linesZ_at (z : ByteArray) {i : Nat} (h : i < (cutZ 10 z).length) : wordsZ (txAt (cutZ 10 z) i) = (linesZ z).getD i [] := by
 unfold linesZ txAt
 rw [List.getD_eq_getElem?_getD, List.getD_eq_getElem?_getD, List.getElem?_map, List.getElem?_eq_getElem h]
 rfl
theorem usR_bad (L : List (List ByteArray)) : ∀ i, (usR L i).bad ≤ i
 | 0 => Nat.le_refl _
 | i + 1 => by
  have := usR_bad L i
  show (usStep (usR L i) i _).bad ≤ _
  unfold usStep
  split
  ·omega
  ·split
   ·simp only; omega
   ·split
    ·simp only; omega
    ·simp only; split <;> omega
set_option maxHeartbeats 2000000 in
set_option maxRecDepth 100000 in
theorem c_sourceOf (z : ByteArray) (hz : z.size ≤ 1048576) : VProc Tryz.prog 56 [.lit (.string z)] [] [] (srcPost z) := by
 have h1 := c_split 10 z hz
 refine vproc_start Tryz.func56 (by kernel_rfl) rfl (by simp [Tryz.ntmps56]) ?_; simp only [Tryz.ntmps56, Tryz.results56]; simp [go_sem]
 refine ⟨fun hbig => ?_, fun hsm => ?_⟩
 ·have e : unitZ z = ((⟨[], [], ⟨#[]⟩⟩ : Unt), (1 : Int), (0 : Int)) := by unfold unitZ; rw [if_pos (by omega)]
  exact uF [] [] (hR := .inr (by rw [e]; exact ⟨by decide, rfl, rfl, rfl, rfl, rfl⟩))
 ·intro b
  have hsm : ¬ 20000 < z.size := by omega
  have hpl := cutZ_len 10 z
  refine vcall_use h1 (by simp [go_sem]) ?_
  rintro av obs ⟨rfl, rfl⟩
  simp [go_sem]
  refine ⟨by omega, ?_⟩
  refine vc_loopE (fun i : Nat => i ≤ (cutZ 10 z).length ∧ ∀ j, j < i → isBegin (lnZ z j) = false) (fun i => (cutZ 10 z).length - i)
   (fun i => ⟨[(0, .lit (.string z)), (5, .ptr 0 6 0 0), (6, .lit (.int .i64 (farZ (cutZ 10 z) i))), (7, .lit (.int .i64 (usR (linesZ z) i).bad)), (20, .own 1), (21, .lit (.int .i64 (cutZ 10 z).length)), (22, .lit (.int .i64 i))],
    [some ⟨103, 6, 1, fun _ => [.own 2, .own 3, .lit (.string ⟨#[]⟩), .own 4, .lit (.map (some b)), .lit (.int .i64 (-1))]⟩, txRow (cutZ 10 z), txRow (usR (linesZ z) i).uses, opRow5 (usR (linesZ z) i).ops, txRow ((cutZ 10 z).take i)],
    [(b, ⟨73, lmR (linesZ z) i⟩)], 0⟩) ⟨0, ⟨by omega, fun j h => by omega⟩, ?_⟩ (fun i hi => ?_)
  ·refine (Ent.adopt (j := 0) rfl rfl (c := 0) rfl 9 1 (by omega) (txCells [])).trans ?_
   refine (Ent.adopt (j := 0) rfl rfl (c := 1) rfl 73 4 (by omega) (opCells [])).trans ?_
   refine (Ent.adopt (j := 0) rfl rfl (c := 3) rfl 9 1 (by omega) (txCells [])).trans ?_
   exact uE [0, 1, 2, 3, 4] (h1 := by simp [go_sem, farZ, usR]) (h4 := by simp [go_sem, K5, opRow5, usR]) (hM := by simp [go_sem, lmR])
  ·obtain ⟨hi1, hi2⟩ := hi
   have hmin : min i (cutZ 10 z).length = i := Nat.min_eq_left hi1
   have hf := farZ_le z hi1
   simp [go_sem, K5, opRow5, txCells_at, hmin]
   refine ⟨fun h => ⟨h, ?_⟩, fun h => ?_⟩
   ·have hps := pieceZ_size (c := 10) (z := z) i
    have hW : wordsZ (txAt (cutZ 10 z) i) = (linesZ z).getD i [] := linesZ_at z h
    have hwl := linWs_len z i
    have hB := linWs_size z i
    have hnx : usR (linesZ z) (i + 1) = usStep (usR (linesZ z) i) i ((linesZ z).getD i []) := rfl
    have hlm : lmR (linesZ z) (i + 1) = match declZ ((linesZ z).getD i []) with
     | some o => mput (lmR (linesZ z) i) (opV o) (.int .i64 i)
     | none => lmR (linesZ z) i := rfl
    have hfz : farZ (cutZ 10 z) (i + 1) = farZ (cutZ 10 z) i + (txAt (cutZ 10 z) i).size + 1 := rfl
    have hul := usR_len (linesZ z) i
    have hbd := usR_bad (linesZ z) i
    have hf2 := farZ_le z (i := i + 1) h
    rw [← linWs] at hwl
    have hB : ∀ j, (txAt ((linesZ z).getD i []) j).size ≤ z.size := fun j => by rw [linWs]; exact hB j
    have w1 : IntKind.i64.wrap (((txAt (cutZ 10 z) i).size : Int) + 1) = ((txAt (cutZ 10 z) i).size : Int) + 1 := wrap_i64 (by omega)
    have w2 : IntKind.i64.wrap ((farZ (cutZ 10 z) i : Int) + (((txAt (cutZ 10 z) i).size : Int) + 1)) = (farZ (cutZ 10 z) (i + 1) : Int) := by rw [wrap_i64 (by omega), hfz]; omega
    have w3 : IntKind.i64.wrap ((i : Int) + 1) = (i : Int) + 1 := wrap_i64 (by omega)
    have hw1 := c_words (txAt (cutZ 10 z) i) (by omega)
    rw [hW] at hw1
    rw [w1, w2]
    have nxt : isBegin (lnZ z i) = false → ∀ j, j < i + 1 → isBegin (lnZ z j) = false := fun e j h2 => by
     by_cases e2 : j = i
     ·rw [e2]; exact e
     ·exact hi2 j (by omega)
    have hlz : lnZ z i = (linesZ z).getD i [] := rfl
    generalize hWs : (linesZ z).getD i [] = W at *
    refine uS [] hw1 ?_
    rintro av mem maps ⟨rfl, rfl, rfl⟩
    simp [go_sem, K5, txCells_at, KW5]
    refine ⟨by omega, fun g1 => ⟨by omega, fun g2 => ?_, fun g2 => ?_⟩, fun g1 => ?_⟩
    ·have hq : (if z.size < farZ (cutZ 10 z) (i + 1) then (z.size : Int) else (farZ (cutZ 10 z) (i + 1) : Int)) = ((min (farZ (cutZ 10 z) (i + 1)) z.size : Nat) : Int) := by split <;> omega
     have hbs := begin_some h hi2 (by
      rw [hlz]
      obtain ⟨x, rfl⟩ := List.length_eq_one_iff.1 (show W.length = 1 by omega)
      have : x = kwBegin := g2
      rw [this]; rfl)
     rw [hq]
     refine ⟨fun g => ?_, fun g => ⟨fun g3 => by omega, fun g3 => ⟨by omega, by omega, ?_⟩⟩⟩
     ·have hu := unitZ_bad hsm (.inl hbs) g
      exact uF [] [] (hR := .inr (by rw [hu]; exact ⟨(by decide : ¬ (2 : Int) = 0), rfl, rfl, rfl, rfl, rfl⟩))
     ·have hu := unitZ_some hsm hbs g
      refine uF [0, 2, 3, 4] [srcOb (unitZ z).1 b (min (farZ (cutZ 10 z) (i + 1)) z.size) 1 2 3, txRow (unitZ z).1.uses, opRow5 (unitZ z).1.ops, txRow ((cutZ 10 z).take i)] (hm := ?_) (hR := .inl ⟨i, b, hbs, by rw [hu], ?_, rfl, rfl⟩)
      ·simp [go_sem, K5, srcOb, opRow5, hu, hmin]
       exact srcOut
      ·simp [go_sem]
    case' refine_2 =>
     have hnb : isBegin (lnZ z i) = false := by
      simp only [isBegin, decide_eq_false_iff_not]
      intro e; rw [hlz] at e; rw [e] at g2; exact g2 rfl
    case' refine_3 =>
     have hnb : isBegin (lnZ z i) = false := by
      simp only [isBegin, decide_eq_false_iff_not]
      intro e; rw [hlz] at e; rw [e] at g1; exact g1 rfl
    all_goals
     have hTk : (cutZ 10 z).take (i + 1) = (cutZ 10 z).take i ++ [txAt (cutZ 10 z) i] := by
      rw [List.take_succ_eq_append_getElem h]
      congr 2
      unfold txAt; rw [List.getD_eq_getElem?_getD, List.getElem?_eq_getElem h]; rfl
     have hTn := fun g m => tx_new (g := g) (m := m) ((cutZ 10 z).take i) (txAt (cutZ 10 z) i)
     simp only [List.length_take, hmin] at hTn
     have hmin2 : min (i + 1) (cutZ 10 z).length = i + 1 := Nat.min_eq_left h
     refine ⟨by omega, by omega, by omega, fun g => ⟨i + 1, ⟨h, nxt hnb⟩, by omega, ?_⟩, fun g => ?_⟩
     ·have hdn : declZ W = none := by rw [g]; rfl
      rw [usStep_nil (by rw [g]; rfl)] at hnx
      rw [hdn] at hlm
      exact uE [0, 1, 2, 3, 6] (h1 := by simp [go_sem, w3, hnx]) (h4 := by simp [go_sem, K5, opRow5, hnx, hTk, hmin, hmin2]; exact .inr (of_eq_true (hTn _ _))) (hM := by simp [go_sem, hlm])
     ·have hpos : 0 < W.length := List.length_pos_iff.2 g
      have hdc := c_declared W (by omega) hpos (fun j => by have := hB j; omega)
      cases hd : declZ W with
      | some o =>
       rw [usStep_op hd] at hnx
       rw [hd] at hlm
       refine vcall_use hdc (by simp [go_sem]; exact argSl_refl (by omega) fun i c _ h => txClosed _ i c h) ?_
       rintro av obs ⟨rfl, o', rfl, ho⟩
       obtain rfl := ho o hd
       have hky := keyOp (declZ_ok hd fun j => by have := hB j; omega).1 (declZ_ok hd fun j => by have := hB j; omega).2
       rw [hd]
       simp [go_sem, POp.cells]
       refine vc_drawn [8,12] (.q 1 <| .q 2 <| .q 3 <| .q 4 <| .q 5 <| .q 6 <| .or 0 (.or 7 (.or 8 (.q 9 <| .q 10 <| .q 11 <| .or 12 (.done) (.nil)) (.nil)) (.nil)) (.or 7 (.or 0 (.or 8 (.q 9 <| .q 10 <| .q 11 <| .or 12 (.done) (.nil)) (.nil)) (.or 8 (.q 0 <| .q 9 <| .q 10 <| .q 11 <| .or 12 (.done) (.nil)) (.nil))) (.nil))) (by kernel_rfl) ?_
       simp [go_sem]
       refine ⟨⟨by omega, by omega, ?_⟩, ⟨by omega, by omega, ?_⟩, by omega, by omega, ?_⟩
       all_goals
        refine vc_drawn [6] (.q 0 <| .q 1 <| .q 2 <| .q 3 <| .q 4 <| .q 5 <| .or 6 (.done) (.nil)) (by kernel_rfl) ?_
        simp [go_sem]
        refine vmsetK_use keyedOp hky ?_
        simp [go_sem]
        refine ⟨i + 1, ⟨h, nxt hnb⟩, by omega, ?_⟩
        exact uE [0, 1, 2, 9, 6] (h1 := by simp [go_sem, w3, hnx]) (h4 := by simp [go_sem, K5, opRow5, hnx, hTk, hmin, hmin2, op_new5]; exact .inr (of_eq_true (hTn _ _))) (hM := by simp [go_sem, hlm, opV])
      | none =>
       rw [hd] at hlm
       refine vcall_use hdc (by simp [go_sem]; exact argSl_refl (by omega) fun i c _ h => txClosed _ i c h) ?_
       rintro av obs ⟨rfl, o', rfl, ho⟩
       rw [hd]
       simp [go_sem, POp.cells, txCells_at, KW5]
       have nb0 : ∀ (h2 : ¬ (W.length = 2 ∧ txAt W 0 = kwUse)), (usR (linesZ z) i).bad = 0 → usR (linesZ z) (i + 1) = { usR (linesZ z) i with bad := i + 1 } := fun h2 h3 => by rw [hnx, usStep_bad hd h2 hpos h3]
       have nb1 : ∀ (h2 : ¬ (W.length = 2 ∧ txAt W 0 = kwUse)), ¬ (usR (linesZ z) i).bad = 0 → usR (linesZ z) (i + 1) = usR (linesZ z) i := fun h2 h3 => by rw [hnx, usStep_bad1 hd h2 h3]
       have hlm' : lmR (linesZ z) (i + 1) = lmR (linesZ z) i := hlm
       refine ⟨by omega, fun g1 => ⟨by omega, fun g2 => ?_, fun g2 => ⟨fun g3 => ⟨i + 1, ⟨h, nxt hnb⟩, by omega, ?_⟩, fun g3 => ⟨i + 1, ⟨h, nxt hnb⟩, by omega, ?_⟩⟩⟩, fun g1 => ⟨fun g3 => ⟨i + 1, ⟨h, nxt hnb⟩, by omega, ?_⟩, fun g3 => ⟨i + 1, ⟨h, nxt hnb⟩, by omega, ?_⟩⟩⟩
       ·rw [usStep_use hd (by omega) g2] at hnx
        refine vc_drawn [10,14] (.q 1 <| .q 2 <| .q 3 <| .q 4 <| .q 5 <| .q 6 <| .q 7 <| .q 8 <| .or 0 (.or 9 (.or 10 (.q 11 <| .q 12 <| .q 13 <| .or 14 (.done) (.nil)) (.nil)) (.nil)) (.or 9 (.or 0 (.or 10 (.q 11 <| .q 12 <| .q 13 <| .or 14 (.done) (.nil)) (.nil)) (.or 10 (.q 0 <| .q 11 <| .q 12 <| .q 13 <| .or 14 (.done) (.nil)) (.nil))) (.nil))) (by kernel_rfl) ?_
        simp [go_sem, txCells_at]
        refine ⟨by omega, ⟨by omega, by omega, i + 1, ⟨h, nxt hnb⟩, by omega, ?_⟩, ⟨by omega, by omega, i + 1, ⟨h, nxt hnb⟩, by omega, ?_⟩, by omega, by omega, i + 1, ⟨h, nxt hnb⟩, by omega, ?_⟩
        all_goals exact uE [0, 1, 9, 3, 6] (h1 := by simp [go_sem, w3, hnx]) (h4 := by simp [go_sem, K5, opRow5, hnx, hTk, hmin, hmin2, tx_new]; exact .inr (of_eq_true (hTn _ _))) (hM := by simp [go_sem, hlm'])
       ·have hn := nb0 (fun e => g2 e.2) g3
        exact uE [0, 1, 2, 3, 6] (h1 := by simp [go_sem, w3, hn]) (h4 := by simp [go_sem, K5, opRow5, hn, hTk, hmin, hmin2]; exact .inr (of_eq_true (hTn _ _))) (hM := by simp [go_sem, hlm'])
       ·have hn := nb1 (fun e => g2 e.2) g3
        exact uE [0, 1, 2, 3, 6] (h1 := by simp [go_sem, w3, hn]) (h4 := by simp [go_sem, K5, opRow5, hn, hTk, hmin, hmin2]; exact .inr (of_eq_true (hTn _ _))) (hM := by simp [go_sem, hlm'])
       ·have hn := nb0 (fun e => g1 (by rw [e.1]; rfl)) g3
        exact uE [0, 1, 2, 3, 6] (h1 := by simp [go_sem, w3, hn]) (h4 := by simp [go_sem, K5, opRow5, hn, hTk, hmin, hmin2]; exact .inr (of_eq_true (hTn _ _))) (hM := by simp [go_sem, hlm'])
       ·have hn := nb1 (fun e => g1 (by rw [e.1]; rfl)) g3
        exact uE [0, 1, 2, 3, 6] (h1 := by simp [go_sem, w3, hn]) (h4 := by simp [go_sem, K5, opRow5, hn, hTk, hmin, hmin2]; exact .inr (of_eq_true (hTn _ _))) (hM := by simp [go_sem, hlm'])
   ·have e : i = (cutZ 10 z).length := by omega
    subst e
    have hbn := begin_none hi2
    refine ⟨fun g => ?_, fun g => ?_⟩
    ·have hu := unitZ_bad hsm (.inr ⟨hbn, rfl⟩) g
     exact uF [] [] (hR := .inr (by rw [hu]; exact ⟨(by decide : ¬ (2 : Int) = 0), rfl, rfl, rfl, rfl, rfl⟩))
    ·have hu := unitZ_none hsm hbn g
     exact uF [] [] (hR := .inr (by rw [hu]; exact ⟨by decide, rfl, rfl, rfl, rfl, rfl⟩))
theorem VFun.adoptU {P : Program} {f : FuncId} {args : List AV} {R R' : AV → List Ob → Prop} (h : VFun P f args R) (t1 t2 : Nat) (g1 g2 : Nat → List AV)
  (hr : ∀ av obs, R av obs → R' av obs ∨ ∃ (y : Value) (xs : List Value), av = .tup (.agg [.lit (.slice none 0 0), .lit (.slice none 0 0), .lit y] :: xs.map .lit) ∧ obs = [] ∧ R' (.tup (.agg [.own 0, .own 1, .lit y] :: xs.map .lit)) [⟨t1, 1, 0, g1⟩, ⟨t2, 4, 0, g2⟩]) : VFun P f args R' := by
 refine ⟨h.1, fun w vs hl hv => (h.2 w vs hl hv).mono fun e w' ⟨v, e1, gr, hd, av, obs, r, fl, hlit, hm, hrep⟩ => ?_⟩
 rcases hr av obs r with r' | ⟨y, xs, rfl, rfl, r'⟩
 ·exact ⟨v, e1, gr, hd, av, obs, r', fl, hlit, hm, hrep⟩
 ·have two : ∀ (k : Nat) (ob : Ob), ([⟨t1, 1, 0, g1⟩, ⟨t2, 4, 0, g2⟩] : List Ob)[k]? = some ob → 0 < ob.sz ∧ ob.n = 0 := fun k ob hk => by
   match k with
   | 0 => simp at hk; subst hk; exact ⟨Nat.one_pos, rfl⟩
   | 1 => simp at hk; subst hk; exact ⟨Nat.succ_pos 3, rfl⟩
   | k + 2 => simp at hk
  have two' : ∀ (k : Nat) (ob : Ob), (([⟨t1, 1, 0, g1⟩, ⟨t2, 4, 0, g2⟩] : List Ob).map some)[k]? = some (some ob) → 0 < ob.sz ∧ ob.n = 0 := fun k ob hk => by
   rw [List.getElem?_map, Option.map_eq_some_iff] at hk
   obtain ⟨x, hx, hx2⟩ := hk
   cases hx2
   exact two k ob hx
  refine ⟨v, e1, gr, fun _ => .slice none 0 0, _, _, r', ?_, fun ob ho i hi => ?_, ⟨fun k ob hk b hb => ?_, fun k ob hk => ?_, fun k hk => ⟨none, 0, 0, rfl⟩, fun k k' o o' hk hk' hne => .inl rfl⟩, ?_⟩
  ·simp [flatV, flat2, flat1]
  ·obtain ⟨k, hk⟩ := List.getElem?_of_mem ho
   have := (two k ob hk).2
   omega
  ·simp [Value.ownBlock] at hb
  ·obtain ⟨h1, h2⟩ := two' k ob hk
   exact ⟨h1, [], ⟨by rw [h2]; simp, .inl ⟨rfl, h2⟩⟩, fun i hi => by omega⟩
  ·cases hrep with
   | tup _ us hl2 hr2 =>
    match us, hl2 with
    | u1 :: us, hl2 =>
     have q1 := hr2 0 _ u1 rfl rfl
     cases q1 with
     | agg _ ws hl3 hr3 =>
      match ws, hl3 with
      | [x1, x2, x3], _ =>
       have q1 := hr3 0 _ x1 rfl rfl
       have q2 := hr3 1 _ x2 rfl rfl
       have q3 := hr3 2 _ x3 rfl rfl
       cases q1; cases q2; cases q3
       refine .tup _ (.agg #[.slice none 0 0, .slice none 0 0, y] :: us) (by simpa using hl2) fun j a u ha hu => ?_
       cases j with
       | zero =>
        simp only [List.getElem?_cons_zero, Option.some.injEq] at ha hu
        subst ha; subst hu
        refine .agg _ [.slice none 0 0, .slice none 0 0, y] rfl fun j a u ha hu => ?_
        match j with
        | 0 => simp at ha hu; subst ha; subst hu; exact .own (hd := fun _ => .slice none 0 0) 0 (by simp)
        | 1 => simp at ha hu; subst ha; subst hu; exact .own (hd := fun _ => .slice none 0 0) 1 (by simp)
        | 2 => simp at ha hu; subst ha; subst hu; exact .lit _
        | j + 3 => simp at ha
       | succ j =>
        simp only [List.getElem?_cons_succ] at ha hu
        have := hr2 (j + 1) a u (by simpa using ha) (by simpa using hu)
        rw [List.getElem?_map, Option.map_eq_some_iff] at ha
        obtain ⟨y, hy, rfl⟩ := ha
        cases this
        exact .lit _
theorem untR_own {u : Unt} {c ln : Int} {av : AV} {obs : List Ob} (h : untR u c ln av obs ∨ untNil u c ln av obs) : untR u c ln av obs ∨ ∃ (y : Value) (xs : List Value), av = .tup (.agg [.lit (.slice none 0 0), .lit (.slice none 0 0), .lit y] :: xs.map .lit) ∧ obs = [] ∧ untR u c ln (.tup (.agg [.own 0, .own 1, .lit y] :: xs.map .lit)) [⟨9, 1, 0, txCells []⟩, ⟨73, 4, 0, opCells []⟩] := by
 rcases h with h | ⟨rfl, rfl, h1, h2⟩
 ·exact .inl h
 ·exact .inr ⟨.string u.body, [.int .i64 c, .int .i64 ln], rfl, rfl, rfl, by rw [h1, h2]; rfl⟩
theorem c_specReadUnit (z : ByteArray) (hz : z.size ≤ 1048576) : VFun Tryz.prog 22 [.lit (.string z)] (untR (unitZ z).1 (unitZ z).2.1 (unitZ z).2.2) :=
 (c_specReadUnit1 z hz).adoptU _ _ _ _ fun av obs h => untR_own h
theorem unitZ_len (z : ByteArray) : (unitZ z).1.uses.length ≤ 20001 ∧ (unitZ z).1.ops.length ≤ 20001 := by
 have hl := linesP_le z
 have hn : ∀ k, k ≤ (linesZ z).length → (usR (linesZ z) k).uses.length ≤ z.size + 1 ∧ (usR (linesZ z) k).ops.length ≤ z.size + 1 := fun k hk => by
  have := usR_len (linesZ z) k
  rw [linesZ_len] at hk
  omega
 unfold unitZ
 split
 ·simp
 ·split
  ·split <;> simp
  ·rename_i k hk
   have hk2 : k ≤ (linesZ z).length := by
    unfold beginAt at hk
    rw [List.findIdx?_eq_some_iff_getElem] at hk
    obtain ⟨h, _⟩ := hk
    omega
   split
   ·have := hn k hk2
    simp only
    omega
   ·simp
structure PMod where
 name : ByteArray
 text : ByteArray
deriving Inhabited
def PMod.cells (m : PMod) : List AV := [.lit (.string m.name), .lit (.string m.text)]
def modAt (L : List PMod) (i : Nat) : PMod := L.getD i default
def modCells (L : List PMod) (i : Nat) : List AV := (modAt L i).cells
theorem modCells_at (L : List PMod) (i : Nat) : modCells L i = [.lit (.string (modAt L i).name), .lit (.string (modAt L i).text)] := rfl
theorem modLit (L : List PMod) (i : Nat) : (modCells L i).all isLit = true := rfl
theorem modClosed (L : List PMod) (i : Nat) (c : AV) (h : c ∈ modCells L i) : Closed c := Closed.of_lit (List.all_eq_true.1 (modLit L i) c h)
def modRow (L : List PMod) : Option Ob := some ⟨52, 2, L.length, modCells L⟩
def nameAt (L : List PMod) (x : ByteArray) : Nat := L.findIdx fun m => decide (m.name = x)
theorem nameAt_le (L : List PMod) (x : ByteArray) : nameAt L x ≤ L.length := List.findIdx_le_length
theorem nameAt_is {L : List PMod} {x : ByteArray} {i : Nat} (hi : i < L.length) (h : (modAt L i).name = x) (hb : ∀ j, j < i → ¬ (modAt L j).name = x) : nameAt L x = i := by
 have hm : ∀ j (hj : j < L.length), modAt L j = L[j] := fun j hj => by
  unfold modAt; rw [List.getD_eq_getElem?_getD, List.getElem?_eq_getElem hj]; rfl
 unfold nameAt
 rw [List.findIdx_eq hi]
 refine ⟨by rw [← hm i hi]; simpa using h, fun j hj => ?_⟩
 have := hb j hj
 rw [hm j (by omega)] at this
 simpa using this
theorem nameAt_none {L : List PMod} {x : ByteArray} (hb : ∀ j, j < L.length → ¬ (modAt L j).name = x) : nameAt L x = L.length := by
 unfold nameAt
 rw [List.findIdx_eq_length]
 intro m hm
 obtain ⟨j, hj, rfl⟩ := List.getElem_of_mem hm
 have := hb j hj
 unfold modAt at this
 rw [List.getD_eq_getElem?_getD, List.getElem?_eq_getElem hj] at this
 simpa using this
theorem nameAt_name {L : List PMod} {x : ByteArray} (h : nameAt L x < L.length) : (modAt L (nameAt L x)).name = x := by
 have := List.findIdx_getElem (w := h)
 unfold modAt
 rw [List.getD_eq_getElem?_getD, List.getElem?_eq_getElem h]
 exact of_decide_eq_true this
theorem nameAt_not {L : List PMod} {x : ByteArray} {j : Nat} (h : j < nameAt L x) : ¬ (modAt L j).name = x := by
 have h1 := nameAt_le L x
 have := List.not_of_lt_findIdx h
 unfold modAt
 rw [List.getD_eq_getElem?_getD, List.getElem?_eq_getElem (by omega)]
 simpa using this
def untAt (L : List PMod) (i : Nat) : Unt := (unitZ (modAt L i).text).1
def usI (L : List PMod) (i : Nat) : List Nat := if i < L.length then (untAt L i).uses.map (nameAt L) else []
def opI (L : List PMod) (i : Nat) : List POp := (untAt L i).ops
def relR (L : List PMod) (i j : Nat) : Bool := (usI L i).any fun u => u == j
def scL (L : List PMod) (i : Nat) : List POp := scF (opI L) (usI L) L.length i
def firstI (n : Nat) (p : Nat → Bool) : Option Nat := (List.range n).find? p
theorem first_some {n i : Nat} {p : Nat → Bool} (hi : i < n) (hp : p i = true) (hb : ∀ j, j < i → p j = false) : firstI n p = some i := by
 unfold firstI
 rw [List.find?_range_eq_some]
 exact ⟨hp, List.mem_range.2 hi, fun j hj => by simpa using hb j hj⟩
theorem first_none {n : Nat} {p : Nat → Bool} (hb : ∀ j, j < n → p j = false) : firstI n p = none := by
 unfold firstI
 rw [List.find?_eq_none]
 intro j hj
 rw [hb j (List.mem_range.1 hj)]; simp
theorem first_all {n : Nat} {p : Nat → Bool} (h : firstI n p = none) : ∀ j, j < n → p j = false := fun j hj => by
 unfold firstI at h
 rw [List.find?_eq_none] at h
 simpa using h j (List.mem_range.2 hj)
def bad2 (L : List PMod) (i : Nat) : Bool := decide (¬ (unitZ (modAt L i).text).2.1 = 0) || (!namZ (modAt L i).name || decide (64 < (modAt L i).name.size))
def bad3 (L : List PMod) (i : Nat) : Bool := decide (nameAt L (modAt L i).name < i)
def bad4 (L : List PMod) (i : Nat) : Bool := (usI L i).any fun u => u == L.length
def bad5 (L : List PMod) (i : Nat) : Bool := warR (relR L) L.length i i
def bad6 (L : List PMod) (i : Nat) : Bool := decide (¬ tblOk (scL L i) = 0)
def loadC (L : List PMod) : Int × Nat :=
 if 100 < L.length then (1, 100) else
 match firstI L.length (bad2 L) with
 | some i => (2, i)
 | none => match firstI L.length (bad3 L) with
  | some i => (3, i)
  | none => match firstI L.length (bad4 L) with
   | some i => (4, i)
   | none => match firstI L.length (bad5 L) with
    | some i => (5, i)
    | none => match firstI L.length (bad6 L) with
     | some i => (6, i)
     | none => (0, 0)
theorem opEq_is {a b : POp} : opEq a b = true ↔ a = b := by
 obtain ⟨a1, a2, a3, a4⟩ := a
 obtain ⟨b1, b2, b3, b4⟩ := b
 simp only [opEq, ba_beq, int_beq, Bool.and_eq_true, decide_eq_true_eq, POp.mk.injEq]
 exact ⟨fun ⟨⟨⟨h1, h2⟩, h3⟩, h4⟩ => ⟨h1, h2, h3, h4⟩, fun ⟨h1, h2, h3, h4⟩ => ⟨⟨⟨h1, h2⟩, h3⟩, h4⟩⟩
theorem uniq_mem {l : List POp} {o : POp} : ∀ {i}, o ∈ uniq l i ↔ ∃ j, j < i ∧ o = opAt l j
 | 0 => by simp [uniq]
 | i + 1 => by
  have ih := uniq_mem (l := l) (o := o) (i := i)
  simp only [uniq]
  split
  ·rename_i h
   rw [ih]
   constructor
   ·rintro ⟨j, hj, e⟩; exact ⟨j, by omega, e⟩
   ·rintro ⟨j, hj, e⟩
    by_cases e2 : j = i
    ·subst e2
     simp only [opsHas, List.any_eq_true, List.mem_range] at h
     obtain ⟨k, hk, e3⟩ := h
     exact ⟨k, hk, e.trans (opEq_is.1 e3).symm⟩
    ·exact ⟨j, by omega, e⟩
  ·rw [List.mem_append, ih, List.mem_singleton]
   constructor
   ·rintro (⟨j, hj, e⟩ | e)
    ·exact ⟨j, by omega, e⟩
    ·exact ⟨i, by omega, e⟩
   ·rintro ⟨j, hj, e⟩
    by_cases e2 : j = i
    ·subst e2; exact .inr e
    ·exact .inl ⟨j, by omega, e⟩
theorem uniq_nodup {l : List POp} : ∀ i, (uniq l i).Nodup
 | 0 => by simp [uniq]
 | i + 1 => by
  have ih := uniq_nodup (l := l) i
  simp only [uniq]
  split
  ·exact ih
  ·rename_i h
   rw [List.nodup_append]
   refine ⟨ih, by simp, fun a ha b hb => ?_⟩
   rw [List.mem_singleton] at hb
   subst hb
   intro e
   subst e
   obtain ⟨j, hj, e⟩ := uniq_mem.1 ha
   apply h
   simp only [opsHas, List.any_eq_true, List.mem_range]
   exact ⟨j, hj, opEq_is.2 e.symm⟩
theorem union_mem {a b : List POp} {o : POp} : o ∈ union a b ↔ o ∈ a ∨ o ∈ b := by
 unfold union
 rw [uniq_mem, ← List.mem_append, ← List.length_append]
 constructor
 ·rintro ⟨j, hj, rfl⟩
  unfold opAt
  rw [List.getD_eq_getElem?_getD, List.getElem?_eq_getElem hj]
  exact List.getElem_mem hj
 ·intro h
  obtain ⟨j, hj, rfl⟩ := List.getElem_of_mem h
  refine ⟨j, hj, ?_⟩
  unfold opAt
  rw [List.getD_eq_getElem?_getD, List.getElem?_eq_getElem hj]; rfl
theorem fold_mem {α : Type} {g : α → List POp} {o : POp} : ∀ {l : List α} {t : List POp}, o ∈ l.foldl (fun t u => union t (g u)) t ↔ o ∈ t ∨ ∃ u, u ∈ l ∧ o ∈ g u
 | [], t => by simp
 | a :: l, t => by
  rw [List.foldl_cons, fold_mem, union_mem]
  simp only [List.mem_cons]
  constructor
  ·rintro ((h | h) | ⟨u, hu, h⟩)
   ·exact .inl h
   ·exact .inr ⟨a, .inl rfl, h⟩
   ·exact .inr ⟨u, .inr hu, h⟩
  ·rintro (h | ⟨u, rfl | hu, h⟩)
   ·exact .inl (.inl h)
   ·exact .inl (.inr h)
   ·exact .inr ⟨u, hu, h⟩
theorem fold_nodup {α : Type} {g : α → List POp} : ∀ {l : List α} {t : List POp}, t.Nodup → (l.foldl (fun t u => union t (g u)) t).Nodup
 | [], t, h => h
 | a :: l, t, h => by rw [List.foldl_cons]; exact fold_nodup (uniq_nodup _)
theorem scF_nodup {O : Nat → List POp} {U : Nat → List Nat} : ∀ (f i : Nat), (scF O U f i).Nodup
 | 0, i => uniq_nodup _
 | f + 1, i => fold_nodup (uniq_nodup _)
theorem scF_mem {O : Nat → List POp} {U : Nat → List Nat} {n : Nat} (hU : ∀ i u, u ∈ U i → u < n) {o : POp} : ∀ (f i : Nat), i < n → o ∈ scF O U f i → ∃ j, j < n ∧ o ∈ O j
 | 0, i, hi, h => by
  rcases union_mem.1 h with h | h
  ·exact ⟨i, hi, h⟩
  ·simp at h
 | f + 1, i, hi, h => by
  rcases fold_mem.1 h with h | ⟨u, hu, h⟩
  ·rcases union_mem.1 h with h | h
   ·exact ⟨i, hi, h⟩
   ·simp at h
  ·exact scF_mem hU f u (hU i u hu) h
theorem nodup_le {α : Type} [DecidableEq α] : ∀ {l m : List α}, l.Nodup → (∀ x, x ∈ l → x ∈ m) → l.length ≤ m.length
 | [], m, _, _ => Nat.zero_le _
 | a :: l, m, hn, hs => by
  rw [List.nodup_cons] at hn
  have ha : a ∈ m := hs a (by simp)
  have := nodup_le (l := l) (m := m.erase a) hn.2 fun x hx => (List.mem_erase_of_ne (fun e => hn.1 (by rw [← e]; exact hx))).2 (hs x (by simp [hx]))
  rw [List.length_erase_of_mem ha] at this
  have := List.length_pos_of_mem ha
  simp only [List.length_cons]; omega
instance : DecidableEq POp := fun a b => if h : opEq a b = true then isTrue (opEq_is.1 h) else isFalse fun e => h (opEq_is.2 e)
theorem flat_le {O : Nat → List POp} {c : Nat} (h : ∀ i, (O i).length ≤ c) : ∀ n, ((List.range n).flatMap O).length ≤ n * c
 | 0 => by simp
 | n + 1 => by
  have := flat_le h n
  have := h n
  rw [List.range_succ, List.flatMap_append, List.length_append, Nat.succ_mul, List.flatMap_singleton]
  omega
theorem scF_len {O : Nat → List POp} {U : Nat → List Nat} {n c : Nat} (hU : ∀ i u, u ∈ U i → u < n) (hO : ∀ i, (O i).length ≤ c) (f i : Nat) (hi : i < n) : (scF O U f i).length ≤ n * c :=
 Nat.le_trans (nodup_le (m := (List.range n).flatMap O) (scF_nodup f i) fun x hx => by
  obtain ⟨j, hj, h⟩ := scF_mem hU f i hi hx
  exact List.mem_flatMap.2 ⟨j, List.mem_range.2 hj, h⟩) (flat_le hO n)
theorem opI_len (L : List PMod) (i : Nat) : (opI L i).length ≤ 20001 := (unitZ_len _).2
theorem usI_len (L : List PMod) (i : Nat) : (untAt L i).uses.length ≤ 20001 := (unitZ_len _).1
structure LoadOk (L : List PMod) : Prop where
 few : L.length ≤ 100
 named : ∀ i u, u ∈ usI L i → u < L.length
 calm : ∀ i, i < L.length → warR (relR L) L.length i i = false
theorem LoadOk.of {L : List PMod} (h1 : L.length ≤ 100) (h4 : ∀ i, i < L.length → bad4 L i = false) (h5 : ∀ i, i < L.length → bad5 L i = false) : LoadOk L := by
 refine ⟨h1, fun i u hu => ?_, h5⟩
 by_cases hi : i < L.length
 ·have := h4 i hi
  unfold bad4 at this
  rw [List.any_eq_false] at this
  have h2 := this u hu
  unfold usI at hu
  rw [if_pos hi, List.mem_map] at hu
  obtain ⟨x, _, rfl⟩ := hu
  have := nameAt_le L x
  have : ¬ nameAt L x = L.length := by simpa using h2
  omega
 ·unfold usI at hu
  rw [if_neg hi] at hu
  simp at hu
theorem LoadOk.rank {L : List PMod} (h : LoadOk L) : ∀ i u, u ∈ usI L i → rankR (relR L) L.length u < rankR (relR L) L.length i := fun i u hu =>
 rank_lt (h.calm u (h.named i u hu)) (h.named i u hu) (by unfold relR; rw [List.any_eq_true]; exact ⟨u, hu, by simp⟩)
theorem LoadOk.scl_len {L : List PMod} (h : LoadOk L) (f i : Nat) (hi : i < L.length) : (scF (opI L) (usI L) f i).length ≤ 2000100 := by
 have := scF_len (O := opI L) (U := usI L) (n := L.length) (c := 20001) h.named (opI_len L) f i hi
 have h1 := h.few
 have : L.length * 20001 ≤ 100 * 20001 := Nat.mul_le_mul_right _ h1
 omega
theorem LoadOk.step {L : List PMod} (h : LoadOk L) (i : Nat) (hi : i < L.length) : scL L i = (usI L i).foldl (fun t u => union t (scL L u)) (union (opI L i) []) := by
 unfold scL
 match hn : L.length with
 | 0 => omega
 | n + 1 =>
  show (usI L i).foldl _ _ = _
  refine foldl_same fun t u hu => ?_
  have h1 := h.rank i u hu
  have h2 := h.named i u hu
  have h3 := rank_lt_n hi (h.calm i hi)
  rw [hn] at h1 h3
  rw [scF_stable (rk := rankR (relR L) L.length) h.rank n (n + 1) u (by rw [hn]; omega) (by rw [hn]; omega)]
theorem LoadOk.fin {L : List PMod} (h : LoadOk L) : ∀ i, i < L.length → rnD (usI L) L.length L.length i = true := fun i hi =>
 rnD_done (rk := rankR (relR L) L.length) (fun i u _ hu => ⟨h.named i u hu, h.rank i u hu⟩) _ i hi (rank_lt_n hi (h.calm i hi))
def scJ (L : List PMod) (i j : Nat) : List POp := ((usI L i).take j).foldl (fun t u => union t (scL L u)) (union (opI L i) [])
theorem scJ_len {L : List PMod} (h : LoadOk L) (i j : Nat) (hi : i < L.length) : (scJ L i j).length ≤ 2000100 := by
 have h1 : (scJ L i j).length ≤ ((List.range L.length).flatMap (opI L)).length := by
  refine nodup_le (fold_nodup (uniq_nodup _)) fun x hx => ?_
  rcases fold_mem.1 hx with hx | ⟨u, hu, hx⟩
  ·rcases union_mem.1 hx with hx | hx
   ·exact List.mem_flatMap.2 ⟨i, List.mem_range.2 hi, hx⟩
   ·simp at hx
  ·obtain ⟨j, hj, h2⟩ := scF_mem h.named _ u (h.named i u (List.mem_of_mem_take hu)) hx
   exact List.mem_flatMap.2 ⟨j, List.mem_range.2 hj, h2⟩
 have h2 := flat_le (opI_len L) L.length
 have h3 := h.few
 have : L.length * 20001 ≤ 100 * 20001 := Nat.mul_le_mul_right _ h3
 omega
theorem scJ_step {L : List PMod} {i j : Nat} (hj : j < (usI L i).length) : scJ L i (j + 1) = union (scJ L i j) (scL L ((usI L i).getD j 0)) := by
 unfold scJ
 rw [List.take_succ_eq_append_getElem hj, List.foldl_append, List.getD_eq_getElem?_getD, List.getElem?_eq_getElem hj]
 rfl
theorem scJ_full {L : List PMod} (h : LoadOk L) {i : Nat} (hi : i < L.length) : scJ L i (usI L i).length = scL L i := by
 rw [h.step i hi]; unfold scJ; rw [List.take_length]
theorem usI_at {L : List PMod} {i : Nat} (hi : i < L.length) : (usI L i).length = (untAt L i).uses.length ∧ ∀ j, j < (untAt L i).uses.length → (usI L i).getD j 0 = nameAt L (txAt (untAt L i).uses j) := by
 unfold usI
 rw [if_pos hi]
 refine ⟨by simp, fun j hj => ?_⟩
 unfold txAt
 rw [List.getD_eq_getElem?_getD, List.getElem?_map, List.getElem?_eq_getElem hj, List.getD_eq_getElem?_getD, List.getElem?_eq_getElem hj]
 rfl
theorem usR_ops (L : List (List ByteArray)) : ∀ i o, o ∈ (usR L i).ops → ∃ j, j < i ∧ declZ (L.getD j []) = some o
 | 0, o, h => by simp [usR] at h
 | i + 1, o, h => by
  have up : o ∈ (usR L i).ops → ∃ j, j < i + 1 ∧ declZ (L.getD j []) = some o := fun h => by
   obtain ⟨j, hj, e⟩ := usR_ops L i o h
   exact ⟨j, by omega, e⟩
  have h : o ∈ (usStep (usR L i) i (L.getD i [])).ops := h
  unfold usStep at h
  split at h
  ·exact up h
  ·split at h
   ·rename_i o2 h2
    simp only [List.mem_append, List.mem_singleton] at h
    rcases h with h | rfl
    ·exact up h
    ·exact ⟨i, by omega, h2⟩
   ·split at h
    ·exact up h
    ·exact up h
theorem unitZ_ops {z : ByteArray} {o : POp} (h : o ∈ (unitZ z).1.ops) : o.wf ∧ o.rng ∧ z.size ≤ 20000 := by
 unfold unitZ at h
 split at h
 ·simp at h
 ·have key : ∀ k, o ∈ (usR (linesZ z) k).ops → o.wf ∧ o.rng ∧ z.size ≤ 20000 := fun k h => by
   obtain ⟨j, hj, e⟩ := usR_ops _ _ _ h
   obtain ⟨h1, h2⟩ := declZ_ok e fun i => by rw [linWs]; have := linWs_size z j i; omega
   exact ⟨h1, h2, by omega⟩
  split at h
  ·split at h <;> simp at h
  ·split at h
   ·exact key _ h
   ·simp at h
theorem opAt_mem {l : List POp} {i : Nat} (h : i < l.length) : opAt l i ∈ l := by
 unfold opAt
 rw [List.getD_eq_getElem?_getD, List.getElem?_eq_getElem h]
 exact List.getElem_mem h
theorem opsFit {l : List POp} (h : ∀ o, o ∈ l → o.wf ∧ o.rng) : opsWf l ∧ opsRng l := ⟨fun i hi => (h _ (opAt_mem hi)).1, fun i hi => (h _ (opAt_mem hi)).2⟩
theorem opI_fit (L : List PMod) (i : Nat) : opsWf (opI L i) ∧ opsRng (opI L i) := opsFit fun o h => ⟨(unitZ_ops h).1, (unitZ_ops h).2.1⟩
theorem scL_fit {L : List PMod} (h : LoadOk L) (i : Nat) (hi : i < L.length) : opsWf (scL L i) ∧ opsRng (scL L i) := opsFit fun o ho => by
 obtain ⟨j, _, h2⟩ := scF_mem h.named _ i hi ho
 exact ⟨(unitZ_ops h2).1, (unitZ_ops h2).2.1⟩
theorem scJ_fit {L : List PMod} (h : LoadOk L) (i j : Nat) (hi : i < L.length) : opsWf (scJ L i j) ∧ opsRng (scJ L i j) := opsFit fun o ho => by
 rcases fold_mem.1 ho with hx | ⟨u, hu, hx⟩
 ·rcases union_mem.1 hx with hx | hx
  ·exact ⟨(unitZ_ops hx).1, (unitZ_ops hx).2.1⟩
  ·simp at hx
 ·obtain ⟨j, _, h2⟩ := scF_mem h.named _ u (h.named i u (List.mem_of_mem_take hu)) hx
  exact ⟨(unitZ_ops h2).1, (unitZ_ops h2).2.1⟩
theorem usR_uses (L : List (List ByteArray)) : ∀ i x, x ∈ (usR L i).uses → ∃ j, j < i ∧ x = wrdAt (L.getD j []) 1
 | 0, x, h => by simp [usR] at h
 | i + 1, x, h => by
  have up : x ∈ (usR L i).uses → ∃ j, j < i + 1 ∧ x = wrdAt (L.getD j []) 1 := fun h => by
   obtain ⟨j, hj, e⟩ := usR_uses L i x h
   exact ⟨j, by omega, e⟩
  have h : x ∈ (usStep (usR L i) i (L.getD i [])).uses := h
  unfold usStep at h
  split at h
  ·exact up h
  ·split at h
   ·exact up h
   ·split at h
    ·simp only [List.mem_append, List.mem_singleton] at h
     rcases h with h | rfl
     ·exact up h
     ·exact ⟨i, by omega, rfl⟩
    ·exact up h
theorem unitZ_uses {z x : ByteArray} (h : x ∈ (unitZ z).1.uses) : x.size ≤ 20000 := by
 unfold unitZ at h
 split at h
 ·simp at h
 ·have key : ∀ k, x ∈ (usR (linesZ z) k).uses → x.size ≤ 20000 := fun k h => by
   obtain ⟨j, hj, e⟩ := usR_uses _ _ _ h
   have := linWs_size z j 1
   rw [← linWs] at this
   rw [e]
   have h2 : (wrdAt ((linesZ z).getD j []) 1).size ≤ z.size := this
   omega
  split at h
  ·split at h <;> simp at h
  ·split at h
   ·exact key _ h
   ·simp at h
theorem use_size (L : List PMod) (i k : Nat) : (txAt (untAt L i).uses k).size ≤ 20000 := by
 by_cases h : k < (untAt L i).uses.length
 ·refine unitZ_uses (z := (modAt L i).text) ?_
  unfold txAt
  rw [List.getD_eq_getElem?_getD, List.getElem?_eq_getElem h]
  exact List.getElem_mem h
 ·unfold txAt
  rw [List.getD_eq_getElem?_getD, List.getElem?_eq_none (by omega)]
  exact Nat.zero_le _
structure PSrc where
 u : Unt
 hd : List ByteArray
 b : Nat
 n : Nat
instance : Inhabited PSrc := ⟨⟨⟨[], [], ⟨#[]⟩⟩, [], 0, 0⟩⟩
def PSrc.cells (c : PSrc) : List AV := [.sl 1 c.u.uses.length (txCells c.u.uses), .sl 4 c.u.ops.length (opCells c.u.ops), .lit (.string c.u.body), .sl 1 c.hd.length (txCells c.hd), .lit (.map (some c.b)), .lit (.int .i64 c.n)]
def srcAt (S : List PSrc) (i : Nat) : PSrc := S.getD i default
def srcCells (S : List PSrc) (i : Nat) : List AV := [.bptr (srcAt S i).cells]
theorem srcCells_at (S : List PSrc) (i : Nat) : srcCells S i = [.bptr [.sl 1 (srcAt S i).u.uses.length (txCells (srcAt S i).u.uses), .sl 4 (srcAt S i).u.ops.length (opCells (srcAt S i).u.ops), .lit (.string (srcAt S i).u.body), .sl 1 (srcAt S i).hd.length (txCells (srcAt S i).hd), .lit (.map (some (srcAt S i).b)), .lit (.int .i64 (srcAt S i).n)]] := rfl
theorem PSrc.closed (p : PSrc) : Closed (.bptr p.cells) := .bptr _ fun c h => by
 unfold PSrc.cells at h
 simp at h
 rcases h with rfl | rfl | rfl | rfl | rfl | rfl
 ·exact .sl _ _ _ fun i c _ h => txClosed _ i c h
 ·exact .sl _ _ _ fun i c _ h => opClosed _ i c h
 ·exact .lit _
 ·exact .sl _ _ _ fun i c _ h => txClosed _ i c h
 ·exact .lit _
 ·exact .lit _
theorem srcClosed (S : List PSrc) (i : Nat) (c : AV) (h : c ∈ srcCells S i) : Closed c := by
 unfold srcCells at h
 rw [List.mem_singleton] at h
 subst h
 exact (srcAt S i).closed
def progCells (L : List PMod) (S : List PSrc) (b1 b2 : Nat) : List AV := [.sl 2 L.length (modCells L), .sl 1 L.length (srcCells S), .lit (.map (some b1)), .lit (.map (some b2))]
theorem progClosed (L : List PMod) (S : List PSrc) (b1 b2 : Nat) : Closed (.bptr (progCells L S b1 b2)) := .bptr _ fun c h => by
 unfold progCells at h
 simp at h
 rcases h with rfl | rfl | rfl | rfl
 ·exact .sl _ _ _ fun i c _ h => modClosed _ i c h
 ·exact .sl _ _ _ fun i c _ h => srcClosed _ i c h
 ·exact .lit _
 ·exact .lit _
structure SrcIs (L : List PMod) (S : List PSrc) : Prop where
 len : S.length = L.length
 unt : ∀ i, i < L.length → (srcAt S i).u = untAt L i
def atEs (L : List PMod) (k : Nat) : List (Value × Value) := (List.range k).map fun i => (.string (modAt L i).name, .int .i64 i)
theorem atEs_at (L : List PMod) {k i : Nat} (h : i < k) : (atEs L k)[i]? = some (.string (modAt L i).name, .int .i64 i) := by
 unfold atEs
 rw [List.getElem?_map, List.getElem?_range h]; rfl
theorem atEs_succ (L : List PMod) (k : Nat) : atEs L (k + 1) = atEs L k ++ [(.string (modAt L k).name, .int .i64 k)] := by
 unfold atEs; rw [List.range_succ, List.map_append]; rfl
theorem atEs_get {L : List PMod} {k i : Nat} {p : Value × Value} (h : (atEs L k)[i]? = some p) : i < k ∧ p = (.string (modAt L i).name, .int .i64 i) := by
 have hi : i < k := by
  have := (List.getElem?_eq_some_iff.1 h).1
  unfold atEs at this
  simpa using this
 rw [atEs_at L hi] at h
 exact ⟨hi, (Option.some.inj h).symm⟩
theorem mget_at_lt {L : List PMod} {k : Nat} {x : ByteArray} (h : nameAt L x < k) (hk : k ≤ L.length) : mget (atEs L k) (.string x) = some (.int .i64 (nameAt L x)) := by
 refine mget_at (j := nameAt L x) ?_ fun i p hi hp => ?_
 ·rw [atEs_at L h, nameAt_name (by omega)]
 ·obtain ⟨_, rfl⟩ := atEs_get hp
  simp only [ne_eq, Value.string.injEq]
  exact nameAt_not hi
theorem mget_at_ge {L : List PMod} {k : Nat} {x : ByteArray} (h : k ≤ nameAt L x) : mget (atEs L k) (.string x) = none := by
 refine mget_not fun p hp => ?_
 obtain ⟨i, hi⟩ := List.getElem?_of_mem hp
 obtain ⟨h1, rfl⟩ := atEs_get hi
 simp only [ne_eq, Value.string.injEq]
 exact nameAt_not (by omega)
theorem mput_at_new {L : List PMod} {k : Nat} (h : k ≤ nameAt L (modAt L k).name) : mput (atEs L k) (.string (modAt L k).name) (.int .i64 k) = atEs L (k + 1) := by
 rw [atEs_succ]
 refine mput_not fun p hp => ?_
 obtain ⟨i, hi⟩ := List.getElem?_of_mem hp
 obtain ⟨h1, rfl⟩ := atEs_get hi
 simp only [ne_eq, Value.string.injEq]
 exact nameAt_not (by omega)
def NamesOk (L : List PMod) : Prop := ∀ i, i < L.length → nameAt L (modAt L i).name = i
theorem NamesOk.of {L : List PMod} (h : ∀ i, i < L.length → bad3 L i = false) : NamesOk L := fun i hi => by
 have h1 := h i hi
 unfold bad3 at h1
 have h1 : ¬ nameAt L (modAt L i).name < i := by simpa using h1
 by_cases e : nameAt L (modAt L i).name ≤ i
 ·omega
 ·exact absurd rfl (nameAt_not (show i < nameAt L (modAt L i).name by omega))
theorem NamesOk.inj {L : List PMod} (h : NamesOk L) {i j : Nat} (hi : i < L.length) (hj : j < L.length) (e : (modAt L i).name = (modAt L j).name) : i = j := by
 rw [← h i hi, e, h j hj]
structure Srch (L : List PMod) (i0 : Nat) (T : List Nat) (p : Nat) (es : List (Value × Value)) : Prop where
 lt0 : i0 < L.length
 lt : ∀ q, q ∈ T → q < L.length
 nodup : (i0 :: T).Nodup
 from_ : ∀ q, q ∈ T → Pth (relR L) L.length i0 q
 done : ∀ j, j < p → ∀ u, u ∈ usI L ((i0 :: T).getD j 0) → u ∈ T
 keys : ∀ x : ByteArray, (mget es (.string x)).isSome = true ↔ ∃ q, q ∈ T ∧ x = (modAt L q).name
theorem Srch.start {L : List PMod} {i0 : Nat} (h : i0 < L.length) : Srch L i0 [] 0 [] :=
 ⟨h, fun q hq => by simp at hq, by simp, fun q hq => by simp at hq, fun j hj => by omega, fun x => by simp [mget]⟩
theorem nodup_lt {n : Nat} {l : List Nat} (hn : l.Nodup) (h : ∀ q, q ∈ l → q < n) : l.length ≤ n := by
 have := nodup_le (m := List.range n) hn fun q hq => List.mem_range.2 (h q hq)
 rwa [List.length_range] at this
theorem Srch.len {L : List PMod} {i0 p : Nat} {T : List Nat} {es : List (Value × Value)} (h : Srch L i0 T p es) : T.length + 1 ≤ L.length := by
 have := nodup_lt h.nodup fun q hq => by
  rcases List.mem_cons.1 hq with rfl | hq
  ·exact h.lt0
  ·exact h.lt q hq
 simpa using this
theorem Srch.at_lt {L : List PMod} {i0 p : Nat} {T : List Nat} {es : List (Value × Value)} (h : Srch L i0 T p es) {j : Nat} (hj : j < T.length + 1) : (i0 :: T).getD j 0 < L.length := by
 cases j with
 | zero => exact h.lt0
 | succ j =>
  rw [List.getD_eq_getElem?_getD, List.getElem?_cons_succ, List.getElem?_eq_getElem (by omega)]
  exact h.lt _ (List.getElem_mem _)
theorem Srch.at_from {L : List PMod} {i0 p : Nat} {T : List Nat} {es : List (Value × Value)} (h : Srch L i0 T p es) {j u : Nat} (hj : j < T.length + 1) (hu : u ∈ usI L ((i0 :: T).getD j 0)) : Pth (relR L) L.length i0 u := by
 have hR : ∀ q, u ∈ usI L q → relR L q u = true := fun q hq => by unfold relR; rw [List.any_eq_true]; exact ⟨u, hq, by simp⟩
 have hl := h.at_lt hj
 cases j with
 | zero => exact .one (hR _ hu)
 | succ j =>
  have hm : (i0 :: T).getD (j + 1) 0 ∈ T := by
   rw [List.getD_eq_getElem?_getD, List.getElem?_cons_succ, List.getElem?_eq_getElem (by omega)]
   exact List.getElem_mem _
  exact (h.from_ _ hm).app hl (.one (hR _ hu))
theorem Srch.add {L : List PMod} {i0 p u : Nat} {T : List Nat} {es : List (Value × Value)} (h : Srch L i0 T p es) (hp : p ≤ T.length + 1) (hu : u < L.length) (h0 : u ≠ i0) (hn : u ∉ T) (hf : Pth (relR L) L.length i0 u) {v : Value} : Srch L i0 (T ++ [u]) p (mput es (.string (modAt L u).name) v) := by
 refine ⟨h.lt0, fun q hq => ?_, ?_, fun q hq => ?_, fun j hj w hw => ?_, fun x => ?_⟩
 ·rcases List.mem_append.1 hq with hq | hq
  ·exact h.lt q hq
  ·rw [List.mem_singleton] at hq; subst hq; exact hu
 ·rw [← List.cons_append, List.nodup_append]
  refine ⟨h.nodup, by simp, fun a ha b hb e => ?_⟩
  rw [List.mem_singleton] at hb
  subst hb; subst e
  rcases List.mem_cons.1 ha with e | ha
  ·exact h0 e
  ·exact hn ha
 ·rcases List.mem_append.1 hq with hq | hq
  ·exact h.from_ q hq
  ·rw [List.mem_singleton] at hq; subst hq; exact hf
 ·have e : (i0 :: (T ++ [u])).getD j 0 = (i0 :: T).getD j 0 := by
   rw [← List.cons_append, List.getD_eq_getElem?_getD, List.getD_eq_getElem?_getD, List.getElem?_append_left (by simp; omega)]
  rw [e] at hw
  exact List.mem_append_left _ (h.done j hj w hw)
 ·rw [mget_mput]
  split
  ·rename_i e
   simp only [Value.string.injEq] at e
   simp only [Option.isSome_some, true_iff]
   exact ⟨u, by simp, e.symm⟩
  ·rename_i e
   rw [h.keys]
   constructor
   ·rintro ⟨q, hq, rfl⟩; exact ⟨q, by simp [hq], rfl⟩
   ·rintro ⟨q, hq, rfl⟩
    rcases List.mem_append.1 hq with hq | hq
    ·exact ⟨q, hq, rfl⟩
    ·rw [List.mem_singleton] at hq; subst hq; exact absurd rfl e
theorem Srch.next {L : List PMod} {i0 p : Nat} {T : List Nat} {es : List (Value × Value)} (h : Srch L i0 T p es) (hu : ∀ u, u ∈ usI L ((i0 :: T).getD p 0) → u ∈ T) : Srch L i0 T (p + 1) es :=
 ⟨h.lt0, h.lt, h.nodup, h.from_, fun j hj => by
  by_cases e : j = p
  ·rw [e]; exact hu
  ·exact h.done j (by omega), h.keys⟩
theorem Srch.fin {L : List PMod} {i0 p : Nat} {T : List Nat} {es : List (Value × Value)} (h : Srch L i0 T p es) (hp : T.length + 1 ≤ p) : warR (relR L) L.length i0 i0 = false := by
 have step : ∀ x, x ∈ i0 :: T → ∀ y, relR L x y = true → y ∈ T := fun x hx y hy => by
  obtain ⟨j, hj, rfl⟩ := List.getElem_of_mem hx
  unfold relR at hy
  rw [List.any_eq_true] at hy
  obtain ⟨u, hu, e⟩ := hy
  have e : u = y := by simpa using e
  subst e
  simp only [List.length_cons] at hj
  refine h.done j (by omega) u ?_
  rw [List.getD_eq_getElem?_getD, List.getElem?_eq_getElem (by simpa using hj)]
  exact hu
 have key : ∀ x y, Pth (relR L) L.length x y → x ∈ i0 :: T → y ∈ T := fun x y hp => by
  induction hp with
  | one h => exact fun hx => step _ hx _ h
  | cons h _ _ ih => exact fun hx => ih (List.mem_cons_of_mem _ (step _ hx _ h))
 cases hw : warR (relR L) L.length i0 i0 with
 | false => rfl
 | true =>
  have := key i0 i0 ((warR_pth _ _ _).1 hw) (by simp)
  have hn := h.nodup
  rw [List.nodup_cons] at hn
  exact absurd this hn.1
end Go.Proofs.YtadghlfkddkelaaGreatDoor.V
namespace Go.Proofs.YtadghlfkddkelaaGreatDoor.V
open Go.RowKit
def isSlD : Option TypeDesc → Bool
 | some (.slice _) => true
 | _ => false
@[go_sem] theorem isSlT_eq {P : Program} {t : TypeId} : isSlT P t = isSlD (P.underlying t) := _root_.id rfl
@[go_sem] theorem isSlD_s {e : TypeId} : isSlD (some (.slice e)) = true := _root_.id rfl
def Rw (g : Nat → Ob) (n : Nat) : List (Option Ob) := (List.range n).map fun i => some (g i)
@[go_sem] theorem Rw_len (g : Nat → Ob) (n : Nat) : (Rw g n).length = n := by simp [Rw]
theorem Rw_at (g : Nat → Ob) {n i : Nat} (h : i < n) : (Rw g n)[i]? = some (some (g i)) := by
 unfold Rw
 rw [List.getElem?_map, List.getElem?_range h]; rfl
@[go_sem] theorem Rw_elem (g : Nat → Ob) {n i : Nat} (h : i < (Rw g n).length) : (Rw g n)[i]'h = some (g i) := by
 have hi : i < n := by rwa [Rw_len] at h
 have := Rw_at g hi
 rw [List.getElem?_eq_getElem h] at this
 simpa using this
theorem Rw_get {g : Nat → Ob} {n i : Nat} {o : Ob} (h : (Rw g n)[i]? = some (some o)) : i < n ∧ o = g i := by
 have hi : i < n := by have := (List.getElem?_eq_some_iff.1 h).1; rwa [Rw_len] at this
 rw [Rw_at g hi] at h
 cases h; exact ⟨hi, rfl⟩
@[go_sem] theorem Rw_app_at (g : Nat → Ob) (n : Nat) (l : List (Option Ob)) : (Rw g n ++ l)[n]? = l[0]? := by
 rw [List.getElem?_append_right (by rw [Rw_len]; exact Nat.le_refl _), Rw_len, Nat.sub_self]
@[go_sem] theorem Rw_app_atk (g : Nat → Ob) (n k : Nat) (l : List (Option Ob)) : (Rw g n ++ l)[n + k]? = l[k]? := by
 rw [List.getElem?_append_right (by rw [Rw_len]; omega), Rw_len, Nat.add_sub_cancel_left]
theorem Rw_app_lt (g : Nat → Ob) {n i : Nat} (l : List (Option Ob)) (h : i < n) : (Rw g n ++ l)[i]? = some (some (g i)) := by
 rw [List.getElem?_append_left (by rw [Rw_len]; exact h), Rw_at g h]
theorem Rw_set (g : Nat → Ob) {n i : Nat} (h : i < n) (x : Ob) : (Rw g n).set i (some x) = Rw (fun a => if a = i then x else g a) n := by
 apply List.ext_getElem?
 intro k
 by_cases hk : k < n
 ·rw [Rw_at _ hk]
  by_cases e : i = k
  ·subst e
   rw [List.getElem?_set_self (by rw [Rw_len]; exact h), if_pos rfl]
  ·rw [List.getElem?_set_ne e, Rw_at _ hk, if_neg (fun e2 => e e2.symm)]
 ·rw [List.getElem?_eq_none (by rw [List.length_set, Rw_len]; omega), List.getElem?_eq_none (by rw [Rw_len]; omega)]
theorem Rw_congr {g g' : Nat → Ob} {n : Nat} (h : ∀ i, i < n → g i = g' i) : Rw g n = Rw g' n := by
 unfold Rw
 exact List.map_congr_left fun i hi => by rw [h i (List.mem_range.1 hi)]
@[go_sem] theorem Rw_map (g : Nat → Ob) (n : Nat) (h : Nat → Nat) : (Rw g n).map (Option.map (renOb h)) = Rw (fun a => renOb h (g a)) n := by
 unfold Rw; rw [List.map_map]; rfl
def offF (K off j : Nat) : Nat := if j = 0 then K else (j - 1) + off
@[go_sem] theorem offF_0 (K off : Nat) : offF K off 0 = K := if_pos rfl
@[go_sem] theorem offF_s (K off j : Nat) : offF K off (j + 1) = j + off := by unfold offF; rw [if_neg (by omega)]; rfl
theorem ent_rw (K off : Nat) {t t' : List (Nat × AV)} {m : List (Option Ob)} {M M' : List (Nat × Mp)} {o o' : Ob} {n : Nat} {g : Nat → Ob}
  (h1 : TmpsR (offF K off) (n + 1) t t') (hK : m[K]? = some (some o)) (ho : ShOb (offF K off) (n + 1) o o')
  (hr : ∀ a, a < n → K ≠ a + off ∧ ∃ ob, m[a + off]? = some (some ob) ∧ (ObRn (offF K off) (n + 1) ob (g a) ∨ ShOb (offF K off) (n + 1) ob (g a))) (hM : MapsLe M M' := by simp [go_sem]) : Ent ⟨t, m, M, 0⟩ ⟨t', some o' :: Rw g n, M', 0⟩ := by
 have hl : (some o' :: Rw g n).length = n + 1 := by rw [List.length_cons, Rw_len]
 refine Ent.of_leS (f := offF K off) ⟨⟨rfl, Nat.zero_le _, fun k hk => absurd hk (Nat.not_lt_zero k)⟩, mapsLe_get hM, by rw [hl]; exact tmpsR_get h1, fun k hk => ?_, fun k k' hk hk' e => ?_, fun k ob' hk => ?_⟩
 ·simp only [hl] at hk
  cases k with
  | zero => rw [offF_0]; exact (List.getElem?_eq_some_iff.1 hK).1
  | succ k =>
   rw [offF_s]
   obtain ⟨_, ob, h2, _⟩ := hr k (by omega)
   exact (List.getElem?_eq_some_iff.1 h2).1
 ·simp only [hl] at hk hk'
  cases k with
  | zero => cases k' with
   | zero => rfl
   | succ k' => rw [offF_0, offF_s] at e; exact absurd e (hr k' (by omega)).1
  | succ k => cases k' with
   | zero => rw [offF_0, offF_s] at e; exact absurd e.symm (hr k (by omega)).1
   | succ k' => rw [offF_s, offF_s] at e; omega
 ·simp only [hl]
  cases k with
  | zero =>
   simp only [List.getElem?_cons_zero, Option.some.injEq] at hk
   subst hk
   rw [offF_0]
   exact ⟨o, hK, .inr ho⟩
  | succ k =>
   simp only [List.getElem?_cons_succ] at hk
   obtain ⟨hk2, rfl⟩ := Rw_get hk
   rw [offF_s]
   exact (hr k hk2).2
theorem memOut_map {idx : Nat → Nat} {all : List Nat} {m : List (Option Ob)} {α : Type} (p : α → Nat) (q : α → Ob) : ∀ {l : List α}, (∀ a, a ∈ l → OutAt idx all (q a) (m[p a]?)) → MemOut idx all m (l.map p) (l.map fun a => some (q a))
 | [], _ => trivial
 | a :: l, h => ⟨h a (by simp), memOut_map p q fun b hb => h b (by simp [hb])⟩
def exRw (K off n : Nat) : List Nat := K :: (List.range n).map (· + off)
theorem exRw_nodup {K off n : Nat} (h : K < off ∨ off + n ≤ K) : (exRw K off n).Nodup := by
 unfold exRw
 rw [List.nodup_cons]
 refine ⟨fun hm => ?_, ?_⟩
 ·rw [List.mem_map] at hm
  obtain ⟨a, ha, e⟩ := hm
  rw [List.mem_range] at ha
  omega
 ·unfold List.Nodup
  rw [List.pairwise_map]
  exact List.Pairwise.imp (fun h e => h (by omega)) (List.nodup_range (n := n))
theorem exRw_idx {K off n a : Nat} (h : K < off ∨ off + n ≤ K) (ha : a < n) : (exRw K off n).idxOf (a + off) = a + 1 := by
 have hx : (exRw K off n)[a + 1]? = some (a + off) := by
  unfold exRw
  rw [List.getElem?_cons_succ, List.getElem?_map, List.getElem?_range ha]; rfl
 obtain ⟨h1, h2⟩ := List.getElem?_eq_some_iff.1 hx
 have hd := exRw_nodup h
 have hlt := List.idxOf_lt_length_of_mem (List.mem_of_getElem? hx)
 exact (List.getElem_inj hd).1 ((List.getElem_idxOf hlt).trans h2.symm)
theorem uFR {maps0 : List (Nat × Mp)} {R : AV → List (Option Ob) → List (Nat × Mp) → Prop} {t : List (Nat × AV)} {m : List (Option Ob)} {M : List (Nat × Mp)} {av : AV} (K off n ty : Nat) (g : Nat → Ob)
  (hK : m[K]? = some (some ⟨ty, 1, n, fun i => [.own (i + off)]⟩)) (hr : ∀ a, a < n → m[a + off]? = some (some (g a))) (hg : ∀ a, a < n → ∀ i, ((g a).f i).all isLit = true) (hd : K < off ∨ off + n ≤ K)
  (hav : (∀ q, q ∈ ownsV av → q = K) ∧ clW av) (hR : R (ren (idxOut 0 (exRw K off n)) av) (some ⟨ty, 1, n, fun i => [.own (i + 1)]⟩ :: Rw g n) M) (hM : ∀ b, (lkm maps0 b).isSome = true → (lkm M b).isSome = true := by simp [go_sem]) : vendP maps0 R ⟨t, m, M, 0⟩ av := by
 have e0 : outKs 0 (exRw K off n) = exRw K off n := by unfold outKs; simp
 refine ⟨rfl, exRw K off n, some ⟨ty, 1, n, fun i => [.own (i + 1)]⟩ :: Rw g n, exRw_nodup hd, fun e he => ⟨Nat.zero_le _, ?_⟩, ⟨fun q hq => ?_, hav.2⟩, ?_, hM, hR⟩
 ·unfold exRw at he
  rw [List.mem_cons, List.mem_map] at he
  rcases he with rfl | ⟨a, ha, rfl⟩
  ·exact (List.getElem?_eq_some_iff.1 hK).1
  ·exact (List.getElem?_eq_some_iff.1 (hr a (List.mem_range.1 ha))).1
 ·rw [hav.1 q hq]
  show K ∈ outKs 0 (exRw K off n)
  rw [e0]; unfold exRw; simp
 ·show MemOut (idxOut 0 (exRw K off n)) (outKs 0 (exRw K off n)) m (outKs 0 (exRw K off n)) _
  rw [e0]
  have hx : ∀ k, idxOut 0 (exRw K off n) k = (exRw K off n).idxOf k := fun k => by unfold idxOut; rw [if_neg (by omega), Nat.zero_add]
  refine ⟨?_, ?_⟩
  ·rw [hK]
   refine ⟨rfl, rfl, rfl, fun i hi => ⟨?_, fun c hc => ?_, fun c hc q hq => ?_⟩⟩
   ·simp only [List.map_cons, List.map_nil, ren1, hx]
    rw [exRw_idx hd hi]
   ·simp only [List.mem_singleton] at hc
    subst hc; exact .inl rfl
   ·simp only [List.mem_singleton] at hc
    subst hc
    simp only [owns1, List.mem_singleton] at hq
    subst hq
    unfold exRw
    simp only [List.mem_cons, List.mem_map, List.mem_range]
    exact .inr ⟨i, hi, rfl⟩
  ·unfold Rw
   refine memOut_map (· + off) g fun a ha => ?_
   rw [List.mem_range] at ha
   rw [hr a ha]
   have := hg a ha
   generalize g a = ob at this
   obtain ⟨ty, sz, n', f⟩ := ob
   exact outAt_lits (fun _ _ => rfl) fun i _ => this i
section
variable {P : Program} {n : Nat} {base : Fr} {w0 w : World} {hd : Nat → Value} {s : VS} {a : Act}
def RwG (g : Nat → Ob) (n j : Nat) : List (Option Ob) := (List.range n).map fun i => if i < j then none else some (g i)
def rwCell (g : Nat → Ob) (j i : Nat) : List AV := if i < j then [.sl (g i).sz (g i).n (g i).f] else [.own (i + 1)]
theorem ent_giveAll {ty n : Nat} {g : Nat → Ob} (hg : ∀ a, a < n → ∀ i, i < (g a).n → ∀ c, c ∈ (g a).f i → Closed c) (t : List (Nat × AV)) (M : List (Nat × Mp)) : ∀ j, j ≤ n → Ent ⟨t, some ⟨ty, 1, n, fun i => [.own (i + 1)]⟩ :: Rw g n, M, 0⟩ ⟨t, some ⟨ty, 1, n, rwCell g j⟩ :: RwG g n j, M, 0⟩
 | 0, _ => by
  have e1 : rwCell g 0 = fun i => [.own (i + 1)] := by funext i; unfold rwCell; rw [if_neg (by omega)]
  have e2 : RwG g n 0 = Rw g n := by unfold RwG Rw; exact List.map_congr_left fun i _ => if_neg (by omega)
  rw [e1, e2]; exact Ent.refl _
 | j + 1, hj => by
  refine (ent_giveAll hg t M j (by omega)).trans ?_
  have hk : (some (⟨ty, 1, n, rwCell g j⟩ : Ob) :: RwG g n j)[j + 1]? = some (some (g j)) := by
   rw [List.getElem?_cons_succ]
   unfold RwG
   rw [List.getElem?_map, List.getElem?_range (by omega), Option.map_some, if_neg (by omega)]
  have h := Ent.giveAt (s := ⟨t, some ⟨ty, 1, n, rwCell g j⟩ :: RwG g n j, M, 0⟩) 0 (j + 1) j 0 hk (hg j (by omega)) rfl (by omega) (by show (rwCell g j j)[0]? = _; unfold rwCell; rw [if_neg (by omega)]; rfl)
  refine h.trans ?_
  have e1 : (fun i => if i = j then (rwCell g j i).set 0 (.sl (g j).sz (g j).n (g j).f) else rwCell g j i) = rwCell g (j + 1) := by
   funext i
   unfold rwCell
   by_cases e : i = j
   ·subst e; rw [if_pos rfl, if_neg (by omega), if_pos (by omega)]; rfl
   ·rw [if_neg e]
    by_cases h : i < j
    ·rw [if_pos h, if_pos (by omega)]
    ·rw [if_neg h, if_neg (by omega)]
  have e2 : (RwG g n j).set j none = RwG g n (j + 1) := by
   unfold RwG
   apply List.ext_getElem?
   intro k
   by_cases hk : k < n
   ·rw [List.getElem?_map, List.getElem?_range hk, Option.map_some]
    by_cases e : j = k
    ·subst e
     rw [List.getElem?_set_self (by simp; omega), if_pos (by omega)]
    ·rw [List.getElem?_set_ne e, List.getElem?_map, List.getElem?_range hk, Option.map_some]
     by_cases h : k < j
     ·rw [if_pos h, if_pos (by omega)]
     ·rw [if_neg h, if_neg (by omega)]
   ·rw [List.getElem?_eq_none (by simp; omega), List.getElem?_eq_none (by simp; omega)]
  simp only [List.set_cons_succ, List.set_cons_zero, e1, e2]
  exact Ent.refl _
end
theorem VProc.giveRR {P : Program} {f : FuncId} {args : List AV} {R R' : AV → List (Option Ob) → List (Nat × Mp) → Prop} (h : VProc P f args [] [] R)
  (hr : ∀ av mem maps, R av mem maps → R' av mem maps ∨ ∃ (ty n : Nat) (g : Nat → Ob) (xs : List Value), (∀ a, a < n → ∀ i, i < (g a).n → ∀ c, c ∈ (g a).f i → Closed c) ∧ mem = some ⟨ty, 1, n, fun i => [.own (i + 1)]⟩ :: Rw g n ∧ maps = [] ∧
   ((av = .own 0 ∧ R' (.sl 1 n fun i => [.sl (g i).sz (g i).n (g i).f]) [] []) ∨ (av = .tup (.own 0 :: xs.map .lit) ∧ R' (.tup ((.sl 1 n fun i => [.sl (g i).sz (g i).n (g i).f]) :: xs.map .lit)) [] []))) : VProc P f args [] [] R' := by
 refine ⟨h.1, fun w vs hd0 hl hv hm hmp ht => (h.2 w vs hd0 hl hv hm hmp ht).mono fun e w' ⟨v, e1, gb, hd, av, mem, maps, r, po, hx, me, mp, rp⟩ => ?_⟩
 rcases hr av mem maps r with r' | ⟨ty, n, g, xs, hcl, rfl, rfl, hav⟩
 ·exact ⟨v, e1, gb, hd, av, mem, maps, r', po, hx, me, mp, rp⟩
 have hcl1 : ∀ i, i < n → ∀ c, c ∈ rwCell g n i → Closed c := fun i hi c hc => by
  unfold rwCell at hc
  rw [if_pos hi, List.mem_singleton] at hc
  subst hc
  exact .sl _ _ _ fun k c hk hc => hcl i hi k hk c hc
 have hcl2 : Closed (.sl 1 n fun i => [.sl (g i).sz (g i).n (g i).f]) := .sl _ _ _ fun i c hi hc => by
  rw [List.mem_singleton] at hc
  subst hc
  exact .sl _ _ _ fun k c hk hc => hcl i hi k hk c hc
 have key : ∀ x, Rep w' (okOf (some ⟨ty, 1, n, fun i => [.own (i + 1)]⟩ :: Rw g n) hd) hd (some (⟨ty, 1, n, fun i => [.own (i + 1)]⟩ : Ob) :: Rw g n).length (.own 0) x → ∃ hd', TailEq hd0 hd' ∧ Rep w' (okOf [] hd') hd' 0 (.sl 1 n fun i => [.sl (g i).sz (g i).n (g i).f]) x := fun x hxr => by
  have h : RelH 1 ⟨P, Sh w hd0 [] [], hd0, []⟩ w hd ⟨[(0, .own 0)], some ⟨ty, 1, n, fun i => [.own (i + 1)]⟩ :: Rw g n, [], 0⟩ ⟨#[x], []⟩ w' :=
   ⟨rfl, rfl, gb, ⟨fun b hb => .inl hb, hl.2.1, hl.2.2⟩, Nat.zero_le _, ⟨fun k hk => absurd hk (Nat.not_lt_zero k), hx.2, ht⟩, mp, fun t => by
    cases t with
    | zero => exact hxr
    | succ t => exact .undef _, me⟩
  obtain ⟨hd1, h1⟩ := ent_giveAll hcl [(0, .own 0)] [] n (Nat.le_refl _) _ _ _ _ _ _ h
  obtain ⟨hd2, h2⟩ := Ent.give (s := ⟨[(0, .own 0)], some ⟨ty, 1, n, rwCell g n⟩ :: RwG g n n, [], 0⟩) [0] 0 rfl hcl1 (fun t ht => by simp at ht; subst ht; rfl) _ _ _ _ _ _ h1
  have h3 := h2.tm 0
  refine ⟨hd2, h2.fix.2.1, ?_⟩
  have h4 : Rep w' (okOf ((some (⟨ty, 1, n, rwCell g n⟩ : Ob) :: RwG g n n).set 0 none) hd2) hd2 ((some (⟨ty, 1, n, rwCell g n⟩ : Ob) :: RwG g n n).set 0 none).length (.sl 1 n (rwCell g n)) x := h3
  have h5 := h4.slExt (f' := fun i => [.sl (g i).sz (g i).n (g i).f]) fun i hi => by unfold rwCell; rw [if_pos hi]
  exact Rep.closed hcl2 (fun ad u g1 g2 => ⟨g2, fun k ob hk => by simp at hk, g1.2⟩) h5
 have fin : ∀ (v : Value) (hd' : Nat → Value) (av' : AV), TailEq hd0 hd' → clW av' → Rep w' (okOf [] hd') hd' 0 av' v → R' av' [] [] → ∃ v', Ending.returned v = Ending.returned v' ∧ Bel (Sh w hd0 [] []) w w' ∧ ∃ hd av mem maps, R' av mem maps ∧ PostOk [] [] av mem maps ∧
   ((∀ k, k < ([] : List (Option Ob)).length → hd k = hd0 k) ∧ TailEq hd0 hd) ∧ MemRel (Sh w hd0 [] []) w' hd mem ∧ MapRel P (Sh w hd0 [] []) w' maps ∧ Rep w' (okOf mem hd) hd mem.length av v' := fun v hd' av' h1 h2 h3 h4 =>
  ⟨v, rfl, gb, hd', av', [], [], h4, ⟨Nat.zero_le _, h2, fun k ob hk => by simp at hk, fun b hb => hb⟩, ⟨fun k hk => absurd hk (Nat.not_lt_zero k), h1⟩, ⟨fun k ob hk => by simp at hk, fun k ob hk => by simp at hk, fun k hk => absurd hk (Nat.not_lt_zero k), fun k k' o o' hk => by simp at hk⟩, mp, h3⟩
 subst e1
 rcases hav with ⟨rfl, r'⟩ | ⟨rfl, r'⟩
 ·obtain ⟨hd', h1, h2⟩ := key v rp
  exact fin _ hd' (.sl 1 n fun i => [.sl (g i).sz (g i).n (g i).f]) h1 (Or.inr hcl2 : clW2 (.sl 1 n fun i => [.sl (g i).sz (g i).n (g i).f])) h2 r'
 ·cases rp with
  | tup _ us hl2 hr2 =>
   match us, hl2, hr2 with
   | x :: us, hl2, hr2 =>
    obtain ⟨hd', h1, h2⟩ := key x (hr2 0 _ x rfl rfl)
    have hl3 : ((AV.sl 1 n fun i => [.sl (g i).sz (g i).n (g i).f]) :: xs.map .lit).length = (x :: us).length := by simpa using hl2
    refine fin _ hd' (.tup ((.sl 1 n fun i => [.sl (g i).sz (g i).n (g i).f]) :: xs.map .lit)) h1 ?_ (.tup _ (x :: us) hl3 fun j a u ha hu => ?_) r'
    ·show ∀ c, c ∈ _ → clW2 c
     intro c hc
     rw [List.mem_cons, List.mem_map] at hc
     rcases hc with rfl | ⟨y, _, rfl⟩
     ·exact .inr hcl2
     ·exact .inl rfl
    ·cases j with
     | zero =>
      simp only [List.getElem?_cons_zero, Option.some.injEq] at ha hu
      subst ha; subst hu
      exact h2
     | succ j =>
      simp only [List.getElem?_cons_succ] at ha hu
      have := hr2 (j + 1) a u (by simpa using ha) (by simpa using hu)
      rw [List.getElem?_map, Option.map_eq_some_iff] at ha
      obtain ⟨y, hy, rfl⟩ := ha
      cases this
      exact .lit _
theorem Rw_snoc (g : Nat → Ob) {n a : Nat} (x : Ob) (h : a < n + 1) : (Rw g n ++ [some x])[a]? = some (some (if a = n then x else g a)) := by
 by_cases e : a = n
 ·subst e; rw [Rw_app_at, if_pos rfl]; rfl
 ·rw [Rw_app_lt g _ (by omega), if_neg e]
theorem obRn_of {f : Nat → Nat} {m ty sz n : Nat} {F F' : Nat → List AV} (h : ∀ i, i < n → F i = F' i) (hc : ∀ i c, c ∈ F' i → Closed c) : ObRn f m ⟨ty, sz, n, F⟩ ⟨ty, sz, n, F'⟩ := ⟨rfl, rfl, rfl, fun i hi => ⟨h i hi, fun c hc' => hc i c hc'⟩⟩
def TmpsW (t : List (Nat × AV)) : List (Nat × AV) → Prop
 | [] => True
 | (u, v) :: r => lk t u = v ∧ TmpsW t r
theorem ent_same {t t' : List (Nat × AV)} {m : List (Option Ob)} {M : List (Nat × Mp)} {x : Nat} (h : TmpsW t t') : Ent ⟨t, m, M, x⟩ ⟨t', m, M, x⟩ := fun n base w0 hd a w hr => by
 refine ⟨hd, hr.weak rfl rfl rfl fun u => ?_⟩
 have key : ∀ l : List (Nat × AV), TmpsW t l → lk l u = .undef ∨ lk l u = lk t u := fun l => by
  induction l with
  | nil => intro _; exact .inl rfl
  | cons p l ih =>
   obtain ⟨v, y⟩ := p
   intro h
   simp only [lk]
   split
   ·rename_i e; subst e; exact .inr h.1.symm
   ·exact ih h.2
 exact key t' h
attribute [go_sem] TmpsW
end Go.Proofs.YtadghlfkddkelaaGreatDoor.V
