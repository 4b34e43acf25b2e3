import Derived.Test.YtbjkgfooangjhaaDoorMT
import Derived.Test.YtbjkgfooangjhaaDoorMC
import Derived.Test.YtbjkgfooangjhaaDoorShelf
import Derived.DeepKeys5
import Derived.Shelf.Strings.SlTrimAscii
/- Contracts: signs, operators, holes. -/
namespace Go.Proofs.YtbjkgfooangjhaaDoor.V
open Go.RowKit
set_option linter.unusedVariables false
set_option linter.unusedSimpArgs false

theorem vfun_lit {P : Program} {f : FuncId} {vs : List Value} {v : Value} (hf : FnOk P f) (h : ∀ w, Calls P f vs.toArray w fun e w' => e = .returned v ∧ w' = w) : VFun P f (vs.map .lit) (fun av obs => obs = [] ∧ av = .lit v) := by
  refine ⟨hf, fun w us hl hu => ?_⟩
  have e : us = vs := by
    have hl' : vs.length = us.length := by simpa using hl
    apply List.ext_getElem hl'.symm
    intro j h1 h2
    have := hu j (.lit vs[j]) us[j] (by simp [h2]) (List.getElem?_eq_getElem h1)
    generalize us[j] = x at this
    generalize vs[j] = y at this
    cases this
    rfl
  subst e
  refine (h w).mono fun e w' ⟨he, hw⟩ => ?_
  subst he; subst hw
  exact ⟨v, rfl, World.grownBy.refl _ _, fun _ => undef, .lit v, [], ⟨rfl, rfl⟩, rfl, fun ob h => by simp at h, ⟨fun k ob h => by simp at h, fun k ob h => by simp at h, fun k h => by simp at h, fun k k' ob ob' h => by simp at h⟩, .lit v⟩

theorem wrap_i64 {n : Int} (h : -9223372036854775808 ≤ n ∧ n ≤ 9223372036854775807) : IntKind.i64.wrap n = n := by
  rw [IntKind.wrap_i64]; omega
theorem wrap_succ {i : Nat} (h : i < 9223372036854775807) : IntKind.i64.wrap ((i : Int) + 1) = ((i + 1 : Nat) : Int) := by
  rw [wrap_i64 (by omega)]; omega

def signBytes : ByteArray := { data := #[43, 45, 42, 47, 60, 62, 61, 33, 38, 124, 94, 126, 63, 58, 64, 37, 36, 46] }
def isSg (c : Int) : Bool := (List.range 18).any fun i => byteAt signBytes i = c
theorem signSize : signBytes.size = 18 := rfl
theorem isSg_false {c : Int} (h : ∀ j, j < 18 → ¬byteAt signBytes j = c) : isSg c = false := by simpa [isSg] using h
theorem isSg_true {c : Int} {i : Nat} (h : i < 18) (e : byteAt signBytes i = c) : isSg c = true := by simpa [isSg] using ⟨i, h, e⟩

theorem c_l1IsSign (c : Int) : VFun Tryd.prog 87 [.lit (.int .u8 c)] (fun av obs => obs = [] ∧ av = .lit (.bool (isSg c))) := by
  refine vfun_start Tryd.func87 (by kernel_rfl) rfl (by simp [Tryd.ntmps87]) ?_
  simp only [Tryd.ntmps87, Tryd.results87]
  simp [go_sem]
  refine vc_loop (fun i : Nat => i ≤ 18 ∧ ∀ j, j < i → ¬byteAt signBytes j = c) (fun i => 18 - i) (fun i => .of [(0, .lit (.int .u8 c)), (2, .lit (.bool false)), (3, .lit (.string signBytes)), (4, .lit (.int .i64 i))] []) ⟨0, ?_, ?_⟩ (fun i hi => ?_)
  · simp
  · simp [go_sem, signBytes]
  · simp [go_sem, signSize]
    refine ⟨fun h => ⟨h, fun e => isSg_true (by omega) e, fun e => ⟨i + 1, ⟨⟨by omega, fun j hj => ?_⟩, by omega, wrap_succ (by omega)⟩⟩⟩, fun h => isSg_false fun j hj => hi.2 j (by omega)⟩
    rcases Nat.lt_succ_iff_lt_or_eq.mp hj with hj | rfl
    · exact hi.2 j hj
    · exact e

theorem byteAt_range (z : ByteArray) (i : Nat) : 0 ≤ byteAt z i ∧ byteAt z i < 256 := by
  unfold byteAt
  split
  · rename_i h
    have := (z[i]'h).toNat_lt
    omega
  · omega
theorem signKey : (List.range 256).all (fun n => decide (0 ≤ Lib.indexByte signBytes.data.toList n.toUInt8) == isSg n) = true := by kernel_rfl
theorem indexSign (c : Int) (h : 0 ≤ c ∧ c < 256) : decide (0 ≤ Lib.indexByte signBytes.data.toList c.toNat.toUInt8) = isSg c := by
  have := List.all_eq_true.mp signKey c.toNat (List.mem_range.mpr (by omega))
  have e : ((c.toNat : Nat) : Int) = c := by omega
  rw [beq_iff_eq, e] at this
  exact this
theorem c_isSign (c : Int) (h : 0 ≤ c ∧ c < 256) : VFun Tryd.prog 97 [.lit (.int .u8 c)] (fun av obs => obs = [] ∧ av = .lit (.bool (isSg c))) := by
  refine vfun_start Tryd.func97 (by kernel_rfl) rfl (by simp [Tryd.ntmps97]) ?_
  simp only [Tryd.ntmps97, Tryd.results97]
  simp [go_sem]
  refine vcall_pure (vfun_lit (vs := [.string signBytes, .int .u8 c]) ⟨_, Tryd.func102, rfl, rfl⟩ (fun w => Tryd.strings_IndexByte signBytes c w)) ?_ ?_
  · simp [go_sem, signBytes]
  · simp [go_sem]
    exact indexSign c h

/-- a text's bytes are all signs -/
def sgAll (z : ByteArray) : Bool := (List.range z.size).all fun i => isSg (byteAt z i)
def sgOk (z : ByteArray) : Bool := sgAll z && decide (1 ≤ z.size) && decide (z.size ≤ 16)
theorem sgAll_false {z : ByteArray} {i : Nat} (h : i < z.size) (e : isSg (byteAt z i) = false) : sgAll z = false := by
  simp [sgAll]; exact ⟨i, h, e⟩
theorem sgAll_true {z : ByteArray} (h : ∀ i, i < z.size → isSg (byteAt z i) = true) : sgAll z = true := by simpa [sgAll] using h
theorem c_l1Signs (z : ByteArray) (hz : z.size ≤ maxLen) : VFun Tryd.prog 79 [.lit (.string z)] (fun av obs => obs = [] ∧ av = .lit (.bool (sgOk z))) := by
  refine vfun_start Tryd.func79 (by kernel_rfl) rfl (by simp [Tryd.ntmps79]) ?_
  simp only [Tryd.ntmps79, Tryd.results79]
  simp [go_sem]
  simp only [maxLen] at hz
  refine vc_loop (fun i : Nat => i ≤ z.size ∧ ∀ j, j < i → isSg (byteAt z j) = true) (fun i => z.size - i) (fun i => .of [(0, .lit (.string z)), (2, .lit (.bool false)), (3, .lit (.int .i64 i))] []) ⟨0, ?_, ?_⟩ (fun i hi => ?_)
  · simp
  · simp [go_sem]
  · simp [go_sem]
    refine ⟨fun h => ⟨h, vcall_pure (c_l1IsSign (byteAt z i)) ?_ ?_⟩, fun h => ?_⟩
    · simp [go_sem]
    · simp [go_sem]
      refine ⟨fun e => ?_, fun e => ⟨i + 1, ⟨⟨by omega, fun j hj => ?_⟩, by omega, wrap_succ (by omega)⟩⟩⟩
      · simp [sgOk, sgAll_false h e]
      · rcases Nat.lt_succ_iff_lt_or_eq.mp hj with hj | rfl
        · exact hi.2 j hj
        · exact e
    · have e := sgAll_true (z := z) fun j hj => hi.2 j (by omega)
      have h2 : ((z.size : Int) ≤ 16) ↔ z.size ≤ 16 := by omega
      simp [sgOk, e, h2]
      refine ⟨fun h => ?_, fun h => by omega⟩
      have h1 : 1 ≤ z.size := by omega
      simp [h1]

theorem c_signsOk (z : ByteArray) (hz : z.size ≤ maxLen) : VFun Tryd.prog 82 [.lit (.string z)] (fun av obs => obs = [] ∧ av = .lit (.bool (sgOk z))) := by
  refine vfun_start Tryd.func82 (by kernel_rfl) rfl (by simp [Tryd.ntmps82]) ?_
  simp only [Tryd.ntmps82, Tryd.results82]
  simp [go_sem]
  simp only [maxLen] at hz
  have h2 : (16 < (z.size : Int)) ↔ 16 < z.size := by omega
  have h1 : ((z.size : Int) < 1) ↔ z.size < 1 := by omega
  simp only [h1, h2]
  refine ⟨fun h3 => ⟨fun h4 => ?_, fun h4 => ?_⟩, fun h3 => ?_⟩
  · simp [sgOk, h4]
  · refine vc_loop (fun i : Nat => i ≤ z.size ∧ ∀ j, j < i → isSg (byteAt z j) = true) (fun i => z.size - i) (fun i => .of [(0, .lit (.string z)), (2, .lit (.bool false)), (13, .lit (.int .i64 z.size)), (14, .lit (.int .i64 i))] []) ⟨0, ?_, ?_⟩ (fun i hi => ?_)
    · simp
    · simp [go_sem]
    · simp [go_sem]
      refine ⟨fun h => ⟨h, vcall_pure (c_isSign (byteAt z i) (byteAt_range z i)) ?_ ?_⟩, fun h => ?_⟩
      · simp [go_sem]
      · simp [go_sem]
        refine ⟨fun e => ?_, fun e => ⟨i + 1, ⟨⟨by omega, fun j hj => ?_⟩, by omega, wrap_succ (by omega)⟩⟩⟩
        · simp [sgOk, sgAll_false h e]
        · rcases Nat.lt_succ_iff_lt_or_eq.mp hj with hj | rfl
          · exact hi.2 j hj
          · exact e
      · have e := sgAll_true (z := z) fun j hj => hi.2 j (by omega)
        simp [sgOk, e]
        omega
  · simp [sgOk]
    omega

end Go.Proofs.YtbjkgfooangjhaaDoor.V
/- Contracts, operators. -/
namespace Go.Proofs.YtbjkgfooangjhaaDoor.V
open Go.RowKit
set_option linter.unusedVariables false
set_option linter.unusedSimpArgs false

/-- an operator -/
structure POp where
  text : ByteArray
  kind : Int
  level : Int
  side : Int
def POp.cells (o : POp) : List AV := [.lit (.string o.text), .lit (.int .i64 o.kind), .lit (.int .i64 o.level), .lit (.int .i64 o.side)]
def POp.wf (o : POp) : Prop := o.text.size ≤ maxLen
def opOk (o : POp) : Bool := sgOk o.text && decide (1 ≤ o.level ∧ o.level ≤ 1000 ∧ ((o.kind = 2 ∧ 1 ≤ o.side ∧ o.side ≤ 3) ∨ ((o.kind = 1 ∨ o.kind = 3) ∧ o.side = 0)))
theorem int_beq (a b : Int) : (a == b) = decide (a = b) := by
  rw [Bool.eq_iff_iff]; simp
theorem c_l1OpOk (o : POp) (ho : o.wf) : VFun Tryd.prog 59 [.agg o.cells] (fun av obs => obs = [] ∧ av = .lit (.bool (opOk o))) := by
  obtain ⟨z, kind, level, side⟩ := o
  simp only [POp.cells]
  refine vfun_start Tryd.func59 (by kernel_rfl) rfl (by simp [Tryd.ntmps59]) ?_
  simp only [Tryd.ntmps59, Tryd.results59]
  simp [go_sem]
  refine vcall_pure (c_l1Signs z ho) ?_ ?_
  · simp [go_sem]
  · simp (maxSteps := 1000000) [go_sem]
    cases hs : sgOk z
    · simp [opOk, hs]
    · simp only [opOk, hs, int_beq, Bool.true_and, decide_eq_decide, decide_eq_true_eq, decide_eq_false_iff_not, true_implies, reduceCtorEq, false_implies, and_true, true_and]
      omega
theorem c_opOk (o : POp) (ho : o.wf) : VFun Tryd.prog 67 [.agg o.cells] (fun av obs => obs = [] ∧ av = .lit (.bool (opOk o))) := by
  obtain ⟨z, kind, level, side⟩ := o
  simp only [POp.cells]
  refine vfun_start Tryd.func67 (by kernel_rfl) rfl (by simp [Tryd.ntmps67]) ?_
  simp only [Tryd.ntmps67, Tryd.results67]
  simp [go_sem]
  refine vcall_pure (c_signsOk z ho) ?_ ?_
  · simp [go_sem]
  · simp (maxSteps := 1000000) [go_sem]
    cases hs : sgOk z
    · simp [opOk, hs]
    · simp only [opOk, hs, int_beq, Bool.true_and, decide_eq_decide, decide_eq_true_eq, decide_eq_false_iff_not, true_implies, reduceCtorEq, false_implies, and_true, true_and]
      omega

end Go.Proofs.YtbjkgfooangjhaaDoor.V
/- Contracts, holes. -/
namespace Go.Proofs.YtbjkgfooangjhaaDoor.V
open Go.RowKit
set_option linter.unusedVariables false
set_option linter.unusedSimpArgs false

def hole (o : POp) (second : Bool) : Int := if opOk o = false ∨ (second = true ∧ o.kind ≠ 2) then 0 else if o.kind = 2 ∧ (o.side = 3 ∨ (decide (o.side = 1) = second)) then o.level + 1 else o.level
theorem opOk_level {o : POp} (h : opOk o = true) : 1 ≤ o.level ∧ o.level ≤ 1000 := by
  simp [opOk] at h; omega
theorem c_l1Hole (o : POp) (ho : o.wf) (b : Bool) : VFun Tryd.prog 65 [.agg o.cells, .lit (.bool b)] (fun av obs => obs = [] ∧ av = .lit (.int .i64 (hole o b))) := by
  have hc := c_l1OpOk o ho
  have hl := @opOk_level o
  obtain ⟨z, kind, level, side⟩ := o
  simp only [POp.cells] at hc ⊢
  refine vfun_start Tryd.func65 (by kernel_rfl) rfl (by simp [Tryd.ntmps65]) ?_
  simp only [Tryd.ntmps65, Tryd.results65]
  simp [go_sem]
  refine vcall_pure hc ?_ ?_
  · simp [go_sem]
  · simp (maxSteps := 1000000) [go_sem]
    have hw : opOk ⟨z, kind, level, side⟩ = true → IntKind.i64.wrap (level + 1) = level + 1 := fun h => wrap_i64 (by have := hl h; simp only at this; omega)
    clear hc hl ho
    simp only [hole, int_beq]
    generalize opOk ⟨z, kind, level, side⟩ = q at hw ⊢
    cases q
    · simp
    · simp only [hw rfl]
      by_cases h1 : kind = 2 <;> by_cases h2 : side = 3 <;> by_cases h3 : side = 1 <;> cases b <;> simp [h1, h2, h3]
theorem c_Hole (o : POp) (ho : o.wf) (b : Bool) : VFun Tryd.prog 72 [.agg o.cells, .lit (.bool b)] (fun av obs => obs = [] ∧ av = .lit (.int .i64 (hole o b))) := by
  have hc := c_opOk o ho
  have hl := @opOk_level o
  obtain ⟨z, kind, level, side⟩ := o
  simp only [POp.cells] at hc ⊢
  refine vfun_start Tryd.func72 (by kernel_rfl) rfl (by simp [Tryd.ntmps72]) ?_
  simp only [Tryd.ntmps72, Tryd.results72]
  simp [go_sem]
  refine vcall_pure hc ?_ ?_
  · simp [go_sem]
  · simp (maxSteps := 1000000) [go_sem]
    have hw : opOk ⟨z, kind, level, side⟩ = true → IntKind.i64.wrap (level + 1) = level + 1 := fun h => wrap_i64 (by have := hl h; simp only at this; omega)
    clear hc hl ho
    simp only [hole, int_beq]
    generalize opOk ⟨z, kind, level, side⟩ = q at hw ⊢
    cases q
    · simp
    · simp only [hw rfl]
      by_cases h1 : kind = 2 <;> by_cases h2 : side = 3 <;> by_cases h3 : side = 1 <;> cases b <;> simp [h1, h2, h3]
theorem c_szOp (o : POp) (left : Int) (ho : o.wf) (h0 : 0 ≤ left) (h : left ≤ 1048576) : VFun Tryd.prog 58 [.agg o.cells, .lit (.int .i64 left)] (fun av obs => obs = [] ∧ av = .lit (.int .i64 (if left - o.text.size < 0 then -1 else left - o.text.size))) := by
  obtain ⟨z, kind, level, side⟩ := o
  simp only [POp.cells, POp.wf, maxLen] at ho ⊢
  refine vfun_start Tryd.func58 (by kernel_rfl) rfl (by simp [Tryd.ntmps58]) ?_
  simp only [Tryd.ntmps58, Tryd.results58]
  simp [go_sem]
  rw [wrap_i64 (by omega)]
  refine ⟨fun h1 h2 => by omega, fun h1 => ?_⟩
  rw [if_neg (by omega)]
end Go.Proofs.YtbjkgfooangjhaaDoor.V
/- Contracts, conversions. -/
namespace Go.Proofs.YtbjkgfooangjhaaDoor.V
open Go.RowKit
set_option linter.unusedVariables false
set_option linter.unusedSimpArgs false
set_option linter.constructorNameAsVariable false

theorem c_toOp (o : POp) : VFun Tryd.prog 66 [.agg o.cells] (fun av obs => obs = [] ∧ av = .agg o.cells) := by
  obtain ⟨z, kind, level, side⟩ := o
  simp only [POp.cells]
  refine vfun_start Tryd.func66 (by kernel_rfl) rfl (by simp [Tryd.ntmps66]) ?_
  simp only [Tryd.ntmps66, Tryd.results66]
  simp [go_sem]
set_option maxRecDepth 100000 in
theorem shape_op (n : Nat) (xs : List AV) (h : Shape Tryd.prog (n + 2) 108 xs) : ∃ o : POp, o.wf ∧ xs = o.cells := by
  obtain ⟨parts, h0, rfl⟩ := shape_struct Tryd.underlying108 h
  clear h
  simp only [List.toList_toArray, all2_cons, all2_nil] at h0
  obtain ⟨_, _, rfl, ⟨_, h1⟩, _, _, rfl, ⟨_, h2⟩, _, _, rfl, ⟨_, h3⟩, _, _, rfl, ⟨_, h4⟩, rfl⟩ := h0
  obtain ⟨z, rfl, hz⟩ := shape_string Tryd.underlying9 h1
  obtain ⟨k, rfl, _⟩ := shape_int Tryd.underlying3 h2
  obtain ⟨l, rfl, _⟩ := shape_int Tryd.underlying3 h3
  obtain ⟨s, rfl, _⟩ := shape_int Tryd.underlying3 h4
  exact ⟨⟨z, k, l, s⟩, hz, rfl⟩
theorem laidOut : laidOutB Tryd.prog = true := by kernel_rfl
theorem fullSlices : ∀ t e, t < Tryd.prog.types.size → Tryd.prog.underlying t = some (.slice e) → 0 < Tryd.prog.cellsOf e := slices_full_of Tryd.prog (by kernel_rfl)
theorem own : ownKnob Tryd.prog.godebug = none := by kernel_rfl
theorem each_of {α : Type} {p : α → Bool} {l : List α} (h : l.all p = true) : ∀ x, x ∈ l → p x = true := List.all_eq_true.mp h
end Go.Proofs.YtbjkgfooangjhaaDoor.V
/- Contracts: tokens. -/
namespace Go.Proofs.YtbjkgfooangjhaaDoor.V
open Go.RowKit
set_option linter.unusedVariables false
set_option linter.unusedSimpArgs false
set_option linter.constructorNameAsVariable false
/-- a token -/
structure PTok where
  kind : Int
  gap : ByteArray
  text : ByteArray
  deriving Inhabited
def PTok.cells (o : PTok) : List AV := [.lit (.int .i64 o.kind), .lit (.string o.gap), .lit (.string o.text)]
def PTok.wf (o : PTok) : Prop := o.gap.size ≤ maxLen ∧ o.text.size ≤ maxLen
def tokCells (l : List PTok) (i : Nat) : List AV := (l.getD i default).cells
theorem tokClosed (l : List PTok) (i : Nat) (c : AV) (h : c ∈ tokCells l i) : Closed c := by
  simp [tokCells, PTok.cells] at h
  rcases h with rfl | rfl | rfl <;> exact .lit _
theorem tokLit (l : List PTok) (i : Nat) : (tokCells l i).all isLit = true := rfl
def zeroTok : List AV := [.lit (.int .i64 0), .lit (.string ⟨#[]⟩), .lit (.string ⟨#[]⟩)]
def tokFill (l : List PTok) (i j : Nat) : List AV := if j < i then tokCells l j else zeroTok
theorem tokBd (l : List PTok) (i j m : Nat) : ∀ c, c ∈ tokFill l i j → Bd m c := by
  intro c h
  unfold tokFill at h
  split at h
  · exact .closed _ (tokClosed l j c h)
  · simp [zeroTok] at h
    rcases h with rfl | rfl | rfl <;> exact .closed _ (.lit _)
end Go.Proofs.YtbjkgfooangjhaaDoor.V
/- Contracts: sizes of tokens. -/
namespace Go.Proofs.YtbjkgfooangjhaaDoor.V
open Go.RowKit
set_option linter.unusedVariables false
set_option linter.unusedSimpArgs false
set_option linter.constructorNameAsVariable false
def szTok (o : PTok) (left : Int) : Int := if left - o.gap.size < 0 then -1 else if left - o.gap.size - o.text.size < 0 then -1 else left - o.gap.size - o.text.size
/-- what is left behind the first i tokens -/
def szToks (l : List PTok) (left : Int) : Int := l.foldl (fun r o => if r < 0 then r else szTok o r) (left - l.length)
def tokSize (o : PTok) : Nat := o.gap.size + o.text.size
def tokSum (l : List PTok) : Nat := (l.map tokSize).sum
theorem szTok_le (o : PTok) (left : Int) : szTok o left = -1 ∨ (0 ≤ szTok o left ∧ szTok o left = left - tokSize o) := by
  unfold szTok tokSize
  split
  · exact .inl rfl
  · split
    · exact .inl rfl
    · exact .inr ⟨by omega, by omega⟩
theorem tokSum_take (l : List PTok) (i : Nat) (h : i < l.length) : tokSum (l.take (i + 1)) = tokSum (l.take i) + tokSize (l.getD i default) := by
  unfold tokSum
  rw [List.take_add_one, List.getElem?_eq_getElem h, List.map_append, List.sum_append_nat, List.getD_eq_getElem?_getD, List.getElem?_eq_getElem h]
  simp only [Option.toList_some, List.map_cons, List.map_nil, List.sum_cons, List.sum_nil, Option.getD_some, Nat.add_zero]
end Go.Proofs.YtbjkgfooangjhaaDoor.V
/- Contracts: rendering. -/
namespace Go.Proofs.YtbjkgfooangjhaaDoor.V
open Go.RowKit
set_option linter.unusedVariables false
set_option linter.unusedSimpArgs false
set_option linter.constructorNameAsVariable false
theorem byteAt_app (a b : ByteArray) (i : Nat) (h : i < a.size + b.size) : byteAt (a ++ b) i = if i < a.size then byteAt a i else byteAt b (i - a.size) := by
  have hs : i < (a ++ b).size := by rw [ByteArray.size_append]; exact h
  unfold byteAt
  rw [dif_pos hs]
  by_cases h1 : i < a.size
  · rw [if_pos h1, dif_pos h1, ByteArray.getElem_append_left h1]
  · rw [if_neg h1, dif_pos (by omega), ByteArray.getElem_append_right (by omega)]
theorem join_bytes (a b : ByteArray) (i : Nat) (h : i < a.size + b.size) : joinF a.size (byteCells a) (byteCells b) i = byteCells (a ++ b) i := by
  unfold joinF byteCells
  rw [byteAt_app a b i h]
  by_cases h1 : i < a.size <;> simp [h1]
theorem byteOne (z : ByteArray) (i : Nat) : (byteCells z i).all oneAV = true := rfl
theorem byteClosed (z : ByteArray) (i : Nat) (c : AV) (h : c ∈ byteCells z i) : Closed c := by
  simp [byteCells] at h
  subst h
  exact .lit _
/-- the text of tokens -/
def rend (l : List PTok) : ByteArray := l.foldl (fun b o => b ++ o.gap ++ o.text) ByteArray.empty
theorem rend_take (l : List PTok) (i : Nat) (h : i < l.length) : rend (l.take (i + 1)) = rend (l.take i) ++ (l.getD i default).gap ++ (l.getD i default).text := by
  unfold rend
  rw [List.take_add_one, List.getElem?_eq_getElem h, List.foldl_append, List.getD_eq_getElem?_getD, List.getElem?_eq_getElem h]
  rfl
theorem rend_size_from (l : List PTok) : ∀ b : ByteArray, (l.foldl (fun b o => b ++ o.gap ++ o.text) b).size = b.size + tokSum l := by
  induction l with
  | nil => intro b; simp [tokSum]
  | cons o l ih =>
    intro b
    simp only [List.foldl_cons]
    rw [ih]
    simp only [ByteArray.size_append, tokSum, List.map_cons, List.sum_cons, tokSize]
    omega
theorem rend_size (l : List PTok) : (rend l).size = tokSum l := by
  unfold rend
  rw [rend_size_from]
  simp
theorem tokSum_take_le (l : List PTok) (i : Nat) : tokSum (l.take i) ≤ tokSum l := by
  unfold tokSum
  rw [List.map_take]
  exact take_sum_le _ _
end Go.Proofs.YtbjkgfooangjhaaDoor.V
/- Contracts: lists of operators, tables: sizes, copies, comparisons. -/
namespace Go.Proofs.YtbjkgfooangjhaaDoor.V
open Go.RowKit
set_option linter.unusedVariables false
set_option linter.unusedSimpArgs false
set_option linter.constructorNameAsVariable false
theorem ba_beq (a b : ByteArray) : (a == b) = decide (a = b) := by
  rw [Bool.eq_iff_iff, decide_eq_true_iff]
  exact MapKept.bytes_beq a b
theorem ba_toList (a b : ByteArray) : a.toList = b.toList ↔ a = b := by
  constructor
  · intro h
    rw [Go.ByteArray.toList_eq, Go.ByteArray.toList_eq] at h
    exact ByteArray.ext (Array.toList_inj.1 h)
  · rintro rfl; rfl
theorem argSl_refl {mem : List (Option Ob)} {sz n : Nat} {f : Nat → List AV} (hsz : 0 < sz) (h : ∀ (i : Nat) c, i < n → c ∈ f i → Closed c) : ArgSl mem (.sl sz n f) sz n f :=
  ⟨hsz, f, by simp [contents], fun i hi => ⟨rfl, fun c hc => h i c hi hc⟩⟩
theorem argSl_own {mem : List (Option Ob)} {k sz n ty : Nat} {f : Nat → List AV} (hk : mem[k]? = some (some ⟨ty, sz, n, f⟩)) (hsz : 0 < sz) (h : ∀ (i : Nat) c, i < n → c ∈ f i → Closed c) : ArgSl mem (.own k) sz n f :=
  ⟨hsz, f, by simp [contents, hk], fun i hi => ⟨rfl, fun c hc => h i c hi hc⟩⟩
instance : Inhabited POp := ⟨⟨⟨#[]⟩, 0, 0, 0⟩⟩
def opCells (l : List POp) (i : Nat) : List AV := (l.getD i default).cells
theorem opClosed (l : List POp) (i : Nat) (c : AV) (h : c ∈ opCells l i) : Closed c := by
  simp [opCells, POp.cells] at h
  rcases h with rfl | rfl | rfl | rfl <;> exact .lit _
theorem opLit (l : List POp) (i : Nat) : (opCells l i).all isLit = true := rfl
def zeroOp : List AV := [.lit (.string ⟨#[]⟩), .lit (.int .i64 0), .lit (.int .i64 0), .lit (.int .i64 0)]
def opFill (l : List POp) (i j : Nat) : List AV := if j < i then opCells l j else zeroOp
theorem opBd (l : List POp) (i j m : Nat) : ∀ c, c ∈ opFill l i j → Bd m c := by
  intro c h
  unfold opFill at h
  split at h
  · exact .closed _ (opClosed l j c h)
  · simp [zeroOp] at h
    rcases h with rfl | rfl <;> exact .closed _ (.lit _)
theorem c_toOpS (l : List POp) (hl : l.length ≤ 1048576) : VFun Tryd.prog 37 [.sl 4 l.length (opCells l)] (fun av obs => av = .own 0 ∧ obs = [⟨110, 4, l.length, opCells l⟩]) := by
  refine vfun_start Tryd.func37 (by kernel_rfl) rfl (by simp [Tryd.ntmps37]) ?_
  simp only [Tryd.ntmps37, Tryd.results37]
  simp [go_sem]
  refine ⟨by omega, by omega, by omega, ?_⟩
  refine vc_loop (fun i : Nat => i ≤ l.length) (fun i => l.length - i) (fun i => .of [(0, .sl 4 l.length (opCells l)), (3, .own 0), (4, .lit (.int .i64 i))] [some ⟨110, 4, l.length, opFill l i⟩]) ⟨0, by omega, ?_⟩ (fun i hi => ?_)
  · simp [go_sem, opFill, zeroOp]
    exact fun i c _ h => opClosed l i c h
  · simp [go_sem]
    refine ⟨by omega, fun h => ?_, fun h => ?_⟩
    · rcases ho : l.getD i default with ⟨z, k, lv, sd⟩
      have e : opCells l i = [.lit (.string z), .lit (.int .i64 k), .lit (.int .i64 lv), .lit (.int .i64 sd)] := by unfold opCells; rw [ho]; rfl
      simp only [e]
      refine ⟨h, by simp, vcall_val (c_toOp ⟨z, k, lv, sd⟩) ?_ ?_ ?_⟩
      · simp [go_sem, POp.cells]
      · simp [go_sem, POp.cells]
      · simp [go_sem, POp.cells]
        refine ⟨h, i + 1, by omega, by omega, ⟨fun i c _ h => opClosed l i c h, wrap_succ (by omega)⟩, fun j hj => ?_⟩
        rw [updF_at h hj]
        refine ⟨?_, opBd l _ _ _⟩
        by_cases hji : j = i
        · subst hji
          simp [opFill, e, splice, zeroOp]
        · rw [if_neg hji]
          unfold opFill
          by_cases h2 : j < i
          · rw [if_pos h2, if_pos (by omega)]
          · rw [if_neg h2, if_neg (by omega)]
    · have : i = l.length := by omega
      subst this
      exact obsSame_one.mpr ⟨⟨110, 4, l.length, opCells l⟩, ⟨rfl, rfl, rfl, fun j hj => ⟨by simp only [opFill]; rw [if_pos hj], opLit l j⟩⟩, rfl⟩
theorem c_toTable (l : List POp) (hl : l.length ≤ 1048576) : VFun Tryd.prog 16 [.agg [.sl 4 l.length (opCells l)]] (fun av obs => av = .agg [.own 0] ∧ obs = [⟨110, 4, l.length, opCells l⟩]) := by
  refine vfun_start Tryd.func16 (by kernel_rfl) rfl (by simp [Tryd.ntmps16]) ?_
  simp only [Tryd.ntmps16, Tryd.results16]
  simp [go_sem]
  refine vcall_use (c_toOpS l hl) ?_ ?_
  · simp [go_sem]
    exact argSl_refl (by omega) fun i c _ h => opClosed l i c h
  · rintro av obs ⟨rfl, rfl⟩
    simp [go_sem]
    exact obsSame_one.mpr ⟨⟨110, 4, l.length, opCells l⟩, ⟨rfl, rfl, rfl, fun j hj => ⟨rfl, opLit l j⟩⟩, rfl⟩
def opSum (l : List POp) : Nat := (l.map fun o => o.text.size).sum
theorem opSum_take (l : List POp) (i : Nat) (h : i < l.length) : opSum (l.take (i + 1)) = opSum (l.take i) + (l.getD i default).text.size := by
  unfold opSum
  rw [List.take_add_one, List.getElem?_eq_getElem h, List.map_append, List.sum_append_nat, List.getD_eq_getElem?_getD, List.getElem?_eq_getElem h]
  simp only [Option.toList_some, List.map_cons, List.map_nil, List.sum_cons, List.sum_nil, Option.getD_some, Nat.add_zero]
def szRes (left : Int) (n : Nat) (av : AV) : Prop := av = .lit (.int .i64 (-1)) ∨ (0 ≤ left - n ∧ av = .lit (.int .i64 (left - n)))
theorem c_szOpS (l : List POp) (left : Int) (hl : l.length ≤ maxLen) (ho : ∀ i, i < l.length → (l.getD i default).wf) (h0 : 0 ≤ left) (h : left ≤ 1048576) :
    VFun Tryd.prog 33 [.sl 4 l.length (opCells l), .lit (.int .i64 left)] (fun av obs => obs = [] ∧ szRes left (l.length + opSum l) av) := by
  simp only [maxLen] at hl
  refine vfun_start Tryd.func33 (by kernel_rfl) rfl (by simp [Tryd.ntmps33]) ?_
  simp only [Tryd.ntmps33, Tryd.results33]
  simp [go_sem]
  rw [wrap_i64 (n := left - l.length) (by omega)]
  refine ⟨by omega, fun _ => .inl rfl, fun h1 => ?_⟩
  refine vc_loop (fun i : Nat => i ≤ l.length ∧ 0 ≤ left - l.length - opSum (l.take i)) (fun i => l.length - i) (fun i => .of [(0, .sl 4 l.length (opCells l)), (1, .lit (.int .i64 (left - l.length - opSum (l.take i)))), (5, .lit (.int .i64 i))] []) ⟨0, ⟨by omega, by simpa [opSum] using h1⟩, ?_⟩ (fun i hi => ?_)
  · simp [go_sem, opSum]
    exact fun i c _ h => opClosed l i c h
  · simp [go_sem]
    refine ⟨by omega, fun h => ?_, fun h => ?_⟩
    · have hw := ho i h
      have hs := opSum_take l i h
      rcases ho : l.getD i default with ⟨z, k, lv, sd⟩
      rw [ho] at hw hs
      have e : opCells l i = [.lit (.string z), .lit (.int .i64 k), .lit (.int .i64 lv), .lit (.int .i64 sd)] := by unfold opCells; rw [ho]; rfl
      simp only [e]
      refine ⟨h, by simp, vcall_pure (c_szOp ⟨z, k, lv, sd⟩ (left - l.length - opSum (l.take i)) hw (by omega) (by omega)) ?_ ?_⟩
      · simp [go_sem, POp.cells]
      · simp [go_sem]
        simp only at hs
        by_cases h2 : left - l.length - opSum (l.take i) - z.size < 0
        · simp only [h2, if_true]
          exact ⟨fun _ => .inl rfl, fun h4 => by omega⟩
        · simp only [h2, if_false]
          exact ⟨fun h4 => h4.elim, fun h4 => ⟨i + 1, ⟨by omega, by omega⟩, by omega, fun i c _ h => opClosed l i c h, by omega, wrap_succ (by omega)⟩⟩
    · have : i = l.length := by omega
      subst this
      simp only [List.take_length] at hi ⊢
      exact .inr ⟨by omega, by congr 2; omega⟩
theorem c_szTable (l : List POp) (left : Int) (hl : l.length ≤ maxLen) (ho : ∀ i, i < l.length → (l.getD i default).wf) (h0 : 0 ≤ left) (h : left ≤ 1048576) :
    VFun Tryd.prog 14 [.agg [.sl 4 l.length (opCells l)], .lit (.int .i64 left)] (fun av obs => obs = [] ∧ szRes left (l.length + opSum l) av) := by
  refine vfun_start Tryd.func14 (by kernel_rfl) rfl (by simp [Tryd.ntmps14]) ?_
  simp only [Tryd.ntmps14, Tryd.results14]
  simp [go_sem]
  refine vcall_use (c_szOpS l left hl ho h0 h) ?_ ?_
  · simp [go_sem]
    exact argSl_refl (by omega) fun i c _ h => opClosed l i c h
  · rintro av obs ⟨rfl, h1 | ⟨h1, h2⟩⟩
    · subst h1
      simp [go_sem, szRes]
    · subst h2
      simp [go_sem, szRes]
      omega
/-- operators as they are compared -/
def opEq (a b : POp) : Bool := a.text == b.text && a.kind == b.kind && a.level == b.level && a.side == b.side
theorem c_eqOp (a b : POp) : VFun Tryd.prog 73 [.agg a.cells, .agg b.cells] (fun av obs => obs = [] ∧ av = .lit (.bool (opEq a b))) := by
  obtain ⟨z, k, l, s⟩ := a
  obtain ⟨z', k', l', s'⟩ := b
  simp only [POp.cells]
  refine vfun_start Tryd.func73 (by kernel_rfl) rfl (by simp [Tryd.ntmps73]) ?_
  simp only [Tryd.ntmps73, Tryd.results73]
  simp [go_sem]
  simp only [opEq, ba_toList, ba_beq]
  by_cases h1 : z = z' <;> by_cases h2 : k = k' <;> by_cases h3 : l = l' <;> by_cases h4 : s = s' <;> simp [h1, h2, h3, h4]
end Go.Proofs.YtbjkgfooangjhaaDoor.V
/- Contracts: comparison of lists of operators, of tables. -/
namespace Go.Proofs.YtbjkgfooangjhaaDoor.V
open Go.RowKit
set_option linter.unusedVariables false
set_option linter.unusedSimpArgs false
set_option linter.constructorNameAsVariable false
def opAt (l : List POp) (i : Nat) : POp := l.getD i default
theorem opCells_at (l : List POp) (i : Nat) : opCells l i = [.lit (.string (opAt l i).text), .lit (.int .i64 (opAt l i).kind), .lit (.int .i64 (opAt l i).level), .lit (.int .i64 (opAt l i).side)] := rfl
def opsEq (a b : List POp) : Bool := decide (a.length = b.length) && (List.range a.length).all fun i => opEq (opAt a i) (opAt b i)
theorem opsEq_false {a b : List POp} {i : Nat} (h : i < a.length) (e : opEq (opAt a i) (opAt b i) = false) : opsEq a b = false := by
  simp only [opsEq, Bool.and_eq_false_iff, List.all_eq_false, List.mem_range]
  exact .inr ⟨i, h, by rw [e]; simp⟩
theorem opsEq_true {a b : List POp} (hl : a.length = b.length) (h : ∀ i, i < a.length → opEq (opAt a i) (opAt b i) = true) : opsEq a b = true := by
  simp only [opsEq, Bool.and_eq_true, decide_eq_true_eq, List.all_eq_true, List.mem_range]
  exact ⟨hl, h⟩
theorem c_eqOpS (a b : List POp) (ha : a.length ≤ 9223372036854775807) (hb : b.length ≤ 9223372036854775807) : VFun Tryd.prog 42 [.sl 4 a.length (opCells a), .sl 4 b.length (opCells b)] (fun av obs => obs = [] ∧ av = .lit (.bool (opsEq a b))) := by
  refine vfun_start Tryd.func42 (by kernel_rfl) rfl (by simp [Tryd.ntmps42]) ?_
  simp only [Tryd.ntmps42, Tryd.results42]
  simp [go_sem]
  refine ⟨by omega, by omega, fun h1 => ?_, fun h1 => ?_⟩
  · simp [opsEq]; omega
  · refine vc_loop (fun i : Nat => i ≤ a.length ∧ ∀ j, j < i → opEq (opAt a j) (opAt b j) = true) (fun i => a.length - i) (fun i => .of [(0, .sl 4 a.length (opCells a)), (1, .sl 4 b.length (opCells b)), (4, .lit (.bool false)), (5, .lit (.int .i64 i))] []) ⟨0, ⟨by omega, by simp⟩, ?_⟩ (fun i hi => ?_)
    · simp [go_sem]
      exact ⟨fun i c _ h => opClosed a i c h, fun i c _ h => opClosed b i c h⟩
    · simp [go_sem]
      refine ⟨by omega, fun h => ?_, fun h => ?_⟩
      · refine vc_drawn [] (.q 0 <| .q 1 <| .q 2 <| .q 3 <| .q 4 <| .q 5 <| .q 6 <| .q 7 <| .or 8 (.q 9 <| .done) (.nil)) (by kernel_rfl) ?_
        simp [go_sem, opCells_at]
        refine ⟨h, by omega, vcallV_pure (c_eqOp (opAt a i) (opAt b i)) ?_ ?_⟩
        · simp [go_sem, POp.cells]
        · simp [go_sem]
          refine ⟨fun e => opsEq_false h e, fun e => ⟨i + 1, ⟨by omega, fun j hj => ?_⟩, by omega, ⟨fun i c _ h => opClosed a i c h, fun i c _ h => opClosed b i c h, wrap_succ (by omega)⟩⟩⟩
          rcases Nat.lt_succ_iff_lt_or_eq.mp hj with hj | rfl
          · exact hi.2 j hj
          · exact e
      · exact opsEq_true (by omega) fun j hj => hi.2 j (by omega)
theorem c_eqTable (a b : List POp) (ha : a.length ≤ 9223372036854775807) (hb : b.length ≤ 9223372036854775807) : VFun Tryd.prog 18 [.agg [.sl 4 a.length (opCells a)], .agg [.sl 4 b.length (opCells b)]] (fun av obs => obs = [] ∧ av = .lit (.bool (opsEq a b))) := by
  refine vfun_start Tryd.func18 (by kernel_rfl) rfl (by simp [Tryd.ntmps18]) ?_
  simp only [Tryd.ntmps18, Tryd.results18]
  simp [go_sem]
  refine vcall_pure (c_eqOpS a b ha hb) ?_ ?_
  · simp [go_sem]
    exact ⟨argSl_refl (by omega) fun i c _ h => opClosed a i c h, argSl_refl (by omega) fun i c _ h => opClosed b i c h⟩
  · simp [go_sem]
end Go.Proofs.YtbjkgfooangjhaaDoor.V
/- Contracts: what a valid table is, by the specification. -/
namespace Go.Proofs.YtbjkgfooangjhaaDoor.V
open Go.RowKit
set_option linter.unusedVariables false
set_option linter.unusedSimpArgs false
set_option linter.constructorNameAsVariable false
def sortN (o : POp) : Int := if o.kind = 1 then 2 else if o.kind = 3 then 1 else o.side
theorem c_l1Sort (o : POp) : VFun Tryd.prog 83 [.agg o.cells] (fun av obs => obs = [] ∧ av = .lit (.int .i64 (sortN o))) := by
  obtain ⟨z, kind, level, side⟩ := o
  simp only [POp.cells]
  refine vfun_start Tryd.func83 (by kernel_rfl) rfl (by simp [Tryd.ntmps83]) ?_
  simp only [Tryd.ntmps83, Tryd.results83]
  simp [go_sem]
  simp only [sortN, int_beq, decide_eq_true_eq, decide_eq_false_iff_not]
  by_cases h1 : kind = 1 <;> by_cases h2 : kind = 3 <;> simp [h1, h2]
theorem c_sortOf (o : POp) : VFun Tryd.prog 69 [.agg o.cells] (fun av obs => obs = [] ∧ av = .lit (.int .i64 (sortN o))) := by
  obtain ⟨z, kind, level, side⟩ := o
  simp only [POp.cells]
  refine vfun_start Tryd.func69 (by kernel_rfl) rfl (by simp [Tryd.ntmps69]) ?_
  simp only [Tryd.ntmps69, Tryd.results69]
  simp [go_sem]
  simp only [sortN, int_beq, decide_eq_true_eq, decide_eq_false_iff_not]
  by_cases h1 : kind = 1 <;> by_cases h2 : kind = 3 <;> simp [h1, h2]
theorem c_placeOf (o : POp) : VFun Tryd.prog 68 [.agg o.cells] (fun av obs => obs = [] ∧ av = .agg [.lit (.string o.text), .lit (.bool (o.kind == 1))]) := by
  obtain ⟨z, kind, level, side⟩ := o
  simp only [POp.cells]
  refine vfun_start Tryd.func68 (by kernel_rfl) rfl (by simp [Tryd.ntmps68]) ?_
  simp only [Tryd.ntmps68, Tryd.results68]
  simp [go_sem]
def clash (a b : POp) (code : Int) : Bool := if code = 3 then decide (a.text = b.text) && decide ((a.kind == 1) = (b.kind == 1)) else decide (a.level = b.level) && decide (sortN a ≠ sortN b)
theorem c_l1Clash (a b : POp) (code : Int) : VFun Tryd.prog 60 [.agg a.cells, .agg b.cells, .lit (.int .i64 code)] (fun av obs => obs = [] ∧ av = .lit (.bool (clash a b code))) := by
  have ca := c_l1Sort a
  have cb := c_l1Sort b
  obtain ⟨z, k, l, s⟩ := a
  obtain ⟨z', k', l', s'⟩ := b
  simp only [POp.cells] at ca cb ⊢
  refine vfun_start Tryd.func60 (by kernel_rfl) rfl (by simp [Tryd.ntmps60]) ?_
  simp only [Tryd.ntmps60, Tryd.results60]
  simp [go_sem]
  simp only [ba_toList]
  refine ⟨fun h => ⟨fun h1 => ?_, fun h1 => ?_⟩, fun h => ?_⟩
  · subst h1
    simp only [clash, if_pos h, decide_true, Bool.true_and]
    generalize (k == 1) = x
    generalize (k' == 1) = y
    cases x <;> cases y <;> rfl
  · simp [clash, h, h1]
  · by_cases hl : l = l'
    · subst hl
      refine vc_drawn [] (.q 0 <| .q 1 <| .q 2 <| .q 3 <| .q 4 <| .q 5 <| .q 6 <| .q 8 <| .or 7 (.or 9 (.q 10 <| .q 11 <| .q 12 <| .done) (.nil)) (.nil)) (by kernel_rfl) ?_
      simp [go_sem]
      refine vcallV_pure ca ?_ ?_
      · simp [go_sem]
      · simp [go_sem]
        refine vcallV_pure cb ?_ ?_
        · simp [go_sem]
        · simp [go_sem, clash, h]
          simp only [int_beq, bne, Bool.not_eq_true', decide_eq_false_iff_not, decide_not]
    · refine vc_drawn [] (.q 0 <| .q 1 <| .q 2 <| .q 3 <| .q 4 <| .q 5 <| .q 6 <| .q 8 <| .or 7 (.or 9 (.q 10 <| .q 11 <| .q 12 <| .done) (.nil)) (.nil)) (by kernel_rfl) ?_
      have e : (l == l') = false := by simp [hl]
      simp [go_sem, e]
      simp [clash, h, hl]
def tblClash (l : List POp) (code : Int) : Bool := (List.range l.length).any fun i => (List.range i).any fun j => clash (opAt l i) (opAt l j) code
theorem tblClash_iff (l : List POp) (code : Int) : tblClash l code = true ↔ ∃ i, i < l.length ∧ ∃ j, j < i ∧ clash (opAt l i) (opAt l j) code = true := by
  simp [tblClash]
def tblOps (l : List POp) : Bool := (List.range l.length).all fun i => opOk (opAt l i)
/-- what TableOk answers -/
def tblOk (l : List POp) : Int := if 500 < l.length then 1 else if tblOps l = false then 2 else if tblClash l 3 = true then 3 else if tblClash l 4 = true then 4 else 0
def opsWf (l : List POp) : Prop := ∀ i, i < l.length → (opAt l i).wf
theorem c_specTableOk (l : List POp) (hl : l.length ≤ 9223372036854775807) (hw : opsWf l) : VFun Tryd.prog 34 [.agg [.sl 4 l.length (opCells l)]] (fun av obs => obs = [] ∧ av = .lit (.int .i64 (tblOk l))) := by
  refine vfun_start Tryd.func34 (by kernel_rfl) rfl (by simp [Tryd.ntmps34]) ?_
  simp only [Tryd.ntmps34, Tryd.results34]
  simp [go_sem]
  refine ⟨by omega, fun h1 => ?_, fun h1 => ?_⟩
  · simp [tblOk]; omega
  · refine vc_loop (fun i : Nat => i ≤ l.length ∧ ∀ j, j < i → opOk (opAt l j) = true) (fun i => l.length - i) (fun i => .of [(1, .ptr 0 1 0 0), (3, .lit (.int .i64 l.length)), (4, .lit (.int .i64 i))] [some ⟨42, 1, 1, fun _ => [.sl 4 l.length (opCells l)]⟩]) ⟨0, ⟨by omega, by simp⟩, ?_⟩ (fun i hi => ?_)
    · simp [go_sem]
      exact fun i c _ h => opClosed l i c h
    · simp [go_sem, opCells_at]
      have cl : ∀ (i : Nat) (c : AV), i < l.length → c ∈ opCells l i → Closed c := fun i c _ h => opClosed l i c h
      refine ⟨fun h => ⟨h, vcall_pure (c_l1OpOk (opAt l i) (hw i h)) ?_ ?_⟩, fun h => ?_⟩
      · simp [go_sem, POp.cells]
      · simp [go_sem]
        refine ⟨fun e => ?_, fun e => ⟨i + 1, ⟨by omega, fun j hj => ?_⟩, by omega, wrap_succ (by omega), cl⟩⟩
        · have : tblOps l = false := by
            simp only [tblOps, List.all_eq_false, List.mem_range]
            exact ⟨i, h, by rw [e]; simp⟩
          simp only [tblOk, this, if_neg (show ¬ 500 < l.length by omega), if_true]
        · rcases Nat.lt_succ_iff_lt_or_eq.mp hj with hj | rfl
          · exact hi.2 j hj
          · exact e
      · have hok : tblOps l = true := by
          simp only [tblOps, List.all_eq_true, List.mem_range]
          exact fun j hj => hi.2 j (by omega)
        clear hi h
        refine vc_loop (fun c : Nat => c ≤ 2 ∧ ∀ q : Nat, q < c → tblClash l (3 + q) = false) (fun c => 2 - c) (fun c => .of [(1, .ptr 0 1 0 0), (3, .lit (.int .i64 l.length)), (5, .lit (.int .i64 (3 + c)))] [some ⟨42, 1, 1, fun _ => [.sl 4 l.length (opCells l)]⟩]) ⟨0, ⟨by omega, by simp⟩, ?_⟩ (fun c hc => ?_)
        · simp [go_sem]
          exact cl
        · simp [go_sem]
          refine ⟨fun h => ?_, fun h => ?_⟩
          · refine vc_loop (fun i : Nat => i ≤ l.length ∧ ∀ i', i' < i → ∀ j, j < i' → clash (opAt l i') (opAt l j) (3 + c) = false) (fun i => l.length - i) (fun i => .of [(1, .ptr 0 1 0 0), (3, .lit (.int .i64 l.length)), (5, .lit (.int .i64 (3 + c))), (6, .lit (.int .i64 i))] [some ⟨42, 1, 1, fun _ => [.sl 4 l.length (opCells l)]⟩]) ⟨0, ⟨by omega, by simp⟩, ?_⟩ (fun i hi => ?_)
            · simp [go_sem]
              exact cl
            · simp [go_sem]
              refine ⟨fun h2 => ?_, fun h2 => ?_⟩
              · refine vc_loop (fun j : Nat => j ≤ i ∧ ∀ j', j' < j → clash (opAt l i) (opAt l j') (3 + c) = false) (fun j => i - j) (fun j => .of [(1, .ptr 0 1 0 0), (3, .lit (.int .i64 l.length)), (5, .lit (.int .i64 (3 + c))), (6, .lit (.int .i64 i)), (7, .lit (.int .i64 j))] [some ⟨42, 1, 1, fun _ => [.sl 4 l.length (opCells l)]⟩]) ⟨0, ⟨by omega, by simp⟩, ?_⟩ (fun j hj => ?_)
                · simp [go_sem]
                  exact cl
                · simp [go_sem]
                  refine ⟨fun h3 => ?_, fun h3 => ?_⟩
                  · refine vc_drawn [] (.q 0 <| .q 1 <| .q 2 <| .q 3 <| .q 4 <| .q 5 <| .q 6 <| .q 7 <| .q 8 <| .q 9 <| .q 10 <| .or 11 (.done) (.nil)) (by kernel_rfl) ?_
                    simp [go_sem, opCells_at]
                    refine ⟨h2, by omega, vcallV_pure (c_l1Clash (opAt l i) (opAt l j) (3 + c)) ?_ ?_⟩
                    · simp [go_sem, POp.cells]
                    · simp [go_sem]
                      refine ⟨fun e => ?_, fun e => ⟨j + 1, ⟨by omega, fun j' hj' => ?_⟩, by omega, wrap_succ (by omega), cl⟩⟩
                      · have hcl : tblClash l (3 + c) = true := (tblClash_iff l _).2 ⟨i, h2, j, h3, e⟩
                        rcases (by omega : c = 0 ∨ c = 1) with rfl | rfl
                        · have h4 : tblClash l 3 = true := hcl
                          simp only [tblOk, hok, h4, if_neg (show ¬ 500 < l.length by omega)]
                          rfl
                        · have h4 : tblClash l 4 = true := hcl
                          have h5 : tblClash l 3 = false := hc.2 0 (by omega)
                          simp only [tblOk, hok, h4, h5, if_neg (show ¬ 500 < l.length by omega)]
                          rfl
                      · rcases Nat.lt_succ_iff_lt_or_eq.mp hj' with hj' | rfl
                        · exact hj.2 j' hj'
                        · exact e
                  · refine ⟨i + 1, ⟨by omega, fun i' hi' j' hj' => ?_⟩, by omega, wrap_succ (by omega), cl⟩
                    rcases Nat.lt_succ_iff_lt_or_eq.mp hi' with hi' | rfl
                    · exact hi.2 i' hi' j' hj'
                    · exact hj.2 j' (by omega)
              · refine ⟨c + 1, ⟨by omega, fun q hq => ?_⟩, by omega, ?_, cl⟩
                · rcases Nat.lt_succ_iff_lt_or_eq.mp hq with hq | rfl
                  · exact hc.2 q hq
                  · rw [Bool.eq_false_iff]
                    intro e
                    obtain ⟨i', h4, j', h5, h6⟩ := (tblClash_iff l _).1 e
                    rw [hi.2 i' (by omega) j' h5] at h6
                    cases h6
                · rw [wrap_i64 (by omega)]; omega
          · have : c = 2 := by omega
            subst this
            have h4 : tblClash l 3 = false := hc.2 0 (by omega)
            have h5 : tblClash l 4 = false := hc.2 1 (by omega)
            simp only [tblOk, hok, h4, h5, if_neg (show ¬ 500 < l.length by omega)]
            rfl
end Go.Proofs.YtbjkgfooangjhaaDoor.V
/- Contracts: what a valid table is, by the program. -/
namespace Go.Proofs.YtbjkgfooangjhaaDoor.V
open Go.RowKit
open Go.Maps (Keyed)
set_option linter.unusedVariables false
set_option linter.unusedSimpArgs false
set_option linter.constructorNameAsVariable false
open Classical in
theorem mget_mput : ∀ (es : List (Value × Value)) (x u y : Value), mget (mput es x u) y = if x = y then some u else mget es y
  | [], x, u, y => by
    simp only [mput, mget]
  | (k, v) :: r, x, u, y => by
    simp only [mput]
    by_cases h : k = x
    · subst h
      rw [if_pos rfl]
      simp only [mget]
      split <;> rfl
    · rw [if_neg h]
      simp only [mget]
      by_cases h2 : k = y
      · subst h2
        rw [if_pos rfl, if_neg (fun e : x = k => h e.symm)]
        simp [mget]
      · rw [if_neg h2, if_neg h2]
        exact mget_mput r x u y
theorem keyOf_struct {P : Program} {k : TypeId} {fs : Array Field} {cs : Array Value} (hu : P.underlying k = some (.struct fs)) (hkt : P.keyType k = true) (hc : cs.size = P.cellsOf k) (hn : fs.all (·.name != "_") = true) (hsz : 1 ≤ P.types.size)
    (hm : ∀ d, ∃ lss, (fs.toList.mapM fun f => P.keyLits (d + 1) f.type ((cs.toList.drop f.offset).take (P.cellsOf f.type))) = some lss) : ∃ l, keyOf P k (.agg cs) = some l := by
  obtain ⟨n, hn1⟩ : ∃ n, P.types.size = n + 1 := ⟨P.types.size - 1, by omega⟩
  obtain ⟨lss, hl⟩ := hm n
  have h1 : P.keyLits (P.types.size + 1) k cs.toList = some lss.flatten := by
    rw [hn1]
    unfold Program.keyLits
    simp only [hu, Array.length_toList, hc, hn, and_self, if_true, hl, Option.map_some]
  refine ⟨.string (keyBytes lss.flatten), ?_⟩
  unfold keyOf
  rw [hu]
  simp only [hkt, Value.formed, hu, hc, beq_self_eq_true, Bool.and_self, if_true, Value.cells, h1, Option.map_some]
theorem keyLits_str {P : Program} {t : TypeId} (hu : P.underlying t = some .string) {z : ByteArray} (h : z.size ≤ maxLen) (d : Nat) : P.keyLits (d + 1) t [.string z] = some [.string z.data.toList] := by
  unfold Program.keyLits; simp only [hu, if_pos h]
theorem keyLits_bool {P : Program} {t : TypeId} (hu : P.underlying t = some .bool) {b : Bool} (d : Nat) : P.keyLits (d + 1) t [.bool b] = some [.bool b] := by
  unfold Program.keyLits; simp only [hu]
theorem int_wf {n : Int} (h : -9223372036854775808 ≤ n ∧ n ≤ 9223372036854775807) : (Lit.int .i64 n).wf = true := by
  simp only [Lit.wf, IntKind.min, IntKind.max, IntKind.bits, IntKind.signed, decide_eq_true_eq, Bool.and_eq_true]
  exact h
theorem keyLits_int {P : Program} {t : TypeId} (hu : P.underlying t = some (.int .i64)) {n : Int} (h : -9223372036854775808 ≤ n ∧ n ≤ 9223372036854775807) (d : Nat) : P.keyLits (d + 1) t [.int .i64 n] = some [.int .i64 n] := by
  unfold Program.keyLits; simp only [hu, int_wf h, and_self, if_true]
theorem size1 : 1 ≤ Tryd.prog.types.size := of_decide_eq_true (by kernel_rfl)
theorem rowPlace : (120 : TypeId) < Tryd.prog.types.size := of_decide_eq_true (by kernel_rfl)
theorem co_place : Tryd.prog.cellsOf 120 = 2 := by kernel_rfl
theorem co_string : Tryd.prog.cellsOf 9 = 1 := by kernel_rfl
theorem co_bool : Tryd.prog.cellsOf 4 = 1 := by kernel_rfl
theorem co_int : Tryd.prog.cellsOf 3 = 1 := by kernel_rfl
theorem keyedPlace : Keyed Tryd.prog 120 := Keyed.of_law (deep_law_laid laidOut (m := 2) (by omega) rowPlace (by kernel_rfl) (by kernel_rfl))
theorem keyedInt : Keyed Tryd.prog 3 := Go.Maps.int_keyed Tryd.underlying3
theorem keyedString : Keyed Tryd.prog 9 := Go.Maps.string_keyed Tryd.underlying9
theorem keyInt {n : Int} (h : -9223372036854775808 ≤ n ∧ n ≤ 9223372036854775807) : ∃ l, keyOf Tryd.prog 3 (.int .i64 n) = some l :=
  ⟨_, Go.Maps.keyOf_int_mk Tryd.underlying3 (int_wf h)⟩
theorem keyString {z : ByteArray} (h : z.size ≤ maxLen) : ∃ l, keyOf Tryd.prog 9 (.string z) = some l := ⟨_, Go.WideMaps.keyOf_string_mk Tryd.underlying9 h⟩
theorem keyPlace {z : ByteArray} {b : Bool} (h : z.size ≤ maxLen) : ∃ l, keyOf Tryd.prog 120 (.agg #[.string z, .bool b]) = some l := by
  refine keyOf_struct Tryd.underlying120 (by kernel_rfl) co_place.symm (by kernel_rfl) size1 fun d => ?_
  simp only [List.mapM_cons, List.mapM_nil, co_string, co_bool, List.drop_zero, List.take_succ_cons, List.take_zero, List.drop_succ_cons, keyLits_str Tryd.underlying9 h, keyLits_bool Tryd.underlying4]
  exact ⟨_, rfl⟩
theorem zeroInt : zeroIs Tryd.prog 3 (.int .i64 0) := fun w => Tryd.zeroValue3 w
end Go.Proofs.YtbjkgfooangjhaaDoor.V
/- Contracts: what a valid table is, by the program: TableOk. -/
namespace Go.Proofs.YtbjkgfooangjhaaDoor.V
open Go.RowKit
open Go.Maps (Keyed)
set_option linter.unusedVariables false
set_option linter.unusedSimpArgs false
set_option linter.constructorNameAsVariable false
def placeV (o : POp) : Value := .agg #[.string o.text, .bool (o.kind == 1)]
theorem placeV_fold (o : POp) : Value.agg #[.string o.text, .bool (o.kind == 1)] = placeV o := rfl
theorem placeV_eq {a b : POp} : placeV a = placeV b ↔ clash a b 3 = true := by
  simp only [placeV, clash, if_true, Value.agg.injEq, Bool.and_eq_true, decide_eq_true_eq, Array.mk.injEq, List.cons.injEq, Value.string.injEq, Value.bool.injEq, and_true]
def SeenIs (l : List POp) (i : Nat) (es : List (Value × Value)) : Prop := (∀ j, j < i → (mget es (placeV (opAt l j))).isSome = true) ∧ ∀ x v, mget es x = some v → ∃ j, j < i ∧ x = placeV (opAt l j)
def SortsIs (l : List POp) (i : Nat) (es : List (Value × Value)) : Prop := (∀ j, j < i → mget es (.int .i64 (opAt l j).level) = some (.int .i64 (sortN (opAt l j)))) ∧ ∀ x v, mget es x = some v → ∃ j, j < i ∧ x = .int .i64 (opAt l j).level
theorem c_TableOk (l : List POp) (hl : l.length ≤ 9223372036854775807) (hw : opsWf l) : VFun Tryd.prog 38 [.agg [.sl 4 l.length (opCells l)]] (fun av obs => obs = [] ∧ av = .lit (.int .i64 (tblOk l))) := by
  have cl : ∀ (i : Nat) (c : AV), i < l.length → c ∈ opCells l i → Closed c := fun i c _ h => opClosed l i c h
  refine vfun_start Tryd.func38 (by kernel_rfl) rfl (by simp [Tryd.ntmps38]) ?_
  simp only [Tryd.ntmps38, Tryd.results38]
  simp [go_sem]
  refine ⟨by omega, fun h1 => ?_, fun h1 => ?_⟩
  · simp [tblOk]; omega
  · have hmax : ¬ 500 < l.length := by omega
    refine ⟨by omega, ?_⟩
    refine vc_loop (fun i : Nat => i ≤ l.length ∧ ∀ j, j < i → opOk (opAt l j) = true) (fun i => l.length - i) (fun i => .of [(1, .ptr 0 1 0 0), (20, .sl 4 l.length (opCells l)), (21, .lit (.int .i64 l.length)), (22, .lit (.int .i64 i))] [some ⟨42, 1, 1, fun _ => [.sl 4 l.length (opCells l)]⟩]) ⟨0, ⟨by omega, by simp⟩, ?_⟩ (fun i hi => ?_)
    · simp [go_sem]
      exact cl
    · simp [go_sem, opCells_at]
      refine ⟨fun h => ⟨h, vcall_pure (c_opOk (opAt l i) (hw i h)) ?_ ?_⟩, fun h => ?_⟩
      · simp [go_sem, POp.cells]
      · simp [go_sem]
        refine ⟨fun e => ?_, fun e => ⟨i + 1, ⟨by omega, fun j hj => ?_⟩, by omega, ⟨⟨cl, wrap_succ (by omega)⟩, cl⟩⟩⟩
        · have : tblOps l = false := by
            simp only [tblOps, List.all_eq_false, List.mem_range]
            exact ⟨i, h, by rw [e]; simp⟩
          simp only [tblOk, this, if_neg hmax, if_true]
        · rcases Nat.lt_succ_iff_lt_or_eq.mp hj with hj | rfl
          · exact hi.2 j hj
          · exact e
      · have hok : tblOps l = true := by
          simp only [tblOps, List.all_eq_true, List.mem_range]
          exact fun j hj => hi.2 j (by omega)
        have hop : ∀ j, j < l.length → opOk (opAt l j) = true := fun j hj => hi.2 j (by omega)
        clear hi h
        refine fun b => ⟨by omega, ?_⟩
        refine vc_loop (fun p : Nat × List (Value × Value) => p.1 ≤ l.length ∧ SeenIs l p.1 p.2 ∧ ∀ i', i' < p.1 → ∀ j, j < i' → clash (opAt l i') (opAt l j) 3 = false) (fun p => l.length - p.1)
          (fun p => ⟨[(1, .ptr 0 1 0 0), (5, .lit (.map (some b))), (32, .sl 4 l.length (opCells l)), (33, .lit (.int .i64 l.length)), (34, .lit (.int .i64 p.1))], [some ⟨42, 1, 1, fun _ => [.sl 4 l.length (opCells l)]⟩], [(b, ⟨120, p.2⟩)], 0⟩) ⟨(0, []), ⟨by omega, ⟨by simp, by simp [mget]⟩, by simp⟩, ?_⟩ (fun p hp => ?_)
        · simp [go_sem]
          exact cl
        · obtain ⟨i, es⟩ := p
          simp only at hp
          simp [go_sem, opCells_at]
          refine ⟨fun h => ⟨h, vcall_val (c_placeOf (opAt l i)) ?_ ?_ ?_⟩, fun h => ?_⟩
          · simp [go_sem, POp.cells]
          · simp [go_sem]
          · simp [go_sem]
            refine vlookK_use keyedPlace (keyPlace (hw i h)) _ zeroInt ?_
            simp [go_sem]
            simp only [placeV_fold]
            have hno : ∀ (h0 : (mget es (placeV (opAt l i))).isSome = true), tblClash l 3 = true := by
              intro h0
              obtain ⟨v, hv⟩ := Option.isSome_iff_exists.1 h0
              obtain ⟨j, hj, e⟩ := hp.2.1.2 _ v hv
              exact (tblClash_iff l _).2 ⟨i, h, j, hj, placeV_eq.1 e⟩
            refine ⟨fun h0 => ?_, fun h0 => ?_⟩
            · simp only [tblOk, hok, hno h0, if_neg hmax]
              rfl
            · refine vcall_val (c_placeOf (opAt l i)) ?_ ?_ ?_
              · simp [go_sem, POp.cells]
              · simp [go_sem]
              · simp [go_sem]
                refine vmsetK_use keyedPlace (keyPlace (hw i h)) ?_
                simp [go_sem]
                simp only [placeV_fold]
                refine ⟨i + 1, mput es (placeV (opAt l i)) (.int .i64 i), ⟨by omega, ⟨fun j hj => ?_, fun x v hv => ?_⟩, fun i' hi' j hj => ?_⟩, by omega, rfl, ⟨cl, wrap_succ (by omega)⟩, cl⟩
                · rw [mget_mput]
                  split
                  · rfl
                  · rename_i hne
                    rcases Nat.lt_succ_iff_lt_or_eq.mp hj with hj | rfl
                    · exact hp.2.1.1 j hj
                    · exact absurd rfl hne
                · rw [mget_mput] at hv
                  split at hv
                  · rename_i e
                    exact ⟨i, by omega, e.symm⟩
                  · obtain ⟨j, hj, e⟩ := hp.2.1.2 x v hv
                    exact ⟨j, by omega, e⟩
                · rcases Nat.lt_succ_iff_lt_or_eq.mp hi' with hi' | rfl
                  · exact hp.2.2 i' hi' j hj
                  · rw [Bool.eq_false_iff]
                    intro e
                    have h5 := hp.2.1.1 j hj
                    rw [← placeV_eq.2 e, h0] at h5
                    cases h5
          · have hc3 : tblClash l 3 = false := by
              rw [Bool.eq_false_iff]
              intro e
              obtain ⟨i', h4, j', h5, h6⟩ := (tblClash_iff l _).1 e
              rw [hp.2.2 i' (by omega) j' h5] at h6
              cases h6
            clear hp h
            refine fun b2 hb2 => ⟨by omega, ?_⟩
            refine vc_loop (fun p : Nat × List (Value × Value) => p.1 ≤ l.length ∧ SortsIs l p.1 p.2 ∧ ∀ i', i' < p.1 → ∀ j, j < i' → clash (opAt l i') (opAt l j) 4 = false) (fun p => l.length - p.1)
              (fun p => ⟨[(1, .ptr 0 1 0 0), (10, .lit (.map (some b2))), (54, .sl 4 l.length (opCells l)), (55, .lit (.int .i64 l.length)), (56, .lit (.int .i64 p.1))], [some ⟨42, 1, 1, fun _ => [.sl 4 l.length (opCells l)]⟩], [(b2, ⟨3, p.2⟩)], 0⟩) ⟨(0, []), ⟨by omega, ⟨by simp, by simp [mget]⟩, by simp⟩, ?_⟩ (fun p hp => ?_)
            · simp [go_sem]
              exact cl
            · obtain ⟨i, es⟩ := p
              simp only at hp
              simp [go_sem, opCells_at]
              refine ⟨fun h => ⟨h, ?_⟩, fun h => ?_⟩
              · have hlv := opOk_level (hop i h)
                have hki := keyInt (n := (opAt l i).level) (by omega)
                refine vlookK_use keyedInt hki _ zeroInt ?_
                have step : ∀ (h4 : ∀ j, j < i → clash (opAt l i) (opAt l j) 4 = false), SortsIs l (i + 1) (mput es (.int .i64 (opAt l i).level) (.int .i64 (sortN (opAt l i)))) ∧ ∀ i', i' < i + 1 → ∀ j, j < i' → clash (opAt l i') (opAt l j) 4 = false := by
                  intro h4
                  refine ⟨⟨fun j hj => ?_, fun x v hv => ?_⟩, fun i' hi' j hj => ?_⟩
                  · rw [mget_mput]
                    rcases Nat.lt_succ_iff_lt_or_eq.mp hj with hj | rfl
                    · split
                      · rename_i e
                        simp only [Value.int.injEq, true_and] at e
                        have := h4 j hj
                        simp only [clash, e, decide_true, Bool.true_and, show ((4 : Int) = 3) = False by decide, if_false, decide_eq_false_iff_not, ne_eq, Classical.not_not] at this
                        rw [this]
                      · exact hp.2.1.1 j hj
                    · rw [if_pos rfl]
                  · rw [mget_mput] at hv
                    split at hv
                    · rename_i e
                      exact ⟨i, by omega, e.symm⟩
                    · obtain ⟨j, hj, e⟩ := hp.2.1.2 x v hv
                      exact ⟨j, by omega, e⟩
                  · rcases Nat.lt_succ_iff_lt_or_eq.mp hi' with hi' | rfl
                    · exact hp.2.2 i' hi' j hj
                    · exact h4 j hj
                cases hm : mget es (.int .i64 (opAt l i).level) with
                | none =>
                  simp [go_sem]
                  have h4 : ∀ j, j < i → clash (opAt l i) (opAt l j) 4 = false := by
                    intro j hj
                    simp only [clash, show ((4 : Int) = 3) = False by decide, if_false, Bool.and_eq_false_iff, decide_eq_false_iff_not]
                    refine .inl fun e => ?_
                    have := hp.2.1.1 j hj
                    rw [← e, hm] at this
                    cases this
                  refine vc_drawn [5] (.q 0 <| .q 1 <| .q 2 <| .q 3 <| .or 4 (.or 5 (.done) (.nil)) (.nil)) (by kernel_rfl) ?_
                  simp [go_sem]
                  refine vcallV_pure (c_sortOf (opAt l i)) ?_ ?_
                  · simp [go_sem, POp.cells]
                  · simp [go_sem]
                    refine vmsetK_use keyedInt hki ?_
                    simp [go_sem]
                    obtain ⟨s1, s2⟩ := step h4
                    exact ⟨i + 1, _, ⟨by omega, s1, s2⟩, by omega, rfl, ⟨cl, wrap_succ (by omega)⟩, cl⟩
                | some v =>
                  obtain ⟨j, hj, e⟩ := hp.2.1.2 _ v hm
                  simp only [Value.int.injEq, true_and] at e
                  have hv : v = .int .i64 (sortN (opAt l j)) := by
                    have := hp.2.1.1 j hj
                    rw [← e, hm] at this
                    exact Option.some.inj this
                  subst hv
                  simp [go_sem]
                  refine vcall_pure (c_sortOf (opAt l i)) ?_ ?_
                  · simp [go_sem, POp.cells]
                  · simp [go_sem]
                    refine ⟨fun hne => ?_, fun heq => ?_⟩
                    · have hc4 : tblClash l 4 = true := by
                        refine (tblClash_iff l _).2 ⟨i, h, j, hj, ?_⟩
                        simp only [clash, show ((4 : Int) = 3) = False by decide, if_false, Bool.and_eq_true, decide_eq_true_eq]
                        exact ⟨e, fun e2 => hne e2.symm⟩
                      simp only [tblOk, hok, hc3, hc4, if_neg hmax]
                      rfl
                    · have h4 : ∀ j, j < i → clash (opAt l i) (opAt l j) 4 = false := by
                        intro j' hj'
                        simp only [clash, show ((4 : Int) = 3) = False by decide, if_false, Bool.and_eq_false_iff, decide_eq_false_iff_not]
                        by_cases e2 : (opAt l i).level = (opAt l j').level
                        · refine .inr fun h5 => h5 ?_
                          have := hp.2.1.1 j' hj'
                          rw [← e2, hm] at this
                          simp only [Option.some.injEq, Value.int.injEq, true_and] at this
                          rw [← heq, this]
                        · exact .inl e2
                      refine vc_drawn [5] (.q 0 <| .q 1 <| .q 2 <| .q 3 <| .or 4 (.or 5 (.done) (.nil)) (.nil)) (by kernel_rfl) ?_
                      simp [go_sem]
                      refine vcallV_pure (c_sortOf (opAt l i)) ?_ ?_
                      · simp [go_sem, POp.cells]
                      · simp [go_sem]
                        refine vmsetK_use keyedInt hki ?_
                        simp [go_sem]
                        obtain ⟨s1, s2⟩ := step h4
                        exact ⟨i + 1, _, ⟨by omega, s1, s2⟩, by omega, rfl, ⟨cl, wrap_succ (by omega)⟩, cl⟩
              · have hc4 : tblClash l 4 = false := by
                  rw [Bool.eq_false_iff]
                  intro e
                  obtain ⟨i', h4, j', h5, h6⟩ := (tblClash_iff l _).1 e
                  rw [hp.2.2 i' (by omega) j' h5] at h6
                  cases h6
                simp only [tblOk, hok, hc3, hc4, if_neg hmax]
                rfl
end Go.Proofs.YtbjkgfooangjhaaDoor.V
/- Contracts: the law of TableOk; tables as arguments. -/
namespace Go.Proofs.YtbjkgfooangjhaaDoor.V
open Go.RowKit
set_option linter.unusedVariables false
set_option linter.unusedSimpArgs false
set_option linter.constructorNameAsVariable false
def AVIn (a b : AV) : Prop := ∀ (w : World) (ok : Nat → Prop) (hd : Nat → Value) (m : Nat) (v : Value), Rep w ok hd m a v → Rep w ok hd m b v
theorem AVIn.refl (a : AV) : AVIn a a := fun _ _ _ _ _ h => h
theorem avIn_sl {sz n : Nat} {f g : Nat → List AV} (h : ∀ i, i < n → f i = g i) : AVIn (.sl sz n f) (.sl sz n g) := by
  intro w ok hd m v hr
  cases hr with
  | sl _ _ _ A c u hc hm hsz hl ha hr => exact .sl sz n g A c u hc hm hsz (fun i hi => by rw [← h i hi]; exact hl i hi) ha fun i j a hi hj => hr i j a hi (by rw [h i hi]; exact hj)
theorem avIn_agg {a b : AV} (h : AVIn a b) : AVIn (.agg [a]) (.agg [b]) := by
  intro w ok hd m v hr
  cases hr with
  | agg _ vs hl hr => refine .agg _ vs (by simpa using hl) fun j x u hx hu => ?_
                      cases j with
                      | zero => simp at hx; subst hx; exact h _ _ _ _ _ (hr 0 a u rfl hu)
                      | succ j => simp at hx
def ArgsIn : List AV → List AV → Prop
  | [], [] => True
  | a :: r, b :: r' => AVIn a b ∧ ArgsIn r r'
  | _, _ => False
theorem argsIn_get : ∀ {l l' : List AV}, ArgsIn l l' → l.length = l'.length ∧ ∀ (j : Nat) a b, l[j]? = some a → l'[j]? = some b → AVIn a b
  | [], [], _ => ⟨rfl, fun j a b h => by simp at h⟩
  | a :: r, b :: r', h => by
    obtain ⟨h1, h2⟩ := argsIn_get h.2
    refine ⟨by simp [h1], fun j x y hx hy => ?_⟩
    cases j with
    | zero =>
      simp only [List.getElem?_cons_zero, Option.some.injEq] at hx hy
      subst hx; subst hy; exact h.1
    | succ j => exact h2 j x y (by simpa using hx) (by simpa using hy)
  | [], _ :: _, h => h.elim
  | _ :: _, [], h => h.elim
theorem VFun.congr {P : Program} {f : FuncId} {args args' : List AV} {R : AV → List Ob → Prop} (h : VFun P f args' R) (ha : ArgsIn args args') : VFun P f args R := by
  obtain ⟨h1, h2⟩ := argsIn_get ha
  refine ⟨h.1, fun w vs hl hv => h.2 w vs (by omega) fun j b u hb hu => ?_⟩
  have hj : j < args.length := by have := (List.getElem?_eq_some_iff.1 hb).1; omega
  exact h2 j _ b (List.getElem?_eq_getElem hj) hb _ _ _ _ _ (hv j _ u (List.getElem?_eq_getElem hj) hu)
/-- rows that read as operators are a list of operators -/
theorem rows_of {α : Type} [Inhabited α] (cells : α → List AV) (p : α → Prop) {m : Nat} {f : Nat → List AV} (h : ∀ i, i < m → ∃ o, p o ∧ f i = cells o) : ∃ l : List α, l.length = m ∧ (∀ i, i < m → p (l.getD i default)) ∧ ∀ i, i < m → f i = cells (l.getD i default) := by
  induction m with
  | zero => exact ⟨[], rfl, fun i hi => by omega, fun i hi => by omega⟩
  | succ m ih =>
    obtain ⟨l, h1, h2, h3⟩ := ih fun i hi => h i (by omega)
    obtain ⟨o, h4, h5⟩ := h m (by omega)
    have low : ∀ i, i < m → (l ++ [o]).getD i default = l.getD i default := fun i hi => by
      rw [List.getD_eq_getElem?_getD, List.getD_eq_getElem?_getD, List.getElem?_append_left (by omega)]
    have hi : (l ++ [o]).getD m default = o := by
      rw [List.getD_eq_getElem?_getD, List.getElem?_append_right (by omega)]; simp [h1]
    refine ⟨l ++ [o], by simp [h1], fun i hi' => ?_, fun i hi' => ?_⟩
    · rcases Nat.lt_succ_iff_lt_or_eq.mp hi' with hlt | rfl
      · rw [low i hlt]; exact h2 i hlt
      · rw [hi]; exact h4
    · rcases Nat.lt_succ_iff_lt_or_eq.mp hi' with hlt | rfl
      · rw [low i hlt]; exact h3 i hlt
      · rw [hi]; exact h5
set_option maxRecDepth 100000 in
theorem shape_table (n : Nat) (xs : List AV) (h : Shape Tryd.prog (n + 4) 37 xs) : ∃ l : List POp, l.length ≤ maxLen ∧ opsWf l ∧ ∃ f, xs = [.sl 4 l.length f] ∧ ∀ i, i < l.length → f i = opCells l i := by
  obtain ⟨parts, h0, rfl⟩ := shape_struct Tryd.underlying37 h
  clear h
  simp only [List.toList_toArray, all2_cons, all2_nil] at h0
  obtain ⟨_, _, rfl, ⟨_, h1⟩, rfl⟩ := h0
  obtain ⟨m, f, rfl, hm, hf⟩ := shape_slice Tryd.underlying35 h1
  have hc : Tryd.prog.cellsOf 108 = 4 := by kernel_rfl
  obtain ⟨l, rfl, h2, h3⟩ := rows_of POp.cells POp.wf fun i hi => shape_op n (f i) (hf i hi).2
  exact ⟨l, hm, h2, f, by rw [hc]; rfl, h3⟩
theorem opEq_refl (a : POp) : opEq a a = true := by simp [opEq, ba_beq]
theorem opsEq_refl (a : List POp) : opsEq a a = true := opsEq_true rfl fun i _ => opEq_refl _
end Go.Proofs.YtbjkgfooangjhaaDoor.V
/- Contracts: marks. -/
namespace Go.Proofs.YtbjkgfooangjhaaDoor.V
open Go.RowKit
set_option linter.unusedVariables false
set_option linter.unusedSimpArgs false
set_option linter.constructorNameAsVariable false
/-- a digit's text -/
def digB (d : Nat) : ByteArray := ⟨#[(48 + d).toUInt8]⟩
theorem digB_cells (d : Nat) (h : d < 10) : [.lit (.int .u8 (48 + d))] = byteCells (digB d) 0 := by
  have e : byteAt (digB d) 0 = 48 + d := by
    have h1 : 0 < (digB d).size := by show 0 < 1; omega
    unfold byteAt
    rw [dif_pos h1]
    have : ((digB d)[0]'h1) = (48 + d).toUInt8 := rfl
    rw [this]
    simp [Nat.toUInt8]
    omega
  simp only [byteCells, e]
/-- the digits of a number ahead of a text -/
def digs (k : Nat) (acc : ByteArray) : ByteArray := if h : k = 0 then acc else digs (k / 10) (digB (k % 10) ++ acc)
termination_by k
decreasing_by omega
theorem digs_zero (acc : ByteArray) : digs 0 acc = acc := by rw [digs]; simp
theorem digs_pos {k : Nat} (h : 0 < k) (acc : ByteArray) : digs k acc = digs (k / 10) (digB (k % 10) ++ acc) := by
  conv => lhs; rw [digs]
  rw [dif_neg (by omega)]
def mtext (k : Nat) : ByteArray := ⟨#[109]⟩ ++ digs k ⟨#[]⟩
theorem u8_small {n : Int} (h : 0 ≤ n ∧ n < 256) : IntKind.u8.wrap n = n := by
  simp only [IntKind.wrap, IntKind.bits, IntKind.signed]
  simp
  omega
theorem c_markText (k : Nat) (h : 0 < k ∧ k ≤ 9223372036854775000) : VFun Tryd.prog 57 [.lit (.int .i64 k)] (fun av obs => obs = [] ∧ av = .lit (.string (mtext k))) := by
  refine vfun_start Tryd.func57 (by kernel_rfl) rfl (by simp [Tryd.ntmps57]) ?_
  simp only [Tryd.ntmps57, Tryd.results57]
  simp [go_sem]
  refine ⟨by omega, fun _ => ?_⟩
  refine vc_loop (fun p : Nat × ByteArray => digs p.1 p.2 = digs k ⟨#[]⟩ ∧ p.2.size + p.1 ≤ k) (fun p => p.1) (fun p => .of [(0, .lit (.int .i64 p.1)), (3, .lit (.string p.2))] []) ⟨(k, ⟨#[]⟩), ⟨rfl, by show 0 + k ≤ k; omega⟩, ?_⟩ (fun p hp => ?_)
  · simp [go_sem]
  · obtain ⟨q, out⟩ := p
    simp only at hp
    simp [go_sem]
    refine ⟨fun h1 => ?_, fun h1 w => ?_⟩
    · refine ⟨digB (q % 10), rfl, ?_, ?_⟩
      · have e : (q : Int).tmod 10 = ((q % 10 : Nat) : Int) := by rw [Int.tmod_eq_emod_of_nonneg (by omega)]; omega
        rw [e, wrap_i64 (by omega), u8_small (by omega)]
        exact digB_cells (q % 10) (by omega)
      · refine ⟨_, fun w => if_neg ?_, q / 10, _, ⟨?_, ?_⟩, by omega, ?_, rfl⟩
        · have : (digB (q % 10)).size = 1 := rfl
          omega
        · rw [← digs_pos h1]; exact hp.1
        · have : (digB (q % 10)).size = 1 := rfl
          rw [ByteArray.size_append]
          omega
        · rw [wrap_i64 (by omega)]; omega
    · subst h1
      rw [if_neg (by omega)]
      have h2 := hp.1
      rw [digs_zero] at h2
      rw [h2]; rfl
end Go.Proofs.YtbjkgfooangjhaaDoor.V
/- Contracts: marks written into tables, and read again. -/
namespace Go.Proofs.YtbjkgfooangjhaaDoor.V
open Go.RowKit
set_option linter.unusedVariables false
set_option linter.unusedSimpArgs false
set_option linter.constructorNameAsVariable false
theorem map_lits {g : Nat → Nat} : ∀ {l : List AV}, l.all isLit = true → l.map (ren1 g) = l
  | [], _ => rfl
  | a :: r, h => by
    simp only [List.all_cons, Bool.and_eq_true] at h
    simp only [List.map_cons, map_lits h.2]
    cases a <;> simp [isLit] at h
    rfl
theorem flat_lits : ∀ {l : List AV}, l.all isLit = true → l.all flat1 = true
  | [], _ => rfl
  | a :: r, h => by
    simp only [List.all_cons, Bool.and_eq_true] at h ⊢
    refine ⟨?_, flat_lits h.2⟩
    cases a <;> simp [isLit] at h
    rfl
theorem outAt_lits {idx : Nat → Nat} {ks : List Nat} {ty sz n : Nat} {f f' : Nat → List AV} (h : ∀ i, i < n → f i = f' i) (hl : ∀ i, i < n → (f' i).all isLit = true) : OutAt idx ks ⟨ty, sz, n, f'⟩ (some (some ⟨ty, sz, n, f⟩)) := by
  refine ⟨rfl, rfl, rfl, fun i hi => ⟨?_, flat_lits (hl i hi), fun c hc q hq => ?_⟩⟩
  · simp only
    rw [h i hi]; exact map_lits (hl i hi)
  · simp only at hc
    rw [h i hi] at hc
    have := List.all_eq_true.1 (hl i hi) c hc
    cases c <;> simp [isLit] at this
    simp [owns1] at hq
theorem renOb_lits {g : Nat → Nat} {ty sz n : Nat} {f : Nat → List AV} (h : ∀ i, (f i).all isLit = true) : renOb g ⟨ty, sz, n, f⟩ = ⟨ty, sz, n, f⟩ := by
  simp only [renOb]
  congr 1
  funext i
  exact map_lits (h i)
def markRow (k i : Nat) : POp := ⟨mtext (k + 4 * i), (k + 4 * i + 1 : Nat), (k + 4 * i + 2 : Nat), (k + 4 * i + 3 : Nat)⟩
def markCells (k i : Nat) : List AV := (markRow k i).cells
def markFill (l : List POp) (k i j : Nat) : List AV := if j < i then markCells k j else opCells l j
theorem markFill_bd (l : List POp) (k i j m : Nat) : ∀ c, c ∈ markFill l k i j → Bd m c := by
  intro c h
  unfold markFill at h
  split at h
  · simp [markCells, POp.cells] at h
    rcases h with rfl | rfl | rfl | rfl <;> exact .closed _ (.lit _)
  · exact .closed _ (opClosed l j c h)
theorem c_markOpS (l : List POp) (k : Nat) (hl : l.length ≤ 1048576) (hk : 0 < k ∧ k ≤ 1000000000) : VProc Tryd.prog 45 [.own 0, .lit (.int .i64 k)] [some ⟨110, 4, l.length, opCells l⟩] [] (fun av mem maps => av = .lit (.int .i64 (k + 4 * l.length : Nat)) ∧ mem = [some ⟨110, 4, l.length, markCells k⟩] ∧ maps = []) := by
  refine vproc_start Tryd.func45 (by kernel_rfl) rfl (by simp [Tryd.ntmps45]) ?_
  simp only [Tryd.ntmps45, Tryd.results45]
  simp [go_sem]
  refine vc_loop (fun i : Nat => i ≤ l.length) (fun i => l.length - i) (fun i => ⟨[(0, .own 0), (1, .lit (.int .i64 (k + 4 * i : Nat))), (5, .lit (.int .i64 i))], [some ⟨110, 4, l.length, markFill l k i⟩], [], 1⟩) ⟨0, by omega, ?_⟩ (fun i hi => ?_)
  · simp [go_sem, markFill]
    exact fun i h c hc => .closed _ (opClosed l i c hc)
  · simp [go_sem]
    refine ⟨by omega, fun h => vcall_pure (c_markText (k + 4 * i) (by omega)) ?_ ?_, fun h => ?_⟩
    · simp [go_sem]
    · simp [go_sem]
      simp only [wrap_i64 (n := (k : Int) + 4 * i + 1) (by omega), wrap_i64 (n := (k : Int) + 4 * i + 1 + 1) (by omega), wrap_i64 (n := (k : Int) + 4 * i + 1 + 1 + 1) (by omega), wrap_i64 (n := (k : Int) + 4 * i + 1 + 1 + 1 + 1) (by omega)]
      refine ⟨h, i + 1, by omega, by omega, ⟨by omega, wrap_succ (by omega)⟩, fun j hj => ⟨?_, markFill_bd _ _ _ _ _⟩⟩
      simp only [updF_at h hj, updF_at h h, if_true]
      by_cases hji : j = i
      · subst hji
        simp only [if_true, markFill, Nat.lt_irrefl, if_false, Nat.lt_succ_self]
        simp [opCells_at, splice, markCells, markRow, POp.cells, Nat.add_assoc]
        omega
      · simp only [if_neg hji, markFill]
        by_cases h2 : j < i
        · rw [if_pos h2, if_pos (by omega)]
        · rw [if_neg h2, if_neg (by omega)]
    · have : i = l.length := by omega
      subst this
      refine ⟨rfl, [], [some ⟨110, 4, l.length, markCells k⟩], by simp, by simp, by simp [go_sem], ?_, by simp [go_sem], ?_⟩
      · simp [go_sem]
        exact outAt_lits (fun i hi => by simp only [markFill, if_pos hi]) (fun i _ => rfl)
      · simp [go_sem]
@[go_sem] theorem markCells_ren {g : Nat → Nat} {k i : Nat} : (markCells k i).map (ren1 g) = markCells k i := map_lits rfl
@[go_sem] theorem opCells_ren {g : Nat → Nat} {l : List POp} {i : Nat} : (opCells l i).map (ren1 g) = opCells l i := map_lits rfl
theorem cellsRn_lits {f : Nat → Nat} {m : Nat} : ∀ {l : List AV}, l.all isLit = true → CellsRn f m l l
  | [], _ => trivial
  | a :: r, h => by
    simp only [List.all_cons, Bool.and_eq_true] at h
    exact ⟨.closed _ (.of_lit h.1), cellsRn_lits h.2⟩
theorem c_markTable (l : List POp) (k : Nat) (hl : l.length ≤ 1048576) (hk : 0 < k ∧ k ≤ 1000000000) : VProc Tryd.prog 21 [.agg [.own 0], .lit (.int .i64 k)] [some ⟨110, 4, l.length, opCells l⟩] [] (fun av mem maps => av = .lit (.int .i64 (k + 4 * l.length : Nat)) ∧ mem = [some ⟨110, 4, l.length, markCells k⟩] ∧ maps = []) := by
  refine vproc_start Tryd.func21 (by kernel_rfl) rfl (by simp [Tryd.ntmps21]) ?_
  simp only [Tryd.ntmps21, Tryd.results21]
  simp [go_sem]
  refine vcall_share [0] (c_markOpS l k hl hk) (by simp) ?_ ?_ trivial ?_
  · simp [go_sem]
  · simp [go_sem]
    exact fun i _ => cellsRn_lits rfl
  · rintro av mem maps ⟨rfl, rfl, rfl⟩
    simp [go_sem]
    refine ⟨rfl, [], [some ⟨110, 4, l.length, markCells k⟩], by simp, by simp, by simp [go_sem], ?_, by simp [go_sem], ?_⟩
    · simp [go_sem]
      exact outAt_lits (fun i _ => rfl) (fun i _ => rfl)
    · simp [go_sem]
end Go.Proofs.YtbjkgfooangjhaaDoor.V
/- Contracts: marks read again. -/
namespace Go.Proofs.YtbjkgfooangjhaaDoor.V
open Go.RowKit
set_option linter.unusedVariables false
set_option linter.unusedSimpArgs false
set_option linter.constructorNameAsVariable false
theorem markClosed (k i : Nat) (c : AV) (h : c ∈ markCells k i) : Closed c := by
  simp [markCells, POp.cells] at h
  rcases h with rfl | rfl | rfl | rfl <;> exact .lit _
theorem markCells_at (k i : Nat) : markCells k i = [.lit (.string (mtext (k + 4 * i))), .lit (.int .i64 (k + 4 * i + 1 : Nat)), .lit (.int .i64 (k + 4 * i + 2 : Nat)), .lit (.int .i64 (k + 4 * i + 3 : Nat))] := rfl
end Go.Proofs.YtbjkgfooangjhaaDoor.V
/- Contracts: lists of nodes, trees: sizes, copies, comparisons, marks. -/
namespace Go.Proofs.YtbjkgfooangjhaaDoor.V
open Go.RowKit
set_option linter.unusedVariables false
set_option linter.unusedSimpArgs false
set_option linter.constructorNameAsVariable false
/-- a node of a tree -/
structure PNode where
  text : ByteArray
  kind : Int
  a : Int
  b : Int
def PNode.cells (o : PNode) : List AV := [.lit (.int .i64 o.kind), .lit (.string o.text), .lit (.int .i64 o.a), .lit (.int .i64 o.b)]
def PNode.wf (o : PNode) : Prop := o.text.size ≤ maxLen
theorem c_toNode (o : PNode) : VFun Tryd.prog 54 [.agg o.cells] (fun av obs => obs = [] ∧ av = .agg o.cells) := by
  obtain ⟨z, k, x, y⟩ := o
  simp only [PNode.cells]
  refine vfun_start Tryd.func54 (by kernel_rfl) rfl (by simp [Tryd.ntmps54]) ?_
  simp only [Tryd.ntmps54, Tryd.results54]
  simp [go_sem]
instance : Inhabited PNode := ⟨⟨⟨#[]⟩, 0, 0, 0⟩⟩
def nodCells (l : List PNode) (i : Nat) : List AV := (l.getD i default).cells
theorem nodClosed (l : List PNode) (i : Nat) (c : AV) (h : c ∈ nodCells l i) : Closed c := by
  simp [nodCells, PNode.cells] at h
  rcases h with rfl | rfl | rfl | rfl <;> exact .lit _
theorem nodLit (l : List PNode) (i : Nat) : (nodCells l i).all isLit = true := rfl
def zeroNod : List AV := [.lit (.int .i64 0), .lit (.string ⟨#[]⟩), .lit (.int .i64 0), .lit (.int .i64 0)]
def nodFill (l : List PNode) (i j : Nat) : List AV := if j < i then nodCells l j else zeroNod
theorem nodBd (l : List PNode) (i j m : Nat) : ∀ c, c ∈ nodFill l i j → Bd m c := by
  intro c h
  unfold nodFill at h
  split at h
  · exact .closed _ (nodClosed l j c h)
  · simp [zeroNod] at h
    rcases h with rfl | rfl | rfl <;> exact .closed _ (.lit _)
theorem c_toNodeS (l : List PNode) (hl : l.length ≤ 1048576) : VFun Tryd.prog 27 [.sl 4 l.length (nodCells l)] (fun av obs => av = .own 0 ∧ obs = [⟨56, 4, l.length, nodCells l⟩]) := by
  refine vfun_start Tryd.func27 (by kernel_rfl) rfl (by simp [Tryd.ntmps27]) ?_
  simp only [Tryd.ntmps27, Tryd.results27]
  simp [go_sem]
  refine ⟨by omega, by omega, by omega, ?_⟩
  refine vc_loop (fun i : Nat => i ≤ l.length) (fun i => l.length - i) (fun i => .of [(0, .sl 4 l.length (nodCells l)), (3, .own 0), (4, .lit (.int .i64 i))] [some ⟨56, 4, l.length, nodFill l i⟩]) ⟨0, by omega, ?_⟩ (fun i hi => ?_)
  · simp [go_sem, nodFill, zeroNod]
    exact fun i c _ h => nodClosed l i c h
  · simp [go_sem]
    refine ⟨by omega, fun h => ?_, fun h => ?_⟩
    · rcases ho : l.getD i default with ⟨z, k, lv, sd⟩
      have e : nodCells l i = [.lit (.int .i64 k), .lit (.string z), .lit (.int .i64 lv), .lit (.int .i64 sd)] := by unfold nodCells; rw [ho]; rfl
      simp only [e]
      refine ⟨h, by simp, vcall_val (c_toNode ⟨z, k, lv, sd⟩) ?_ ?_ ?_⟩
      · simp [go_sem, PNode.cells]
      · simp [go_sem, PNode.cells]
      · simp [go_sem, PNode.cells]
        refine ⟨h, i + 1, by omega, by omega, ⟨fun i c _ h => nodClosed l i c h, wrap_succ (by omega)⟩, fun j hj => ?_⟩
        rw [updF_at h hj]
        refine ⟨?_, nodBd l _ _ _⟩
        by_cases hji : j = i
        · subst hji
          simp [nodFill, e, splice, zeroNod]
        · rw [if_neg hji]
          unfold nodFill
          by_cases h2 : j < i
          · rw [if_pos h2, if_pos (by omega)]
          · rw [if_neg h2, if_neg (by omega)]
    · have : i = l.length := by omega
      subst this
      exact obsSame_one.mpr ⟨⟨56, 4, l.length, nodCells l⟩, ⟨rfl, rfl, rfl, fun j hj => ⟨by simp only [nodFill]; rw [if_pos hj], nodLit l j⟩⟩, rfl⟩
theorem c_toTree (l : List PNode) (hl : l.length ≤ 1048576) : VFun Tryd.prog 9 [.agg [.sl 4 l.length (nodCells l)]] (fun av obs => av = .agg [.own 0] ∧ obs = [⟨56, 4, l.length, nodCells l⟩]) := by
  refine vfun_start Tryd.func9 (by kernel_rfl) rfl (by simp [Tryd.ntmps9]) ?_
  simp only [Tryd.ntmps9, Tryd.results9]
  simp [go_sem]
  refine vcall_use (c_toNodeS l hl) ?_ ?_
  · simp [go_sem]
    exact argSl_refl (by omega) fun i c _ h => nodClosed l i c h
  · rintro av obs ⟨rfl, rfl⟩
    simp [go_sem]
    exact obsSame_one.mpr ⟨⟨56, 4, l.length, nodCells l⟩, ⟨rfl, rfl, rfl, fun j hj => ⟨rfl, nodLit l j⟩⟩, rfl⟩
def nodSum (l : List PNode) : Nat := (l.map fun o => o.text.size).sum
theorem nodSum_take (l : List PNode) (i : Nat) (h : i < l.length) : nodSum (l.take (i + 1)) = nodSum (l.take i) + (l.getD i default).text.size := by
  unfold nodSum
  rw [List.take_add_one, List.getElem?_eq_getElem h, List.map_append, List.sum_append_nat, List.getD_eq_getElem?_getD, List.getElem?_eq_getElem h]
  simp only [Option.toList_some, List.map_cons, List.map_nil, List.sum_cons, List.sum_nil, Option.getD_some, Nat.add_zero]
theorem c_szNode (o : PNode) (left : Int) (ho : o.wf) (h0 : 0 ≤ left) (h : left ≤ 1048576) : VFun Tryd.prog 50 [.agg o.cells, .lit (.int .i64 left)] (fun av obs => obs = [] ∧ av = .lit (.int .i64 (if left - o.text.size < 0 then -1 else left - o.text.size))) := by
  obtain ⟨z, k, x, y⟩ := o
  simp only [PNode.cells]
  simp only [PNode.wf, maxLen] at ho
  refine vfun_start Tryd.func50 (by kernel_rfl) rfl (by simp [Tryd.ntmps50]) ?_
  simp only [Tryd.ntmps50, Tryd.results50]
  simp [go_sem]
  rw [wrap_i64 (n := left - z.size) (by omega)]
  by_cases h1 : left - z.size < 0 <;> simp [h1] <;> omega
theorem c_szNodeS (l : List PNode) (left : Int) (hl : l.length ≤ maxLen) (ho : ∀ i, i < l.length → (l.getD i default).wf) (h0 : 0 ≤ left) (h : left ≤ 1048576) :
    VFun Tryd.prog 24 [.sl 4 l.length (nodCells l), .lit (.int .i64 left)] (fun av obs => obs = [] ∧ szRes left (l.length + nodSum l) av) := by
  simp only [maxLen] at hl
  refine vfun_start Tryd.func24 (by kernel_rfl) rfl (by simp [Tryd.ntmps24]) ?_
  simp only [Tryd.ntmps24, Tryd.results24]
  simp [go_sem]
  rw [wrap_i64 (n := left - l.length) (by omega)]
  refine ⟨by omega, fun _ => .inl rfl, fun h1 => ?_⟩
  refine vc_loop (fun i : Nat => i ≤ l.length ∧ 0 ≤ left - l.length - nodSum (l.take i)) (fun i => l.length - i) (fun i => .of [(0, .sl 4 l.length (nodCells l)), (1, .lit (.int .i64 (left - l.length - nodSum (l.take i)))), (5, .lit (.int .i64 i))] []) ⟨0, ⟨by omega, by simpa [nodSum] using h1⟩, ?_⟩ (fun i hi => ?_)
  · simp [go_sem, nodSum]
    exact fun i c _ h => nodClosed l i c h
  · simp [go_sem]
    refine ⟨by omega, fun h => ?_, fun h => ?_⟩
    · have hw := ho i h
      have hs := nodSum_take l i h
      rcases ho : l.getD i default with ⟨z, k, lv, sd⟩
      rw [ho] at hw hs
      have e : nodCells l i = [.lit (.int .i64 k), .lit (.string z), .lit (.int .i64 lv), .lit (.int .i64 sd)] := by unfold nodCells; rw [ho]; rfl
      simp only [e]
      refine ⟨h, by simp, vcall_pure (c_szNode ⟨z, k, lv, sd⟩ (left - l.length - nodSum (l.take i)) hw (by omega) (by omega)) ?_ ?_⟩
      · simp [go_sem, PNode.cells]
      · simp [go_sem]
        simp only at hs
        by_cases h2 : left - l.length - nodSum (l.take i) - z.size < 0
        · simp only [h2, if_true]
          exact ⟨fun _ => .inl rfl, fun h4 => by omega⟩
        · simp only [h2, if_false]
          exact ⟨fun h4 => h4.elim, fun h4 => ⟨i + 1, ⟨by omega, by omega⟩, by omega, fun i c _ h => nodClosed l i c h, by omega, wrap_succ (by omega)⟩⟩
    · have : i = l.length := by omega
      subst this
      simp only [List.take_length] at hi ⊢
      exact .inr ⟨by omega, by congr 2; omega⟩
theorem c_szTree (l : List PNode) (left : Int) (hl : l.length ≤ maxLen) (ho : ∀ i, i < l.length → (l.getD i default).wf) (h0 : 0 ≤ left) (h : left ≤ 1048576) :
    VFun Tryd.prog 7 [.agg [.sl 4 l.length (nodCells l)], .lit (.int .i64 left)] (fun av obs => obs = [] ∧ szRes left (l.length + nodSum l) av) := by
  refine vfun_start Tryd.func7 (by kernel_rfl) rfl (by simp [Tryd.ntmps7]) ?_
  simp only [Tryd.ntmps7, Tryd.results7]
  simp [go_sem]
  refine vcall_use (c_szNodeS l left hl ho h0 h) ?_ ?_
  · simp [go_sem]
    exact argSl_refl (by omega) fun i c _ h => nodClosed l i c h
  · rintro av obs ⟨rfl, h1 | ⟨h1, h2⟩⟩
    · subst h1
      simp [go_sem, szRes]
    · subst h2
      simp [go_sem, szRes]
      omega
/-- operators as they are compared -/
def nodEq (a b : PNode) : Bool := a.text == b.text && a.kind == b.kind && a.a == b.a && a.b == b.b
theorem c_eqNode (a b : PNode) : VFun Tryd.prog 56 [.agg a.cells, .agg b.cells] (fun av obs => obs = [] ∧ av = .lit (.bool (nodEq a b))) := by
  obtain ⟨z, k, l, s⟩ := a
  obtain ⟨z', k', l', s'⟩ := b
  simp only [PNode.cells]
  refine vfun_start Tryd.func56 (by kernel_rfl) rfl (by simp [Tryd.ntmps56]) ?_
  simp only [Tryd.ntmps56, Tryd.results56]
  simp [go_sem]
  simp only [nodEq, ba_toList, ba_beq]
  by_cases h1 : z = z' <;> by_cases h2 : k = k' <;> by_cases h3 : l = l' <;> by_cases h4 : s = s' <;> simp [h1, h2, h3, h4]
def nodAt (l : List PNode) (i : Nat) : PNode := l.getD i default
theorem nodCells_at (l : List PNode) (i : Nat) : nodCells l i = [.lit (.int .i64 (nodAt l i).kind), .lit (.string (nodAt l i).text), .lit (.int .i64 (nodAt l i).a), .lit (.int .i64 (nodAt l i).b)] := rfl
def nodsEq (a b : List PNode) : Bool := decide (a.length = b.length) && (List.range a.length).all fun i => nodEq (nodAt a i) (nodAt b i)
theorem nodsEq_false {a b : List PNode} {i : Nat} (h : i < a.length) (e : nodEq (nodAt a i) (nodAt b i) = false) : nodsEq a b = false := by
  simp only [nodsEq, Bool.and_eq_false_iff, List.all_eq_false, List.mem_range]
  exact .inr ⟨i, h, by rw [e]; simp⟩
theorem nodsEq_true {a b : List PNode} (hl : a.length = b.length) (h : ∀ i, i < a.length → nodEq (nodAt a i) (nodAt b i) = true) : nodsEq a b = true := by
  simp only [nodsEq, Bool.and_eq_true, decide_eq_true_eq, List.all_eq_true, List.mem_range]
  exact ⟨hl, h⟩
theorem c_eqNodeS (a b : List PNode) (ha : a.length ≤ 9223372036854775807) (hb : b.length ≤ 9223372036854775807) : VFun Tryd.prog 30 [.sl 4 a.length (nodCells a), .sl 4 b.length (nodCells b)] (fun av obs => obs = [] ∧ av = .lit (.bool (nodsEq a b))) := by
  refine vfun_start Tryd.func30 (by kernel_rfl) rfl (by simp [Tryd.ntmps30]) ?_
  simp only [Tryd.ntmps30, Tryd.results30]
  simp [go_sem]
  refine ⟨by omega, by omega, fun h1 => ?_, fun h1 => ?_⟩
  · simp [nodsEq]; omega
  · refine vc_loop (fun i : Nat => i ≤ a.length ∧ ∀ j, j < i → nodEq (nodAt a j) (nodAt b j) = true) (fun i => a.length - i) (fun i => .of [(0, .sl 4 a.length (nodCells a)), (1, .sl 4 b.length (nodCells b)), (4, .lit (.bool false)), (5, .lit (.int .i64 i))] []) ⟨0, ⟨by omega, by simp⟩, ?_⟩ (fun i hi => ?_)
    · simp [go_sem]
      exact ⟨fun i c _ h => nodClosed a i c h, fun i c _ h => nodClosed b i c h⟩
    · simp [go_sem]
      refine ⟨by omega, fun h => ?_, fun h => ?_⟩
      · refine vc_drawn [] (.q 0 <| .q 1 <| .q 2 <| .q 3 <| .q 4 <| .q 5 <| .q 6 <| .q 7 <| .or 8 (.q 9 <| .done) (.nil)) (by kernel_rfl) ?_
        simp [go_sem, nodCells_at]
        refine ⟨h, by omega, vcallV_pure (c_eqNode (nodAt a i) (nodAt b i)) ?_ ?_⟩
        · simp [go_sem, PNode.cells]
        · simp [go_sem]
          refine ⟨fun e => nodsEq_false h e, fun e => ⟨i + 1, ⟨by omega, fun j hj => ?_⟩, by omega, ⟨fun i c _ h => nodClosed a i c h, fun i c _ h => nodClosed b i c h, wrap_succ (by omega)⟩⟩⟩
          rcases Nat.lt_succ_iff_lt_or_eq.mp hj with hj | rfl
          · exact hi.2 j hj
          · exact e
      · exact nodsEq_true (by omega) fun j hj => hi.2 j (by omega)
theorem c_eqTree (a b : List PNode) (ha : a.length ≤ 9223372036854775807) (hb : b.length ≤ 9223372036854775807) : VFun Tryd.prog 11 [.agg [.sl 4 a.length (nodCells a)], .agg [.sl 4 b.length (nodCells b)]] (fun av obs => obs = [] ∧ av = .lit (.bool (nodsEq a b))) := by
  refine vfun_start Tryd.func11 (by kernel_rfl) rfl (by simp [Tryd.ntmps11]) ?_
  simp only [Tryd.ntmps11, Tryd.results11]
  simp [go_sem]
  refine vcall_pure (c_eqNodeS a b ha hb) ?_ ?_
  · simp [go_sem]
    exact ⟨argSl_refl (by omega) fun i c _ h => nodClosed a i c h, argSl_refl (by omega) fun i c _ h => nodClosed b i c h⟩
  · simp [go_sem]
def markNod (k i : Nat) : PNode := ⟨mtext (k + 4 * i + 1), (k + 4 * i : Nat), (k + 4 * i + 2 : Nat), (k + 4 * i + 3 : Nat)⟩
def markNCells (k i : Nat) : List AV := (markNod k i).cells
def markNFill (l : List PNode) (k i j : Nat) : List AV := if j < i then markNCells k j else nodCells l j
theorem markNFill_bd (l : List PNode) (k i j m : Nat) : ∀ c, c ∈ markNFill l k i j → Bd m c := by
  intro c h
  unfold markNFill at h
  split at h
  · simp [markNCells, PNode.cells] at h
    rcases h with rfl | rfl | rfl | rfl <;> exact .closed _ (.lit _)
  · exact .closed _ (nodClosed l j c h)
theorem c_markNodeS (l : List PNode) (k : Nat) (hl : l.length ≤ 1048576) (hk : 0 < k ∧ k ≤ 1000000000) : VProc Tryd.prog 31 [.own 0, .lit (.int .i64 k)] [some ⟨56, 4, l.length, nodCells l⟩] [] (fun av mem maps => av = .lit (.int .i64 (k + 4 * l.length : Nat)) ∧ mem = [some ⟨56, 4, l.length, markNCells k⟩] ∧ maps = []) := by
  refine vproc_start Tryd.func31 (by kernel_rfl) rfl (by simp [Tryd.ntmps31]) ?_
  simp only [Tryd.ntmps31, Tryd.results31]
  simp [go_sem]
  refine vc_loop (fun i : Nat => i ≤ l.length) (fun i => l.length - i) (fun i => ⟨[(0, .own 0), (1, .lit (.int .i64 (k + 4 * i : Nat))), (5, .lit (.int .i64 i))], [some ⟨56, 4, l.length, markNFill l k i⟩], [], 1⟩) ⟨0, by omega, ?_⟩ (fun i hi => ?_)
  · simp [go_sem, markNFill]
    exact fun i h c hc => .closed _ (nodClosed l i c hc)
  · simp [go_sem]
    refine ⟨by omega, fun h => ⟨h, vcall_pure (c_markText (k + 4 * i + 1) (by omega)) ?_ ?_⟩, fun h => ?_⟩
    · simp [go_sem]
      exact wrap_i64 (by omega)
    · simp [go_sem]
      simp only [wrap_i64 (n := (k : Int) + 4 * i + 1) (by omega), wrap_i64 (n := (k : Int) + 4 * i + 1 + 1) (by omega), wrap_i64 (n := (k : Int) + 4 * i + 1 + 1 + 1) (by omega), wrap_i64 (n := (k : Int) + 4 * i + 1 + 1 + 1 + 1) (by omega)]
      refine ⟨h, i + 1, by omega, by omega, ⟨by omega, wrap_succ (by omega)⟩, fun j hj => ⟨?_, markNFill_bd _ _ _ _ _⟩⟩
      simp only [updF_at h hj, updF_at h h, if_true]
      by_cases hji : j = i
      · subst hji
        simp only [if_true, markNFill, Nat.lt_irrefl, if_false, Nat.lt_succ_self]
        simp [nodCells_at, splice, markNCells, markNod, PNode.cells, Nat.add_assoc]
        omega
      · simp only [if_neg hji, markNFill]
        by_cases h2 : j < i
        · rw [if_pos h2, if_pos (by omega)]
        · rw [if_neg h2, if_neg (by omega)]
    · have : i = l.length := by omega
      subst this
      refine ⟨rfl, [], [some ⟨56, 4, l.length, markNCells k⟩], by simp, by simp, by simp [go_sem], ?_, by simp [go_sem], ?_⟩
      · simp [go_sem]
        exact outAt_lits (fun i hi => by simp only [markNFill, if_pos hi]) (fun i _ => rfl)
      · simp [go_sem]
@[go_sem] theorem markNCells_ren {g : Nat → Nat} {k i : Nat} : (markNCells k i).map (ren1 g) = markNCells k i := map_lits rfl
@[go_sem] theorem nodCells_ren {g : Nat → Nat} {l : List PNode} {i : Nat} : (nodCells l i).map (ren1 g) = nodCells l i := map_lits rfl
theorem c_markTree (l : List PNode) (k : Nat) (hl : l.length ≤ 1048576) (hk : 0 < k ∧ k ≤ 1000000000) : VProc Tryd.prog 12 [.agg [.own 0], .lit (.int .i64 k)] [some ⟨56, 4, l.length, nodCells l⟩] [] (fun av mem maps => av = .lit (.int .i64 (k + 4 * l.length : Nat)) ∧ mem = [some ⟨56, 4, l.length, markNCells k⟩] ∧ maps = []) := by
  refine vproc_start Tryd.func12 (by kernel_rfl) rfl (by simp [Tryd.ntmps12]) ?_
  simp only [Tryd.ntmps12, Tryd.results12]
  simp [go_sem]
  refine vcall_share [0] (c_markNodeS l k hl hk) (by simp) ?_ ?_ trivial ?_
  · simp [go_sem]
  · simp [go_sem]
    exact fun i _ => cellsRn_lits rfl
  · rintro av mem maps ⟨rfl, rfl, rfl⟩
    simp [go_sem]
    refine ⟨rfl, [], [some ⟨56, 4, l.length, markNCells k⟩], by simp, by simp, by simp [go_sem], ?_, by simp [go_sem], ?_⟩
    · simp [go_sem]
      exact outAt_lits (fun i _ => rfl) (fun i _ => rfl)
    · simp [go_sem]
theorem markNClosed (k i : Nat) (c : AV) (h : c ∈ markNCells k i) : Closed c := by
  simp [markNCells, PNode.cells] at h
  rcases h with rfl | rfl | rfl | rfl <;> exact .lit _
theorem markNCells_at (k i : Nat) : markNCells k i = [.lit (.int .i64 (k + 4 * i : Nat)), .lit (.string (mtext (k + 4 * i + 1))), .lit (.int .i64 (k + 4 * i + 2 : Nat)), .lit (.int .i64 (k + 4 * i + 3 : Nat))] := rfl
theorem c_heldNodeS (n k : Nat) (hl : n ≤ 1048576) (hk : 0 < k ∧ k ≤ 1000000000) : VFun Tryd.prog 32 [.sl 4 n (markNCells k), .lit (.int .i64 k)] (fun av obs => obs = [] ∧ av = .lit (.int .i64 (k + 4 * n : Nat))) := by
  have cl : ∀ (i : Nat) (c : AV), i < n → c ∈ markNCells k i → Closed c := fun i c _ h => markNClosed k i c h
  refine vfun_start Tryd.func32 (by kernel_rfl) rfl (by simp [Tryd.ntmps32]) ?_
  simp only [Tryd.ntmps32, Tryd.results32]
  simp [go_sem]
  refine vc_loop (fun i : Nat => i ≤ n) (fun i => n - i) (fun i => .of [(0, .sl 4 n (markNCells k)), (1, .lit (.int .i64 (k + 4 * i : Nat))), (5, .lit (.int .i64 i))] []) ⟨0, by omega, ?_⟩ (fun i hi => ?_)
  · simp [go_sem]
    exact cl
  · simp [go_sem, markNCells_at]
    have e1 := wrap_i64 (n := (k : Int) + 4 * i + 1) (by omega)
    refine ⟨by omega, fun h => ⟨h, ?_⟩, fun h => ?_⟩
    · refine vc_drawn [] (.q 0 <| .q 1 <| .q 2 <| .q 3 <| .q 4 <| .q 5 <| .or 6 (.q 7 <| .done) (.nil)) (by kernel_rfl) ?_
      simp [go_sem, markNCells_at]
      refine ⟨h, vcallV_pure (c_markText (k + 4 * i + 1) (by omega)) ?_ ?_⟩
      · simp [go_sem]
        exact e1
      · simp [go_sem, markNCells_at]
        have e2 := wrap_i64 (n := (k : Int) + 4 * i + 1 + 1) (by omega)
        have e3 := wrap_i64 (n := (k : Int) + 4 * i + 1 + 1 + 1) (by omega)
        have e4 := wrap_i64 (n := (k : Int) + 4 * i + 1 + 1 + 1 + 1) (by omega)
        simp only [e1, e2, e3, e4]
        refine ⟨h, fun h1 => by omega, fun _ => ⟨h, fun h1 => by omega, fun _ => ⟨i + 1, by omega, by omega, fun i c hi hc => cl i c hi (by simp only [markNCells_at]; simpa using hc), by omega, wrap_succ (by omega)⟩⟩⟩
    · omega
theorem c_heldTree (n k : Nat) (hl : n ≤ 1048576) (hk : 0 < k ∧ k ≤ 1000000000) : VFun Tryd.prog 13 [.agg [.sl 4 n (markNCells k)], .lit (.int .i64 k)] (fun av obs => obs = [] ∧ av = .lit (.int .i64 (k + 4 * n : Nat))) := by
  refine vfun_start Tryd.func13 (by kernel_rfl) rfl (by simp [Tryd.ntmps13]) ?_
  simp only [Tryd.ntmps13, Tryd.results13]
  simp [go_sem]
  refine vcall_pure (c_heldNodeS n k hl hk) ?_ ?_
  · simp [go_sem]
    exact argSl_refl (by omega) fun i c _ h => markNClosed k i c h
  · simp [go_sem]
    omega
end Go.Proofs.YtbjkgfooangjhaaDoor.V
/- Contracts: tokens compared, marked, read again. -/
namespace Go.Proofs.YtbjkgfooangjhaaDoor.V
open Go.RowKit
set_option linter.unusedVariables false
set_option linter.unusedSimpArgs false
set_option linter.constructorNameAsVariable false
def tokAt (l : List PTok) (i : Nat) : PTok := l.getD i default
theorem tokCells_at (l : List PTok) (i : Nat) : tokCells l i = [.lit (.int .i64 (tokAt l i).kind), .lit (.string (tokAt l i).gap), .lit (.string (tokAt l i).text)] := rfl
def tokEq (a b : PTok) : Bool := a.kind == b.kind && a.gap == b.gap && a.text == b.text
def toksEq (a b : List PTok) : Bool := decide (a.length = b.length) && (List.range a.length).all fun i => tokEq (tokAt a i) (tokAt b i)
theorem toksEq_false {a b : List PTok} {i : Nat} (h : i < a.length) (e : tokEq (tokAt a i) (tokAt b i) = false) : toksEq a b = false := by
  simp only [toksEq, Bool.and_eq_false_iff, List.all_eq_false, List.mem_range]
  exact .inr ⟨i, h, by rw [e]; simp⟩
theorem toksEq_true {a b : List PTok} (hl : a.length = b.length) (h : ∀ i, i < a.length → tokEq (tokAt a i) (tokAt b i) = true) : toksEq a b = true := by
  simp only [toksEq, Bool.and_eq_true, decide_eq_true_eq, List.all_eq_true, List.mem_range]
  exact ⟨hl, h⟩
theorem toksEq_refl (a : List PTok) : toksEq a a = true := toksEq_true rfl fun i _ => by simp [tokEq, ba_beq]
/-! marks -/
def markTok (k i : Nat) : PTok := ⟨(k + 3 * i : Nat), mtext (k + 3 * i + 1), mtext (k + 3 * i + 2)⟩
def markTCells (k i : Nat) : List AV := (markTok k i).cells
def markTFill (l : List PTok) (k i j : Nat) : List AV := if j < i then markTCells k j else tokCells l j
theorem markTFill_bd (l : List PTok) (k i j m : Nat) : ∀ c, c ∈ markTFill l k i j → Bd m c := by
  intro c h
  unfold markTFill at h
  split at h
  · simp [markTCells, PTok.cells] at h
    rcases h with rfl | rfl | rfl <;> exact .closed _ (.lit _)
  · exact .closed _ (tokClosed l j c h)
@[go_sem] theorem markTCells_ren {g : Nat → Nat} {k i : Nat} : (markTCells k i).map (ren1 g) = markTCells k i := map_lits rfl
@[go_sem] theorem tokCells_ren {g : Nat → Nat} {l : List PTok} {i : Nat} : (tokCells l i).map (ren1 g) = tokCells l i := map_lits rfl
theorem markTClosed (k i : Nat) (c : AV) (h : c ∈ markTCells k i) : Closed c := by
  simp [markTCells, PTok.cells] at h
  rcases h with rfl | rfl | rfl <;> exact .lit _
theorem markTCells_at (k i : Nat) : markTCells k i = [.lit (.int .i64 (k + 3 * i : Nat)), .lit (.string (mtext (k + 3 * i + 1))), .lit (.string (mtext (k + 3 * i + 2)))] := rfl
end Go.Proofs.YtbjkgfooangjhaaDoor.V
/- Contracts: kinds of bytes, numbers, names. -/
namespace Go.Proofs.YtbjkgfooangjhaaDoor.V
open Go.RowKit
set_option linter.unusedVariables false
set_option linter.unusedSimpArgs false
set_option linter.constructorNameAsVariable false
def isDg (c : Int) : Bool := decide (48 ≤ c) && decide (c ≤ 57)
def isLt (c : Int) : Bool := decide ((97 ≤ c ∧ c ≤ 122) ∨ (65 ≤ c ∧ c ≤ 90) ∨ c = 95)
def isBl (c : Int) : Bool := decide (c = 32 ∨ c = 9 ∨ c = 10)
theorem c_l2Digit (c : Int) : VFun Tryd.prog 85 [.lit (.int .u8 c)] (fun av obs => obs = [] ∧ av = .lit (.bool (isDg c))) := by
  refine vfun_start Tryd.func85 (by kernel_rfl) rfl (by simp [Tryd.ntmps85]) ?_
  simp only [Tryd.ntmps85, Tryd.results85]
  simp [go_sem]
  by_cases h1 : 48 ≤ c <;> by_cases h2 : c ≤ 57 <;> simp [isDg, h1, h2] <;> omega
theorem c_isDigit (c : Int) : VFun Tryd.prog 96 [.lit (.int .u8 c)] (fun av obs => obs = [] ∧ av = .lit (.bool (isDg c))) := by
  refine vfun_start Tryd.func96 (by kernel_rfl) rfl (by simp [Tryd.ntmps96]) ?_
  simp only [Tryd.ntmps96, Tryd.results96]
  simp [go_sem]
  by_cases h1 : 48 ≤ c <;> by_cases h2 : c ≤ 57 <;> simp [isDg, h1, h2] <;> omega
theorem c_l2Letter (c : Int) : VFun Tryd.prog 86 [.lit (.int .u8 c)] (fun av obs => obs = [] ∧ av = .lit (.bool (isLt c))) := by
  refine vfun_start Tryd.func86 (by kernel_rfl) rfl (by simp [Tryd.ntmps86]) ?_
  simp only [Tryd.ntmps86, Tryd.results86]
  simp [go_sem]
  simp only [isLt, int_beq, decide_eq_decide, decide_eq_true_eq]
  omega
theorem c_isLetter (c : Int) : VFun Tryd.prog 95 [.lit (.int .u8 c)] (fun av obs => obs = [] ∧ av = .lit (.bool (isLt c))) := by
  refine vfun_start Tryd.func95 (by kernel_rfl) rfl (by simp [Tryd.ntmps95]) ?_
  simp only [Tryd.ntmps95, Tryd.results95]
  simp [go_sem]
  simp only [isLt, int_beq, decide_eq_decide, decide_eq_true_eq]
  omega
/-! texts that are numbers, names -/
def numZ (z : ByteArray) : Bool := ((List.range z.size).all fun i => isDg (byteAt z i)) && decide (0 < z.size)
def namAt (z : ByteArray) (i : Nat) : Bool := isLt (byteAt z i) || (decide (i ≠ 0) && isDg (byteAt z i))
def namZ (z : ByteArray) : Bool := ((List.range z.size).all fun i => namAt z i) && decide (0 < z.size)
theorem all_false {p : Nat → Bool} {n i : Nat} (h : i < n) (e : p i = false) : (List.range n).all p = false := by
  simp only [List.all_eq_false, List.mem_range]
  exact ⟨i, h, by rw [e]; simp⟩
theorem all_true {p : Nat → Bool} {n : Nat} (h : ∀ i, i < n → p i = true) : (List.range n).all p = true := by
  simp only [List.all_eq_true, List.mem_range]
  exact h
theorem c_l2IsNumber (z : ByteArray) (hz : z.size ≤ 9223372036854775807) : VFun Tryd.prog 77 [.lit (.string z)] (fun av obs => obs = [] ∧ av = .lit (.bool (numZ z))) := by
  refine vfun_start Tryd.func77 (by kernel_rfl) rfl (by simp [Tryd.ntmps77]) ?_
  simp only [Tryd.ntmps77, Tryd.results77]
  simp [go_sem]
  refine vc_loop (fun i : Nat => i ≤ z.size ∧ ∀ j, j < i → isDg (byteAt z j) = true) (fun i => z.size - i) (fun i => .of [(0, .lit (.string z)), (3, .lit (.int .i64 i))] []) ⟨0, ⟨by omega, by simp⟩, ?_⟩ (fun i hi => ?_)
  · simp [go_sem]
  · simp [go_sem]
    refine ⟨fun h => ⟨h, vcall_pure (c_l2Digit (byteAt z i)) ?_ ?_⟩, fun h => ?_⟩
    · simp [go_sem]
    · simp [go_sem]
      refine ⟨fun e => ?_, fun e => ⟨i + 1, ⟨by omega, fun j hj => ?_⟩, by omega, wrap_succ (by omega)⟩⟩
      · simp only [numZ, all_false (p := fun i => isDg (byteAt z i)) h e, Bool.false_and]
      · rcases Nat.lt_succ_iff_lt_or_eq.mp hj with hj | rfl
        · exact hi.2 j hj
        · exact e
    · simp only [numZ, all_true (p := fun i => isDg (byteAt z i)) (n := z.size) fun j hj => hi.2 j (by omega), Bool.true_and]
theorem c_l2IsName (z : ByteArray) (hz : z.size ≤ 9223372036854775807) : VFun Tryd.prog 78 [.lit (.string z)] (fun av obs => obs = [] ∧ av = .lit (.bool (namZ z))) := by
  refine vfun_start Tryd.func78 (by kernel_rfl) rfl (by simp [Tryd.ntmps78]) ?_
  simp only [Tryd.ntmps78, Tryd.results78]
  simp [go_sem]
  refine vc_loop (fun i : Nat => i ≤ z.size ∧ ∀ j, j < i → namAt z j = true) (fun i => z.size - i) (fun i => .of [(0, .lit (.string z)), (3, .lit (.int .i64 i))] []) ⟨0, ⟨by omega, by simp⟩, ?_⟩ (fun i hi => ?_)
  · simp [go_sem]
  · simp [go_sem]
    refine ⟨fun h => ⟨h, vcall_pure (c_l2Letter (byteAt z i)) ?_ ?_⟩, fun h => ?_⟩
    · simp [go_sem]
    · have step : namAt z i = true → ∃ j : Nat, (j ≤ z.size ∧ ∀ q, q < j → namAt z q = true) ∧ z.size - j < z.size - i ∧ IntKind.i64.wrap ((i : Int) + 1) = j := fun e => ⟨i + 1, ⟨by omega, fun j hj => by
        rcases Nat.lt_succ_iff_lt_or_eq.mp hj with hj | rfl
        · exact hi.2 j hj
        · exact e⟩, by omega, wrap_succ (by omega)⟩
      have bad : namAt z i = false → namZ z = false := fun e => by simp only [namZ, all_false (p := fun i => namAt z i) h e, Bool.false_and]
      simp [go_sem]
      refine ⟨fun e1 => ⟨fun h0 => ⟨h, vcall_pure (c_l2Digit (byteAt z i)) ?_ ?_⟩, fun h0 => bad (by subst h0; simp [namAt, e1])⟩, fun e1 => step (by simp [namAt, e1])⟩
      · simp [go_sem]
      · simp [go_sem]
        exact ⟨fun e2 => bad (by simp [namAt, e1, e2]), fun e2 => step (by simp [namAt, e1, e2, h0])⟩
    · simp only [namZ, all_true (p := fun i => namAt z i) (n := z.size) fun j hj => hi.2 j (by omega), Bool.true_and]
/-! operators by their texts -/
def opHas (l : List POp) (z : ByteArray) (kd : Int) : Bool := (List.range l.length).any fun i => decide ((opAt l i).text = z) && decide ((opAt l i).kind = kd)
theorem c_l2Find (l : List POp) (hl : l.length ≤ 9223372036854775807) (z : ByteArray) (kd : Int) : VFun Tryd.prog 62 [.agg [.sl 4 l.length (opCells l)], .lit (.string z), .lit (.int .i64 kd)] (fun av obs => obs = [] ∧ ∃ r : Int, av = .lit (.int .i64 r) ∧ (0 ≤ r ↔ opHas l z kd = true)) := by
  have cl : ∀ (i : Nat) (c : AV), i < l.length → c ∈ opCells l i → Closed c := fun i c _ h => opClosed l i c h
  refine vfun_start Tryd.func62 (by kernel_rfl) rfl (by simp [Tryd.ntmps62]) ?_
  simp only [Tryd.ntmps62, Tryd.results62]
  simp [go_sem]
  refine vc_loop (fun i : Nat => i ≤ l.length ∧ ∀ j, j < i → ¬ ((opAt l j).text = z ∧ (opAt l j).kind = kd)) (fun i => l.length - i) (fun i => .of [(1, .lit (.string z)), (2, .lit (.int .i64 kd)), (3, .ptr 0 1 0 0), (7, .lit (.int .i64 i))] [some ⟨42, 1, 1, fun _ => [.sl 4 l.length (opCells l)]⟩]) ⟨0, ⟨by omega, by simp⟩, ?_⟩ (fun i hi => ?_)
  · simp [go_sem]
    exact cl
  · simp [go_sem, opCells_at, ba_toList]
    have step : ¬ ((opAt l i).text = z ∧ (opAt l i).kind = kd) → ∀ j, j < i + 1 → ¬ ((opAt l j).text = z ∧ (opAt l j).kind = kd) := fun e j hj => by
      rcases Nat.lt_succ_iff_lt_or_eq.mp hj with hj | rfl
      · exact hi.2 j hj
      · exact e
    refine ⟨by omega, fun h => ?_, fun h => ?_⟩
    · have cl2 : ∀ (i : Nat) (c : AV), i < l.length → c = AV.lit (Value.string (opAt l i).text) ∨ c = AV.lit (Value.int IntKind.i64 (opAt l i).kind) ∨ c = AV.lit (Value.int IntKind.i64 (opAt l i).level) ∨ c = AV.lit (Value.int IntKind.i64 (opAt l i).side) → Closed c := by
        rintro i c _ (rfl | rfl | rfl | rfl) <;> exact .lit _
      refine ⟨h, fun e1 => ⟨h, fun e2 => ?_, fun e2 => ⟨i + 1, ⟨by omega, fun j hj e3 e4 => step (fun e5 => e2 e5.2) j hj ⟨e3, e4⟩⟩, by omega, wrap_succ (by omega), cl2⟩⟩, fun e1 => ⟨i + 1, ⟨by omega, fun j hj e3 e4 => step (fun e5 => e1 e5.1) j hj ⟨e3, e4⟩⟩, by omega, wrap_succ (by omega), cl2⟩⟩
      simp only [opHas, List.any_eq_true, List.mem_range]
      exact ⟨i, h, by simp [e1, e2]⟩
    · simp only [opHas, List.any_eq_false, List.mem_range]
      exact fun j hj => by
        have := hi.2 j (by omega)
        simp only [Bool.and_eq_true, decide_eq_true_eq]
        exact this
end Go.Proofs.YtbjkgfooangjhaaDoor.V
/- Contracts: kids and texts of nodes. -/
namespace Go.Proofs.YtbjkgfooangjhaaDoor.V
open Go.RowKit
set_option linter.unusedVariables false
set_option linter.unusedSimpArgs false
set_option linter.constructorNameAsVariable false
theorem vfun_below {P : Program} {f : FuncId} {vs : List Value} {v : Value} (hf : FnOk P f) (h : ∀ w, Calls P f vs.toArray w fun e w' => e = .returned v ∧ Below w.heap.size w w') : VFun P f (vs.map .lit) (fun av obs => obs = [] ∧ av = .lit v) := by
  refine ⟨hf, fun w us hl hu => ?_⟩
  have e : us = vs := by
    have hl' : vs.length = us.length := by simpa using hl
    apply List.ext_getElem hl'.symm
    intro j h1 h2
    have := hu j (.lit vs[j]) us[j] (by simp [h2]) (List.getElem?_eq_getElem h1)
    generalize us[j] = x at this
    generalize vs[j] = y at this
    cases this
    rfl
  subst e
  refine (h w).mono fun e w' ⟨he, hw⟩ => ?_
  subst he
  exact ⟨v, rfl, ⟨hw.os, hw.tape, hw.output, hw.size, fun k hk _ => hw.block k hk⟩, fun _ => undef, .lit v, [], ⟨rfl, rfl⟩, rfl, fun ob h => by simp at h, ⟨fun k ob h => by simp at h, fun k ob h => by simp at h, fun k h => by simp at h, fun k k' ob ob' h => by simp at h⟩, .lit v⟩
def digitBytes : ByteArray := { data := #[48, 49, 50, 51, 52, 53, 54, 55, 56, 57] }
theorem contains_digit (b : UInt8) : digitBytes.data.toList.contains b = isDg b.toNat := by
  revert b
  have h : (List.range 256).all (fun n => digitBytes.data.toList.contains n.toUInt8 == isDg n) = true := by kernel_rfl
  intro b
  have := List.all_eq_true.mp h b.toNat (List.mem_range.mpr b.toNat_lt)
  simpa using this
theorem dropWhile_all {α : Type} {p : α → Bool} {l : List α} : l.dropWhile p = [] ↔ ∀ x, x ∈ l → p x = true := by
  induction l with
  | nil => simp
  | cons a l ih =>
    rw [List.dropWhile_cons]
    split
    · rename_i h; simp [ih, h]
    · rename_i h; simp [h]
theorem trim_nil {l cs : List UInt8} : Lib.trimS l cs = [] ↔ ∀ x, x ∈ l → cs.contains x = true := by
  unfold Lib.trimS Lib.trimLeftS
  rw [dropWhile_all]
  unfold Lib.trimRightS
  constructor
  · intro h x hx
    have hd : l = (l.reverse.dropWhile (cs.contains ·)).reverse ++ (l.reverse.takeWhile (cs.contains ·)).reverse := by
      rw [← List.reverse_append, List.takeWhile_append_dropWhile, List.reverse_reverse]
    rw [hd, List.mem_append] at hx
    rcases hx with hx | hx
    · exact h x hx
    · rw [List.mem_reverse] at hx
      exact List.all_eq_true.mp (List.all_takeWhile (p := (cs.contains ·)) (l := l.reverse)) x hx
  · intro h x hx
    rw [List.mem_reverse] at hx
    exact h x (List.mem_reverse.mp ((List.dropWhile_sublist _).subset hx))
def trimDg (z : ByteArray) : ByteArray := ⟨(Lib.trimS z.data.toList digitBytes.data.toList).toArray⟩
theorem trimDg_num (z : ByteArray) (h : 0 < z.size) : decide (trimDg z = ⟨#[]⟩) = numZ z := by
  have e : trimDg z = ⟨#[]⟩ ↔ ∀ i, i < z.size → isDg (byteAt z i) = true := by
    unfold trimDg
    rw [ByteArray.mk.injEq, Array.mk.injEq, trim_nil]
    simp only [contains_digit]
    constructor
    · intro h i hi
      have := h (z.data.toList[i]'hi) (List.getElem_mem _)
      unfold byteAt
      rw [dif_pos hi]
      exact this
    · intro h x hx
      obtain ⟨i, hi, rfl⟩ := List.getElem_of_mem hx
      have := h i hi
      unfold byteAt at this
      rw [dif_pos (show i < z.size from hi)] at this
      exact this
  rw [Bool.eq_iff_iff, decide_eq_true_eq, e]
  simp only [numZ, h, decide_true, Bool.and_true, List.all_eq_true, List.mem_range]
theorem c_trim (z : ByteArray) (hz : z.size ≤ 9223372036854775807) : VFun Tryd.prog 80 [.lit (.string z), .lit (.string digitBytes)] (fun av obs => obs = [] ∧ av = .lit (.string (trimDg z))) :=
  vfun_below (vs := [.string z, .string digitBytes]) ⟨_, Tryd.func80, rfl, rfl⟩ (fun w => Any.strings_Trim_laid Tryd.lays160 (by kernel_rfl) z digitBytes w hz (by decide) (ascii_of_all (by decide)))
theorem ba_nil {z : ByteArray} : z.toList = [] ↔ z.size = 0 := by
  rw [ByteArray.toList_eq]
  constructor
  · intro h
    show z.data.size = 0
    rw [← Array.length_toList, h]; rfl
  · intro h
    apply List.eq_nil_of_length_eq_zero
    rw [Array.length_toList]; exact h
theorem ba_empty {z : ByteArray} : z.toList.isEmpty = decide (z = ⟨#[]⟩) := by
  rw [Bool.eq_iff_iff, List.isEmpty_iff, decide_eq_true_iff, ba_nil]
  constructor
  · intro h
    exact ByteArray.ext (Array.eq_empty_of_size_eq_zero h)
  · intro h
    rw [h]; rfl
theorem c_nameOk (z : ByteArray) (hz : z.size ≤ 9223372036854775807) : VFun Tryd.prog 81 [.lit (.string z)] (fun av obs => obs = [] ∧ av = .lit (.bool (namZ z))) := by
  refine vfun_start Tryd.func81 (by kernel_rfl) rfl (by simp [Tryd.ntmps81]) ?_
  simp only [Tryd.ntmps81, Tryd.results81]
  simp [go_sem]
  have emp : z.toList = [] → namZ z = false := fun h => by simp [namZ, ba_nil.mp h]
  refine ⟨fun h0 => ⟨by have := mt ba_nil.mpr h0; omega, vcall_pure (c_isLetter (byteAt z 0)) ?_ ?_⟩, emp⟩
  · simp [go_sem]
  · have hp : 0 < z.size := by have := mt ba_nil.mpr h0; omega
    simp [go_sem]
    refine ⟨fun e => by simp only [namZ, all_false (p := fun i => namAt z i) hp (by simp [namAt, e]), Bool.false_and], fun e => ?_⟩
    refine vc_loop (fun i : Nat => i ≤ z.size ∧ ∀ j, j < i → namAt z j = true) (fun i => z.size - i) (fun i => .of [(0, .lit (.string z)), (13, .lit (.int .i64 z.size)), (14, .lit (.int .i64 i))] []) ⟨0, ⟨by omega, by simp⟩, ?_⟩ (fun i hi => ?_)
    · simp [go_sem]
    · simp [go_sem]
      have bad : i < z.size → namAt z i = false → namZ z = false := fun h e => by simp only [namZ, all_false (p := fun i => namAt z i) h e, Bool.false_and]
      have step : i < z.size → namAt z i = true → ∃ j : Nat, (j ≤ z.size ∧ ∀ q, q < j → namAt z q = true) ∧ z.size - j < z.size - i ∧ IntKind.i64.wrap ((i : Int) + 1) = j := fun hl e => ⟨i + 1, ⟨by omega, fun j hj => by
        rcases Nat.lt_succ_iff_lt_or_eq.mp hj with hj | rfl
        · exact hi.2 j hj
        · exact e⟩, by omega, wrap_succ (by omega)⟩
      refine ⟨fun h => ⟨h, vcall_pure (c_isLetter (byteAt z i)) ?_ ?_⟩, fun h => by simp only [namZ, all_true (p := fun i => namAt z i) (n := z.size) fun j hj => hi.2 j (by omega), Bool.true_and, hp, decide_true]⟩
      · simp [go_sem]
      · simp [go_sem]
        refine ⟨fun e1 => ⟨h, vcall_pure (c_isDigit (byteAt z i)) ?_ ?_⟩, fun e1 => step h (by simp [namAt, e1])⟩
        · simp [go_sem]
        · have h0 : i ≠ 0 := fun hz => by subst hz; rw [e] at e1; cases e1
          simp [go_sem]
          exact ⟨fun e2 => bad h (by simp [namAt, e1, e2]), fun e2 => step h (by simp [namAt, e1, e2, h0])⟩
def kidsN (k : Int) : Int := if k = 4 then 2 else if k = 3 ∨ k = 5 ∨ k = 6 then 1 else 0
theorem c_l3Kids (k : Int) : VFun Tryd.prog 53 [.lit (.int .i64 k)] (fun av obs => obs = [] ∧ av = .lit (.int .i64 (kidsN k))) := by
  refine vfun_start Tryd.func53 (by kernel_rfl) rfl (by simp [Tryd.ntmps53]) ?_
  simp only [Tryd.ntmps53, Tryd.results53]
  simp [go_sem]
  by_cases h1 : k = 4
  · simp [kidsN, h1]
  · by_cases h2 : k = 3 <;> by_cases h3 : k = 5 <;> by_cases h4 : k = 6 <;> simp [kidsN, h1, h2, h3, h4]
theorem c_kids (o : PNode) (h : 1 ≤ o.kind ∧ o.kind ≤ 6) : VFun Tryd.prog 29 [.agg o.cells] (fun av obs => obs = [] ∧ av = .lit (.int .i64 (kidsN o.kind))) := by
  obtain ⟨z, k, x, y⟩ := o
  simp only [PNode.cells] at h ⊢
  refine vfun_start Tryd.func29 (by kernel_rfl) rfl (by simp [Tryd.ntmps29]) ?_
  simp only [Tryd.ntmps29, Tryd.results29]
  simp [go_sem]
  have hk : k = 1 ∨ k = 2 ∨ k = 3 ∨ k = 4 ∨ k = 5 ∨ k = 6 := by omega
  rcases hk with rfl | rfl | rfl | rfl | rfl | rfl <;> simp [kidsN]
def txtOk (o : PNode) : Bool := decide (o.text.size ≤ 20000) && (if o.kind = 1 then numZ o.text else if o.kind = 2 then namZ o.text else if o.kind = 6 then decide (o.text = ⟨#[]⟩) else decide (3 ≤ o.kind ∧ o.kind ≤ 5) && sgOk o.text)
theorem c_l3TextOk (o : PNode) (ho : o.wf) : VFun Tryd.prog 52 [.agg o.cells] (fun av obs => obs = [] ∧ av = .lit (.bool (txtOk o))) := by
  obtain ⟨z, k, x, y⟩ := o
  simp only [PNode.cells, PNode.wf, maxLen] at ho ⊢
  refine vfun_start Tryd.func52 (by kernel_rfl) rfl (by simp [Tryd.ntmps52]) ?_
  simp only [Tryd.ntmps52, Tryd.results52]
  simp [go_sem]
  refine ⟨fun h => by simp [txtOk]; omega, fun h => ⟨fun h1 => ?_, fun h1 => ⟨fun h2 => ?_, fun h2 => ?_⟩⟩⟩
  · refine vcall_pure (c_l2IsNumber z (by omega)) ?_ ?_
    · simp [go_sem]
    · simp [go_sem, txtOk, h1]
      omega
  · refine vcall_pure (c_l2IsName z (by omega)) ?_ ?_
    · simp [go_sem]
    · simp [go_sem, txtOk, h2]
      omega
  · have hs : z.size ≤ 20000 := by omega
    refine ⟨fun h3 => by simp [txtOk, h1, h2, h3, hs, ba_empty], fun h3 => ⟨fun h4 => ⟨fun h5 => vcall_pure (c_l1Signs z (by simp only [maxLen]; omega)) ?_ ?_, fun h5 => ?_⟩, fun h4 => ?_⟩⟩
    · simp [go_sem]
    · simp [go_sem, txtOk, h1, h2, h3, h4, h5, hs]
    · simp [go_sem, txtOk, h1, h2, h3, hs]
      intros; omega
    · simp [go_sem, txtOk, h1, h2, h3, hs]
      intros; omega
theorem c_textOk (o : PNode) (ho : o.wf) : VFun Tryd.prog 55 [.agg o.cells] (fun av obs => obs = [] ∧ av = .lit (.bool (txtOk o))) := by
  obtain ⟨z, k, x, y⟩ := o
  simp only [PNode.cells, PNode.wf, maxLen] at ho ⊢
  refine vfun_start Tryd.func55 (by kernel_rfl) rfl (by simp [Tryd.ntmps55]) ?_
  simp only [Tryd.ntmps55, Tryd.results55]
  simp [go_sem]
  refine ⟨fun h => by simp [txtOk]; omega, fun h => ⟨fun h1 => ⟨fun h0 => ?_, fun h0 => ?_⟩, fun h1 => ⟨fun h2 => ?_, fun h2 => ?_⟩⟩⟩
  · refine vcall_pure (c_trim z (by omega)) ?_ ?_
    · simp [go_sem, digitBytes]
    · simp [go_sem, txtOk, h1, ba_empty]
      rw [trimDg_num z (by have := mt ba_nil.mpr h0; omega)]
      simp [show z.size ≤ 20000 by omega]
  · simp [txtOk, h1, numZ, ba_nil.mp h0]
  · refine vcall_pure (c_nameOk z (by omega)) ?_ ?_
    · simp [go_sem]
    · simp [go_sem, txtOk, h2]
      omega
  · have hs : z.size ≤ 20000 := by omega
    have sg := c_signsOk z (by simp only [maxLen]; omega)
    by_cases h3 : k = 3 ∨ k = 4 ∨ k = 5
    · rcases h3 with rfl | rfl | rfl
      all_goals
        simp
        refine vcall_pure sg ?_ ?_
        · simp [go_sem]
        · simp [go_sem, txtOk, hs]
    · have h4 : ¬ k = 3 := by omega
      have h5 : ¬ k = 4 := by omega
      have h6 : ¬ k = 5 := by omega
      simp [h4, h5, h6]
      refine ⟨fun h7 => by simp [txtOk, h7, hs, ba_empty], fun h7 => ?_⟩
      simp [txtOk, h1, h2, h7, hs]
      intros; omega
end Go.Proofs.YtbjkgfooangjhaaDoor.V
/- Contracts: numbers compared, marked, read again. -/
namespace Go.Proofs.YtbjkgfooangjhaaDoor.V
open Go.RowKit
set_option linter.unusedVariables false
set_option linter.unusedSimpArgs false
set_option linter.constructorNameAsVariable false
def intAt (l : List Int) (i : Nat) : Int := l.getD i 0
def intCells (l : List Int) (i : Nat) : List AV := [.lit (.int .i64 (intAt l i))]
theorem intCells_at (l : List Int) (i : Nat) : intCells l i = [.lit (.int .i64 (intAt l i))] := rfl
theorem intClosed (l : List Int) (i : Nat) (c : AV) (h : c ∈ intCells l i) : Closed c := by
  simp [intCells] at h
  subst h
  exact .lit _
def intsEq (a b : List Int) : Bool := decide (a.length = b.length) && (List.range a.length).all fun i => intAt a i == intAt b i
theorem intsEq_false {a b : List Int} {i : Nat} (h : i < a.length) (e : ¬ intAt a i = intAt b i) : intsEq a b = false := by
  simp only [intsEq, Bool.and_eq_false_iff, List.all_eq_false, List.mem_range]
  exact .inr ⟨i, h, by simpa using e⟩
theorem intsEq_true {a b : List Int} (hl : a.length = b.length) (h : ∀ i, i < a.length → intAt a i = intAt b i) : intsEq a b = true := by
  simp only [intsEq, Bool.and_eq_true, decide_eq_true_eq, List.all_eq_true, List.mem_range, beq_iff_eq]
  exact ⟨hl, h⟩
theorem intsEq_refl (a : List Int) : intsEq a a = true := intsEq_true rfl fun i _ => rfl
/-! marks -/
def markI (k i : Nat) : List AV := [.lit (.int .i64 (k + i : Nat))]
theorem markI_at (k i : Nat) : markI k i = [.lit (.int .i64 (k + i : Nat))] := rfl
theorem markIClosed (k i : Nat) (c : AV) (h : c ∈ markI k i) : Closed c := by
  simp [markI] at h
  subst h
  exact .lit _
def markIFill (l : List Int) (k i j : Nat) : List AV := if j < i then markI k j else intCells l j
theorem markIFill_bd (l : List Int) (k i j m : Nat) : ∀ c, c ∈ markIFill l k i j → Bd m c := by
  intro c h
  unfold markIFill at h
  split at h
  · exact .closed _ (markIClosed k j c h)
  · exact .closed _ (intClosed l j c h)
@[go_sem] theorem markI_ren {g : Nat → Nat} {k i : Nat} : (markI k i).map (ren1 g) = markI k i := map_lits rfl
@[go_sem] theorem intCells_ren {g : Nat → Nat} {l : List Int} {i : Nat} : (intCells l i).map (ren1 g) = intCells l i := map_lits rfl
end Go.Proofs.YtbjkgfooangjhaaDoor.V
/- Contracts: trees in order. -/
namespace Go.Proofs.YtbjkgfooangjhaaDoor.V
open Go.RowKit
set_option linter.unusedVariables false
set_option linter.unusedSimpArgs false
set_option linter.constructorNameAsVariable false
def fromS (l : List PNode) (n : Nat) : {f : Int // f ≤ n} :=
  if kidsN (nodAt l n).kind = 0 then (if (nodAt l n).a ≠ 0 ∨ (nodAt l n).b ≠ 0 then ⟨-1, by omega⟩ else ⟨n, by omega⟩)
  else if h0 : n = 0 then ⟨-1, by omega⟩
  else if kidsN (nodAt l n).kind = 1 then (if (nodAt l n).a ≠ (n : Int) - 1 ∨ (nodAt l n).b ≠ 0 then ⟨-1, by omega⟩ else match fromS l (n - 1) with | ⟨f, hf⟩ => ⟨f, by omega⟩)
  else if (nodAt l n).b ≠ (n : Int) - 1 then ⟨-1, by omega⟩
  else match fromS l (n - 1) with
    | ⟨f, hf⟩ => if h : f < 1 ∨ (nodAt l n).a ≠ f - 1 then ⟨-1, by omega⟩ else match fromS l (f - 1).toNat with | ⟨g, hg⟩ => ⟨g, by omega⟩
termination_by n
decreasing_by all_goals omega
/-- the first place of the stretch of node i, -1 when the nodes do not stand in order -/
def fromZ (l : List PNode) (i : Int) : Int := if i < 0 then -1 else (fromS l i.toNat).1
theorem kidsN_cases (k : Int) : kidsN k = 0 ∨ kidsN k = 1 ∨ kidsN k = 2 := by
  unfold kidsN; split <;> (try split) <;> simp
theorem fromZ_neg (l : List PNode) {i : Int} (h : i < 0) : fromZ l i = -1 := if_pos h
theorem fromZ_le (l : List PNode) {i : Int} (h : 0 ≤ i) : fromZ l i ≤ i := by
  unfold fromZ
  rw [if_neg (by omega)]
  have := (fromS l i.toNat).2
  omega
theorem fromZ_nat (l : List PNode) (n : Nat) : fromZ l n = (fromS l n).1 := by
  unfold fromZ
  rw [if_neg (by omega), Int.toNat_natCast]
theorem fromZ_eq (l : List PNode) (n : Nat) : fromZ l n = if kidsN (nodAt l n).kind = 0 then (if (nodAt l n).a ≠ 0 ∨ (nodAt l n).b ≠ 0 then -1 else (n : Int))
    else if kidsN (nodAt l n).kind = 1 then (if (nodAt l n).a ≠ (n : Int) - 1 ∨ (nodAt l n).b ≠ 0 then -1 else fromZ l ((n : Int) - 1))
    else if (nodAt l n).b ≠ (n : Int) - 1 then -1
    else if fromZ l ((n : Int) - 1) < 1 ∨ (nodAt l n).a ≠ fromZ l ((n : Int) - 1) - 1 then -1 else fromZ l (fromZ l ((n : Int) - 1) - 1) := by
  rw [fromZ_nat, fromS]
  by_cases h0 : kidsN (nodAt l n).kind = 0
  · simp only [h0, if_true]
    split <;> rfl
  · simp only [h0, if_false]
    by_cases hn : n = 0
    · subst hn
      have e : fromZ l (((0 : Nat) : Int) - 1) = -1 := fromZ_neg l (by omega)
      simp only [e, dite_true]
      split
      · split <;> rfl
      · split
        · rfl
        · rw [if_pos (.inl (by omega))]
    · have e : ((n : Nat) : Int) - 1 = (n - 1 : Nat) := by omega
      have e2 : fromZ l ((n - 1 : Nat) : Int) = (fromS l (n - 1)).1 := fromZ_nat l (n - 1)
      simp only [hn, dite_false]
      split
      · split
        · rfl
        · rw [e, e2]
      · split
        · rfl
        · simp only [e, e2]
          generalize fromS l (n - 1) = y
          obtain ⟨f, hf⟩ := y
          simp only
          split
          · rfl
          · rename_i h
            unfold fromZ
            rw [if_neg (by omega)]
theorem fromZ_ge (l : List PNode) (i : Int) : -1 ≤ fromZ l i := by
  have key : ∀ (g : Nat) (i : Int), i < g → -1 ≤ fromZ l i := by
    intro g
    induction g with
    | zero => intro i h; rw [fromZ_neg l (by omega)]; decide
    | succ g ih =>
      intro i h
      by_cases hi : i < 0
      · rw [fromZ_neg l hi]; decide
      · obtain ⟨n, rfl⟩ := Int.eq_ofNat_of_zero_le (show 0 ≤ i by omega)
        rw [fromZ_eq]
        split
        · split <;> omega
        · split
          · split
            · decide
            · exact ih _ (by omega)
          · split
            · decide
            · split
              · decide
              · rename_i h3
                by_cases hn : n = 0
                · subst hn
                  rw [fromZ_neg l (i := ((0 : Nat) : Int) - 1) (by omega)] at h3
                  omega
                · have := fromZ_le l (i := (n : Int) - 1) (by omega)
                  exact ih _ (by omega)
  exact key (i.toNat + 1) i (by omega)
/-- in a tree in order every node stands in order -/
theorem fromZ_all (l : List PNode) : ∀ (n : Nat) (j : Nat), 0 ≤ fromZ l n → fromZ l n ≤ j → j ≤ n → 0 ≤ fromZ l j := by
  intro n
  induction n using Nat.strongRecOn with
  | ind n ih =>
    intro j h0 hj hn
    by_cases hjn : j = n
    · subst hjn; exact h0
    · rw [fromZ_eq] at h0 hj
      split at h0
      · rename_i hk
        split at h0
        · omega
        · rename_i h1
          simp only [hk, if_true, if_neg h1] at hj
          omega
      · rename_i hk
        have hn1 : ((n : Int) - 1) = ((n - 1 : Nat) : Int) := by omega
        split at h0
        · rename_i hk1
          split at h0
          · omega
          · rename_i h1
            simp only [hk1, if_true, if_neg h1, if_neg (show ¬ (1 : Int) = 0 by decide)] at hj
            rw [hn1] at h0 hj
            exact ih (n - 1) (by omega) j h0 hj (by omega)
        · rename_i hk1
          split at h0
          · omega
          · rename_i h1
            split at h0
            · omega
            · rename_i h2
              simp only [if_neg hk, if_neg hk1, if_neg h1, if_neg h2] at hj
              rw [hn1] at h0 hj h2
              have hle := fromZ_le l (i := ((n - 1 : Nat) : Int)) (by omega)
              by_cases hs : fromZ l ((n - 1 : Nat) : Int) ≤ j
              · exact ih (n - 1) (by omega) j (by omega) hs (by omega)
              · have e : fromZ l ((n - 1 : Nat) : Int) - 1 = ((fromZ l ((n - 1 : Nat) : Int) - 1).toNat : Int) := by omega
                rw [e] at h0 hj
                exact ih _ (by omega) j h0 hj (by omega)
def inOrd (l : List PNode) : Bool := decide (1 ≤ l.length ∧ l.length ≤ 20000) && decide (fromZ l ((l.length : Int) - 1) = 0) && (List.range l.length).all fun i => txtOk (nodAt l i)
theorem txtOk_range {o : PNode} (h : ¬ (1 ≤ o.kind ∧ o.kind ≤ 6)) : txtOk o = false := by
  have h1 : ¬ o.kind = 1 := by omega
  have h2 : ¬ o.kind = 2 := by omega
  have h3 : ¬ o.kind = 6 := by omega
  simp only [txtOk, h1, h2, h3, if_false]
  have h4 : decide (3 ≤ o.kind ∧ o.kind ≤ 5) = false := decide_eq_false (by omega)
  rw [h4]; simp
theorem c_l3From_step (l : List PNode) (hl : l.length ≤ 9223372036854775807) (i : Int) (h1 : -1 ≤ i) (h2 : i < l.length)
    (ih : ∀ j : Int, -1 ≤ j → j < i → VFun Tryd.prog 51 [.sl 4 l.length (nodCells l), .lit (.int .i64 j)] (fun av obs => obs = [] ∧ av = .lit (.int .i64 (fromZ l j)))) :
    VFun Tryd.prog 51 [.sl 4 l.length (nodCells l), .lit (.int .i64 i)] (fun av obs => obs = [] ∧ av = .lit (.int .i64 (fromZ l i))) := by
  have cl : ∀ (i : Nat) (c : AV), i < l.length → c ∈ nodCells l i → Closed c := fun i c _ h => nodClosed l i c h
  refine vfun_start Tryd.func51 (by kernel_rfl) rfl (by simp [Tryd.ntmps51]) ?_
  simp only [Tryd.ntmps51, Tryd.results51]
  simp [go_sem]
  refine ⟨fun h => (fromZ_neg l h).symm, fun h => ?_⟩
  obtain ⟨n, rfl⟩ := Int.eq_ofNat_of_zero_le h
  have eq := fromZ_eq l n
  have le1 : fromZ l ((n : Int) - 1) ≤ n := by
    by_cases hn : n = 0
    · subst hn; rw [fromZ_neg l (by omega)]; decide
    · have := fromZ_le l (i := (n : Int) - 1) (by omega)
      omega
  have le0 : 1 ≤ fromZ l ((n : Int) - 1) → fromZ l ((n : Int) - 1) ≤ (n : Int) - 1 := fun h => by
    by_cases hn : n = 0
    · subst hn; rw [fromZ_neg l (by omega)] at h; omega
    · exact fromZ_le l (by omega)
  have ge1 : -1 ≤ fromZ l ((n : Int) - 1) := fromZ_ge l _
  have e1 : IntKind.i64.wrap ((n : Int) - 1) = (n : Int) - 1 := wrap_i64 (by omega)
  simp [go_sem, nodCells_at]
  refine ⟨by omega, vcall_pure (c_l3Kids (nodAt l n).kind) ?_ ?_⟩
  · simp [go_sem]
  · simp [go_sem]
    refine ⟨fun k0 => ?_, fun k0 => vcall_pure (c_l3Kids (nodAt l n).kind) ?_ ?_⟩
    · simp only [k0, if_true] at eq
      rw [eq]
      clear eq
      by_cases ha : (nodAt l n).a = 0 <;> by_cases hb : (nodAt l n).b = 0 <;> simp [ha, hb]
    · simp [go_sem]
    · simp only [k0, if_false] at eq
      simp [go_sem, e1]
      refine ⟨fun k1 => ?_, fun k1 => ?_⟩
      · have k10 : ¬ (1 : Int) = 0 := by decide
        simp only [k1, if_true, k10, if_false] at eq
        refine ⟨fun ha => ⟨fun hb => by rw [eq, if_pos (.inr hb)], fun hb => vcall_pure (ih ((n : Int) - 1) (by omega) (by omega)) ?_ ?_⟩, fun ha => by rw [eq, if_pos (.inl ha)]⟩
        · simp [go_sem]
          exact argSl_refl (by omega) cl
        · simp [go_sem]
          rw [eq, if_neg (by rintro (h | h) <;> omega)]
      · simp only [k1, if_false] at eq
        refine ⟨fun hb => by rw [eq, if_pos hb], fun hb => vcall_pure (ih ((n : Int) - 1) (by omega) (by omega)) ?_ ?_⟩
        · simp [go_sem]
          exact argSl_refl (by omega) cl
        · have e2 : IntKind.i64.wrap (fromZ l ((n : Int) - 1) - 1) = fromZ l ((n : Int) - 1) - 1 := wrap_i64 (by omega)
          rw [if_neg (by omega)] at eq
          by_cases hf : fromZ l ((n : Int) - 1) < 1
          · rw [if_pos (.inl hf)] at eq
            simp [go_sem, hf, eq]
          · simp [go_sem, hf, e2]
            refine ⟨fun ha => by rw [eq, if_pos (.inr ha)], fun ha => vcall_pure (ih (fromZ l ((n : Int) - 1) - 1) (by omega) (by omega)) ?_ ?_⟩
            · simp [go_sem]
              exact argSl_refl (by omega) cl
            · simp [go_sem]
              rw [eq, if_neg (by rintro (h | h) <;> omega)]
theorem c_l3From (l : List PNode) (hl : l.length ≤ 9223372036854775807) : ∀ (g : Nat) (i : Int), i < g → -1 ≤ i → i < l.length → VFun Tryd.prog 51 [.sl 4 l.length (nodCells l), .lit (.int .i64 i)] (fun av obs => obs = [] ∧ av = .lit (.int .i64 (fromZ l i))) := by
  intro g
  induction g with
  | zero => exact fun i h1 h2 h3 => c_l3From_step l hl i h2 h3 fun j h4 h5 => absurd h5 (by omega)
  | succ g ih => exact fun i h1 h2 h3 => c_l3From_step l hl i h2 h3 fun j h4 h5 => ih j (by omega) h4 (by omega)
theorem c_l3InOrder (l : List PNode) (hl : l.length ≤ 9223372036854775807) (hw : ∀ i, i < l.length → (nodAt l i).wf) : VFun Tryd.prog 25 [.agg [.sl 4 l.length (nodCells l)]] (fun av obs => obs = [] ∧ av = .lit (.bool (inOrd l))) := by
  have cl : ∀ (i : Nat) (c : AV), i < l.length → c ∈ nodCells l i → Closed c := fun i c _ h => nodClosed l i c h
  refine vfun_start Tryd.func25 (by kernel_rfl) rfl (by simp [Tryd.ntmps25]) ?_
  simp only [Tryd.ntmps25, Tryd.results25]
  simp [go_sem]
  have hw1 : 1 ≤ l.length → IntKind.i64.wrap ((l.length : Int) - 1) = (l.length : Int) - 1 := fun h => wrap_i64 (by omega)
  refine ⟨by omega, fun h1 => ⟨by omega, fun h2 => ⟨by omega, ?_⟩, fun h2 => ?_⟩, fun h1 => ?_⟩
  · rw [hw1 (by omega)]
    refine vcall_pure (c_l3From l hl l.length ((l.length : Int) - 1) (by omega) (by omega) (by omega)) ?_ ?_
    · simp [go_sem]
      exact argSl_refl (by omega) cl
    · simp [go_sem]
      refine ⟨fun hf => by simp [inOrd, hf], fun hf => ?_⟩
      refine vc_loop (fun i : Nat => i ≤ l.length ∧ ∀ j, j < i → txtOk (nodAt l j) = true) (fun i => l.length - i) (fun i => .of [(3, .sl 4 l.length (nodCells l)), (4, .lit (.int .i64 i))] []) ⟨0, ⟨by omega, by simp⟩, ?_⟩ (fun i hi => ?_)
      · simp [go_sem]
        exact cl
      · simp [go_sem, nodCells_at]
        refine ⟨by omega, fun h => ⟨h, vcall_pure (c_l3TextOk (nodAt l i) (hw i h)) ?_ ?_⟩, fun h => ?_⟩
        · simp [go_sem, PNode.cells]
        · simp [go_sem]
          refine ⟨fun e => ?_, fun e => ⟨i + 1, ⟨by omega, fun j hj => ?_⟩, by omega, cl, wrap_succ (by omega)⟩⟩
          · simp only [inOrd, all_false (p := fun i => txtOk (nodAt l i)) h e, Bool.and_false]
          · rcases Nat.lt_succ_iff_lt_or_eq.mp hj with hj | rfl
            · exact hi.2 j hj
            · exact e
        · simp only [inOrd, all_true (p := fun i => txtOk (nodAt l i)) (n := l.length) fun j hj => hi.2 j (by omega), hf, decide_true, Bool.and_true, decide_eq_true_eq]
          omega
  · have : ¬ (1 ≤ l.length ∧ l.length ≤ 20000) := by omega
    simp [inOrd, this]
  · have : ¬ (1 ≤ l.length ∧ l.length ≤ 20000) := by omega
    simp [inOrd, this]
/-- what impl.inOrder has written of a row of places -/
def stN (l : List PNode) (i j : Nat) : Int := if j < i then fromZ l j else 0
def stFill (l : List PNode) (i j : Nat) : List AV := [.lit (.int .i64 (stN l i j))]
theorem stFill_at (l : List PNode) (i j : Nat) : stFill l i j = [.lit (.int .i64 (stN l i j))] := rfl
set_option maxRecDepth 100000 in
theorem c_inOrder (l : List PNode) (hl : l.length ≤ 9223372036854775807) (hw : ∀ i, i < l.length → (nodAt l i).wf) : VFun Tryd.prog 28 [.agg [.sl 4 l.length (nodCells l)]] (fun av obs => obs = [] ∧ av = .lit (.bool (inOrd l))) := by
  have cl : ∀ (i : Nat) (c : AV), i < l.length → c ∈ nodCells l i → Closed c := fun i c _ h => nodClosed l i c h
  have bad : ∀ i : Nat, i < l.length → fromZ l i < 0 → inOrd l = false := fun i hi hf => by
    simp only [inOrd, Bool.and_eq_false_iff, decide_eq_false_iff_not]
    refine .inl (.inr fun e => ?_)
    have e1 : (l.length : Int) - 1 = ((l.length - 1 : Nat) : Int) := by omega
    rw [e1] at e
    have := fromZ_all l (l.length - 1) i (by omega) (by omega) (by omega)
    omega
  have badT : ∀ i : Nat, i < l.length → txtOk (nodAt l i) = false → inOrd l = false := fun i hi e => by
    simp only [inOrd, all_false (p := fun i => txtOk (nodAt l i)) hi e, Bool.and_false]
  have badL : ¬ (1 ≤ l.length ∧ l.length ≤ 20000) → inOrd l = false := fun h => by simp [inOrd, h]
  refine vfun_start Tryd.func28 (by kernel_rfl) rfl (by simp [Tryd.ntmps28]) ?_
  simp only [Tryd.ntmps28, Tryd.results28]
  simp [go_sem]
  refine ⟨by omega, fun h1 => ⟨by omega, fun h2 => badL (by omega), fun h2 => ⟨by omega, by omega, by omega, by omega, ?_⟩⟩, fun h1 => badL (by omega)⟩
  refine vc_loop (fun i : Nat => i ≤ l.length ∧ ∀ j, j < i → txtOk (nodAt l j) = true ∧ 0 ≤ fromZ l j) (fun i => l.length - i)
    (fun i => .of [(3, .own 1), (21, .sl 4 l.length (nodCells l)), (22, .lit (.int .i64 l.length)), (23, .lit (.int .i64 i))] [some ⟨28, 1, 1, fun _ => [.sl 4 l.length (nodCells l)]⟩, some ⟨3, 1, l.length, stFill l i⟩]) ⟨0, ⟨by omega, by simp⟩, ?_⟩ (fun i hi => ?_)
  · simp [go_sem, stFill, stN]
    exact cl
  · simp [go_sem, nodCells_at]
    refine ⟨fun h => ⟨h, fun k1 => ⟨fun k6 => vcall_pure (c_textOk (nodAt l i) (hw i h)) ?_ ?_, fun k6 => badT i h (txtOk_range (by omega))⟩, fun k1 => badT i h (txtOk_range (by omega))⟩, fun h => ?_⟩
    · simp [go_sem, PNode.cells]
    · simp [go_sem]
      refine ⟨fun e => badT i h e, fun e => vcall_pure (c_kids (nodAt l i) (by omega)) ?_ ?_⟩
      · simp [go_sem, PNode.cells]
      · have hin : ∀ j : Nat, j < i → stN l i j = fromZ l j := fun j hj => if_pos hj
        have hi1 : 1 ≤ i → stN l i (i - 1) = fromZ l ((i : Int) - 1) := fun h1 => by rw [hin _ (by omega)]; congr 1; omega
        have e1 : IntKind.i64.wrap ((i : Int) - 1) = (i : Int) - 1 := wrap_i64 (by omega)
        have n1 : ((i : Int) - 1).toNat = i - 1 := by omega
        have eq := fromZ_eq l i
        have step : ∀ v : Int, v = fromZ l i → 0 ≤ v → ∃ j, (j ≤ l.length ∧ ∀ (j_1 : Nat), j_1 < j → txtOk (nodAt l j_1) = true ∧ 0 ≤ fromZ l j_1) ∧ l.length - j < l.length - i ∧
            ((∀ (i : Nat) (c : AV), i < l.length → c ∈ nodCells l i → Closed c) ∧ IntKind.i64.wrap ((i : Int) + 1) = j) ∧ (∀ (i : Nat) (c : AV), i < l.length → c ∈ nodCells l i → Closed c) ∧
            ∀ (i_1 : Nat), i_1 < l.length → updF l.length (stFill l i) i 0 [AV.lit (Value.int IntKind.i64 v)] i_1 = [AV.lit (Value.int IntKind.i64 (stN l j i_1))] := by
          rintro v rfl hv
          refine ⟨i + 1, ⟨by omega, fun j hj => ?_⟩, by omega, ⟨cl, wrap_succ (by omega)⟩, cl, fun j hj => ?_⟩
          · rcases Nat.lt_succ_iff_lt_or_eq.mp hj with hj | rfl
            · exact hi.2 j hj
            · exact ⟨e, hv⟩
          · rw [updF_at h hj]
            by_cases hji : j = i
            · subst hji
              simp [stFill, splice, stN]
            · rw [if_neg hji]
              simp only [stFill, stN]
              by_cases h2 : j < i
              · rw [if_pos h2, if_pos (by omega)]
              · rw [if_neg h2, if_neg (by omega)]
        simp [go_sem, e1, n1, stFill_at]
        refine ⟨fun k0 => ?_, fun k0 => ⟨fun k1 => ?_, fun k1 => ⟨fun k2 => ?_, fun k2 => ?_⟩⟩⟩
        · simp only [k0, if_true] at eq
          have no : ¬ ((nodAt l i).a = 0 ∧ (nodAt l i).b = 0) → inOrd l = false := fun hn => bad i h (by rw [eq, if_pos (by omega)]; omega)
          refine ⟨fun ha => ⟨fun hb => no (by omega), fun hb => ⟨h, ?_⟩⟩, fun ha => no (by omega)⟩
          rw [if_neg (by omega)] at eq
          exact step _ eq.symm (by omega)
        · simp only [if_neg k0, if_pos k1] at eq
          have no : ¬ (1 ≤ (i : Int) ∧ (nodAt l i).a = (i : Int) - 1 ∧ (nodAt l i).b = 0) → inOrd l = false := fun hn => bad i h (by
            rw [eq]
            split
            · omega
            · rw [fromZ_neg l (by omega)]; omega)
          refine ⟨fun g1 => ⟨fun ha => ⟨fun hb => no (by omega), fun hb => ?_⟩, fun ha => no (by omega)⟩, fun g1 => no (by omega)⟩
          rw [if_neg (by omega)] at eq
          have hp := (hi.2 (i - 1) (by omega)).2
          have e3 : ((i - 1 : Nat) : Int) = (i : Int) - 1 := by omega
          rw [e3] at hp
          simp only [hi1 (by omega)]
          exact ⟨g1, by omega, by omega, h, step _ eq.symm hp⟩
        · simp only [if_neg k0, if_neg k1] at eq
          refine vc_drawn [] (.q 0 <| .q 1 <| .q 2 <| .q 3 <| .q 4 <| .q 5 <| .q 6 <| .q 7 <| .q 8 <| .q 9 <| .q 10 <| .q 11 <| .q 12 <| .q 13 <| .q 14 <| .q 15 <| .q 16 <| .q 17 <| .q 18 <| .q 19 <| .q 20 <| .q 21 <| .q 22 <| .q 23 <| .q 24 <| .done) (by kernel_rfl) ?_
          simp [go_sem, e1, n1, stFill_at]
          have lt2 : (i : Int) < 2 → fromZ l ((i : Int) - 1) < 1 := fun h2 => by
            by_cases h3 : i = 0
            · subst h3; rw [fromZ_neg l (by omega)]; omega
            · have := fromZ_le l (i := (i : Int) - 1) (by omega)
              omega
          have no : ¬ (2 ≤ (i : Int) ∧ (nodAt l i).b = (i : Int) - 1 ∧ (nodAt l i).a = fromZ l ((i : Int) - 1) - 1 ∧ 0 ≤ (nodAt l i).a) → inOrd l = false := fun hn => bad i h (by
            rw [eq]
            split
            · omega
            · split
              · omega
              · rename_i h1 h2
                have : ¬ (i : Int) < 2 := fun h3 => h2 (.inl (lt2 h3))
                omega)
          refine ⟨fun g2 => ⟨fun hb => ⟨by omega, by omega, by omega, ?_⟩, fun hb => no (by omega)⟩, fun g2 => no (by omega)⟩
          have hp := (hi.2 (i - 1) (by omega)).2
          have e3 : ((i - 1 : Nat) : Int) = (i : Int) - 1 := by omega
          rw [e3] at hp
          have hle := fromZ_le l (i := (i : Int) - 1) (by omega)
          simp only [hi1 (by omega), wrap_i64 (n := fromZ l ((i : Int) - 1) - 1) (by omega)]
          refine ⟨fun ha => ⟨fun h0 => no (by omega), fun h0 => ⟨h0, by omega, by omega, h, step _ ?_ ?_⟩⟩, fun ha => no (by omega)⟩
          · rw [eq, if_neg (by omega), if_neg (by omega), hin _ (by omega), Int.toNat_of_nonneg h0, ha]
          · rw [hin _ (by omega)]
            exact (hi.2 _ (by omega)).2
        · have := kidsN_cases (nodAt l i).kind
          omega
    · have hl1 : i = l.length := by omega
      subst hl1
      have e1 : IntKind.i64.wrap ((l.length : Int) - 1) = (l.length : Int) - 1 := wrap_i64 (by omega)
      have n1 : ((l.length : Int) - 1).toNat = l.length - 1 := by omega
      simp [go_sem, stFill_at, e1, n1]
      refine ⟨by omega, h1, by omega, by omega, ?_⟩
      have e3 : ((l.length - 1 : Nat) : Int) = (l.length : Int) - 1 := by omega
      have e4 : stN l l.length (l.length - 1) = fromZ l ((l.length : Int) - 1) := by unfold stN; rw [if_pos (by omega), e3]
      have hr : 1 ≤ l.length ∧ l.length ≤ 20000 := by omega
      simp only [inOrd, all_true (p := fun i => txtOk (nodAt l i)) (n := l.length) fun j hj => (hi.2 j (by omega)).1, e4, hr, and_self, decide_true, Bool.true_and, Bool.and_true, int_beq]
end Go.Proofs.YtbjkgfooangjhaaDoor.V
/- Contracts: the kind of a token, how far one reaches, the longest. -/
namespace Go.Proofs.YtbjkgfooangjhaaDoor.V
open Go.RowKit
set_option linter.unusedVariables false
set_option linter.unusedSimpArgs false
set_option linter.constructorNameAsVariable false
def isOpZ (l : List POp) (z : ByteArray) : Bool := opHas l z 1 || opHas l z 2 || opHas l z 3
def kindZ (l : List POp) (z : ByteArray) : Int := if numZ z then 1 else if namZ z then 2 else if z = ⟨#[40]⟩ then 4 else if z = ⟨#[41]⟩ then 5 else if isOpZ l z then 3 else 6
/-! how far a token reaches -/
def alnum (c : Int) : Bool := isLt c || isDg c
def run (p : Int → Bool) (z : ByteArray) (j : Nat) : Nat := if h : j < z.size then if p (byteAt z j) then 1 + run p z (j + 1) else 0 else 0
termination_by z.size - j
theorem run_end {p : Int → Bool} {z : ByteArray} {j : Nat} (h : z.size ≤ j) : run p z j = 0 := by rw [run, dif_neg (by omega)]
theorem run_yes {p : Int → Bool} {z : ByteArray} {j : Nat} (h : j < z.size) (e : p (byteAt z j) = true) : run p z j = 1 + run p z (j + 1) := by
  conv => lhs; rw [run]
  rw [dif_pos h, if_pos e]
theorem run_no {p : Int → Bool} {z : ByteArray} {j : Nat} (h : j < z.size) (e : p (byteAt z j) = false) : run p z j = 0 := by rw [run, dif_pos h, if_neg (by rw [e]; simp)]
theorem run_le (p : Int → Bool) (z : ByteArray) (j : Nat) (h : j ≤ z.size) : j + run p z j ≤ z.size := by
  rcases Nat.lt_or_ge j z.size with h1 | h1
  · cases e : p (byteAt z j)
    · rw [run_no h1 e]; omega
    · have := run_le p z (j + 1) (by omega)
      rw [run_yes h1 e]; omega
  · rw [run_end h1]; omega
termination_by z.size - j
def reachZ (z : ByteArray) (i : Nat) : Nat := if isSg (byteAt z i) then (if z.size - i < 16 then z.size - i else 16) else if alnum (byteAt z i) then 1 + run alnum z (i + 1) else 1
def longF (l : List POp) (z : ByteArray) (i : Nat) : Nat → Nat
  | 0 => 1
  | n + 1 => if n = 0 then 1 else if kindZ l (z.extract i (i + (n + 1))) ≠ 6 then n + 1 else longF l z i n
def longest (l : List POp) (z : ByteArray) (i : Nat) : Nat := longF l z i (reachZ z i)
theorem reachZ_le (z : ByteArray) (i : Nat) (hi : i < z.size) : 1 ≤ reachZ z i ∧ i + reachZ z i ≤ z.size := by
  unfold reachZ
  split
  · split <;> omega
  · split
    · have := run_le alnum z (i + 1) (by omega)
      omega
    · omega
end Go.Proofs.YtbjkgfooangjhaaDoor.V
/- Contracts: the specification's Union. -/
namespace Go.Proofs.YtbjkgfooangjhaaDoor.V
open Go.RowKit
set_option linter.unusedVariables false
set_option linter.unusedSimpArgs false
set_option linter.constructorNameAsVariable false
def opsHas (l : List POp) (n : Nat) (o : POp) : Bool := (List.range n).any fun i => opEq (opAt l i) o
end Go.Proofs.YtbjkgfooangjhaaDoor.V
/- Contracts: the specification's Union, its loop. -/
namespace Go.Proofs.YtbjkgfooangjhaaDoor.V
open Go.RowKit
set_option linter.unusedVariables false
set_option linter.unusedSimpArgs false
set_option linter.constructorNameAsVariable false
theorem argSl_sub {mem : List (Option Ob)} {k sz lo n N ty : Nat} {f f' : Nat → List AV} (hk : mem[k]? = some (some ⟨ty, sz, N, f⟩)) (hsz : 0 < sz) (hn : lo + n ≤ N) (h : ∀ i, i < n → f (lo + i) = f' i ∧ ∀ c, c ∈ f' i → Closed c) : ArgSl mem (.sub k sz lo n) sz n f' :=
  ⟨hsz, fun i => f (lo + i), by simp [contents, hk, hn], h⟩
/-- the first i operators, each but once -/
def uniq (l : List POp) : Nat → List POp
  | 0 => []
  | i + 1 => if opsHas l i (opAt l i) then uniq l i else uniq l i ++ [opAt l i]
def union (a b : List POp) : List POp := uniq (a ++ b) (a.length + b.length)
theorem uniq_len (l : List POp) : ∀ i, (uniq l i).length ≤ i
  | 0 => by simp [uniq]
  | i + 1 => by
    have := uniq_len l i
    simp only [uniq]
    split
    · omega
    · simp; omega
theorem opAt_app (a b : List POp) (i : Nat) : opAt (a ++ b) i = if i < a.length then opAt a i else opAt b (i - a.length) := by
  unfold opAt
  by_cases h : i < a.length
  · rw [if_pos h, List.getD_eq_getElem?_getD, List.getD_eq_getElem?_getD, List.getElem?_append_left h]
  · rw [if_neg h, List.getD_eq_getElem?_getD, List.getD_eq_getElem?_getD, List.getElem?_append_right (by omega)]
theorem opCells_app (a b : List POp) (i : Nat) : opCells (a ++ b) i = joinF a.length (opCells a) (opCells b) i := by
  unfold joinF
  simp only [opCells_at, opAt_app]
  split <;> rfl
theorem opCells_one (l : List POp) (o : POp) (i : Nat) (h : i < l.length + 1) : joinF l.length (opCells l) (fun _ => o.cells) i = opCells (l ++ [o]) i := by
  rw [opCells_app]
  unfold joinF
  split
  · rfl
  · have : i - l.length = 0 := by omega
    rw [this]; rfl
@[go_sem] theorem opOne (l : List POp) (i : Nat) : (opCells l i).all oneAV = true := rfl
end Go.Proofs.YtbjkgfooangjhaaDoor.V
/- Contracts: the program's Union: its set. -/
namespace Go.Proofs.YtbjkgfooangjhaaDoor.V
open Go.RowKit
open Go.Maps (Keyed)
set_option linter.unusedVariables false
set_option linter.unusedSimpArgs false
set_option linter.constructorNameAsVariable false
def i64 (n : Int) : Prop := -9223372036854775808 ≤ n ∧ n ≤ 9223372036854775807
def POp.rng (o : POp) : Prop := i64 o.kind ∧ i64 o.level ∧ i64 o.side
def opV (o : POp) : Value := .agg #[.string o.text, .int .i64 o.kind, .int .i64 o.level, .int .i64 o.side]
theorem opV_fold (o : POp) : Value.agg #[.string o.text, .int .i64 o.kind, .int .i64 o.level, .int .i64 o.side] = opV o := rfl
theorem opV_eq {a b : POp} : opV a = opV b ↔ opEq a b = true := by
  simp only [opV, opEq, ba_beq, int_beq, Value.agg.injEq, Array.mk.injEq, List.cons.injEq, Value.string.injEq, Value.int.injEq, true_and, and_true, Bool.and_eq_true, decide_eq_true_eq]
  exact ⟨fun ⟨h1, h2, h3, h4⟩ => ⟨⟨⟨h1, h2⟩, h3⟩, h4⟩, fun ⟨⟨⟨h1, h2⟩, h3⟩, h4⟩ => ⟨h1, h2, h3, h4⟩⟩
theorem rowOp : (110 : TypeId) < Tryd.prog.types.size := of_decide_eq_true (by kernel_rfl)
theorem co_op : Tryd.prog.cellsOf 110 = 4 := by kernel_rfl
theorem keyedOp : Keyed Tryd.prog 110 := Keyed.of_law (deep_law_laid laidOut (m := 2) (by omega) rowOp (by kernel_rfl) (by kernel_rfl))
theorem keyOp {o : POp} (h : o.wf) (hr : o.rng) : ∃ l, keyOf Tryd.prog 110 (opV o) = some l := by
  obtain ⟨z, k, lv, sd⟩ := o
  obtain ⟨h1, h2, h3⟩ := hr
  refine keyOf_struct Tryd.underlying110 (by kernel_rfl) co_op.symm (by kernel_rfl) size1 fun d => ?_
  simp only [List.mapM_cons, List.mapM_nil, co_string, co_int, List.drop_zero, List.take_succ_cons, List.take_zero, List.drop_succ_cons, keyLits_str Tryd.underlying9 h, keyLits_int Tryd.underlying3 h1, keyLits_int Tryd.underlying3 h2, keyLits_int Tryd.underlying3 h3]
  exact ⟨_, rfl⟩
/-- what the set holds behind an operator -/
noncomputable def addEs (es : List (Value × Value)) (o : POp) : List (Value × Value) := if (mget es (opV o)).isSome then es else mput es (opV o) (.int .i64 es.length)
end Go.Proofs.YtbjkgfooangjhaaDoor.V
/- Contracts: the program's Union. -/
namespace Go.Proofs.YtbjkgfooangjhaaDoor.V
open Go.RowKit
open Go.Maps (Keyed)
set_option linter.unusedVariables false
set_option linter.unusedSimpArgs false
set_option linter.constructorNameAsVariable false
/-- the set holds the first i operators -/
def SetIs (l : List POp) (i : Nat) (es : List (Value × Value)) : Prop := (∀ j, j < i → (mget es (opV (opAt l j))).isSome = true) ∧ ∀ x v, mget es x = some v → ∃ j, j < i ∧ x = opV (opAt l j)
theorem set_has {l : List POp} {i : Nat} {es : List (Value × Value)} (h : SetIs l i es) : (mget es (opV (opAt l i))).isSome = opsHas l i (opAt l i) := by
  rw [Bool.eq_iff_iff]
  simp only [opsHas, List.any_eq_true, List.mem_range]
  constructor
  · intro h0
    obtain ⟨v, hv⟩ := Option.isSome_iff_exists.1 h0
    obtain ⟨j, hj, e⟩ := h.2 _ v hv
    exact ⟨j, hj, opV_eq.1 e.symm⟩
  · rintro ⟨j, hj, e⟩
    rw [← opV_eq.2 e]
    exact h.1 j hj
theorem set_step {l : List POp} {i : Nat} {es : List (Value × Value)} (h : SetIs l i es) : SetIs l (i + 1) (addEs es (opAt l i)) := by
  unfold addEs
  split
  · rename_i h0
    refine ⟨fun j hj => ?_, fun x v hv => ?_⟩
    · rcases Nat.lt_succ_iff_lt_or_eq.mp hj with hj | rfl
      · exact h.1 j hj
      · exact h0
    · obtain ⟨j, hj, e⟩ := h.2 x v hv
      exact ⟨j, by omega, e⟩
  · refine ⟨fun j hj => ?_, fun x v hv => ?_⟩
    · rw [mget_mput]
      split
      · rfl
      · rename_i hne
        rcases Nat.lt_succ_iff_lt_or_eq.mp hj with hj | rfl
        · exact h.1 j hj
        · exact absurd rfl hne
    · rw [mget_mput] at hv
      split at hv
      · rename_i e
        exact ⟨i, by omega, e.symm⟩
      · obtain ⟨j, hj, e⟩ := h.2 x v hv
        exact ⟨j, by omega, e⟩
def sel (a b : List POp) (q : Nat) : List POp := if q = 0 then a else b
def posQ (a b : List POp) (q : Nat) : Nat := if q = 0 then 0 else if q = 1 then a.length else a.length + b.length
theorem posQ_step (a b : List POp) (q : Nat) (h : q < 2) : posQ a b (q + 1) = posQ a b q + (sel a b q).length := by
  rcases (by omega : q = 0 ∨ q = 1) with rfl | rfl <;> simp [posQ, sel]
theorem opAt_sel (a b : List POp) (q i : Nat) (h : q < 2) (hi : i < (sel a b q).length) : opAt (a ++ b) (posQ a b q + i) = opAt (sel a b q) i := by
  rcases (by omega : q = 0 ∨ q = 1) with rfl | rfl
  · simp only [posQ, sel, if_true] at hi ⊢
    rw [opAt_app, if_pos (by omega), Nat.zero_add]
  · simp only [posQ, sel, if_true, show ((1 : Nat) = 0) = False by decide, if_false] at hi ⊢
    rw [opAt_app, if_neg (by omega), Nat.add_sub_cancel_left]
def opsRng (l : List POp) : Prop := ∀ i, i < l.length → (opAt l i).rng
end Go.Proofs.YtbjkgfooangjhaaDoor.V
/- Contracts: the law of Union. -/
namespace Go.Proofs.YtbjkgfooangjhaaDoor.V
open Go.RowKit
set_option linter.unusedVariables false
set_option linter.unusedSimpArgs false
set_option linter.constructorNameAsVariable false
theorem wf_i64 {n : Int} (h : (Lit.int .i64 n).wf = true) : i64 n := by
  simp only [Lit.wf, IntKind.min, IntKind.max, IntKind.bits, IntKind.signed, decide_eq_true_eq, Bool.and_eq_true] at h
  exact h
set_option maxRecDepth 100000 in
theorem shape_opR (n : Nat) (xs : List AV) (h : Shape Tryd.prog (n + 2) 108 xs) : ∃ o : POp, (o.wf ∧ o.rng) ∧ xs = o.cells := by
  obtain ⟨parts, h0, rfl⟩ := shape_struct Tryd.underlying108 h
  clear h
  simp only [List.toList_toArray, all2_cons, all2_nil] at h0
  obtain ⟨_, _, rfl, ⟨_, h1⟩, _, _, rfl, ⟨_, h2⟩, _, _, rfl, ⟨_, h3⟩, _, _, rfl, ⟨_, h4⟩, rfl⟩ := h0
  obtain ⟨z, rfl, hz⟩ := shape_string Tryd.underlying9 h1
  obtain ⟨k, rfl, hk⟩ := shape_int Tryd.underlying3 h2
  obtain ⟨l, rfl, hl⟩ := shape_int Tryd.underlying3 h3
  obtain ⟨s, rfl, hs⟩ := shape_int Tryd.underlying3 h4
  exact ⟨⟨z, k, l, s⟩, ⟨hz, wf_i64 hk, wf_i64 hl, wf_i64 hs⟩, rfl⟩
set_option maxRecDepth 100000 in
theorem shape_tableR (n : Nat) (xs : List AV) (h : Shape Tryd.prog (n + 4) 37 xs) : ∃ l : List POp, l.length ≤ maxLen ∧ opsWf l ∧ opsRng l ∧ ∃ f, xs = [.sl 4 l.length f] ∧ ∀ i, i < l.length → f i = opCells l i := by
  obtain ⟨parts, h0, rfl⟩ := shape_struct Tryd.underlying37 h
  clear h
  simp only [List.toList_toArray, all2_cons, all2_nil] at h0
  obtain ⟨_, _, rfl, ⟨_, h1⟩, rfl⟩ := h0
  obtain ⟨m, f, rfl, hm, hf⟩ := shape_slice Tryd.underlying35 h1
  have hc : Tryd.prog.cellsOf 108 = 4 := by kernel_rfl
  obtain ⟨l, rfl, h2, h3⟩ := rows_of POp.cells (fun o => o.wf ∧ o.rng) fun i hi => shape_opR n (f i) (hf i hi).2
  exact ⟨l, hm, fun i hi => (h2 i hi).1, fun i hi => (h2 i hi).2, f, by rw [hc]; rfl, h3⟩
end Go.Proofs.YtbjkgfooangjhaaDoor.V
/- Contracts: a text cut into tokens, by the specification. -/
namespace Go.Proofs.YtbjkgfooangjhaaDoor.V
open Go.RowKit
set_option linter.unusedVariables false
set_option linter.unusedSimpArgs false
set_option linter.constructorNameAsVariable false
theorem longF_ge (l : List POp) (z : ByteArray) (i : Nat) : ∀ n, 1 ≤ longF l z i n
  | 0 => by simp [longF]
  | n + 1 => by
    unfold longF
    split
    · omega
    · split
      · omega
      · exact longF_ge l z i n
theorem longF_le (l : List POp) (z : ByteArray) (i : Nat) : ∀ n, longF l z i n ≤ n ∨ longF l z i n = 1
  | 0 => by simp [longF]
  | n + 1 => by
    unfold longF
    split
    · omega
    · split
      · omega
      · rcases longF_le l z i n with h | h <;> omega
theorem longest_ge (l : List POp) (z : ByteArray) (i : Nat) : 1 ≤ longest l z i := longF_ge _ _ _ _
theorem longest_le (l : List POp) (z : ByteArray) (i : Nat) (hi : i < z.size) : i + longest l z i ≤ z.size := by
  have := reachZ_le z i hi
  unfold longest
  rcases longF_le l z i (reachZ z i) with h | h <;> omega
/-- the tokens of a text from a place on -/
def lexFrom (l : List POp) (z : ByteArray) (f : Nat) : List PTok :=
  if h : f + run isBl z f < z.size then
    ⟨kindZ l (z.extract (f + run isBl z f) (f + run isBl z f + longest l z (f + run isBl z f))), z.extract f (f + run isBl z f), z.extract (f + run isBl z f) (f + run isBl z f + longest l z (f + run isBl z f))⟩ ::
      lexFrom l z (f + run isBl z f + longest l z (f + run isBl z f))
  else [⟨7, z.extract f (f + run isBl z f), ⟨#[]⟩⟩]
termination_by z.size - f
decreasing_by
  have := longest_ge l z (f + run isBl z f)
  omega
theorem lexFrom_end {l : List POp} {z : ByteArray} {f i : Nat} (hi : i = f + run isBl z f) (h : ¬ i < z.size) : lexFrom l z f = [⟨7, z.extract f i, ⟨#[]⟩⟩] := by
  subst hi; rw [lexFrom, dif_neg h]
theorem lexFrom_go {l : List POp} {z : ByteArray} {f i : Nat} (hi : i = f + run isBl z f) (h : i < z.size) : lexFrom l z f = ⟨kindZ l (z.extract i (i + longest l z i)), z.extract f i, z.extract i (i + longest l z i)⟩ :: lexFrom l z (i + longest l z i) := by
  subst hi; rw [lexFrom, dif_pos h]
def lexOk (l : List POp) (z : ByteArray) : Bool := decide (tblOk l = 0) && decide (z.size ≤ 20000)
def lexZ (l : List POp) (z : ByteArray) : List PTok := if lexOk l z then lexFrom l z 0 else []
theorem tokAt_app (a b : List PTok) (i : Nat) : tokAt (a ++ b) i = if i < a.length then tokAt a i else tokAt b (i - a.length) := by
  unfold tokAt
  by_cases h : i < a.length
  · rw [if_pos h, List.getD_eq_getElem?_getD, List.getD_eq_getElem?_getD, List.getElem?_append_left h]
  · rw [if_neg h, List.getD_eq_getElem?_getD, List.getD_eq_getElem?_getD, List.getElem?_append_right (by omega)]
theorem tokCells_one (l : List PTok) (o : PTok) (i : Nat) (h : i < l.length + 1) : joinF l.length (tokCells l) (fun _ => o.cells) i = tokCells (l ++ [o]) i := by
  unfold joinF
  simp only [tokCells_at, tokAt_app]
  split
  · rfl
  · have : i - l.length = 0 := by omega
    rw [this]; rfl
theorem tok_app1 (toks : List PTok) (k : Int) (g x : ByteArray) (i : Nat) (hi : i < toks.length + 1) : joinF toks.length (tokCells toks) (fun i => [[AV.lit (.int .i64 k), AV.lit (.string g), AV.lit (.string x)]][i]?.getD []) i = tokCells (toks ++ [⟨k, g, x⟩]) i := by
  rw [← tokCells_one toks ⟨k, g, x⟩ i hi]
  unfold joinF
  split
  · rfl
  · have : i - toks.length = 0 := by omega
    rw [this]; rfl
@[go_sem] theorem tokOne (l : List PTok) (i : Nat) : (tokCells l i).all oneAV = true := rfl
end Go.Proofs.YtbjkgfooangjhaaDoor.V
/- Plain law: what stands in front of a text is its longest token. -/
namespace Go.Proofs.YtbjkgfooangjhaaDoor.V
open Go.RowKit
set_option linter.unusedVariables false
set_option linter.unusedSimpArgs false
set_option linter.constructorNameAsVariable false
def textHas (l : List POp) (z : ByteArray) : Bool := (List.range l.length).any fun j => decide ((opAt l j).text = z)
def opFront (l : List POp) (z : ByteArray) : Nat → Int × Nat
  | 0 => (6, 1)
  | k + 1 => if textHas l (z.extract 0 (k + 1)) then (3, k + 1) else opFront l z k
def front (l : List POp) (z : ByteArray) : Int × Nat :=
  if isDg (byteAt z 0) then (1, 1 + run isDg z 1) else if isLt (byteAt z 0) then (2, 1 + run alnum z 1) else if byteAt z 0 = 40 then (4, 1) else if byteAt z 0 = 41 then (5, 1) else opFront l z (if z.size < 16 then z.size else 16)

theorem byteAt_extract {z : ByteArray} {i e j : Nat} (he : e ≤ z.size) (hj : i + j < e) : byteAt (z.extract i e) j = byteAt z (i + j) := by
  unfold byteAt
  have h1 : j < (z.extract i e).size := by rw [ByteArray.size_extract]; omega
  rw [dif_pos h1, dif_pos (show i + j < z.size by omega)]
  rw [ByteArray.getElem_extract]
theorem extract_extract0 (z : ByteArray) (i k : Nat) (h : i + k ≤ z.size) : (z.extract i z.size).extract 0 k = z.extract i (i + k) := by
  rw [ByteArray.extract_extract]
  congr 1
  omega
theorem size_ext {z : ByteArray} {i n : Nat} (h : i + n ≤ z.size) : (z.extract i (i + n)).size = n := by rw [ByteArray.size_extract]; omega
theorem run_extract (p : Int → Bool) (z : ByteArray) (i : Nat) (j : Nat) : run p (z.extract i z.size) j = run p z (i + j) := by
  by_cases h : i + j < z.size
  · have h1 : j < (z.extract i z.size).size := by rw [ByteArray.size_extract]; omega
    have e := byteAt_extract (z := z) (i := i) (e := z.size) (j := j) (by omega) h
    cases hp : p (byteAt z (i + j))
    · rw [run_no h1 (by rw [e]; exact hp), run_no h hp]
    · rw [run_yes h1 (by rw [e]; exact hp), run_yes h hp, run_extract p z i (j + 1)]; rfl
  · rw [run_end (by rw [ByteArray.size_extract]; omega), run_end (by omega)]
termination_by z.size - (i + j)
theorem run_all (p : Int → Bool) (z : ByteArray) (j : Nat) (k : Nat) (h : k < run p z j) : p (byteAt z (j + k)) = true := by
  by_cases h1 : j < z.size
  · cases hp : p (byteAt z j)
    · rw [run_no h1 hp] at h; omega
    · cases k with
      | zero => exact hp
      | succ k =>
        rw [run_yes h1 hp] at h
        have := run_all p z (j + 1) k (by omega)
        rw [show j + (k + 1) = j + 1 + k by omega]; exact this
  · rw [run_end (by omega)] at h; omega
termination_by z.size - j
theorem run_stop (p : Int → Bool) (z : ByteArray) (j : Nat) (h : j + run p z j < z.size) : p (byteAt z (j + run p z j)) = false := by
  have h1 : j < z.size := by omega
  cases hp : p (byteAt z j)
  · rw [run_no h1 hp]; exact hp
  · rw [run_yes h1 hp] at h ⊢
    have := run_stop p z (j + 1) (by omega)
    rw [show j + (1 + run p z (j + 1)) = j + 1 + run p z (j + 1) by omega]; exact this
termination_by z.size - j
theorem run_mono {p q : Int → Bool} (hpq : ∀ c, p c = true → q c = true) (z : ByteArray) (j : Nat) : run p z j ≤ run q z j := by
  by_cases h1 : j < z.size
  · cases hp : p (byteAt z j)
    · rw [run_no h1 hp]; omega
    · rw [run_yes h1 hp, run_yes h1 (hpq _ hp)]
      have := run_mono hpq z (j + 1)
      omega
  · rw [run_end (by omega)]; omega
termination_by z.size - j
theorem sign_apart : (List.range 256).all (fun n => !isSg n || !(isDg n || isLt n || (n : Int) == 40 || (n : Int) == 41)) = true := by kernel_rfl
theorem digit_apart : (List.range 256).all (fun n => !isDg n || !(isLt n || (n : Int) == 40 || (n : Int) == 41)) = true := by kernel_rfl
theorem letter_apart : (List.range 256).all (fun n => !isLt n || !((n : Int) == 40 || (n : Int) == 41)) = true := by kernel_rfl
theorem of_range {f : Int → Bool} (h : (List.range 256).all (fun n => f n) = true) {c : Int} (hc : 0 ≤ c ∧ c < 256) : f c = true := by
  obtain ⟨n, rfl⟩ : ∃ n : Nat, c = n := ⟨c.toNat, by omega⟩
  exact List.all_eq_true.1 h n (List.mem_range.2 (by omega))
theorem isSg_no {c : Int} (hc : 0 ≤ c ∧ c < 256) (h : isDg c = true ∨ isLt c = true ∨ c = 40 ∨ c = 41) : isSg c = false := by
  have := of_range (f := fun n => !isSg n || !(isDg n || isLt n || n == 40 || n == 41)) sign_apart hc
  simp at this
  rcases h with h | h | rfl | rfl <;> simp_all
theorem isDg_no {c : Int} (hc : 0 ≤ c ∧ c < 256) (h : isDg c = true) : isLt c = false ∧ c ≠ 40 ∧ c ≠ 41 := by
  have := of_range (f := fun n => !isDg n || !(isLt n || n == 40 || n == 41)) digit_apart hc
  simp [h] at this
  exact ⟨this.1.1, this.1.2, this.2⟩
theorem isLt_no {c : Int} (hc : 0 ≤ c ∧ c < 256) (h : isLt c = true) : c ≠ 40 ∧ c ≠ 41 := by
  have := of_range (f := fun n => !isLt n || !(n == 40 || n == 41)) letter_apart hc
  simp [h] at this
  exact this
/-! the kinds of texts by their first byte -/
theorem numZ_no {s : ByteArray} (h0 : 0 < s.size) (h : isDg (byteAt s 0) = false) : numZ s = false := by
  unfold numZ; rw [all_false h0 h]; rfl
theorem namZ_no {s : ByteArray} (h0 : 0 < s.size) (h : isLt (byteAt s 0) = false) : namZ s = false := by
  unfold namZ; rw [all_false h0 (by simp [namAt, h])]; rfl
theorem byte_ne {s : ByteArray} {b : UInt8} (h : byteAt s 0 ≠ b.toNat) : s ≠ ⟨#[b]⟩ := by
  rintro rfl
  exact h rfl
theorem byte_one {s : ByteArray} {b : UInt8} (h1 : s.size = 1) (h : byteAt s 0 = b.toNat) : s = ⟨#[b]⟩ := by
  obtain ⟨⟨l⟩⟩ := s
  match l, h1 with
  | [x], _ =>
    have h2 : ((x.toNat : Nat) : Int) = b.toNat := h
    have h3 : x = b := UInt8.toNat_inj.1 (by omega)
    rw [h3]
theorem isOpZ_has {l : List POp} (hok : tblOps l = true) (s : ByteArray) : isOpZ l s = textHas l s := by
  have hop : ∀ j, j < l.length → opOk (opAt l j) = true := by simpa [tblOps] using hok
  rw [Bool.eq_iff_iff]
  simp only [isOpZ, opHas, textHas, Bool.or_eq_true, List.any_eq_true, List.mem_range, Bool.and_eq_true, decide_eq_true_eq]
  constructor
  · rintro ((⟨j, h1, h2, _⟩ | ⟨j, h1, h2, _⟩) | ⟨j, h1, h2, _⟩) <;> exact ⟨j, h1, h2⟩
  · rintro ⟨j, h1, h2⟩
    have hk : (opAt l j).kind = 1 ∨ (opAt l j).kind = 2 ∨ (opAt l j).kind = 3 := by
      have := hop j h1
      simp [opOk] at this
      omega
    rcases hk with h | h | h
    · exact .inl (.inl ⟨j, h1, h2, h⟩)
    · exact .inl (.inr ⟨j, h1, h2, h⟩)
    · exact .inr ⟨j, h1, h2, h⟩
theorem textHas_no {l : List POp} (hok : tblOps l = true) {s : ByteArray} (h0 : 0 < s.size) (h : isSg (byteAt s 0) = false) : textHas l s = false := by
  have hop : ∀ j, j < l.length → opOk (opAt l j) = true := by simpa [tblOps] using hok
  simp only [textHas, List.any_eq_false, List.mem_range, decide_eq_true_eq]
  rintro j hj rfl
  have := hop j hj
  simp only [opOk, sgOk, sgAll, Bool.and_eq_true, List.all_eq_true, List.mem_range] at this
  have := this.1.1.1 0 h0
  rw [h] at this
  cases this
theorem textHas_none {l : List POp} (hok : tblOps l = true) {s : ByteArray} (h0 : s.size = 0) : textHas l s = false := by
  have hop : ∀ j, j < l.length → opOk (opAt l j) = true := by simpa [tblOps] using hok
  simp only [textHas, List.any_eq_false, List.mem_range, decide_eq_true_eq]
  rintro j hj rfl
  have := hop j hj
  simp only [opOk, sgOk, Bool.and_eq_true, decide_eq_true_eq] at this
  omega
theorem longF_eq {l : List POp} {z : ByteArray} {i m : Nat} (h1 : 1 ≤ m) (hm : m = 1 ∨ kindZ l (z.extract i (i + m)) ≠ 6) : ∀ N, m ≤ N → (∀ n, m < n → n ≤ N → kindZ l (z.extract i (i + n)) = 6) → longF l z i N = m
  | 0, h, _ => by omega
  | N + 1, h, h2 => by
    unfold longF
    by_cases e : m = N + 1
    · subst e
      split
      · omega
      · rename_i hN
        rw [if_pos (hm.resolve_left (by omega))]
    · rw [if_neg (by omega), if_neg (by rw [h2 (N + 1) (by omega) (by omega)]; simp)]
      exact longF_eq h1 hm N (by omega) fun n a b => h2 n a (by omega)
theorem opFront_none {l : List POp} {s : ByteArray} : ∀ K, (∀ k, k ≤ K → textHas l (s.extract 0 k) = false) → opFront l s K = (6, 1)
  | 0, _ => rfl
  | K + 1, h => by
    unfold opFront
    rw [if_neg (by rw [h (K + 1) (by omega)]; simp)]
    exact opFront_none K fun k hk => h k (by omega)
theorem opFront_long {l : List POp} {z : ByteArray} {i : Nat} (hk : ∀ n, 1 ≤ n → i + n ≤ z.size → kindZ l (z.extract i (i + n)) = if textHas l (z.extract i (i + n)) then 3 else 6) : ∀ N, i + (N + 1) ≤ z.size → opFront l (z.extract i z.size) (N + 1) = (kindZ l (z.extract i (i + longF l z i (N + 1))), longF l z i (N + 1))
  | 0, h => by
    have e : longF l z i (0 + 1) = 1 := by simp [longF]
    rw [e, hk 1 (by omega) (by omega)]
    simp only [opFront, extract_extract0 z i (0 + 1) (by omega)]
    cases textHas l (z.extract i (i + (0 + 1))) <;> rfl
  | N + 1, h => by
    have ih := opFront_long hk N (by omega)
    have h1 := hk (N + 1 + 1) (by omega) (by omega)
    unfold opFront
    rw [extract_extract0 z i (N + 1 + 1) (by omega)]
    cases ht : textHas l (z.extract i (i + (N + 1 + 1)))
    · rw [ht] at h1
      have e : longF l z i (N + 1 + 1) = longF l z i (N + 1) := by
        conv => lhs; unfold longF
        rw [if_neg (by omega), if_neg (by rw [h1]; simp)]
      rw [e, ← ih]; rfl
    · rw [ht] at h1
      have e : longF l z i (N + 1 + 1) = N + 1 + 1 := by
        conv => lhs; unfold longF
        rw [if_neg (by omega), if_pos (by rw [h1]; decide)]
      rw [e, h1]; rfl
theorem front_eq (l : List POp) (hok : tblOps l = true) (z : ByteArray) (i : Nat) (hi : i < z.size) : front l (z.extract i z.size) = (kindZ l (z.extract i (i + longest l z i)), longest l z i) := by
  have hr := byteAt_range z i
  have e0 : byteAt (z.extract i z.size) 0 = byteAt z i := byteAt_extract (by omega) (by omega)
  have b0 : ∀ n, 1 ≤ n → i + n ≤ z.size → byteAt (z.extract i (i + n)) 0 = byteAt z i := fun n h1 h2 => byteAt_extract (by omega) (by omega)
  have hs : (z.extract i z.size).size = z.size - i := by rw [ByteArray.size_extract]; omega
  unfold front
  rw [e0, run_extract, run_extract, hs]
  cases hd : isDg (byteAt z i) with
  | true =>
    obtain ⟨a1, a2, a3⟩ := isDg_no hr hd
    have a4 := isSg_no hr (.inl hd)
    have hN : reachZ z i = 1 + run alnum z (i + 1) := by simp [reachZ, a4, alnum, hd]
    have hle := run_mono (p := isDg) (q := alnum) (fun c h => by simp [alnum, h]) z (i + 1)
    have hrl := reachZ_le z i hi
    have kd : ∀ n, 1 ≤ n → i + n ≤ z.size → kindZ l (z.extract i (i + n)) = if numZ (z.extract i (i + n)) then 1 else 6 := by
      intro n h1 h2
      have hsz := size_ext h2
      have q1 : namZ (z.extract i (i + n)) = false := namZ_no (by omega) (by rw [b0 n h1 h2]; exact a1)
      have q2 : z.extract i (i + n) ≠ ⟨#[40]⟩ := byte_ne (by rw [b0 n h1 h2]; exact a2)
      have q3 : z.extract i (i + n) ≠ ⟨#[41]⟩ := byte_ne (by rw [b0 n h1 h2]; exact a3)
      have q4 : isOpZ l (z.extract i (i + n)) = false := by rw [isOpZ_has hok]; exact textHas_no hok (by omega) (by rw [b0 n h1 h2]; exact a4)
      simp only [kindZ, q1, q4, if_neg q2, if_neg q3]
      rfl
    have hlong : longest l z i = 1 + run isDg z (i + 1) := by
      unfold longest
      have hnum : kindZ l (z.extract i (i + (1 + run isDg z (i + 1)))) = 1 := by
        rw [kd _ (by omega) (by omega), if_pos]
        have hsz := size_ext (z := z) (i := i) (n := 1 + run isDg z (i + 1)) (by omega)
        simp only [numZ, Bool.and_eq_true, decide_eq_true_eq]
        refine ⟨all_true fun j hj => ?_, by omega⟩
        rw [hsz] at hj
        rw [byteAt_extract (by omega) (by omega)]
        cases j with
        | zero => exact hd
        | succ j =>
          have := run_all isDg z (i + 1) j (by omega)
          rw [show i + (j + 1) = i + 1 + j by omega]; exact this
      refine longF_eq (by omega) (.inr (by rw [hnum]; decide)) _ (by omega) fun n h1 h2 => ?_
      rw [kd n (by omega) (by omega), if_neg]
      have hst := run_stop isDg z (i + 1) (by omega)
      have hsz := size_ext (z := z) (i := i) (n := n) (by omega)
      unfold numZ
      rw [all_false (i := 1 + run isDg z (i + 1)) (by omega) (by rw [byteAt_extract (by omega) (by omega), show i + (1 + run isDg z (i + 1)) = i + 1 + run isDg z (i + 1) by omega]; exact hst)]
      simp
    rw [if_pos rfl, hlong]
    refine Prod.ext ?_ rfl
    rw [kd _ (by omega) (by omega), if_pos]
    have hsz := size_ext (z := z) (i := i) (n := 1 + run isDg z (i + 1)) (by omega)
    simp only [numZ, Bool.and_eq_true, decide_eq_true_eq]
    refine ⟨all_true fun j hj => ?_, by omega⟩
    rw [hsz] at hj
    rw [byteAt_extract (by omega) (by omega)]
    cases j with
    | zero => exact hd
    | succ j =>
      have := run_all isDg z (i + 1) j (by omega)
      rw [show i + (j + 1) = i + 1 + j by omega]; exact this
  | false =>
    rw [if_neg (by simp)]
    cases hl : isLt (byteAt z i) with
    | true =>
      obtain ⟨a2, a3⟩ := isLt_no hr hl
      have a4 := isSg_no hr (.inr (.inl hl))
      have hN : reachZ z i = 1 + run alnum z (i + 1) := by simp [reachZ, a4, alnum, hl]
      have hrl := reachZ_le z i hi
      have hk : kindZ l (z.extract i (i + (1 + run alnum z (i + 1)))) = 2 := by
        have hsz := size_ext (z := z) (i := i) (n := 1 + run alnum z (i + 1)) (by omega)
        have q1 : numZ (z.extract i (i + (1 + run alnum z (i + 1)))) = false := numZ_no (by omega) (by rw [b0 _ (by omega) (by omega)]; exact hd)
        have q2 : namZ (z.extract i (i + (1 + run alnum z (i + 1)))) = true := by
          simp only [namZ, Bool.and_eq_true, decide_eq_true_eq]
          refine ⟨all_true fun j hj => ?_, by omega⟩
          rw [hsz] at hj
          unfold namAt
          rw [byteAt_extract (by omega) (by omega)]
          cases j with
          | zero => simp [hl]
          | succ j =>
            have := run_all alnum z (i + 1) j (by omega)
            rw [show i + (j + 1) = i + 1 + j by omega]
            simpa [alnum] using this
        simp only [kindZ, q1, q2]; rfl
      have hlong : longest l z i = 1 + run alnum z (i + 1) := by
        unfold longest
        rw [hN]
        exact longF_eq (by omega) (.inr (by rw [hk]; decide)) _ (by omega) fun n h1 h2 => by omega
      rw [if_pos rfl, hlong, hk]
    | false =>
      rw [if_neg (by simp)]
      have kd : ∀ n, 1 ≤ n → i + n ≤ z.size → kindZ l (z.extract i (i + n)) = if z.extract i (i + n) = ⟨#[40]⟩ then 4 else if z.extract i (i + n) = ⟨#[41]⟩ then 5 else if textHas l (z.extract i (i + n)) then 3 else 6 := by
        intro n h1 h2
        have hsz := size_ext h2
        have q1 : numZ (z.extract i (i + n)) = false := numZ_no (by omega) (by rw [b0 n h1 h2]; exact hd)
        have q2 : namZ (z.extract i (i + n)) = false := namZ_no (by omega) (by rw [b0 n h1 h2]; exact hl)
        simp only [kindZ, q1, q2, isOpZ_has hok]
        rfl
      have reach1 : isSg (byteAt z i) = false → reachZ z i = 1 := fun h => by simp [reachZ, h, alnum, hd, hl]
      have long1 : isSg (byteAt z i) = false → longest l z i = 1 := fun h => by rw [longest, reach1 h]; simp [longF]
      by_cases h40 : byteAt z i = 40
      · rw [if_pos h40, long1 (isSg_no hr (.inr (.inr (.inl h40)))), kd 1 (by omega) (by omega), if_pos (byte_one (size_ext (by omega)) (by rw [b0 1 (by omega) (by omega)]; exact h40))]
      · rw [if_neg h40]
        by_cases h41 : byteAt z i = 41
        · rw [if_pos h41, long1 (isSg_no hr (.inr (.inr (.inr h41)))), kd 1 (by omega) (by omega), if_neg (byte_ne (by rw [b0 1 (by omega) (by omega)]; exact h40)), if_pos (byte_one (size_ext (by omega)) (by rw [b0 1 (by omega) (by omega)]; exact h41))]
        · rw [if_neg h41]
          have kd' : ∀ n, 1 ≤ n → i + n ≤ z.size → kindZ l (z.extract i (i + n)) = if textHas l (z.extract i (i + n)) then 3 else 6 := by
            intro n h1 h2
            rw [kd n h1 h2, if_neg (byte_ne (by rw [b0 n h1 h2]; exact h40)), if_neg (byte_ne (by rw [b0 n h1 h2]; exact h41))]
          cases hsg : isSg (byteAt z i) with
          | true =>
            have hN : reachZ z i = if z.size - i < 16 then z.size - i else 16 := by simp [reachZ, hsg]
            have hrl := reachZ_le z i hi
            unfold longest
            rw [← hN]
            obtain ⟨N, hN2⟩ : ∃ N, reachZ z i = N + 1 := ⟨reachZ z i - 1, by omega⟩
            rw [hN2]
            exact opFront_long kd' N (by omega)
          | false =>
            rw [long1 hsg, kd' 1 (by omega) (by omega), textHas_no hok (by rw [size_ext (by omega)]; omega) (by rw [b0 1 (by omega) (by omega)]; exact hsg)]
            refine opFront_none _ fun k hk => ?_
            have hk2 : k ≤ z.size - i := by split at hk <;> omega
            rw [extract_extract0 z i k (by omega)]
            cases k with
            | zero => exact textHas_none hok (by rw [size_ext (by omega)])
            | succ k => exact textHas_no hok (by rw [size_ext (by omega)]; omega) (by rw [b0 _ (by omega) (by omega)]; exact hsg)
end Go.Proofs.YtbjkgfooangjhaaDoor.V
/- Contracts: the program's index of a table. -/
namespace Go.Proofs.YtbjkgfooangjhaaDoor.V
open Go.RowKit
open Go.Maps (Keyed)
set_option linter.unusedVariables false
set_option linter.unusedSimpArgs false
set_option linter.constructorNameAsVariable false
def AtIs (l : List POp) (i : Nat) (es : List (Value × Value)) : Prop := (∀ j, j < i → (mget es (placeV (opAt l j))).isSome = true) ∧ ∀ x v, mget es x = some v → ∃ j, j < i ∧ x = placeV (opAt l j) ∧ v = opV (opAt l j)
def TextIs (l : List POp) (i : Nat) (es : List (Value × Value)) : Prop := (∀ j, j < i → (mget es (.string (opAt l j).text)).isSome = true) ∧ ∀ x v, mget es x = some v → (∃ j, j < i ∧ x = .string (opAt l j).text) ∧ ∃ n, v = .int .i64 n
theorem atIs_step {l : List POp} {i : Nat} {es : List (Value × Value)} (h : AtIs l i es) : AtIs l (i + 1) (mput es (placeV (opAt l i)) (opV (opAt l i))) := by
  refine ⟨fun j hj => ?_, fun x v hv => ?_⟩
  · rw [mget_mput]
    split
    · rfl
    · rename_i hne
      rcases Nat.lt_succ_iff_lt_or_eq.mp hj with hj | rfl
      · exact h.1 j hj
      · exact absurd rfl hne
  · rw [mget_mput] at hv
    split at hv
    · rename_i e
      cases hv
      exact ⟨i, by omega, e.symm, rfl⟩
    · obtain ⟨j, hj, e⟩ := h.2 x v hv
      exact ⟨j, by omega, e⟩
theorem textIs_step {l : List POp} {i : Nat} {es : List (Value × Value)} (h : TextIs l i es) (n : Int) : TextIs l (i + 1) (mput es (.string (opAt l i).text) (.int .i64 n)) := by
  refine ⟨fun j hj => ?_, fun x v hv => ?_⟩
  · rw [mget_mput]
    split
    · rfl
    · rename_i hne
      rcases Nat.lt_succ_iff_lt_or_eq.mp hj with hj | rfl
      · exact h.1 j hj
      · exact absurd rfl hne
  · rw [mget_mput] at hv
    split at hv
    · rename_i e
      cases hv
      exact ⟨⟨i, by omega, e.symm⟩, n, rfl⟩
    · obtain ⟨⟨j, hj, e⟩, m⟩ := h.2 x v hv
      exact ⟨⟨j, by omega, e⟩, m⟩
theorem c_indexOf (l : List POp) (hl : l.length ≤ 9223372036854775807) (hw : opsWf l) : VProc Tryd.prog 39 [.agg [.sl 4 l.length (opCells l)]] [] [] (fun av mem maps => ∃ b1 b2 e1 e2, av = .agg [.lit (.map (some b1)), .lit (.map (some b2))] ∧ mem = [] ∧ maps = [(b2, ⟨9, e2⟩), (b1, ⟨120, e1⟩)] ∧ b1 ≠ b2 ∧ AtIs l l.length e1 ∧ TextIs l l.length e2) := by
  have cl : ∀ (i : Nat) (c : AV), i < l.length → c ∈ opCells l i → Closed c := fun i c _ h => opClosed l i c h
  refine vproc_start Tryd.func39 (by kernel_rfl) rfl (by simp [Tryd.ntmps39]) ?_
  simp only [Tryd.ntmps39, Tryd.results39]
  simp [go_sem]
  refine fun b1 b2 hb => ⟨by omega, ?_⟩
  have hb' : ¬ b2 = b1 := fun e => hb e.symm
  refine vc_loop (fun p : Nat × List (Value × Value) × List (Value × Value) => p.1 ≤ l.length ∧ AtIs l p.1 p.2.1 ∧ TextIs l p.1 p.2.2) (fun p => l.length - p.1)
    (fun p => ⟨[(2, .ptr 1 2 0 0), (3, .ptr 2 2 0 0), (10, .sl 4 l.length (opCells l)), (11, .lit (.int .i64 l.length)), (12, .lit (.int .i64 p.1))],
      [none, some ⟨68, 2, 1, fun _ => [.lit (.map none), .lit (.map none)]⟩, some ⟨68, 2, 1, fun _ => [.lit (.map (some b1)), .lit (.map (some b2))]⟩], [(b2, ⟨9, p.2.2⟩), (b1, ⟨120, p.2.1⟩)], 0⟩) ⟨(0, [], []), ⟨by omega, ⟨by simp, by simp [mget]⟩, by simp, by simp [mget]⟩, ?_⟩ (fun p hp => ?_)
  · simp [go_sem]
    exact ⟨fun e => hb e.symm, cl⟩
  · obtain ⟨i, e1, e2⟩ := p
    simp only at hp
    simp [go_sem, opCells_at]
    refine ⟨fun h => ⟨h, vc_drawn [5] (.q 0 <| .q 1 <| .q 2 <| .q 4 <| .or 3 (.or 5 (.done) (.nil)) (.nil)) (by kernel_rfl) ?_⟩, fun h => ?_⟩
    · simp [go_sem]
      refine vcallV_val (c_placeOf (opAt l i)) ?_ ?_ ?_
      · simp [go_sem, POp.cells]
      · simp [go_sem]
      · simp [go_sem, hb, hb']
        refine vmsetK_use keyedPlace (keyPlace (hw i h)) ?_
        simp [go_sem, hb, hb']
        simp only [placeV_fold, opV_fold]
        refine vlookK_use keyedString (keyString (hw i h)) _ zeroInt ?_
        have fin : ∀ n : Int, ∃ j es1 es2, (j ≤ l.length ∧ AtIs l j es1 ∧ TextIs l j es2) ∧ l.length - j < l.length - i ∧ (mput e2 (.string (opAt l i).text) (.int .i64 n) = es2 ∧ mput e1 (placeV (opAt l i)) (opV (opAt l i)) = es1) ∧ ((∀ (i : Nat) (c : AV), i < l.length → c ∈ opCells l i → Closed c) ∧ IntKind.i64.wrap ((i : Int) + 1) = j) := fun n =>
          ⟨i + 1, _, _, ⟨by omega, atIs_step hp.2.1, textIs_step hp.2.2 n⟩, by omega, ⟨rfl, rfl⟩, cl, wrap_succ (by omega)⟩
        cases hm : mget e2 (.string (opAt l i).text) with
        | none =>
          simp [go_sem, hb, hb']
          refine vmsetK_use keyedString (keyString (hw i h)) ?_
          simp [go_sem, hb, hb']
          exact fin _
        | some v =>
          obtain ⟨_, n, rfl⟩ := hp.2.2.2 _ _ hm
          simp [go_sem, hb, hb']
          refine vmsetK_use keyedString (keyString (hw i h)) ?_
          simp [go_sem, hb, hb']
          exact fin _
    · have hi : i = l.length := by omega
      subst hi
      refine ⟨rfl, [], [], by simp, by simp, by simp [go_sem], by simp [go_sem], by simp [go_sem], ?_⟩
      simp [go_sem]
      exact ⟨b1, b2, ⟨rfl, rfl⟩, e1, e2, ⟨⟨rfl, rfl⟩, rfl, rfl⟩, hb, hp.2⟩
/-! what stands in front of a text -/
theorem textIs_has {l : List POp} {es : List (Value × Value)} (h : TextIs l l.length es) (z : ByteArray) : (mget es (.string z)).isSome = textHas l z := by
  cases e : textHas l z with
  | true =>
    simp only [textHas, List.any_eq_true, List.mem_range, decide_eq_true_eq] at e
    obtain ⟨j, hj, rfl⟩ := e
    exact h.1 j hj
  | false =>
    rw [Bool.eq_false_iff]
    intro h1
    obtain ⟨v, hv⟩ := Option.isSome_iff_exists.1 h1
    obtain ⟨⟨j, hj, e2⟩, _⟩ := h.2 _ v hv
    simp only [textHas, List.any_eq_false, List.mem_range, decide_eq_true_eq] at e
    simp only [Value.string.injEq] at e2
    exact e j hj e2.symm
end Go.Proofs.YtbjkgfooangjhaaDoor.V
/- Contracts: what tokens do, by the specification. -/
namespace Go.Proofs.YtbjkgfooangjhaaDoor.V
open Go.RowKit
set_option linter.unusedVariables false
set_option linter.unusedSimpArgs false
set_option linter.constructorNameAsVariable false
/-- behind an operand, in front of token i -/
def stAt (l : List POp) (t : List PTok) : Nat → Bool
  | 0 => false
  | i + 1 => decide ((tokAt t i).kind = 1) || decide ((tokAt t i).kind = 2) || decide ((tokAt t i).kind = 5) || (decide ((tokAt t i).kind = 3) && stAt l t i && opHas l (tokAt t i).text 3)
/-- brackets that are open in front of token i -/
def openAt (t : List PTok) : Nat → Int
  | 0 => 0
  | i + 1 => openAt t i + (if (tokAt t i).kind = 4 then 1 else 0) - (if (tokAt t i).kind = 5 then 1 else 0)
theorem openAt_le (t : List PTok) : ∀ i : Nat, -(i : Int) ≤ openAt t i ∧ openAt t i ≤ i
  | 0 => by simp [openAt]
  | i + 1 => by
    have := openAt_le t i
    simp only [openAt]
    split <;> split <;> omega
def roleAt (l : List POp) (t : List PTok) (i : Nat) (b : Bool) : Int :=
  if b = false then
    if (tokAt t i).kind = 1 ∨ (tokAt t i).kind = 2 ∨ (tokAt t i).kind = 4 then 0
    else if (tokAt t i).kind = 3 ∧ opHas l (tokAt t i).text 1 = true then 1 else -1
  else if (tokAt t i).kind = 3 ∧ opHas l (tokAt t i).text 2 = true then 2
  else if (tokAt t i).kind = 3 ∧ opHas l (tokAt t i).text 3 = true then 3
  else if (tokAt t i).kind = 5 ∧ 0 < openAt t i then 0
  else if (tokAt t i).kind = 7 ∧ openAt t i = 0 ∧ i + 1 = t.length then 0 else -1
def rolesUp (l : List POp) (t : List PTok) (n : Nat) : List Int := (List.range n).map fun i => roleAt l t i (stAt l t i)
def boolCells (f : Nat → Bool) (i : Nat) : List AV := [.lit (.bool (f i))]
theorem boolCells_at (f : Nat → Bool) (i : Nat) : boolCells f i = [.lit (.bool (f i))] := rfl
theorem boolClosed (f : Nat → Bool) (i : Nat) (c : AV) (h : c ∈ boolCells f i) : Closed c := by
  simp [boolCells] at h
  subst h
  exact .lit _
@[go_sem] theorem boolOne (f : Nat → Bool) (i : Nat) : (boolCells f i).all oneAV = true := rfl
/-- the first token that does not fit; the roles -/
def firstBad (l : List POp) (t : List PTok) : Option Nat := (List.range t.length).find? fun i => decide (roleAt l t i (stAt l t i) < 0)
def endsOk (t : List PTok) : Bool := decide (t.length ≠ 0) && decide ((tokAt t (t.length - 1)).kind = 7)
def rolesZ (l : List POp) (t : List PTok) : List Int × Int :=
  if tblOk l ≠ 0 then ([], 0) else match firstBad l t with
    | some i => ([], i)
    | none => if endsOk t then (rolesUp l t t.length, -1) else ([], t.length)
theorem firstBad_some {l : List POp} {t : List PTok} {i : Nat} (hi : i < t.length) (h : ∀ j, j < i → 0 ≤ roleAt l t j (stAt l t j)) (hb : roleAt l t i (stAt l t i) < 0) : firstBad l t = some i := by
  unfold firstBad
  rw [List.find?_range_eq_some]
  refine ⟨by simpa using hb, by simpa using hi, fun j hj => ?_⟩
  simpa using h j hj
theorem firstBad_none {l : List POp} {t : List PTok} (h : ∀ j, j < t.length → 0 ≤ roleAt l t j (stAt l t j)) : firstBad l t = none := by
  unfold firstBad
  rw [List.find?_eq_none]
  intro j hj
  have := h j (by simpa using hj)
  simp only [decide_eq_true_eq]
  omega
theorem rolesUp_succ (l : List POp) (t : List PTok) (n : Nat) : rolesUp l t (n + 1) = rolesUp l t n ++ [roleAt l t n (stAt l t n)] := by simp [rolesUp, List.range_succ]
theorem rolesUp_len (l : List POp) (t : List PTok) (n : Nat) : (rolesUp l t n).length = n := by simp [rolesUp]
theorem roleAt_range (l : List POp) (t : List PTok) (i : Nat) (b : Bool) : -1 ≤ roleAt l t i b ∧ roleAt l t i b ≤ 3 := by
  unfold roleAt
  split
  · split
    · omega
    · split <;> omega
  · split
    · omega
    · split
      · omega
      · split
        · omega
        · split <;> omega
theorem int_app1 (a : List Int) (x : Int) (i : Nat) (hi : i < a.length + 1) : joinF a.length (intCells a) (fun q => [[AV.lit (.int .i64 x)]][q]?.getD []) i = intCells (a ++ [x]) i := by
  unfold joinF
  split
  · rename_i h
    simp [intCells, intAt, List.getD_eq_getElem?_getD, List.getElem?_append_left h]
  · have e : i = a.length := by omega
    subst e
    simp [intCells, intAt, List.getD_eq_getElem?_getD]
@[go_sem] theorem intOne (a : List Int) (i : Nat) : (intCells a i).all oneAV = true := rfl
end Go.Proofs.YtbjkgfooangjhaaDoor.V
/- Contracts: an operator looked up in the index. -/
namespace Go.Proofs.YtbjkgfooangjhaaDoor.V
open Go.RowKit
open Go.Maps (Keyed)
set_option linter.unusedVariables false
set_option linter.unusedSimpArgs false
set_option linter.constructorNameAsVariable false
def noOp : POp := ⟨⟨#[]⟩, 0, 0, 0⟩
theorem zeroOpV : zeroIs Tryd.prog 110 (opV noOp) := fun w => Tryd.zeroValue110 w
/-- no two operators at one place -/
def Uniq (l : List POp) : Prop := ∀ i j, i < l.length → j < l.length → (opAt l i).text = (opAt l j).text → ((opAt l i).kind == 1) = ((opAt l j).kind == 1) → opAt l i = opAt l j
theorem uniq_of_ok {l : List POp} (h : tblOk l = 0) : Uniq l := by
  have hc : tblClash l 3 = false := by
    unfold tblOk at h
    cases hh : tblClash l 3
    · rfl
    · rw [hh] at h
      split at h
      · cases h
      · split at h
        · cases h
        · simp at h
  intro i j hi hj e1 e2
  have no : ∀ i j, i < l.length → j < i → clash (opAt l i) (opAt l j) 3 = true → False := fun i j hi hj hcl => by
    have := (tblClash_iff l 3).2 ⟨i, hi, j, hj, hcl⟩
    rw [hc] at this
    cases this
  rcases Nat.lt_trichotomy i j with hlt | rfl | hlt
  · exact (no j i hj hlt (by simp [clash, e1, e2])).elim
  · rfl
  · exact (no i j hi hlt (by simp [clash, e1, e2])).elim
theorem at_cases {l : List POp} {es : List (Value × Value)} (h : AtIs l l.length es) (z : ByteArray) (pre : Bool) :
    (mget es (.agg #[.string z, .bool pre]) = none ∧ ∀ j, j < l.length → ¬ ((opAt l j).text = z ∧ ((opAt l j).kind == 1) = pre)) ∨
    ∃ j, j < l.length ∧ mget es (.agg #[.string z, .bool pre]) = some (opV (opAt l j)) ∧ (opAt l j).text = z ∧ ((opAt l j).kind == 1) = pre := by
  cases hm : mget es (.agg #[.string z, .bool pre]) with
  | none =>
    refine .inl ⟨rfl, fun j hj e => ?_⟩
    have := h.1 j hj
    rw [placeV, e.1, e.2, hm] at this
    cases this
  | some v =>
    obtain ⟨j, hj, e1, e2⟩ := h.2 _ _ hm
    simp only [placeV, Value.agg.injEq, Array.mk.injEq, List.cons.injEq, Value.string.injEq, Value.bool.injEq, and_true] at e1
    exact .inr ⟨j, hj, by rw [e2], e1.1.symm, e1.2.symm⟩
theorem opHas_iff (l : List POp) (z : ByteArray) (k : Int) : opHas l z k = true ↔ ∃ j, j < l.length ∧ (opAt l j).text = z ∧ (opAt l j).kind = k := by
  simp [opHas]
theorem c_of (l : List POp) (hu : Uniq l) (b1 b2 : Nat) (es : List (Value × Value)) (h : AtIs l l.length es) (z : ByteArray) (hz : z.size ≤ maxLen) (k : Int) : VProc Tryd.prog 71 [.agg [.lit (.map (some b1)), .lit (.map (some b2))], .lit (.string z), .lit (.int .i64 k)] [] [(b1, ⟨120, es⟩)] (fun av mem maps => (∃ o : POp, av = .tup [.agg o.cells, .lit (.bool (opHas l z k))] ∧ (opHas l z k = true → ∃ j, j < l.length ∧ o = opAt l j ∧ o.text = z ∧ o.kind = k)) ∧ mem = [] ∧ maps = [(b1, ⟨120, es⟩)]) := by
  have fin : ∀ (t : List (Nat × AV)) (m : List (Option Ob)) (o : POp), (opHas l z k = true → ∃ j, j < l.length ∧ o = opAt l j ∧ o.text = z ∧ o.kind = k) → vendP [(b1, ⟨120, es⟩)] (fun av mem maps => (∃ o : POp, av = .tup [.agg o.cells, .lit (.bool (opHas l z k))] ∧ (opHas l z k = true → ∃ j, j < l.length ∧ o = opAt l j ∧ o.text = z ∧ o.kind = k)) ∧ mem = [] ∧ maps = [(b1, ⟨120, es⟩)]) ⟨t, m, [(b1, ⟨120, es⟩)], 0⟩ (.tup [.agg o.cells, .lit (.bool (opHas l z k))]) := by
    intro t m o ho
    refine ⟨rfl, [], [], by simp, by simp, by simp [go_sem, POp.cells], by simp [go_sem], by simp [go_sem], ?_⟩
    simp only [POp.cells]
    exact ⟨⟨o, rfl, ho⟩, by simp [go_sem], by simp⟩
  refine vproc_start Tryd.func71 (by kernel_rfl) rfl (by simp [Tryd.ntmps71]) ?_
  simp only [Tryd.ntmps71, Tryd.results71]
  simp [go_sem]
  refine vlookK_use keyedPlace (keyPlace hz) _ zeroOpV ?_
  rcases at_cases h z (k == 1) with ⟨h1, h3⟩ | ⟨j, hj, h1, h3, h4⟩
  · rw [h1]
    have hno : opHas l z k = false := by
      rw [Bool.eq_false_iff]
      intro e
      obtain ⟨j, hj, e1, e2⟩ := (opHas_iff l z k).1 e
      exact h3 j hj ⟨e1, by rw [e2]⟩
    simp [go_sem, opV, noOp]
    refine vc_drawnE (⟨[(6, .ptr 0 4 0 0), (7, .lit (.bool false))], [some ⟨110, 4, 1, fun _ => noOp.cells⟩], [(b1, ⟨120, es⟩)], 0⟩) [8] (.q 0 <| .q 1 <| .q 2 <| .or 3 (.or 4 (.or 5 (.or 6 (.or 7 (.or 8 (.q 9 <| .done) (.nil)) (.or 8 (.q 7 <| .q 9 <| .done) (.nil))) (.or 8 (.q 6 <| .q 7 <| .q 9 <| .done) (.nil))) (.or 8 (.q 5 <| .q 6 <| .q 7 <| .q 9 <| .done) (.nil))) (.or 5 (.or 4 (.or 6 (.or 7 (.or 8 (.q 9 <| .done) (.nil)) (.or 8 (.q 7 <| .q 9 <| .done) (.nil))) (.or 8 (.q 6 <| .q 7 <| .q 9 <| .done) (.nil))) (.or 8 (.q 4 <| .q 6 <| .q 7 <| .q 9 <| .done) (.nil))) (.or 8 (.q 4 <| .q 5 <| .q 6 <| .q 7 <| .q 9 <| .done) (.nil)))) (.or 5 (.or 3 (.or 4 (.or 6 (.or 7 (.or 8 (.q 9 <| .done) (.nil)) (.or 8 (.q 7 <| .q 9 <| .done) (.nil))) (.or 8 (.q 6 <| .q 7 <| .q 9 <| .done) (.nil))) (.or 8 (.q 4 <| .q 6 <| .q 7 <| .q 9 <| .done) (.nil))) (.or 8 (.q 3 <| .q 4 <| .q 6 <| .q 7 <| .q 9 <| .done) (.nil))) (.or 8 (.q 3 <| .q 4 <| .q 5 <| .q 6 <| .q 7 <| .q 9 <| .done) (.nil)))) (by kernel_rfl) ?_ ?_
    · simp [go_sem]
      repeat' apply And.intro
      all_goals
        refine ent_ks [1] (by simp) (by simp) (by simp) (by simp) (by simp [go_sem]) ?_ ?_
        · simp [go_sem]
        · simp [go_sem, noOp, POp.cells]
    · have := fin [(6, .ptr 0 4 0 0), (7, .lit (.bool false))] [some ⟨110, 4, 1, fun _ => noOp.cells⟩] noOp (fun e => by rw [hno] at e; cases e)
      rw [hno] at this ⊢
      simp only [POp.cells, noOp] at this
      simp [go_sem, noOp, POp.cells] at this ⊢
      exact this
  · rw [h1]
    have hyes : opHas l z k = ((opAt l j).kind == k) := by
      rw [Bool.eq_iff_iff, opHas_iff]
      simp only [beq_iff_eq]
      constructor
      · rintro ⟨j', hj', e1, e2⟩
        have := hu j' j hj' hj (by rw [e1, h3]) (by rw [e2, h4])
        rw [← this]; exact e2
      · exact fun e => ⟨j, hj, h3, e⟩
    have hfin := fin [(6, .ptr 0 4 0 0), (7, .lit (.bool ((opAt l j).kind == k)))] [some ⟨110, 4, 1, fun _ => (opAt l j).cells⟩] (opAt l j) (fun e => ⟨j, hj, rfl, h3, by rw [hyes] at e; simpa using e⟩)
    rw [hyes] at hfin ⊢
    simp [go_sem, opV]
    refine vc_drawnE (⟨[(6, .ptr 0 4 0 0), (7, .lit (.bool ((opAt l j).kind == k)))], [some ⟨110, 4, 1, fun _ => (opAt l j).cells⟩], [(b1, ⟨120, es⟩)], 0⟩) [8] (.q 0 <| .q 1 <| .q 2 <| .or 3 (.or 4 (.or 5 (.or 6 (.or 7 (.or 8 (.q 9 <| .done) (.nil)) (.or 8 (.q 7 <| .q 9 <| .done) (.nil))) (.or 8 (.q 6 <| .q 7 <| .q 9 <| .done) (.nil))) (.or 8 (.q 5 <| .q 6 <| .q 7 <| .q 9 <| .done) (.nil))) (.or 5 (.or 4 (.or 6 (.or 7 (.or 8 (.q 9 <| .done) (.nil)) (.or 8 (.q 7 <| .q 9 <| .done) (.nil))) (.or 8 (.q 6 <| .q 7 <| .q 9 <| .done) (.nil))) (.or 8 (.q 4 <| .q 6 <| .q 7 <| .q 9 <| .done) (.nil))) (.or 8 (.q 4 <| .q 5 <| .q 6 <| .q 7 <| .q 9 <| .done) (.nil)))) (.or 5 (.or 3 (.or 4 (.or 6 (.or 7 (.or 8 (.q 9 <| .done) (.nil)) (.or 8 (.q 7 <| .q 9 <| .done) (.nil))) (.or 8 (.q 6 <| .q 7 <| .q 9 <| .done) (.nil))) (.or 8 (.q 4 <| .q 6 <| .q 7 <| .q 9 <| .done) (.nil))) (.or 8 (.q 3 <| .q 4 <| .q 6 <| .q 7 <| .q 9 <| .done) (.nil))) (.or 8 (.q 3 <| .q 4 <| .q 5 <| .q 6 <| .q 7 <| .q 9 <| .done) (.nil)))) (by kernel_rfl) ?_ ?_
    · simp [go_sem]
      repeat' apply And.intro
      all_goals
        refine ent_ks [1] (by simp) (by simp) (by simp) (by simp) (by simp [go_sem]) ?_ ?_
        · simp [go_sem]
        · simp [go_sem, POp.cells]
    · simp only [POp.cells] at hfin
      simp [go_sem, POp.cells] at hfin ⊢
      exact hfin
end Go.Proofs.YtbjkgfooangjhaaDoor.V
/- Contracts: well-formed and admissible trees, by the reference. -/
namespace Go.Proofs.YtbjkgfooangjhaaDoor.V
open Go.RowKit
open Go.Maps (Keyed)
set_option linter.unusedVariables false
set_option linter.unusedSimpArgs false
set_option linter.constructorNameAsVariable false
def opIs (z : ByteArray) (k : Int) (o : POp) : Bool := decide (o.text = z) && decide (o.kind = k)
/-- the first operator of a table with a text and a kind -/
def opOf (l : List POp) (z : ByteArray) (k : Int) : POp := (l.find? (opIs z k)).getD noOp
theorem find_at {l : List POp} {z : ByteArray} {k : Int} : ∀ {i : Nat}, i < l.length → opIs z k (opAt l i) = true → (∀ j, j < i → opIs z k (opAt l j) = false) → l.find? (opIs z k) = some (opAt l i) := by
  induction l with
  | nil => intro i h; simp at h
  | cons a r ih =>
    intro i h h1 h2
    cases i with
    | zero =>
      have e : opAt (a :: r) 0 = a := rfl
      rw [e] at h1 ⊢
      simp [List.find?_cons, h1]
    | succ i =>
      have e0 := h2 0 (by omega)
      have e : opAt (a :: r) 0 = a := rfl
      have es : ∀ j, opAt (a :: r) (j + 1) = opAt r j := fun j => rfl
      rw [e] at e0
      rw [List.find?_cons, e0]
      simp only [es] at h1 ⊢
      exact ih (by simpa using h) h1 fun j hj => by
        have := h2 (j + 1) (by omega)
        rw [es] at this; exact this
theorem opOf_at {l : List POp} {z : ByteArray} {k : Int} {i : Nat} (h : i < l.length) (h1 : opIs z k (opAt l i) = true) (h2 : ∀ j, j < i → opIs z k (opAt l j) = false) : opOf l z k = opAt l i := by
  unfold opOf; rw [find_at h h1 h2]; rfl
theorem opHas_has {l : List POp} {z : ByteArray} {k : Int} (h : opHas l z k = true) : ∃ i, i < l.length ∧ opOf l z k = opAt l i ∧ (opAt l i).text = z ∧ (opAt l i).kind = k := by
  obtain ⟨j, hj, e1, e2⟩ := (opHas_iff l z k).1 h
  have key : ∀ n, (∃ j, j < n ∧ j < l.length ∧ opIs z k (opAt l j) = true) → ∃ i, i < l.length ∧ opIs z k (opAt l i) = true ∧ ∀ j, j < i → opIs z k (opAt l j) = false := by
    intro n
    induction n with
    | zero => rintro ⟨j, hj, _⟩; omega
    | succ n ih =>
      rintro ⟨j, hj, hl, h⟩
      by_cases hx : ∃ j, j < n ∧ j < l.length ∧ opIs z k (opAt l j) = true
      · exact ih hx
      · refine ⟨j, hl, h, fun q hq => ?_⟩
        cases e : opIs z k (opAt l q) with
        | false => rfl
        | true => exact absurd ⟨q, by omega, by omega, e⟩ hx
  obtain ⟨i, hi, g1, g2⟩ := key (j + 1) ⟨j, by omega, hj, by simp [opIs, e1, e2]⟩
  simp only [opIs, Bool.and_eq_true, decide_eq_true_eq] at g1
  exact ⟨i, hi, opOf_at hi (by simp [opIs, g1]) g2, g1.1, g1.2⟩
theorem c_l2FindS (l : List POp) (hl : l.length ≤ 9223372036854775807) (z : ByteArray) (kd : Int) : VFun Tryd.prog 62 [.agg [.sl 4 l.length (opCells l)], .lit (.string z), .lit (.int .i64 kd)] (fun av obs => obs = [] ∧ ((av = .lit (.int .i64 (-1)) ∧ opHas l z kd = false) ∨ ∃ i : Nat, av = .lit (.int .i64 i) ∧ i < l.length ∧ opHas l z kd = true ∧ opOf l z kd = opAt l i)) := by
  have cl : ∀ (i : Nat) (c : AV), i < l.length → c ∈ opCells l i → Closed c := fun i c _ h => opClosed l i c h
  refine vfun_start Tryd.func62 (by kernel_rfl) rfl (by simp [Tryd.ntmps62]) ?_
  simp only [Tryd.ntmps62, Tryd.results62]
  simp [go_sem]
  refine vc_loop (fun i : Nat => i ≤ l.length ∧ ∀ j, j < i → ¬ ((opAt l j).text = z ∧ (opAt l j).kind = kd)) (fun i => l.length - i) (fun i => .of [(1, .lit (.string z)), (2, .lit (.int .i64 kd)), (3, .ptr 0 1 0 0), (7, .lit (.int .i64 i))] [some ⟨42, 1, 1, fun _ => [.sl 4 l.length (opCells l)]⟩]) ⟨0, ⟨by omega, by simp⟩, ?_⟩ (fun i hi => ?_)
  · simp [go_sem]
    exact cl
  · simp [go_sem, opCells_at, ba_toList]
    have step : ¬ ((opAt l i).text = z ∧ (opAt l i).kind = kd) → ∀ j, j < i + 1 → ¬ ((opAt l j).text = z ∧ (opAt l j).kind = kd) := fun e j hj => by
      rcases Nat.lt_succ_iff_lt_or_eq.mp hj with hj | rfl
      · exact hi.2 j hj
      · exact e
    refine ⟨by omega, fun h => ?_, fun h => ?_⟩
    · have cl2 : ∀ (i : Nat) (c : AV), i < l.length → c = AV.lit (Value.string (opAt l i).text) ∨ c = AV.lit (Value.int IntKind.i64 (opAt l i).kind) ∨ c = AV.lit (Value.int IntKind.i64 (opAt l i).level) ∨ c = AV.lit (Value.int IntKind.i64 (opAt l i).side) → Closed c := by
        rintro i c _ (rfl | rfl | rfl | rfl) <;> exact .lit _
      refine ⟨h, fun e1 => ⟨h, fun e2 => ?_, fun e2 => ⟨i + 1, ⟨by omega, fun j hj e3 e4 => step (fun e5 => e2 e5.2) j hj ⟨e3, e4⟩⟩, by omega, wrap_succ (by omega), cl2⟩⟩, fun e1 => ⟨i + 1, ⟨by omega, fun j hj e3 e4 => step (fun e5 => e1 e5.1) j hj ⟨e3, e4⟩⟩, by omega, wrap_succ (by omega), cl2⟩⟩
      refine ⟨i, rfl, h, (opHas_iff l z kd).2 ⟨i, h, e1, e2⟩, opOf_at h (by simp [opIs, e1, e2]) fun j hj => ?_⟩
      have := hi.2 j hj
      simpa [opIs] using this
    · simp only [opHas, List.any_eq_false, List.mem_range]
      exact fun j hj => by
        have := hi.2 j (by omega)
        simp only [Bool.and_eq_true, decide_eq_true_eq]
        exact this
def isOpN (o : PNode) : Bool := decide (3 ≤ o.kind ∧ o.kind ≤ 5)
def ndOp (l : List POp) (n : PNode) : POp := opOf l n.text (n.kind - 2)
def lvlN (l : List POp) (n : PNode) : Int := if isOpN n then (ndOp l n).level else 1001
def fitsN (l : List POp) (t : List PNode) (i : Nat) : Bool := !isOpN (nodAt t i) || (decide (hole (ndOp l (nodAt t i)) false ≤ lvlN l (nodAt t (nodAt t i).a.toNat)) && (decide (kidsN (nodAt t i).kind = 1) || decide (hole (ndOp l (nodAt t i)) true ≤ lvlN l (nodAt t (nodAt t i).b.toNat))))
def opdAll (l : List POp) (t : List PNode) : Bool := (List.range t.length).all fun i => !isOpN (nodAt t i) || opHas l (nodAt t i).text ((nodAt t i).kind - 2)
def wellF (l : List POp) (t : List PNode) : Bool := decide (tblOk l = 0) && inOrd t && opdAll l t
def treeOk (l : List POp) (t : List PNode) : Int := if tblOk l ≠ 0 then 1 else if wellF l t = false then 2 else if (List.range t.length).all (fun i => fitsN l t i) then 0 else 3
/-- the kids of a node of a tree in order -/
theorem inOrd_kid {t : List PNode} (h : inOrd t = true) {i : Nat} (hi : i < t.length) : txtOk (nodAt t i) = true ∧ (1 ≤ (nodAt t i).kind ∧ (nodAt t i).kind ≤ 6) ∧ (kidsN (nodAt t i).kind ≠ 0 → 0 ≤ (nodAt t i).a ∧ (nodAt t i).a < i) ∧ (kidsN (nodAt t i).kind = 2 → 0 ≤ (nodAt t i).b ∧ (nodAt t i).b < i) := by
  simp only [inOrd, Bool.and_eq_true, decide_eq_true_eq] at h
  obtain ⟨⟨h1, h2⟩, h3⟩ := h
  have hx := List.all_eq_true.1 h3 i (List.mem_range.2 hi)
  have e1 : (t.length : Int) - 1 = ((t.length - 1 : Nat) : Int) := by omega
  rw [e1] at h2
  have h0 := fromZ_all t (t.length - 1) i (by omega) (by omega) (by omega)
  rw [fromZ_eq] at h0
  have hk : 1 ≤ (nodAt t i).kind ∧ (nodAt t i).kind ≤ 6 := Decidable.byContradiction fun hn => by rw [txtOk_range hn] at hx; cases hx
  refine ⟨hx, hk, fun hk0 => ?_, fun hk2 => ?_⟩
  · rw [if_neg hk0] at h0
    split at h0
    · split at h0
      · omega
      · rename_i hn
        by_cases hz : i = 0
        · subst hz; rw [fromZ_neg t (by omega)] at h0; omega
        · omega
    · split at h0
      · omega
      · split at h0
        · omega
        · rename_i hb hn
          have := fromZ_le t (i := (i : Int) - 1)
          by_cases hz : i = 0
          · subst hz; rw [fromZ_neg t (by omega)] at hn; omega
          · have := this (by omega)
            omega
  · rw [if_neg (by omega), if_neg (by omega)] at h0
    split at h0
    · omega
    · split at h0
      · omega
      · rename_i hb hn
        by_cases hz : i = 0
        · subst hz; rw [fromZ_neg t (by omega)] at hn; omega
        · omega
theorem opAt_wf {l : List POp} (hw : opsWf l) {z : ByteArray} {k : Int} (h : opHas l z k = true) : (opOf l z k).wf := by
  obtain ⟨i, hi, e, _⟩ := opHas_has h
  rw [e]; exact hw i hi
theorem c_l3IsOp (o : PNode) : VFun Tryd.prog 61 [.agg o.cells] (fun av obs => obs = [] ∧ av = .lit (.bool (isOpN o))) := by
  obtain ⟨z, k, x, y⟩ := o
  simp only [PNode.cells]
  refine vfun_start Tryd.func61 (by kernel_rfl) rfl (by simp [Tryd.ntmps61]) ?_
  simp only [Tryd.ntmps61, Tryd.results61]
  simp [go_sem]
  simp [isOpN]
  omega
theorem c_l3OpOf (l : List POp) (hl : l.length ≤ 9223372036854775807) (n : PNode) (hk : isOpN n = true) (h : opHas l n.text (n.kind - 2) = true) : VFun Tryd.prog 63 [.agg [.sl 4 l.length (opCells l)], .agg n.cells] (fun av obs => obs = [] ∧ av = .agg (ndOp l n).cells) := by
  have cl : ∀ (i : Nat) (c : AV), i < l.length → c ∈ opCells l i → Closed c := fun i c _ h => opClosed l i c h
  obtain ⟨z, k, x, y⟩ := n
  simp only [isOpN, decide_eq_true_eq] at hk
  simp only [PNode.cells] at h ⊢
  have e1 : IntKind.i64.wrap (k - 2) = k - 2 := wrap_i64 (by omega)
  refine vfun_start Tryd.func63 (by kernel_rfl) rfl (by simp [Tryd.ntmps63]) ?_
  simp only [Tryd.ntmps63, Tryd.results63]
  simp [go_sem]
  refine vc_drawn [11] (.q 0 <| .q 1 <| .q 2 <| .q 3 <| .q 4 <| .q 5 <| .q 6 <| .q 7 <| .or 8 (.q 9 <| .q 10 <| .or 11 (.done) (.nil)) (.nil)) (by kernel_rfl) ?_
  simp [go_sem, e1]
  refine vcallV_use (c_l2FindS l hl z (k - 2)) ?_ ?_
  · simp [go_sem]
    exact argSl_refl (by omega) cl
  · rintro av obs ⟨rfl, ⟨rfl, hn⟩ | ⟨i, rfl, hi, _, he⟩⟩
    · rw [h] at hn; cases hn
    · simp [go_sem, opCells_at]
      refine ⟨hi, ?_⟩
      simp [ndOp, he, POp.cells]
theorem c_l3Level (l : List POp) (hl : l.length ≤ 9223372036854775807) (n : PNode) (h : isOpN n = true → opHas l n.text (n.kind - 2) = true) : VFun Tryd.prog 64 [.agg [.sl 4 l.length (opCells l)], .agg n.cells] (fun av obs => obs = [] ∧ av = .lit (.int .i64 (lvlN l n))) := by
  have cl : ∀ (i : Nat) (c : AV), i < l.length → c ∈ opCells l i → Closed c := fun i c _ h => opClosed l i c h
  have c1 := c_l3IsOp n
  have c2 := c_l3OpOf l hl n
  simp only [PNode.cells, POp.cells] at c1 c2 ⊢
  refine vfun_start Tryd.func64 (by kernel_rfl) rfl (by simp [Tryd.ntmps64]) ?_
  simp only [Tryd.ntmps64, Tryd.results64]
  simp [go_sem]
  refine vcall_pure c1 ?_ ?_
  · simp [go_sem]
  · cases hk : isOpN n with
    | true =>
      simp [go_sem]
      refine vcall_val (c2 hk (h hk)) ?_ ?_ ?_
      · simp [go_sem]
        exact argSl_refl (by omega) cl
      · simp [go_sem]
      · simp [go_sem, lvlN, hk]
    | false => simp [go_sem, lvlN, hk]
theorem c_l3Fits (l : List POp) (hl : l.length ≤ 9223372036854775807) (hw : opsWf l) (t : List PNode) (ht : t.length ≤ 9223372036854775807) (i : Nat) (hi : i < t.length) (ha : isOpN (nodAt t i) = true → opHas l (nodAt t i).text ((nodAt t i).kind - 2) = true ∧ (0 ≤ (nodAt t i).a ∧ (nodAt t i).a < t.length) ∧ (isOpN (nodAt t (nodAt t i).a.toNat) = true → opHas l (nodAt t (nodAt t i).a.toNat).text ((nodAt t (nodAt t i).a.toNat).kind - 2) = true) ∧
    (kidsN (nodAt t i).kind ≠ 1 → (0 ≤ (nodAt t i).b ∧ (nodAt t i).b < t.length) ∧ (isOpN (nodAt t (nodAt t i).b.toNat) = true → opHas l (nodAt t (nodAt t i).b.toNat).text ((nodAt t (nodAt t i).b.toNat).kind - 2) = true))) :
    VFun Tryd.prog 36 [.agg [.sl 4 l.length (opCells l)], .sl 4 t.length (nodCells t), .lit (.int .i64 i)] (fun av obs => obs = [] ∧ av = .lit (.bool (fitsN l t i))) := by
  have cl : ∀ (i : Nat) (c : AV), i < l.length → c ∈ opCells l i → Closed c := fun i c _ h => opClosed l i c h
  have c1 := c_l3IsOp (nodAt t i)
  have c2 := c_l3OpOf l hl (nodAt t i)
  simp only [PNode.cells, POp.cells] at c1 c2
  refine vfun_start Tryd.func36 (by kernel_rfl) rfl (by simp [Tryd.ntmps36]) ?_
  simp only [Tryd.ntmps36, Tryd.results36]
  simp [go_sem]
  simp [go_sem, nodCells_at]
  refine ⟨hi, vcall_pure c1 ?_ ?_⟩
  · simp [go_sem]
  · cases hk : isOpN (nodAt t i) with
    | false => simp [go_sem, fitsN, hk]
    | true =>
      obtain ⟨h1, h2, h3, h4⟩ := ha hk
      have howf : (ndOp l (nodAt t i)).wf := opAt_wf hw h1
      simp [go_sem]
      refine vcall_val (c2 hk h1) ?_ ?_ ?_
      · simp [go_sem]
        exact argSl_refl (by omega) cl
      · simp [go_sem]
      · simp [go_sem]
        refine vc_drawn [] (.q 0 <| .q 1 <| .q 2 <| .q 3 <| .q 4 <| .q 5 <| .q 7 <| .or 6 (.or 8 (.q 9 <| .done) (.nil)) (.nil)) (by kernel_rfl) ?_
        simp [go_sem, nodCells_at]
        have c3 := c_l3Level l hl (nodAt t (nodAt t i).a.toNat) h3
        have c4 := c_l1Hole (ndOp l (nodAt t i)) howf
        simp only [PNode.cells, POp.cells] at c3 c4
        refine ⟨h2.1, h2.2, vcallV_pure c3 ?_ ?_⟩
        · simp [go_sem]
          exact argSl_refl (by omega) cl
        · simp [go_sem]
          refine vcallV_pure (c4 false) ?_ ?_
          · simp [go_sem]
          · simp [go_sem]
            refine ⟨fun h5 => by simp [fitsN, hk]; omega, fun h5 => vc_drawn [] (.q 0 <| .q 1 <| .or 2 (.q 3 <| .q 4 <| .q 5 <| .q 6 <| .q 7 <| .q 8 <| .q 9 <| .q 10 <| .q 12 <| .or 11 (.or 13 (.q 14 <| .q 15 <| .q 16 <| .done) (.nil)) (.nil)) (.nil)) (by kernel_rfl) ?_⟩
            simp [go_sem]
            refine vcallV_pure (c_l3Kids (nodAt t i).kind) ?_ ?_
            · simp [go_sem]
            · by_cases hk1 : kidsN (nodAt t i).kind = 1
              · simp [go_sem, hk1, fitsN, hk, h5]
              · obtain ⟨h6, h7⟩ := h4 hk1
                have c5 := c_l3Level l hl (nodAt t (nodAt t i).b.toNat) h7
                simp only [PNode.cells] at c5
                simp [go_sem, hk1, nodCells_at]
                refine ⟨h6.1, h6.2, vcallV_pure c5 ?_ ?_⟩
                · simp [go_sem]
                  exact argSl_refl (by omega) cl
                · simp [go_sem]
                  refine vcallV_pure (c4 true) ?_ ?_
                  · simp [go_sem]
                  · simp [go_sem, fitsN, hk, h5, hk1]
theorem c_l3WellFormed (l : List POp) (hl : l.length ≤ 9223372036854775807) (hw : opsWf l) (t : List PNode) (ht : t.length ≤ 9223372036854775807) (hwt : ∀ i, i < t.length → (nodAt t i).wf) : VFun Tryd.prog 35 [.agg [.sl 4 l.length (opCells l)], .agg [.sl 4 t.length (nodCells t)]] (fun av obs => obs = [] ∧ av = .lit (.bool (wellF l t))) := by
  have cl : ∀ (i : Nat) (c : AV), i < l.length → c ∈ opCells l i → Closed c := fun i c _ h => opClosed l i c h
  have clt : ∀ (i : Nat) (c : AV), i < t.length → c ∈ nodCells t i → Closed c := fun i c _ h => nodClosed t i c h
  refine vfun_start Tryd.func35 (by kernel_rfl) rfl (by simp [Tryd.ntmps35]) ?_
  simp only [Tryd.ntmps35, Tryd.results35]
  simp [go_sem]
  refine vcall_pure (c_specTableOk l hl hw) ?_ ?_
  · simp [go_sem]
    exact argSl_refl (by omega) cl
  · simp [go_sem]
    refine ⟨fun h0 => ?_, fun h0 => by simp [wellF, h0]⟩
    refine vcall_pure (c_l3InOrder t ht hwt) ?_ ?_
    · simp [go_sem]
      exact argSl_refl (by omega) clt
    · simp [go_sem]
      refine ⟨fun h1 => by simp [wellF, h1], fun h1 => ?_⟩
      refine vc_loop (fun i : Nat => i ≤ t.length ∧ ∀ j, j < i → isOpN (nodAt t j) = true → opHas l (nodAt t j).text ((nodAt t j).kind - 2) = true) (fun i => t.length - i)
        (fun i => .of [(2, .ptr 0 1 0 0), (3, .ptr 1 1 0 0), (5, .lit (.int .i64 i))] [some ⟨42, 1, 1, fun _ => [.sl 4 l.length (opCells l)]⟩, some ⟨28, 1, 1, fun _ => [.sl 4 t.length (nodCells t)]⟩]) ⟨0, ⟨by omega, by simp⟩, ?_⟩ (fun i hi => ?_)
      · simp [go_sem]
        exact ⟨cl, clt⟩
      · simp [go_sem, nodCells_at]
        have c1 := c_l3IsOp (nodAt t i)
        simp only [PNode.cells] at c1
        have next : i < t.length → (isOpN (nodAt t i) = true → opHas l (nodAt t i).text ((nodAt t i).kind - 2) = true) → i + 1 ≤ t.length ∧ ∀ j, j < i + 1 → isOpN (nodAt t j) = true → opHas l (nodAt t j).text ((nodAt t j).kind - 2) = true := fun h e => ⟨by omega, fun j hj => by
          rcases Nat.lt_succ_iff_lt_or_eq.mp hj with hj | rfl
          · exact hi.2 j hj
          · exact e⟩
        refine ⟨by omega, fun h => ⟨h, vcall_pure c1 ?_ ?_⟩, fun h => ?_⟩
        · simp [go_sem]
        · cases hk : isOpN (nodAt t i) with
          | false =>
            simp [go_sem]
            exact ⟨i + 1, next h (fun e => by rw [hk] at e; cases e), by omega, wrap_succ (by omega), cl, clt⟩
          | true =>
            have hk' := hk
            simp only [isOpN, decide_eq_true_eq] at hk'
            have e1 : IntKind.i64.wrap ((nodAt t i).kind - 2) = (nodAt t i).kind - 2 := wrap_i64 (by omega)
            simp [go_sem, e1]
            refine vcall_use (c_l2FindS l hl (nodAt t i).text ((nodAt t i).kind - 2)) ?_ ?_
            · simp [go_sem]
              exact argSl_refl (by omega) cl
            · rintro av obs ⟨rfl, ⟨rfl, hn⟩ | ⟨q, rfl, hq, hp, he⟩⟩
              · simp [go_sem]
                simp only [wellF, opdAll, all_false (p := fun i => !isOpN (nodAt t i) || opHas l (nodAt t i).text ((nodAt t i).kind - 2)) h (by simp [hk, hn]), Bool.and_false]
              · simp [go_sem, show ¬ ((q : Int) < 0) by omega]
                exact ⟨i + 1, next h (fun _ => hp), by omega, wrap_succ (by omega), cl, clt⟩
        · have hl1 : i = t.length := by omega
          subst hl1
          simp only [wellF, opdAll, all_true (p := fun i => !isOpN (nodAt t i) || opHas l (nodAt t i).text ((nodAt t i).kind - 2)) (n := t.length) fun j hj => by
            cases hk : isOpN (nodAt t j) with
            | false => rfl
            | true => simp [hi.2 j hj hk], h0, h1, decide_true, Bool.and_true]
theorem wellF_fits {l : List POp} {t : List PNode} (h : wellF l t = true) {i : Nat} (hi : i < t.length) (hk : isOpN (nodAt t i) = true) : opHas l (nodAt t i).text ((nodAt t i).kind - 2) = true ∧ (0 ≤ (nodAt t i).a ∧ (nodAt t i).a < t.length) ∧ (isOpN (nodAt t (nodAt t i).a.toNat) = true → opHas l (nodAt t (nodAt t i).a.toNat).text ((nodAt t (nodAt t i).a.toNat).kind - 2) = true) ∧
    (kidsN (nodAt t i).kind ≠ 1 → (0 ≤ (nodAt t i).b ∧ (nodAt t i).b < t.length) ∧ (isOpN (nodAt t (nodAt t i).b.toNat) = true → opHas l (nodAt t (nodAt t i).b.toNat).text ((nodAt t (nodAt t i).b.toNat).kind - 2) = true)) := by
  simp only [wellF, Bool.and_eq_true, opdAll] at h
  obtain ⟨⟨h1, h2⟩, h3⟩ := h
  have has : ∀ j, j < t.length → isOpN (nodAt t j) = true → opHas l (nodAt t j).text ((nodAt t j).kind - 2) = true := fun j hj e => by
    have := List.all_eq_true.1 h3 j (List.mem_range.2 hj)
    simpa [e] using this
  obtain ⟨g1, g2, g3, g4⟩ := inOrd_kid h2 hi
  simp only [isOpN, decide_eq_true_eq] at hk
  have hk3 : kidsN (nodAt t i).kind ≠ 0 := by
    unfold kidsN
    split
    · decide
    · split
      · decide
      · omega
  have ga := g3 hk3
  refine ⟨has i hi (by simpa [isOpN] using hk), ⟨ga.1, by omega⟩, has _ (by omega), fun hk1 => ?_⟩
  have gb := g4 (by rcases kidsN_cases (nodAt t i).kind with e | e | e <;> omega)
  exact ⟨⟨gb.1, by omega⟩, has _ (by omega)⟩
theorem c_specTreeOk (l : List POp) (hl : l.length ≤ 9223372036854775807) (hw : opsWf l) (t : List PNode) (ht : t.length ≤ 9223372036854775807) (hwt : ∀ i, i < t.length → (nodAt t i).wf) : VFun Tryd.prog 15 [.agg [.sl 4 l.length (opCells l)], .agg [.sl 4 t.length (nodCells t)]] (fun av obs => obs = [] ∧ av = .lit (.int .i64 (treeOk l t))) := by
  have cl : ∀ (i : Nat) (c : AV), i < l.length → c ∈ opCells l i → Closed c := fun i c _ h => opClosed l i c h
  have clt : ∀ (i : Nat) (c : AV), i < t.length → c ∈ nodCells t i → Closed c := fun i c _ h => nodClosed t i c h
  refine vfun_start Tryd.func15 (by kernel_rfl) rfl (by simp [Tryd.ntmps15]) ?_
  simp only [Tryd.ntmps15, Tryd.results15]
  simp [go_sem]
  refine vcall_pure (c_specTableOk l hl hw) ?_ ?_
  · simp [go_sem]
    exact argSl_refl (by omega) cl
  · simp [go_sem]
    refine ⟨fun h0 => by simp [treeOk, h0], fun h0 => ?_⟩
    refine vcall_pure (c_l3WellFormed l hl hw t ht hwt) ?_ ?_
    · simp [go_sem]
      exact ⟨argSl_refl (by omega) cl, argSl_refl (by omega) clt⟩
    · simp [go_sem]
      refine ⟨fun h1 => by simp [treeOk, h0, h1], fun h1 => ?_⟩
      refine vc_loop (fun i : Nat => i ≤ t.length ∧ ∀ j, j < i → fitsN l t j = true) (fun i => t.length - i)
        (fun i => .of [(2, .ptr 0 1 0 0), (3, .ptr 1 1 0 0), (5, .lit (.int .i64 i))] [some ⟨42, 1, 1, fun _ => [.sl 4 l.length (opCells l)]⟩, some ⟨28, 1, 1, fun _ => [.sl 4 t.length (nodCells t)]⟩]) ⟨0, ⟨by omega, by simp⟩, ?_⟩ (fun i hi => ?_)
      · simp [go_sem]
        exact ⟨cl, clt⟩
      · simp [go_sem]
        refine ⟨by omega, fun h => vcall_pure (c_l3Fits l hl hw t ht i h (wellF_fits h1 h)) ?_ ?_, fun h => ?_⟩
        · simp [go_sem]
          exact ⟨argSl_refl (by omega) cl, argSl_refl (by omega) clt⟩
        · simp [go_sem]
          refine ⟨fun e => ?_, fun e => ⟨i + 1, ⟨by omega, fun j hj => ?_⟩, by omega, wrap_succ (by omega), cl, clt⟩⟩
          · simp only [treeOk, h0, h1, all_false (p := fun i => fitsN l t i) h e]
            simp
          · rcases Nat.lt_succ_iff_lt_or_eq.mp hj with hj | rfl
            · exact hi.2 j hj
            · exact e
        · simp only [treeOk, h0, h1, all_true (p := fun i => fitsN l t i) (n := t.length) fun j hj => hi.2 j (by omega)]
          simp
end Go.Proofs.YtbjkgfooangjhaaDoor.V
/- Contracts: well-formed and admissible trees, by the program. -/
namespace Go.Proofs.YtbjkgfooangjhaaDoor.V
open Go.RowKit
open Go.Maps (Keyed)
set_option linter.unusedVariables false
set_option linter.unusedSimpArgs false
set_option linter.constructorNameAsVariable false
theorem c_kindOf (n : PNode) (hn : 1 ≤ n.kind ∧ n.kind ≤ 6) : VFun Tryd.prog 70 [.agg n.cells] (fun av obs => obs = [] ∧ av = .lit (.int .i64 (if isOpN n then n.kind - 2 else 0))) := by
  obtain ⟨z, k, x, y⟩ := n
  simp only [PNode.cells] at hn ⊢
  have hk : ∀ i : Int, 1 ≤ i ∧ i ≤ 6 → ∃ l, keyOf Tryd.prog 3 (.int .i64 i) = some l := fun i h => keyInt (by omega)
  refine vfun_start Tryd.func70 (by kernel_rfl) rfl (by simp [Tryd.ntmps70]) ?_
  simp only [Tryd.ntmps70, Tryd.results70]
  simp [go_sem]
  intro b
  refine vmsetK_use keyedInt (hk 3 (by omega)) ?_
  simp [go_sem]
  refine vmsetK_use keyedInt (hk 4 (by omega)) ?_
  simp [go_sem]
  refine vmsetK_use keyedInt (hk 5 (by omega)) ?_
  simp [go_sem]
  refine vlookK_use keyedInt (hk k hn) _ zeroInt ?_
  simp [go_sem]
  have hk : k = 1 ∨ k = 2 ∨ k = 3 ∨ k = 4 ∨ k = 5 ∨ k = 6 := by omega
  rcases hk with rfl | rfl | rfl | rfl | rfl | rfl <;> simp [mget_mput, mget, isOpN]
theorem of_eq {l : List POp} (hu : Uniq l) {z : ByteArray} {k : Int} {o : POp} (h : ∃ j, j < l.length ∧ o = opAt l j ∧ o.text = z ∧ o.kind = k) (hh : opHas l z k = true) : o = opOf l z k := by
  obtain ⟨j, hj, rfl, e1, e2⟩ := h
  obtain ⟨i, hi, e3, e4, e5⟩ := opHas_has hh
  rw [e3]
  exact hu j i hj hi (e1.trans e4.symm) (by rw [e2, e5])
def lvN (l : List POp) (t : List PNode) (i j : Nat) : Int := if j < i then lvlN l (nodAt t j) else 0
def lvFill (l : List POp) (t : List PNode) (i j : Nat) : List AV := [.lit (.int .i64 (lvN l t i j))]
theorem lvFill_at (l : List POp) (t : List PNode) (i j : Nat) : lvFill l t i j = [.lit (.int .i64 (lvN l t i j))] := rfl
set_option maxRecDepth 100000 in
theorem c_levels (l : List POp) (hu : Uniq l) (b1 b2 : Nat) (es : List (Value × Value)) (hat : AtIs l l.length es) (t : List PNode) (ht : t.length ≤ 1048576) (hwt : ∀ i, i < t.length → (nodAt t i).wf) (hk : ∀ i, i < t.length → 1 ≤ (nodAt t i).kind ∧ (nodAt t i).kind ≤ 6) :
    VProc Tryd.prog 40 [.agg [.lit (.map (some b1)), .lit (.map (some b2))], .agg [.sl 4 t.length (nodCells t)]] [] [(b1, ⟨120, es⟩)] (fun av mem maps => (maps = [(b1, ⟨120, es⟩)] ∨ maps = [(b1, ⟨120, es⟩), (b1, ⟨120, es⟩)]) ∧ ((opdAll l t = true ∧ av = .tup [.own 0, .lit (.bool true)] ∧ mem = [some ⟨3, 1, t.length, lvFill l t t.length⟩]) ∨ (opdAll l t = false ∧ av = .tup [.lit (.slice none 0 0), .lit (.bool false)] ∧ mem = []))) := by
  have clt : ∀ (i : Nat) (c : AV), i < t.length → c ∈ nodCells t i → Closed c := fun i c _ h => nodClosed t i c h
  refine vproc_start Tryd.func40 (by kernel_rfl) rfl (by simp [Tryd.ntmps40]) ?_
  simp only [Tryd.ntmps40, Tryd.results40]
  simp [go_sem]
  refine ⟨by omega, by omega, by omega, by omega, ?_⟩
  refine vc_loop (fun i : Nat => i ≤ t.length ∧ ∀ j, j < i → isOpN (nodAt t j) = true → opHas l (nodAt t j).text ((nodAt t j).kind - 2) = true) (fun i => t.length - i)
    (fun i => ⟨[(2, .ptr 0 2 0 0), (6, .own 2), (17, .sl 4 t.length (nodCells t)), (18, .lit (.int .i64 t.length)), (19, .lit (.int .i64 i))], [some ⟨68, 2, 1, fun _ => [.lit (.map (some b1)), .lit (.map (some b2))]⟩, none, some ⟨3, 1, t.length, lvFill l t i⟩], [(b1, ⟨120, es⟩)], 0⟩) ⟨0, ⟨by omega, by simp⟩, ?_⟩ (fun i hi => ?_)
  · simp [go_sem, lvFill, lvN]
    exact clt
  · simp [go_sem, nodCells_at]
    have c1 := c_kindOf (nodAt t i)
    simp only [PNode.cells] at c1
    have next : i < t.length → (isOpN (nodAt t i) = true → opHas l (nodAt t i).text ((nodAt t i).kind - 2) = true) → i + 1 ≤ t.length ∧ ∀ j, j < i + 1 → isOpN (nodAt t j) = true → opHas l (nodAt t j).text ((nodAt t j).kind - 2) = true := fun h e => ⟨by omega, fun j hj => by
      rcases Nat.lt_succ_iff_lt_or_eq.mp hj with hj | rfl
      · exact hi.2 j hj
      · exact e⟩
    have fill : ∀ (h : i < t.length) (v : Int) (f : Nat → List AV), v = lvlN l (nodAt t i) → (∀ j, j < t.length → j ≠ i → f j = lvFill l t i j) → (f i).length = 1 → ∀ j, j < t.length → updF t.length f i 0 [AV.lit (.int .i64 v)] j = lvFill l t (i + 1) j ∧ ∀ c, c ∈ lvFill l t (i + 1) j → Bd 3 c := fun h v f hv hf hl j hj => by
      refine ⟨?_, fun c hc => by simp only [lvFill, List.mem_singleton] at hc; subst hc; exact .closed _ (.lit _)⟩
      rw [updF_at h hj]
      by_cases hji : j = i
      · subst hji
        match hfi : f j, hl with
        | [x], _ => simp [splice, lvFill, lvN, hv]
      · rw [if_neg hji, hf j hj hji]
        simp only [lvFill, lvN]
        by_cases h2 : j < i
        · rw [if_pos h2, if_pos (by omega)]
        · rw [if_neg h2, if_neg (by omega)]
    refine ⟨fun h => ⟨h, vcall_pure (c1 (hk i h)) ?_ ?_⟩, fun h => ?_⟩
    · simp [go_sem]
    · cases hop : isOpN (nodAt t i) with
      | false =>
        simp [go_sem]
        refine ⟨i + 1, next h (fun e => by rw [hop] at e; cases e), by omega, ⟨clt, wrap_succ (by omega)⟩, ?_⟩
        exact fill h 1001 _ (by simp [lvlN, hop]) (fun j _ _ => rfl) rfl
      | true =>
        have hop' := hop
        simp only [isOpN, decide_eq_true_eq] at hop'
        simp [go_sem, show (2 : Int) < (nodAt t i).kind by omega]
        refine vcall_share [] (c_of l hu b1 b2 es hat (nodAt t i).text (hwt i h) ((nodAt t i).kind - 2)) (by simp) ?_ ?_ ?_ ?_
        · simp [go_sem]
        · simp [go_sem]
        · simp [go_sem]
        · rintro av mem maps ⟨⟨o, rfl, ho⟩, rfl, rfl⟩
          cases hh : opHas l (nodAt t i).text ((nodAt t i).kind - 2) with
          | false =>
            simp [go_sem, POp.cells]
            refine ⟨rfl, [], [], by simp, by simp, by simp [go_sem], by simp [go_sem], by simp [go_sem], ?_⟩
            have hno : opdAll l t = false := all_false (p := fun i => !isOpN (nodAt t i) || opHas l (nodAt t i).text ((nodAt t i).kind - 2)) h (by simp [hop, hh])
            simp [go_sem, hno]
          | true =>
            have he := of_eq hu (ho hh) hh
            simp [go_sem, POp.cells]
            refine ⟨h, i + 1, next h (fun _ => hh), by omega, ⟨clt, wrap_succ (by omega)⟩, ?_⟩
            refine fill h _ _ (by simp [lvlN, hop, ndOp, he]) (fun j hj hji => ?_) ?_
            · rw [updF_at h hj, if_neg hji]
            · rw [updF_at h h, if_pos rfl]; rfl
    · have hl1 : i = t.length := by omega
      subst hl1
      have hall : opdAll l t = true := by
        refine List.all_eq_true.2 fun j hj => ?_
        cases hk : isOpN (nodAt t j) with
        | false => rfl
        | true => simp [hi.2 j (List.mem_range.1 hj) hk]
      refine ⟨rfl, [2], [some ⟨3, 1, t.length, lvFill l t t.length⟩], by simp, by simp, by simp [go_sem], ?_, by simp [go_sem], ?_⟩
      · simp [go_sem]
        exact outAt_lits (fun _ _ => rfl) (fun _ _ => rfl)
      · simp [go_sem, hall]
theorem c_leasts (l : List POp) (hw : opsWf l) (hu : Uniq l) (b1 b2 : Nat) (es : List (Value × Value)) (hat : AtIs l l.length es) (n : PNode) (hn : n.wf) (hk : 1 ≤ n.kind ∧ n.kind ≤ 6) (hh : isOpN n = true → opHas l n.text (n.kind - 2) = true) :
    VProc Tryd.prog 41 [.agg [.lit (.map (some b1)), .lit (.map (some b2))], .agg n.cells] [] [(b1, ⟨120, es⟩)] (fun av mem maps => (maps = [(b1, ⟨120, es⟩)] ∨ maps = [(b1, ⟨120, es⟩), (b1, ⟨120, es⟩)]) ∧ mem = [] ∧ av = .tup [.lit (.int .i64 (if isOpN n then hole (ndOp l n) false else 0)), .lit (.int .i64 (if isOpN n then hole (ndOp l n) true else 0))]) := by
  have c1 := c_kindOf n hk
  simp only [PNode.cells] at c1 ⊢
  refine vproc_start Tryd.func41 (by kernel_rfl) rfl (by simp [Tryd.ntmps41]) ?_
  simp only [Tryd.ntmps41, Tryd.results41]
  simp [go_sem]
  refine vcall_pure c1 ?_ ?_
  · simp [go_sem]
  · cases hop : isOpN n with
    | false =>
      simp [go_sem]
      refine ⟨rfl, [], [], by simp, by simp, by simp [go_sem], by simp [go_sem], by simp [go_sem], ?_⟩
      simp [go_sem]
    | true =>
      have hop' := hop
      simp only [isOpN, decide_eq_true_eq] at hop'
      simp [go_sem, show ¬ n.kind - 2 = 0 by omega]
      refine vcall_share [] (c_of l hu b1 b2 es hat n.text hn (n.kind - 2)) (by simp) ?_ ?_ ?_ ?_
      · simp [go_sem]
      · simp [go_sem]
      · simp [go_sem]
      · rintro av mem maps ⟨⟨o, rfl, ho⟩, rfl, rfl⟩
        have he := of_eq hu (ho (hh hop)) (hh hop)
        have howf : o.wf := by rw [he]; exact opAt_wf hw (hh hop)
        have c2 := c_Hole o howf
        simp only [POp.cells] at c2 ⊢
        simp [go_sem]
        refine vc_drawn [] (.q 0 <| .q 2 <| .or 1 (.or 3 (.q 4 <| .q 5 <| .done) (.nil)) (.nil)) (by kernel_rfl) ?_
        simp [go_sem]
        refine vcallV_pure (c2 false) ?_ ?_
        · simp [go_sem]
        · simp [go_sem]
          refine vcallV_pure (c2 true) ?_ ?_
          · simp [go_sem]
          · simp [go_sem]
            refine ⟨rfl, [], [], by simp, by simp, by simp [go_sem], by simp [go_sem], by simp [go_sem], ?_⟩
            simp [go_sem, ndOp, he]
theorem hole_pos {o : POp} (h : opOk o = true) : 0 < hole o false := by
  have h' := h
  simp only [opOk, Bool.and_eq_true, decide_eq_true_eq] at h'
  unfold hole
  rw [h]
  simp
  split <;> omega
theorem hole_two {o : POp} (h : opOk o = true) : 0 < hole o true ↔ o.kind = 2 := by
  have h' := h
  simp only [opOk, Bool.and_eq_true, decide_eq_true_eq] at h'
  unfold hole
  rw [h]
  simp
  by_cases hk : o.kind = 2
  · simp [hk]
    split <;> omega
  · simp [hk]
theorem tbl_ops {l : List POp} (h : tblOk l = 0) {z : ByteArray} {k : Int} (hh : opHas l z k = true) : opOk (opOf l z k) = true ∧ (opOf l z k).kind = k ∧ (opOf l z k).text = z := by
  obtain ⟨i, hi, e1, e2, e3⟩ := opHas_has hh
  have ho : tblOps l = true := by
    unfold tblOk at h
    split at h
    · cases h
    · split at h
      · cases h
      · rename_i hx
        cases hy : tblOps l with
        | true => rfl
        | false => exact absurd hy hx
  rw [e1]
  exact ⟨List.all_eq_true.1 ho i (List.mem_range.2 hi), e3, e2⟩
set_option maxRecDepth 100000 in
theorem c_TreeOk (l : List POp) (hl : l.length ≤ 9223372036854775807) (hw : opsWf l) (t : List PNode) (ht : t.length ≤ 1048576) (hwt : ∀ i, i < t.length → (nodAt t i).wf) : VFun Tryd.prog 17 [.agg [.sl 4 l.length (opCells l)], .agg [.sl 4 t.length (nodCells t)]] (fun av obs => obs = [] ∧ av = .lit (.int .i64 (treeOk l t))) := by
  have cl : ∀ (i : Nat) (c : AV), i < l.length → c ∈ opCells l i → Closed c := fun i c _ h => opClosed l i c h
  have clt : ∀ (i : Nat) (c : AV), i < t.length → c ∈ nodCells t i → Closed c := fun i c _ h => nodClosed t i c h
  refine vfun_start Tryd.func17 (by kernel_rfl) rfl (by simp [Tryd.ntmps17]) ?_
  simp only [Tryd.ntmps17, Tryd.results17]
  simp [go_sem]
  refine vcall_pure (c_TableOk l hl hw) ?_ ?_
  · simp [go_sem]
    exact argSl_refl (by omega) cl
  · simp [go_sem]
    refine ⟨fun h0 => by simp [treeOk, h0], fun h0 => ?_⟩
    have hu := uniq_of_ok h0
    refine vcall_share [] (c_indexOf l hl hw) (by simp) ?_ ?_ ?_ ?_
    · simp [go_sem]
      exact cl
    · simp [go_sem]
    · simp [go_sem]
    · rintro av mem maps ⟨b1, b2, e1, e2, rfl, rfl, rfl, hb, hat, htx⟩
      have hb' : ¬ b2 = b1 := fun e => hb e.symm
      simp [go_sem]
      refine vcall_pure (c_inOrder t (by omega) hwt) ?_ ?_
      · simp [go_sem]
        exact argSl_refl (by omega) clt
      · simp [go_sem]
        refine ⟨fun h1 => by simp [treeOk, h0, wellF, h1], fun h1 => ?_⟩
        have hkid := fun i hi => inOrd_kid h1 (i := i) hi
        refine vcall_share [] (c_levels l hu b1 b2 e1 hat t ht hwt fun i hi => (hkid i hi).2.1) (by simp) ?_ ?_ ?_ ?_
        · simp [go_sem]
          exact clt
        · simp [go_sem]
        · simp [go_sem, hb']
        · rintro av mem maps ⟨hm, ⟨h2, rfl, rfl⟩ | ⟨h2, rfl, rfl⟩⟩
          · simp [go_sem]
            have hkind : ∀ i, i < t.length → isOpN (nodAt t i) = true → opHas l (nodAt t i).text ((nodAt t i).kind - 2) = true := fun i hi e => by
              have := List.all_eq_true.1 h2 i (List.mem_range.2 hi)
              simpa [e] using this
            refine ⟨by omega, ?_⟩
            refine vc_loopE (fun i : Nat => i ≤ t.length ∧ ∀ j, j < i → fitsN l t j = true) (fun i => t.length - i)
              (fun i => ⟨[(5, .ptr 0 2 0 0), (6, .own 1), (29, .sl 4 t.length (nodCells t)), (30, .lit (.int .i64 t.length)), (31, .lit (.int .i64 i))], [some ⟨68, 2, 1, fun _ => [.lit (.map (some b1)), .lit (.map (some b2))]⟩, some ⟨3, 1, t.length, lvFill l t t.length⟩], [(b1, ⟨120, e1⟩)], 0⟩) ⟨0, ⟨by omega, by simp⟩, ?_⟩ (fun i hi => ?_)
            · refine ent_ks [2, 3] (by simp) (by simp) (by simp) (by simp) ?_ ?_ ?_
              · rcases hm with rfl | rfl <;> simp [go_sem, hb']
              · simp [go_sem]
                exact clt
              · simp [go_sem, lvFill]
            · simp [go_sem, nodCells_at, lvFill_at]
              refine ⟨fun h => ⟨h, ?_⟩, fun h => ?_⟩
              · have c1 := c_leasts l hw hu b1 b2 e1 hat (nodAt t i) (hwt i h) (hkid i h).2.1 (hkind i h)
                simp only [PNode.cells] at c1
                have next : fitsN l t i = true → i + 1 ≤ t.length ∧ ∀ j, j < i + 1 → fitsN l t j = true := fun e => ⟨by omega, fun j hj => by
                  rcases Nat.lt_succ_iff_lt_or_eq.mp hj with hj | rfl
                  · exact hi.2 j hj
                  · exact e⟩
                have bad : fitsN l t i = false → treeOk l t = 3 := fun e => by
                  simp only [treeOk, h0, wellF, h1, h2, all_false (p := fun i => fitsN l t i) h e]
                  simp
                refine vcall_share [] c1 (by simp) ?_ ?_ ?_ ?_
                · simp [go_sem]
                · simp [go_sem]
                · simp [go_sem]
                · rintro av mem maps ⟨hm, rfl, rfl⟩
                  cases hop : isOpN (nodAt t i) with
                  | false =>
                    simp [go_sem]
                    refine ⟨i + 1, next (by simp [fitsN, hop]), by omega, ?_⟩
                    refine ent_ks [0, 1] (by simp) (by simp) (by simp) (by simp) ?_ ?_ ?_
                    · rcases hm with rfl | rfl <;> simp [go_sem, hb']
                    · simp [go_sem]
                      exact ⟨clt, wrap_succ (by omega)⟩
                    · simp [go_sem, lvFill]
                  | true =>
                    obtain ⟨q1, q2, q3, q4⟩ := wellF_fits (l := l) (by simp [wellF, h0, h1, h2]) h hop
                    obtain ⟨g1, g2, g3⟩ := tbl_ops h0 q1
                    have p1 : 0 < hole (ndOp l (nodAt t i)) false := hole_pos g1
                    have p2 : 0 < hole (ndOp l (nodAt t i)) true ↔ (ndOp l (nodAt t i)).kind = 2 := hole_two g1
                    have l1 : lvN l t t.length (nodAt t i).a.toNat = lvlN l (nodAt t (nodAt t i).a.toNat) := if_pos (by omega)
                    have hop' := hop
                    simp only [isOpN, decide_eq_true_eq] at hop'
                    by_cases f1 : lvlN l (nodAt t (nodAt t i).a.toNat) < hole (ndOp l (nodAt t i)) false
                    · simp [go_sem, p1, lvFill_at, l1, f1]
                      exact ⟨q2.1, q2.2, by omega, (bad (by simp [fitsN, hop]; omega)).symm⟩
                    · by_cases f2 : (nodAt t i).kind = 4
                      · have p3 : 0 < hole (ndOp l (nodAt t i)) true := p2.2 (by show (opOf l _ _).kind = 2; rw [g2]; omega)
                        have k2 : kidsN (nodAt t i).kind = 2 := by simp [kidsN, f2]
                        obtain ⟨q5, q6⟩ := q4 (by omega)
                        have l2 : lvN l t t.length (nodAt t i).b.toNat = lvlN l (nodAt t (nodAt t i).b.toNat) := if_pos (by omega)
                        by_cases f3 : lvlN l (nodAt t (nodAt t i).b.toNat) < hole (ndOp l (nodAt t i)) true
                        · simp [go_sem, p1, lvFill_at, l1, f1, p3, l2, f3]
                          exact ⟨q2.1, q2.2, by omega, q5.1, q5.2, by omega, (bad (by simp [fitsN, hop, k2]; omega)).symm⟩
                        · simp [go_sem, p1, lvFill_at, l1, f1, p3, l2, f3]
                          refine ⟨q2.1, q2.2, by omega, q5.1, q5.2, by omega, ?_⟩
                          refine ⟨i + 1, next (by simp [fitsN, hop, k2]; omega), by omega, ?_⟩
                          refine ent_ks [0, 1] (by simp) (by simp) (by simp) (by simp) ?_ ?_ ?_
                          · rcases hm with rfl | rfl <;> simp [go_sem, hb']
                          · simp [go_sem]
                            exact ⟨clt, wrap_succ (by omega)⟩
                          · simp [go_sem, lvFill]
                      · have p3 : ¬ 0 < hole (ndOp l (nodAt t i)) true := fun hp => by
                          have : (opOf l (nodAt t i).text ((nodAt t i).kind - 2)).kind = 2 := p2.1 hp
                          rw [g2] at this; omega
                        have k1 : kidsN (nodAt t i).kind = 1 := by
                          have e35 : (nodAt t i).kind = 3 ∨ (nodAt t i).kind = 5 := by omega
                          rcases e35 with e | e <;> simp [kidsN, e]
                        simp [go_sem, p1, lvFill_at, l1, f1, p3]
                        refine ⟨q2.1, q2.2, by omega, ?_⟩
                        refine ⟨i + 1, next (by simp [fitsN, hop, k1]; omega), by omega, ?_⟩
                        refine ent_ks [0, 1] (by simp) (by simp) (by simp) (by simp) ?_ ?_ ?_
                        · rcases hm with rfl | rfl <;> simp [go_sem, hb']
                        · simp [go_sem]
                          exact ⟨clt, wrap_succ (by omega)⟩
                        · simp [go_sem, lvFill]
              · have hl1 : i = t.length := by omega
                subst hl1
                simp only [treeOk, h0, wellF, h1, h2, all_true (p := fun i => fitsN l t i) (n := t.length) fun j hj => hi.2 j (by omega)]
                simp
          · simp [go_sem]
            simp [treeOk, h0, wellF, h1, h2]
end Go.Proofs.YtbjkgfooangjhaaDoor.V
/- Contracts: the law of TreeOk. -/
namespace Go.Proofs.YtbjkgfooangjhaaDoor.V
open Go.RowKit
set_option linter.unusedVariables false
set_option linter.unusedSimpArgs false
set_option linter.constructorNameAsVariable false
def nodsWf (t : List PNode) : Prop := ∀ i, i < t.length → (nodAt t i).wf
set_option maxRecDepth 100000 in
theorem shape_node (n : Nat) (xs : List AV) (h : Shape Tryd.prog (n + 2) 100 xs) : ∃ o : PNode, o.wf ∧ xs = o.cells := by
  obtain ⟨parts, h0, rfl⟩ := shape_struct Tryd.underlying100 h
  clear h
  simp only [List.toList_toArray, all2_cons, all2_nil] at h0
  obtain ⟨_, _, rfl, ⟨_, h2⟩, _, _, rfl, ⟨_, h1⟩, _, _, rfl, ⟨_, h3⟩, _, _, rfl, ⟨_, h4⟩, rfl⟩ := h0
  obtain ⟨s, rfl, hs⟩ := shape_string Tryd.underlying9 h1
  obtain ⟨k, rfl, _⟩ := shape_int Tryd.underlying3 h2
  obtain ⟨a, rfl, _⟩ := shape_int Tryd.underlying3 h3
  obtain ⟨b, rfl, _⟩ := shape_int Tryd.underlying3 h4
  exact ⟨⟨s, k, a, b⟩, hs, rfl⟩
set_option maxRecDepth 100000 in
theorem shape_tree (n : Nat) (xs : List AV) (h : Shape Tryd.prog (n + 4) 24 xs) : ∃ t : List PNode, t.length ≤ maxLen ∧ nodsWf t ∧ ∃ f, xs = [.sl 4 t.length f] ∧ ∀ i, i < t.length → f i = nodCells t i := by
  obtain ⟨parts, h0, rfl⟩ := shape_struct Tryd.underlying24 h
  clear h
  simp only [List.toList_toArray, all2_cons, all2_nil] at h0
  obtain ⟨_, _, rfl, ⟨_, h1⟩, rfl⟩ := h0
  obtain ⟨m, f, rfl, hm, hf⟩ := shape_slice Tryd.underlying22 h1
  have hc : Tryd.prog.cellsOf 100 = 4 := by kernel_rfl
  obtain ⟨l, rfl, h2, h3⟩ := rows_of PNode.cells PNode.wf fun i hi => shape_node n (f i) (hf i hi).2
  exact ⟨l, hm, h2, f, by rw [hc]; rfl, h3⟩
theorem nodEq_refl (a : PNode) : nodEq a a = true := by simp [nodEq, ba_beq]
theorem nodsEq_refl (a : List PNode) : nodsEq a a = true := nodsEq_true rfl fun i _ => nodEq_refl _
theorem c_FnExactTreeOk (l : List POp) (hl : l.length ≤ maxLen) (hw : opsWf l) (t : List PNode) (htl : t.length ≤ maxLen) (hwt : nodsWf t) : VFun Tryd.prog 4 [.agg [.sl 4 l.length (opCells l)], .agg [.sl 4 t.length (nodCells t)]] (fun av _ => av = .lit (.bool true)) := by
  have cl : ∀ (i : Nat) (c : AV), i < l.length → c ∈ opCells l i → Closed c := fun i c _ h => opClosed l i c h
  have clt : ∀ (i : Nat) (c : AV), i < t.length → c ∈ nodCells t i → Closed c := fun i c _ h => nodClosed t i c h
  have hl' : l.length ≤ 9223372036854775807 := by simpa [maxLen] using hl
  refine vfun_start Tryd.func4 (by kernel_rfl) rfl (by simp [Tryd.ntmps4]) ?_
  simp only [Tryd.ntmps4, Tryd.results4]
  simp [go_sem]
  refine vcall_use (c_szTable l 1048576 hl hw (by decide) (by decide)) ?_ ?_
  · simp [go_sem]
    exact argSl_refl (by omega) cl
  · rintro av obs ⟨rfl, rfl | ⟨h0, rfl⟩⟩
    · simp [go_sem]
    · simp [go_sem]
      refine fun h1 => vcall_use (c_szTree t _ htl hwt h0 (by omega)) ?_ ?_
      · simp [go_sem]
        exact argSl_refl (by omega) clt
      · rintro av obs ⟨rfl, rfl | ⟨h2, rfl⟩⟩
        · simp [go_sem]
        · simp [go_sem]
          refine fun h3 => ?_
          have hsa : l.length ≤ 1048576 := by omega
          have hst : t.length ≤ 1048576 := by omega
          refine vc_drawn [] (.q 0 <| .q 2 <| .or 1 (.or 3 (.or 4 (.q 5 <| .done) (.nil)) (.nil)) (.nil)) (by kernel_rfl) ?_
          simp [go_sem]
          refine vcallV_use (c_toTable l hsa) ?_ ?_
          · simp [go_sem]
            exact argSl_refl (by omega) cl
          · rintro av obs ⟨rfl, rfl⟩
            simp [go_sem]
            refine vcallV_use (c_toTree t hst) ?_ ?_
            · simp [go_sem]
              exact argSl_refl (by omega) clt
            · rintro av obs ⟨rfl, rfl⟩
              simp [go_sem]
              refine vcallV_pure (c_specTreeOk l hl' hw t (by omega) hwt) ?_ ?_
              · simp [go_sem]
                exact ⟨argSl_own (k := 2) rfl (by omega) cl, argSl_own (k := 3) rfl (by omega) clt⟩
              · simp [go_sem]
                refine vcall_use (c_toTable l hsa) ?_ ?_
                · simp [go_sem]
                  exact argSl_refl (by omega) cl
                · rintro av obs ⟨rfl, rfl⟩
                  simp [go_sem]
                  refine vcall_use (c_toTree t hst) ?_ ?_
                  · simp [go_sem]
                    exact argSl_refl (by omega) clt
                  · rintro av obs ⟨rfl, rfl⟩
                    simp [go_sem]
                    refine vcall_pure (c_TreeOk l hl' hw t hst hwt) ?_ ?_
                    · simp [go_sem]
                      exact ⟨argSl_own (k := 4) rfl (by omega) cl, argSl_own (k := 6) rfl (by omega) clt⟩
                    · simp [go_sem]
                      refine vc_drawn [] (.q 0 <| .q 1 <| .or 2 (.or 3 (.q 4 <| .done) (.nil)) (.nil)) (by kernel_rfl) ?_
                      simp [go_sem]
                      refine vcallV_use (c_toTable l hsa) ?_ ?_
                      · simp [go_sem]
                        exact argSl_refl (by omega) cl
                      · rintro av obs ⟨rfl, rfl⟩
                        simp [go_sem]
                        refine vcallV_pure (c_eqTable l l (by omega) (by omega)) ?_ ?_
                        · simp [go_sem]
                          exact ⟨argSl_own (k := 4) rfl (by omega) cl, argSl_own (k := 8) rfl (by omega) cl⟩
                        · simp [go_sem, opsEq_refl]
                          refine vc_drawn [] (.q 0 <| .q 1 <| .or 2 (.or 3 (.q 4 <| .done) (.nil)) (.nil)) (by kernel_rfl) ?_
                          simp [go_sem]
                          refine vcallV_use (c_toTree t hst) ?_ ?_
                          · simp [go_sem]
                            exact argSl_refl (by omega) clt
                          · rintro av obs ⟨rfl, rfl⟩
                            simp [go_sem]
                            refine vcallV_pure (c_eqTree t t (by omega) (by omega)) ?_ ?_
                            · simp [go_sem]
                              exact ⟨argSl_own (k := 6) rfl (by omega) clt, argSl_own (k := 9) rfl (by omega) clt⟩
                            · simp [go_sem, nodsEq_refl]
end Go.Proofs.YtbjkgfooangjhaaDoor.V
