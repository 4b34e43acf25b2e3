import Derived.Test.YtcnmgfbafcnkhaaMT
import Derived.Test.YtcnmgfbafcnkhaaMC
import Derived.Test.YtcnmgfbafcnkhaaShelf
import Derived.DeepKeys5
import Derived.Shelf.Strings.Builder1
/- Contracts: signs, operators, holes. -/
namespace Go.Proofs.Ytcnmgfbafcnkhaa.V
open Go.RowKit
set_option linter.unusedVariables false
set_option linter.unusedSimpArgs false

theorem vfun_lit {P : Program} {f : FuncId} {vs : List Value} {v : Value} (hf : FnOk P f) (h : ∀ w, Calls P f vs.toArray w fun e w' => e = .returned v ∧ w' = w) : VFun P f (vs.map .lit) (fun av obs => obs = [] ∧ av = .lit v) := by
  refine ⟨hf, fun w us hl hu => ?_⟩
  have e : us = vs := by
    have hl' : vs.length = us.length := by simpa using hl
    apply List.ext_getElem hl'.symm
    intro j h1 h2
    have := hu j (.lit vs[j]) us[j] (by simp [h2]) (List.getElem?_eq_getElem h1)
    generalize us[j] = x at this
    generalize vs[j] = y at this
    cases this
    rfl
  subst e
  refine (h w).mono fun e w' ⟨he, hw⟩ => ?_
  subst he; subst hw
  exact ⟨v, rfl, World.grownBy.refl _ _, fun _ => undef, .lit v, [], ⟨rfl, rfl⟩, rfl, fun ob h => by simp at h, ⟨fun k ob h => by simp at h, fun k ob h => by simp at h, fun k h => by simp at h, fun k k' ob ob' h => by simp at h⟩, .lit v⟩

theorem wrap_i64 {n : Int} (h : -9223372036854775808 ≤ n ∧ n ≤ 9223372036854775807) : IntKind.i64.wrap n = n := by
  rw [IntKind.wrap_i64]; omega
theorem wrap_succ {i : Nat} (h : i < 9223372036854775807) : IntKind.i64.wrap ((i : Int) + 1) = ((i + 1 : Nat) : Int) := by
  rw [wrap_i64 (by omega)]; omega

def signBytes : ByteArray := { data := #[43, 45, 42, 47, 60, 62, 61, 33, 38, 124, 94, 126, 63, 58, 64, 37, 36, 46] }
def isSg (c : Int) : Bool := (List.range 18).any fun i => byteAt signBytes i = c
theorem signSize : signBytes.size = 18 := rfl
theorem isSg_false {c : Int} (h : ∀ j, j < 18 → ¬byteAt signBytes j = c) : isSg c = false := by simpa [isSg] using h
theorem isSg_true {c : Int} {i : Nat} (h : i < 18) (e : byteAt signBytes i = c) : isSg c = true := by simpa [isSg] using ⟨i, h, e⟩

theorem c_l1IsSign (c : Int) : VFun Try.prog 84 [.lit (.int .u8 c)] (fun av obs => obs = [] ∧ av = .lit (.bool (isSg c))) := by
  refine vfun_start Try.func84 (by kernel_rfl) rfl (by simp [Try.ntmps84]) ?_; simp only [Try.ntmps84, Try.results84]; simp [go_sem]
  refine vc_loop (fun i : Nat => i ≤ 18 ∧ ∀ j, j < i → ¬byteAt signBytes j = c) (fun i => 18 - i) (fun i => .of [(0, .lit (.int .u8 c)), (2, .lit (.bool false)), (3, .lit (.string signBytes)), (4, .lit (.int .i64 i))] []) ⟨0, ?_, ?_⟩ (fun i hi => ?_)
  · simp
  · simp [go_sem, signBytes]
  · simp [go_sem, signSize]
    refine ⟨fun h => ⟨h, fun e => isSg_true (by omega) e, fun e => ⟨i + 1, ⟨⟨by omega, fun j hj => ?_⟩, by omega, wrap_succ (by omega)⟩⟩⟩, fun h => isSg_false fun j hj => hi.2 j (by omega)⟩
    rcases Nat.lt_succ_iff_lt_or_eq.mp hj with hj | rfl
    · exact hi.2 j hj
    · exact e

theorem byteAt_range (z : ByteArray) (i : Nat) : 0 ≤ byteAt z i ∧ byteAt z i < 256 := by
  unfold byteAt
  split
  · rename_i h
    have := (z[i]'h).toNat_lt
    omega
  · omega
theorem signKey : (List.range 256).all (fun n => decide (0 ≤ Lib.indexByte signBytes.data.toList n.toUInt8) == isSg n) = true := by kernel_rfl
theorem indexSign (c : Int) (h : 0 ≤ c ∧ c < 256) : decide (0 ≤ Lib.indexByte signBytes.data.toList c.toNat.toUInt8) = isSg c := by
  have := List.all_eq_true.mp signKey c.toNat (List.mem_range.mpr (by omega))
  have e : ((c.toNat : Nat) : Int) = c := by omega
  rw [beq_iff_eq, e] at this
  exact this
theorem c_isSign (c : Int) (h : 0 ≤ c ∧ c < 256) : VFun Try.prog 96 [.lit (.int .u8 c)] (fun av obs => obs = [] ∧ av = .lit (.bool (isSg c))) := by
  refine vfun_start Try.func96 (by kernel_rfl) rfl (by simp [Try.ntmps96]) ?_; simp only [Try.ntmps96, Try.results96]; simp [go_sem]
  refine vcall_pure (vfun_lit (vs := [.string signBytes, .int .u8 c]) ⟨_, Try.func98, rfl, rfl⟩ (fun w => Try.strings_IndexByte signBytes c w)) ?_ ?_
  · simp [go_sem, signBytes]
  · simp [go_sem]
    exact indexSign c h

/-- a text's bytes are all signs -/
def sgAll (z : ByteArray) : Bool := (List.range z.size).all fun i => isSg (byteAt z i)
def sgOk (z : ByteArray) : Bool := sgAll z && decide (1 ≤ z.size) && decide (z.size ≤ 16)
theorem sgAll_false {z : ByteArray} {i : Nat} (h : i < z.size) (e : isSg (byteAt z i) = false) : sgAll z = false := by
  simp [sgAll]; exact ⟨i, h, e⟩
theorem sgAll_true {z : ByteArray} (h : ∀ i, i < z.size → isSg (byteAt z i) = true) : sgAll z = true := by simpa [sgAll] using h
theorem c_l1Signs (z : ByteArray) (hz : z.size ≤ maxLen) : VFun Try.prog 83 [.lit (.string z)] (fun av obs => obs = [] ∧ av = .lit (.bool (sgOk z))) := by
  refine vfun_start Try.func83 (by kernel_rfl) rfl (by simp [Try.ntmps83]) ?_; simp only [Try.ntmps83, Try.results83]; simp [go_sem]
  simp only [maxLen] at hz
  refine vc_loop (fun i : Nat => i ≤ z.size ∧ ∀ j, j < i → isSg (byteAt z j) = true) (fun i => z.size - i) (fun i => .of [(0, .lit (.string z)), (2, .lit (.bool false)), (3, .lit (.int .i64 i))] []) ⟨0, ?_, ?_⟩ (fun i hi => ?_)
  · simp
  · simp [go_sem]
  · simp [go_sem]
    refine ⟨fun h => ⟨h, vcall_pure (c_l1IsSign (byteAt z i)) ?_ ?_⟩, fun h => ?_⟩
    · simp [go_sem]
    · simp [go_sem]
      refine ⟨fun e => ?_, fun e => ⟨i + 1, ⟨⟨by omega, fun j hj => ?_⟩, by omega, wrap_succ (by omega)⟩⟩⟩
      · simp [sgOk, sgAll_false h e]
      · rcases Nat.lt_succ_iff_lt_or_eq.mp hj with hj | rfl
        · exact hi.2 j hj
        · exact e
    · have e := sgAll_true (z := z) fun j hj => hi.2 j (by omega)
      have h2 : ((z.size : Int) ≤ 16) ↔ z.size ≤ 16 := by omega
      simp [sgOk, e, h2]
      refine ⟨fun h => ?_, fun h => by omega⟩
      have h1 : 1 ≤ z.size := by omega
      simp [h1]

theorem c_signsOk (z : ByteArray) (hz : z.size ≤ maxLen) : VFun Try.prog 87 [.lit (.string z)] (fun av obs => obs = [] ∧ av = .lit (.bool (sgOk z))) := by
  refine vfun_start Try.func87 (by kernel_rfl) rfl (by simp [Try.ntmps87]) ?_; simp only [Try.ntmps87, Try.results87]; simp [go_sem]
  simp only [maxLen] at hz
  have h2 : (16 < (z.size : Int)) ↔ 16 < z.size := by omega
  have h1 : ((z.size : Int) < 1) ↔ z.size < 1 := by omega
  simp only [h1, h2]
  refine ⟨fun h3 => ⟨fun h4 => ?_, fun h4 => ?_⟩, fun h3 => ?_⟩
  · simp [sgOk, h4]
  · refine vc_loop (fun i : Nat => i ≤ z.size ∧ ∀ j, j < i → isSg (byteAt z j) = true) (fun i => z.size - i) (fun i => .of [(0, .lit (.string z)), (2, .lit (.bool false)), (13, .lit (.int .i64 z.size)), (14, .lit (.int .i64 i))] []) ⟨0, ?_, ?_⟩ (fun i hi => ?_)
    · simp
    · simp [go_sem]
    · simp [go_sem]
      refine ⟨fun h => ⟨h, vcall_pure (c_isSign (byteAt z i) (byteAt_range z i)) ?_ ?_⟩, fun h => ?_⟩
      · simp [go_sem]
      · simp [go_sem]
        refine ⟨fun e => ?_, fun e => ⟨i + 1, ⟨⟨by omega, fun j hj => ?_⟩, by omega, wrap_succ (by omega)⟩⟩⟩
        · simp [sgOk, sgAll_false h e]
        · rcases Nat.lt_succ_iff_lt_or_eq.mp hj with hj | rfl
          · exact hi.2 j hj
          · exact e
      · have e := sgAll_true (z := z) fun j hj => hi.2 j (by omega)
        simp [sgOk, e]
        omega
  · simp [sgOk]
    omega

end Go.Proofs.Ytcnmgfbafcnkhaa.V
/- Contracts, operators. -/
namespace Go.Proofs.Ytcnmgfbafcnkhaa.V
open Go.RowKit
set_option linter.unusedVariables false
set_option linter.unusedSimpArgs false

/-- an operator -/
structure POp where
  text : ByteArray
  kind : Int
  level : Int
  side : Int
def POp.cells (o : POp) : List AV := [.lit (.string o.text), .lit (.int .i64 o.kind), .lit (.int .i64 o.level), .lit (.int .i64 o.side)]
def POp.wf (o : POp) : Prop := o.text.size ≤ maxLen
def opOk (o : POp) : Bool := sgOk o.text && decide (1 ≤ o.level ∧ o.level ≤ 1000 ∧ ((o.kind = 2 ∧ 1 ≤ o.side ∧ o.side ≤ 3) ∨ ((o.kind = 1 ∨ o.kind = 3) ∧ o.side = 0)))
theorem int_beq (a b : Int) : (a == b) = decide (a = b) := by
  rw [Bool.eq_iff_iff]; simp
theorem c_l1OpOk (o : POp) (ho : o.wf) : VFun Try.prog 53 [.agg o.cells] (fun av obs => obs = [] ∧ av = .lit (.bool (opOk o))) := by
  obtain ⟨z, kind, level, side⟩ := o
  simp only [POp.cells]
  refine vfun_start Try.func53 (by kernel_rfl) rfl (by simp [Try.ntmps53]) ?_; simp only [Try.ntmps53, Try.results53]; simp [go_sem]
  refine vcall_pure (c_l1Signs z ho) ?_ ?_
  · simp [go_sem]
  · simp (maxSteps := 1000000) [go_sem]
    cases hs : sgOk z
    · simp [opOk, hs]
    · simp only [opOk, hs, int_beq, Bool.true_and, decide_eq_decide, decide_eq_true_eq, decide_eq_false_iff_not, true_implies, reduceCtorEq, false_implies, and_true, true_and]
      omega
theorem c_opOk (o : POp) (ho : o.wf) : VFun Try.prog 59 [.agg o.cells] (fun av obs => obs = [] ∧ av = .lit (.bool (opOk o))) := by
  obtain ⟨z, kind, level, side⟩ := o
  simp only [POp.cells]
  refine vfun_start Try.func59 (by kernel_rfl) rfl (by simp [Try.ntmps59]) ?_; simp only [Try.ntmps59, Try.results59]; simp [go_sem]
  refine vcall_pure (c_signsOk z ho) ?_ ?_
  · simp [go_sem]
  · simp (maxSteps := 1000000) [go_sem]
    cases hs : sgOk z
    · simp [opOk, hs]
    · simp only [opOk, hs, int_beq, Bool.true_and, decide_eq_decide, decide_eq_true_eq, decide_eq_false_iff_not, true_implies, reduceCtorEq, false_implies, and_true, true_and]
      omega

end Go.Proofs.Ytcnmgfbafcnkhaa.V
/- Contracts, holes. -/
namespace Go.Proofs.Ytcnmgfbafcnkhaa.V
open Go.RowKit
set_option linter.unusedVariables false
set_option linter.unusedSimpArgs false

def hole (o : POp) (second : Bool) : Int := if opOk o = false ∨ (second = true ∧ o.kind ≠ 2) then 0 else if o.kind = 2 ∧ (o.side = 3 ∨ (decide (o.side = 1) = second)) then o.level + 1 else o.level
theorem opOk_level {o : POp} (h : opOk o = true) : 1 ≤ o.level ∧ o.level ≤ 1000 := by
  simp [opOk] at h; omega
theorem c_l1Hole (o : POp) (ho : o.wf) (b : Bool) : VFun Try.prog 93 [.agg o.cells, .lit (.bool b)] (fun av obs => obs = [] ∧ av = .lit (.int .i64 (hole o b))) := by
  have hc := c_l1OpOk o ho
  have hl := @opOk_level o
  obtain ⟨z, kind, level, side⟩ := o
  simp only [POp.cells] at hc ⊢
  refine vfun_start Try.func93 (by kernel_rfl) rfl (by simp [Try.ntmps93]) ?_; simp only [Try.ntmps93, Try.results93]; simp [go_sem]
  refine vcall_pure hc ?_ ?_
  · simp [go_sem]
  · simp (maxSteps := 1000000) [go_sem]
    have hw : opOk ⟨z, kind, level, side⟩ = true → IntKind.i64.wrap (level + 1) = level + 1 := fun h => wrap_i64 (by have := hl h; simp only at this; omega)
    clear hc hl ho
    simp only [hole, int_beq]
    generalize opOk ⟨z, kind, level, side⟩ = q at hw ⊢
    cases q
    · simp
    · simp only [hw rfl]
      by_cases h1 : kind = 2 <;> by_cases h2 : side = 3 <;> by_cases h3 : side = 1 <;> cases b <;> simp [h1, h2, h3]
theorem c_Hole (o : POp) (ho : o.wf) (b : Bool) : VFun Try.prog 75 [.agg o.cells, .lit (.bool b)] (fun av obs => obs = [] ∧ av = .lit (.int .i64 (hole o b))) := by
  have hc := c_opOk o ho
  have hl := @opOk_level o
  obtain ⟨z, kind, level, side⟩ := o
  simp only [POp.cells] at hc ⊢
  refine vfun_start Try.func75 (by kernel_rfl) rfl (by simp [Try.ntmps75]) ?_; simp only [Try.ntmps75, Try.results75]; simp [go_sem]
  refine vcall_pure hc ?_ ?_
  · simp [go_sem]
  · simp (maxSteps := 1000000) [go_sem]
    have hw : opOk ⟨z, kind, level, side⟩ = true → IntKind.i64.wrap (level + 1) = level + 1 := fun h => wrap_i64 (by have := hl h; simp only at this; omega)
    clear hc hl ho
    simp only [hole, int_beq]
    generalize opOk ⟨z, kind, level, side⟩ = q at hw ⊢
    cases q
    · simp
    · simp only [hw rfl]
      by_cases h1 : kind = 2 <;> by_cases h2 : side = 3 <;> by_cases h3 : side = 1 <;> cases b <;> simp [h1, h2, h3]
theorem c_szOp (o : POp) (left : Int) (ho : o.wf) (h0 : 0 ≤ left) (h : left ≤ 1048576) : VFun Try.prog 67 [.agg o.cells, .lit (.int .i64 left)] (fun av obs => obs = [] ∧ av = .lit (.int .i64 (if left - o.text.size < 0 then -1 else left - o.text.size))) := by
  obtain ⟨z, kind, level, side⟩ := o
  simp only [POp.cells, POp.wf, maxLen] at ho ⊢
  refine vfun_start Try.func67 (by kernel_rfl) rfl (by simp [Try.ntmps67]) ?_; simp only [Try.ntmps67, Try.results67]; simp [go_sem]
  rw [wrap_i64 (by omega)]
  refine ⟨fun h1 h2 => by omega, fun h1 => ?_⟩
  rw [if_neg (by omega)]
end Go.Proofs.Ytcnmgfbafcnkhaa.V
/- Contracts, conversions. -/
namespace Go.Proofs.Ytcnmgfbafcnkhaa.V
open Go.RowKit
set_option linter.unusedVariables false
set_option linter.unusedSimpArgs false
set_option linter.constructorNameAsVariable false

theorem c_toOp (o : POp) : VFun Try.prog 72 [.agg o.cells] (fun av obs => obs = [] ∧ av = .agg o.cells) := by
  obtain ⟨z, kind, level, side⟩ := o
  simp only [POp.cells]
  refine vfun_start Try.func72 (by kernel_rfl) rfl (by simp [Try.ntmps72]) ?_; simp only [Try.ntmps72, Try.results72]; simp [go_sem]
set_option maxRecDepth 100000 in
theorem shape_op (n : Nat) (xs : List AV) (h : Shape Try.prog (n + 2) 121 xs) : ∃ o : POp, o.wf ∧ xs = o.cells := by
  obtain ⟨parts, h0, rfl⟩ := shape_struct Try.underlying121 h
  clear h
  simp only [List.toList_toArray, all2_cons, all2_nil] at h0
  obtain ⟨_, _, rfl, ⟨_, h1⟩, _, _, rfl, ⟨_, h2⟩, _, _, rfl, ⟨_, h3⟩, _, _, rfl, ⟨_, h4⟩, rfl⟩ := h0
  obtain ⟨z, rfl, hz⟩ := shape_string Try.underlying9 h1
  obtain ⟨k, rfl, _⟩ := shape_int Try.underlying3 h2
  obtain ⟨l, rfl, _⟩ := shape_int Try.underlying3 h3
  obtain ⟨s, rfl, _⟩ := shape_int Try.underlying3 h4
  exact ⟨⟨z, k, l, s⟩, hz, rfl⟩
theorem laidOut : laidOutB Try.prog = true := by kernel_rfl
theorem fullSlices : ∀ t e, t < Try.prog.types.size → Try.prog.underlying t = some (.slice e) → 0 < Try.prog.cellsOf e := slices_full_of Try.prog (by kernel_rfl)
theorem own : ownKnob Try.prog.godebug = none := by kernel_rfl
theorem each_of {α : Type} {p : α → Bool} {l : List α} (h : l.all p = true) : ∀ x, x ∈ l → p x = true := List.all_eq_true.mp h
end Go.Proofs.Ytcnmgfbafcnkhaa.V
/- Contracts: tokens. -/
namespace Go.Proofs.Ytcnmgfbafcnkhaa.V
open Go.RowKit
set_option linter.unusedVariables false
set_option linter.unusedSimpArgs false
set_option linter.constructorNameAsVariable false
/-- a token -/
structure PTok where
  kind : Int
  gap : ByteArray
  text : ByteArray
  deriving Inhabited
def PTok.cells (o : PTok) : List AV := [.lit (.int .i64 o.kind), .lit (.string o.gap), .lit (.string o.text)]
def PTok.wf (o : PTok) : Prop := o.gap.size ≤ maxLen ∧ o.text.size ≤ maxLen
def tokCells (l : List PTok) (i : Nat) : List AV := (l.getD i default).cells
theorem tokClosed (l : List PTok) (i : Nat) (c : AV) (h : c ∈ tokCells l i) : Closed c := by
  simp [tokCells, PTok.cells] at h
  rcases h with rfl | rfl | rfl <;> exact .lit _
theorem tokLit (l : List PTok) (i : Nat) : (tokCells l i).all isLit = true := rfl
def zeroTok : List AV := [.lit (.int .i64 0), .lit (.string ⟨#[]⟩), .lit (.string ⟨#[]⟩)]
def tokFill (l : List PTok) (i j : Nat) : List AV := if j < i then tokCells l j else zeroTok
theorem tokBd (l : List PTok) (i j m : Nat) : ∀ c, c ∈ tokFill l i j → Bd m c := by
  intro c h
  unfold tokFill at h
  split at h
  · exact .closed _ (tokClosed l j c h)
  · simp [zeroTok] at h
    rcases h with rfl | rfl | rfl <;> exact .closed _ (.lit _)
end Go.Proofs.Ytcnmgfbafcnkhaa.V
/- Contracts: sizes of tokens. -/
namespace Go.Proofs.Ytcnmgfbafcnkhaa.V
open Go.RowKit
set_option linter.unusedVariables false
set_option linter.unusedSimpArgs false
set_option linter.constructorNameAsVariable false
def szTok (o : PTok) (left : Int) : Int := if left - o.gap.size < 0 then -1 else if left - o.gap.size - o.text.size < 0 then -1 else left - o.gap.size - o.text.size
/-- what is left behind the first i tokens -/
def szToks (l : List PTok) (left : Int) : Int := l.foldl (fun r o => if r < 0 then r else szTok o r) (left - l.length)
def tokSize (o : PTok) : Nat := o.gap.size + o.text.size
def tokSum (l : List PTok) : Nat := (l.map tokSize).sum
theorem szTok_le (o : PTok) (left : Int) : szTok o left = -1 ∨ (0 ≤ szTok o left ∧ szTok o left = left - tokSize o) := by
  unfold szTok tokSize
  split
  · exact .inl rfl
  · split
    · exact .inl rfl
    · exact .inr ⟨by omega, by omega⟩
theorem tokSum_take (l : List PTok) (i : Nat) (h : i < l.length) : tokSum (l.take (i + 1)) = tokSum (l.take i) + tokSize (l.getD i default) := by
  unfold tokSum
  rw [List.take_add_one, List.getElem?_eq_getElem h, List.map_append, List.sum_append_nat, List.getD_eq_getElem?_getD, List.getElem?_eq_getElem h]
  simp only [Option.toList_some, List.map_cons, List.map_nil, List.sum_cons, List.sum_nil, Option.getD_some, Nat.add_zero]
end Go.Proofs.Ytcnmgfbafcnkhaa.V
/- Contracts: rendering. -/
namespace Go.Proofs.Ytcnmgfbafcnkhaa.V
open Go.RowKit
set_option linter.unusedVariables false
set_option linter.unusedSimpArgs false
set_option linter.constructorNameAsVariable false
theorem byteAt_app (a b : ByteArray) (i : Nat) (h : i < a.size + b.size) : byteAt (a ++ b) i = if i < a.size then byteAt a i else byteAt b (i - a.size) := by
  have hs : i < (a ++ b).size := by rw [ByteArray.size_append]; exact h
  unfold byteAt
  rw [dif_pos hs]
  by_cases h1 : i < a.size
  · rw [if_pos h1, dif_pos h1, ByteArray.getElem_append_left h1]
  · rw [if_neg h1, dif_pos (by omega), ByteArray.getElem_append_right (by omega)]
theorem join_bytes (a b : ByteArray) (i : Nat) (h : i < a.size + b.size) : joinF a.size (byteCells a) (byteCells b) i = byteCells (a ++ b) i := by
  unfold joinF byteCells
  rw [byteAt_app a b i h]
  by_cases h1 : i < a.size <;> simp [h1]
theorem byteOne (z : ByteArray) (i : Nat) : (byteCells z i).all oneAV = true := rfl
theorem byteClosed (z : ByteArray) (i : Nat) (c : AV) (h : c ∈ byteCells z i) : Closed c := by
  simp [byteCells] at h
  subst h
  exact .lit _
/-- the text of tokens -/
def rend (l : List PTok) : ByteArray := l.foldl (fun b o => b ++ o.gap ++ o.text) ByteArray.empty
theorem rend_take (l : List PTok) (i : Nat) (h : i < l.length) : rend (l.take (i + 1)) = rend (l.take i) ++ (l.getD i default).gap ++ (l.getD i default).text := by
  unfold rend
  rw [List.take_add_one, List.getElem?_eq_getElem h, List.foldl_append, List.getD_eq_getElem?_getD, List.getElem?_eq_getElem h]
  rfl
theorem rend_size_from (l : List PTok) : ∀ b : ByteArray, (l.foldl (fun b o => b ++ o.gap ++ o.text) b).size = b.size + tokSum l := by
  induction l with
  | nil => intro b; simp [tokSum]
  | cons o l ih =>
    intro b
    simp only [List.foldl_cons]
    rw [ih]
    simp only [ByteArray.size_append, tokSum, List.map_cons, List.sum_cons, tokSize]
    omega
theorem rend_size (l : List PTok) : (rend l).size = tokSum l := by
  unfold rend
  rw [rend_size_from]
  simp
theorem tokSum_take_le (l : List PTok) (i : Nat) : tokSum (l.take i) ≤ tokSum l := by
  unfold tokSum
  rw [List.map_take]
  exact take_sum_le _ _
theorem c_specRender (l : List PTok) (hl : l.length + tokSum l ≤ 1048576) : VFun Try.prog 68 [.sl 3 l.length (tokCells l)] (fun av obs => obs = [] ∧ av = .lit (.string (rend l))) := by
  refine vfun_start Try.func68 (by kernel_rfl) rfl (by simp [Try.ntmps68]) ?_; simp only [Try.ntmps68, Try.results68]; simp [go_sem]
  refine vc_loopR (fun i : Nat => i ≤ l.length) (fun i => l.length - i) (fun i => .of [(0, .sl 3 l.length (tokCells l)), (3, .own 0), (4, .lit (.int .i64 i))] [some ⟨5, 1, (rend (l.take i)).size, byteCells (rend (l.take i))⟩]) (fun _ => 4) ⟨0, by omega, ?_⟩ (fun i hi => ?_)
  · simp [go_sem, rend]
    exact fun i c _ h => tokClosed l i c h
  · simp [go_sem]
    refine ⟨by omega, fun h => ?_, fun h => ?_⟩
    · have hs := tokSum_take l i h
      rcases ho : l.getD i default with ⟨k, g, z⟩
      rw [ho] at hs
      have e : tokCells l i = [.lit (.int .i64 k), .lit (.string g), .lit (.string z)] := by unfold tokCells; rw [ho]; rfl
      have hr := rend_take l i h
      have hz := rend_size (l.take i)
      have hz2 := tokSum_take_le l (i + 1)
      rw [ho] at hr
      simp only at hr
      simp only [tokSize] at hs
      simp [go_sem, e, -List.all_eq_true, byteOne]
      refine ⟨h, by omega, by omega, by omega, h, by omega, by omega, by omega, i + 1, by omega, by omega, ?_⟩
      refine leR_one (K := 4) ?_ ?_ ?_
      · simp [go_sem]
        exact ⟨fun i c _ h => tokClosed l i c h, wrap_succ (by omega)⟩
      · simp
      · simp [go_sem, hr]
        refine fun j hj => ⟨?_, byteClosed _ _⟩
        rw [← join_bytes (rend (l.take i) ++ g) z j (by simpa using hj)]
        unfold joinF
        rw [ByteArray.size_append]
        by_cases h1 : j < (rend (l.take i)).size + g.size
        · rw [if_pos h1, if_pos h1]
          exact join_bytes _ _ _ h1
        · rw [if_neg h1, if_neg h1]
    · have e2 : l.take i = l := List.take_of_length_le h
      rw [e2]
      exact ⟨rfl, fun _ _ => rfl⟩
end Go.Proofs.Ytcnmgfbafcnkhaa.V
/- Contracts: lists of operators, tables: sizes, copies, comparisons. -/
namespace Go.Proofs.Ytcnmgfbafcnkhaa.V
open Go.RowKit
set_option linter.unusedVariables false
set_option linter.unusedSimpArgs false
set_option linter.constructorNameAsVariable false
theorem ba_beq (a b : ByteArray) : (a == b) = decide (a = b) := by
  rw [Bool.eq_iff_iff, decide_eq_true_iff]
  exact MapKept.bytes_beq a b
theorem ba_toList (a b : ByteArray) : a.toList = b.toList ↔ a = b := by
  constructor
  · intro h
    rw [Go.ByteArray.toList_eq, Go.ByteArray.toList_eq] at h
    exact ByteArray.ext (Array.toList_inj.1 h)
  · rintro rfl; rfl
theorem argSl_refl {mem : List (Option Ob)} {sz n : Nat} {f : Nat → List AV} (hsz : 0 < sz) (h : ∀ (i : Nat) c, i < n → c ∈ f i → Closed c) : ArgSl mem (.sl sz n f) sz n f :=
  ⟨hsz, f, by simp [contents], fun i hi => ⟨rfl, fun c hc => h i c hi hc⟩⟩
theorem argSl_own {mem : List (Option Ob)} {k sz n ty : Nat} {f : Nat → List AV} (hk : mem[k]? = some (some ⟨ty, sz, n, f⟩)) (hsz : 0 < sz) (h : ∀ (i : Nat) c, i < n → c ∈ f i → Closed c) : ArgSl mem (.own k) sz n f :=
  ⟨hsz, f, by simp [contents, hk], fun i hi => ⟨rfl, fun c hc => h i c hi hc⟩⟩
instance : Inhabited POp := ⟨⟨⟨#[]⟩, 0, 0, 0⟩⟩
def opCells (l : List POp) (i : Nat) : List AV := (l.getD i default).cells
theorem opClosed (l : List POp) (i : Nat) (c : AV) (h : c ∈ opCells l i) : Closed c := by
  simp [opCells, POp.cells] at h
  rcases h with rfl | rfl | rfl | rfl <;> exact .lit _
theorem opLit (l : List POp) (i : Nat) : (opCells l i).all isLit = true := rfl
def zeroOp : List AV := [.lit (.string ⟨#[]⟩), .lit (.int .i64 0), .lit (.int .i64 0), .lit (.int .i64 0)]
def opFill (l : List POp) (i j : Nat) : List AV := if j < i then opCells l j else zeroOp
theorem opBd (l : List POp) (i j m : Nat) : ∀ c, c ∈ opFill l i j → Bd m c := by
  intro c h
  unfold opFill at h
  split at h
  · exact .closed _ (opClosed l j c h)
  · simp [zeroOp] at h
    rcases h with rfl | rfl <;> exact .closed _ (.lit _)
theorem c_toOpS (l : List POp) (hl : l.length ≤ 1048576) : VFun Try.prog 43 [.sl 4 l.length (opCells l)] (fun av obs => av = .own 0 ∧ obs = [⟨75, 4, l.length, opCells l⟩]) := by
  refine vfun_start Try.func43 (by kernel_rfl) rfl (by simp [Try.ntmps43]) ?_; simp only [Try.ntmps43, Try.results43]; simp [go_sem]
  refine ⟨by omega, by omega, by omega, ?_⟩
  refine vc_loop (fun i : Nat => i ≤ l.length) (fun i => l.length - i) (fun i => .of [(0, .sl 4 l.length (opCells l)), (3, .own 0), (4, .lit (.int .i64 i))] [some ⟨75, 4, l.length, opFill l i⟩]) ⟨0, by omega, ?_⟩ (fun i hi => ?_)
  · simp [go_sem, opFill, zeroOp]
    exact fun i c _ h => opClosed l i c h
  · simp [go_sem]
    refine ⟨by omega, fun h => ?_, fun h => ?_⟩
    · rcases ho : l.getD i default with ⟨z, k, lv, sd⟩
      have e : opCells l i = [.lit (.string z), .lit (.int .i64 k), .lit (.int .i64 lv), .lit (.int .i64 sd)] := by unfold opCells; rw [ho]; rfl
      simp only [e]
      refine ⟨h, by simp, vcall_val (c_toOp ⟨z, k, lv, sd⟩) ?_ ?_ ?_⟩
      · simp [go_sem, POp.cells]
      · simp [go_sem, POp.cells]
      · simp [go_sem, POp.cells]
        refine ⟨h, i + 1, by omega, by omega, ⟨fun i c _ h => opClosed l i c h, wrap_succ (by omega)⟩, fun j hj => ?_⟩
        rw [updF_at h hj]
        refine ⟨?_, opBd l _ _ _⟩
        by_cases hji : j = i
        · subst hji
          simp [opFill, e, splice, zeroOp]
        · rw [if_neg hji]
          unfold opFill
          by_cases h2 : j < i
          · rw [if_pos h2, if_pos (by omega)]
          · rw [if_neg h2, if_neg (by omega)]
    · have : i = l.length := by omega
      subst this
      exact obsSame_one.mpr ⟨⟨75, 4, l.length, opCells l⟩, ⟨rfl, rfl, rfl, fun j hj => ⟨by simp only [opFill]; rw [if_pos hj], opLit l j⟩⟩, rfl⟩
theorem c_toTable (l : List POp) (hl : l.length ≤ 1048576) : VFun Try.prog 13 [.agg [.sl 4 l.length (opCells l)]] (fun av obs => av = .agg [.own 0] ∧ obs = [⟨75, 4, l.length, opCells l⟩]) := by
  refine vfun_start Try.func13 (by kernel_rfl) rfl (by simp [Try.ntmps13]) ?_; simp only [Try.ntmps13, Try.results13]; simp [go_sem]
  refine vcall_use (c_toOpS l hl) ?_ ?_
  · simp [go_sem]
    exact argSl_refl (by omega) fun i c _ h => opClosed l i c h
  · rintro av obs ⟨rfl, rfl⟩
    simp [go_sem]
    exact obsSame_one.mpr ⟨⟨75, 4, l.length, opCells l⟩, ⟨rfl, rfl, rfl, fun j hj => ⟨rfl, opLit l j⟩⟩, rfl⟩
def opSum (l : List POp) : Nat := (l.map fun o => o.text.size).sum
theorem opSum_take (l : List POp) (i : Nat) (h : i < l.length) : opSum (l.take (i + 1)) = opSum (l.take i) + (l.getD i default).text.size := by
  unfold opSum
  rw [List.take_add_one, List.getElem?_eq_getElem h, List.map_append, List.sum_append_nat, List.getD_eq_getElem?_getD, List.getElem?_eq_getElem h]
  simp only [Option.toList_some, List.map_cons, List.map_nil, List.sum_cons, List.sum_nil, Option.getD_some, Nat.add_zero]
def szRes (left : Int) (n : Nat) (av : AV) : Prop := av = .lit (.int .i64 (-1)) ∨ (0 ≤ left - n ∧ av = .lit (.int .i64 (left - n)))
theorem c_szOpS (l : List POp) (left : Int) (hl : l.length ≤ maxLen) (ho : ∀ i, i < l.length → (l.getD i default).wf) (h0 : 0 ≤ left) (h : left ≤ 1048576) :
    VFun Try.prog 39 [.sl 4 l.length (opCells l), .lit (.int .i64 left)] (fun av obs => obs = [] ∧ szRes left (l.length + opSum l) av) := by
  simp only [maxLen] at hl
  refine vfun_start Try.func39 (by kernel_rfl) rfl (by simp [Try.ntmps39]) ?_; simp only [Try.ntmps39, Try.results39]; simp [go_sem]
  rw [wrap_i64 (n := left - l.length) (by omega)]
  refine ⟨by omega, fun _ => .inl rfl, fun h1 => ?_⟩
  refine vc_loop (fun i : Nat => i ≤ l.length ∧ 0 ≤ left - l.length - opSum (l.take i)) (fun i => l.length - i) (fun i => .of [(0, .sl 4 l.length (opCells l)), (1, .lit (.int .i64 (left - l.length - opSum (l.take i)))), (5, .lit (.int .i64 i))] []) ⟨0, ⟨by omega, by simpa [opSum] using h1⟩, ?_⟩ (fun i hi => ?_)
  · simp [go_sem, opSum]
    exact fun i c _ h => opClosed l i c h
  · simp [go_sem]
    refine ⟨by omega, fun h => ?_, fun h => ?_⟩
    · have hw := ho i h
      have hs := opSum_take l i h
      rcases ho : l.getD i default with ⟨z, k, lv, sd⟩
      rw [ho] at hw hs
      have e : opCells l i = [.lit (.string z), .lit (.int .i64 k), .lit (.int .i64 lv), .lit (.int .i64 sd)] := by unfold opCells; rw [ho]; rfl
      simp only [e]
      refine ⟨h, by simp, vcall_pure (c_szOp ⟨z, k, lv, sd⟩ (left - l.length - opSum (l.take i)) hw (by omega) (by omega)) ?_ ?_⟩
      · simp [go_sem, POp.cells]
      · simp [go_sem]
        simp only at hs
        by_cases h2 : left - l.length - opSum (l.take i) - z.size < 0
        · simp only [h2, if_true]
          exact ⟨fun _ => .inl rfl, fun h4 => by omega⟩
        · simp only [h2, if_false]
          exact ⟨fun h4 => h4.elim, fun h4 => ⟨i + 1, ⟨by omega, by omega⟩, by omega, fun i c _ h => opClosed l i c h, by omega, wrap_succ (by omega)⟩⟩
    · have : i = l.length := by omega
      subst this
      simp only [List.take_length] at hi ⊢
      exact .inr ⟨by omega, by congr 2; omega⟩
theorem c_szTable (l : List POp) (left : Int) (hl : l.length ≤ maxLen) (ho : ∀ i, i < l.length → (l.getD i default).wf) (h0 : 0 ≤ left) (h : left ≤ 1048576) :
    VFun Try.prog 11 [.agg [.sl 4 l.length (opCells l)], .lit (.int .i64 left)] (fun av obs => obs = [] ∧ szRes left (l.length + opSum l) av) := by
  refine vfun_start Try.func11 (by kernel_rfl) rfl (by simp [Try.ntmps11]) ?_; simp only [Try.ntmps11, Try.results11]; simp [go_sem]
  refine vcall_use (c_szOpS l left hl ho h0 h) ?_ ?_
  · simp [go_sem]
    exact argSl_refl (by omega) fun i c _ h => opClosed l i c h
  · rintro av obs ⟨rfl, h1 | ⟨h1, h2⟩⟩
    · subst h1
      simp [go_sem, szRes]
    · subst h2
      simp [go_sem, szRes]
      omega
/-- operators as they are compared -/
def opEq (a b : POp) : Bool := a.text == b.text && a.kind == b.kind && a.level == b.level && a.side == b.side
theorem c_eqOp (a b : POp) : VFun Try.prog 80 [.agg a.cells, .agg b.cells] (fun av obs => obs = [] ∧ av = .lit (.bool (opEq a b))) := by
  obtain ⟨z, k, l, s⟩ := a
  obtain ⟨z', k', l', s'⟩ := b
  simp only [POp.cells]
  refine vfun_start Try.func80 (by kernel_rfl) rfl (by simp [Try.ntmps80]) ?_; simp only [Try.ntmps80, Try.results80]; simp [go_sem]
  simp only [opEq, ba_toList, ba_beq]
  by_cases h1 : z = z' <;> by_cases h2 : k = k' <;> by_cases h3 : l = l' <;> by_cases h4 : s = s' <;> simp [h1, h2, h3, h4]
end Go.Proofs.Ytcnmgfbafcnkhaa.V
/- Contracts: comparison of lists of operators, of tables. -/
namespace Go.Proofs.Ytcnmgfbafcnkhaa.V
open Go.RowKit
set_option linter.unusedVariables false
set_option linter.unusedSimpArgs false
set_option linter.constructorNameAsVariable false
def opAt (l : List POp) (i : Nat) : POp := l.getD i default
theorem opCells_at (l : List POp) (i : Nat) : opCells l i = [.lit (.string (opAt l i).text), .lit (.int .i64 (opAt l i).kind), .lit (.int .i64 (opAt l i).level), .lit (.int .i64 (opAt l i).side)] := rfl
def opsEq (a b : List POp) : Bool := decide (a.length = b.length) && (List.range a.length).all fun i => opEq (opAt a i) (opAt b i)
theorem opsEq_false {a b : List POp} {i : Nat} (h : i < a.length) (e : opEq (opAt a i) (opAt b i) = false) : opsEq a b = false := by
  simp only [opsEq, Bool.and_eq_false_iff, List.all_eq_false, List.mem_range]
  exact .inr ⟨i, h, by rw [e]; simp⟩
theorem opsEq_true {a b : List POp} (hl : a.length = b.length) (h : ∀ i, i < a.length → opEq (opAt a i) (opAt b i) = true) : opsEq a b = true := by
  simp only [opsEq, Bool.and_eq_true, decide_eq_true_eq, List.all_eq_true, List.mem_range]
  exact ⟨hl, h⟩
theorem c_eqOpS (a b : List POp) (ha : a.length ≤ 9223372036854775807) (hb : b.length ≤ 9223372036854775807) : VFun Try.prog 47 [.sl 4 a.length (opCells a), .sl 4 b.length (opCells b)] (fun av obs => obs = [] ∧ av = .lit (.bool (opsEq a b))) := by
  refine vfun_start Try.func47 (by kernel_rfl) rfl (by simp [Try.ntmps47]) ?_; simp only [Try.ntmps47, Try.results47]; simp [go_sem]
  refine ⟨by omega, by omega, fun h1 => ?_, fun h1 => ?_⟩
  · simp [opsEq]; omega
  · refine vc_loop (fun i : Nat => i ≤ a.length ∧ ∀ j, j < i → opEq (opAt a j) (opAt b j) = true) (fun i => a.length - i) (fun i => .of [(0, .sl 4 a.length (opCells a)), (1, .sl 4 b.length (opCells b)), (4, .lit (.bool false)), (5, .lit (.int .i64 i))] []) ⟨0, ⟨by omega, by simp⟩, ?_⟩ (fun i hi => ?_)
    · simp [go_sem]
      exact ⟨fun i c _ h => opClosed a i c h, fun i c _ h => opClosed b i c h⟩
    · simp [go_sem]
      refine ⟨by omega, fun h => ?_, fun h => ?_⟩
      · refine vc_drawn [] (.q 0 <| .q 1 <| .q 2 <| .q 3 <| .q 4 <| .q 5 <| .q 6 <| .q 7 <| .or 8 (.q 9 <| .done) (.nil)) (by kernel_rfl) ?_
        simp [go_sem, opCells_at]
        refine ⟨h, by omega, vcallV_pure (c_eqOp (opAt a i) (opAt b i)) ?_ ?_⟩
        · simp [go_sem, POp.cells]
        · simp [go_sem]
          refine ⟨fun e => opsEq_false h e, fun e => ⟨i + 1, ⟨by omega, fun j hj => ?_⟩, by omega, ⟨fun i c _ h => opClosed a i c h, fun i c _ h => opClosed b i c h, wrap_succ (by omega)⟩⟩⟩
          rcases Nat.lt_succ_iff_lt_or_eq.mp hj with hj | rfl
          · exact hi.2 j hj
          · exact e
      · exact opsEq_true (by omega) fun j hj => hi.2 j (by omega)
theorem c_eqTable (a b : List POp) (ha : a.length ≤ 9223372036854775807) (hb : b.length ≤ 9223372036854775807) : VFun Try.prog 16 [.agg [.sl 4 a.length (opCells a)], .agg [.sl 4 b.length (opCells b)]] (fun av obs => obs = [] ∧ av = .lit (.bool (opsEq a b))) := by
  refine vfun_start Try.func16 (by kernel_rfl) rfl (by simp [Try.ntmps16]) ?_; simp only [Try.ntmps16, Try.results16]; simp [go_sem]
  refine vcall_pure (c_eqOpS a b ha hb) ?_ ?_
  · simp [go_sem]
    exact ⟨argSl_refl (by omega) fun i c _ h => opClosed a i c h, argSl_refl (by omega) fun i c _ h => opClosed b i c h⟩
  · simp [go_sem]
end Go.Proofs.Ytcnmgfbafcnkhaa.V
/- Contracts: what a valid table is, by the specification. -/
namespace Go.Proofs.Ytcnmgfbafcnkhaa.V
open Go.RowKit
set_option linter.unusedVariables false
set_option linter.unusedSimpArgs false
set_option linter.constructorNameAsVariable false
def sortN (o : POp) : Int := if o.kind = 1 then 2 else if o.kind = 3 then 1 else o.side
theorem c_l1Sort (o : POp) : VFun Try.prog 82 [.agg o.cells] (fun av obs => obs = [] ∧ av = .lit (.int .i64 (sortN o))) := by
  obtain ⟨z, kind, level, side⟩ := o
  simp only [POp.cells]
  refine vfun_start Try.func82 (by kernel_rfl) rfl (by simp [Try.ntmps82]) ?_; simp only [Try.ntmps82, Try.results82]; simp [go_sem]
  simp only [sortN, int_beq, decide_eq_true_eq, decide_eq_false_iff_not]
  by_cases h1 : kind = 1 <;> by_cases h2 : kind = 3 <;> simp [h1, h2]
theorem c_sortOf (o : POp) : VFun Try.prog 61 [.agg o.cells] (fun av obs => obs = [] ∧ av = .lit (.int .i64 (sortN o))) := by
  obtain ⟨z, kind, level, side⟩ := o
  simp only [POp.cells]
  refine vfun_start Try.func61 (by kernel_rfl) rfl (by simp [Try.ntmps61]) ?_; simp only [Try.ntmps61, Try.results61]; simp [go_sem]
  simp only [sortN, int_beq, decide_eq_true_eq, decide_eq_false_iff_not]
  by_cases h1 : kind = 1 <;> by_cases h2 : kind = 3 <;> simp [h1, h2]
theorem c_placeOf (o : POp) : VFun Try.prog 60 [.agg o.cells] (fun av obs => obs = [] ∧ av = .agg [.lit (.string o.text), .lit (.bool (o.kind == 1))]) := by
  obtain ⟨z, kind, level, side⟩ := o
  simp only [POp.cells]
  refine vfun_start Try.func60 (by kernel_rfl) rfl (by simp [Try.ntmps60]) ?_; simp only [Try.ntmps60, Try.results60]; simp [go_sem]
def clash (a b : POp) (code : Int) : Bool := if code = 3 then decide (a.text = b.text) && decide ((a.kind == 1) = (b.kind == 1)) else decide (a.level = b.level) && decide (sortN a ≠ sortN b)
theorem c_l1Clash (a b : POp) (code : Int) : VFun Try.prog 54 [.agg a.cells, .agg b.cells, .lit (.int .i64 code)] (fun av obs => obs = [] ∧ av = .lit (.bool (clash a b code))) := by
  have ca := c_l1Sort a
  have cb := c_l1Sort b
  obtain ⟨z, k, l, s⟩ := a
  obtain ⟨z', k', l', s'⟩ := b
  simp only [POp.cells] at ca cb ⊢
  refine vfun_start Try.func54 (by kernel_rfl) rfl (by simp [Try.ntmps54]) ?_; simp only [Try.ntmps54, Try.results54]; simp [go_sem]
  simp only [ba_toList]
  refine ⟨fun h => ⟨fun h1 => ?_, fun h1 => ?_⟩, fun h => ?_⟩
  · subst h1
    simp only [clash, if_pos h, decide_true, Bool.true_and]
    generalize (k == 1) = x
    generalize (k' == 1) = y
    cases x <;> cases y <;> rfl
  · simp [clash, h, h1]
  · by_cases hl : l = l'
    · subst hl
      refine vc_drawn [] (.q 0 <| .q 1 <| .q 2 <| .q 3 <| .q 4 <| .q 5 <| .q 6 <| .q 8 <| .or 7 (.or 9 (.q 10 <| .q 11 <| .q 12 <| .done) (.nil)) (.nil)) (by kernel_rfl) ?_
      simp [go_sem]
      refine vcallV_pure ca ?_ ?_
      · simp [go_sem]
      · simp [go_sem]
        refine vcallV_pure cb ?_ ?_
        · simp [go_sem]
        · simp [go_sem, clash, h]
          simp only [int_beq, bne, Bool.not_eq_true', decide_eq_false_iff_not, decide_not]
    · refine vc_drawn [] (.q 0 <| .q 1 <| .q 2 <| .q 3 <| .q 4 <| .q 5 <| .q 6 <| .q 8 <| .or 7 (.or 9 (.q 10 <| .q 11 <| .q 12 <| .done) (.nil)) (.nil)) (by kernel_rfl) ?_
      have e : (l == l') = false := by simp [hl]
      simp [go_sem, e]
      simp [clash, h, hl]
def tblClash (l : List POp) (code : Int) : Bool := (List.range l.length).any fun i => (List.range i).any fun j => clash (opAt l i) (opAt l j) code
theorem tblClash_iff (l : List POp) (code : Int) : tblClash l code = true ↔ ∃ i, i < l.length ∧ ∃ j, j < i ∧ clash (opAt l i) (opAt l j) code = true := by
  simp [tblClash]
def tblOps (l : List POp) : Bool := (List.range l.length).all fun i => opOk (opAt l i)
/-- what TableOk answers -/
def tblOk (l : List POp) : Int := if 500 < l.length then 1 else if tblOps l = false then 2 else if tblClash l 3 = true then 3 else if tblClash l 4 = true then 4 else 0
def opsWf (l : List POp) : Prop := ∀ i, i < l.length → (opAt l i).wf
theorem c_specTableOk (l : List POp) (hl : l.length ≤ 9223372036854775807) (hw : opsWf l) : VFun Try.prog 27 [.agg [.sl 4 l.length (opCells l)]] (fun av obs => obs = [] ∧ av = .lit (.int .i64 (tblOk l))) := by
  refine vfun_start Try.func27 (by kernel_rfl) rfl (by simp [Try.ntmps27]) ?_; simp only [Try.ntmps27, Try.results27]; simp [go_sem]
  refine ⟨by omega, fun h1 => ?_, fun h1 => ?_⟩
  · simp [tblOk]; omega
  · refine vc_loop (fun i : Nat => i ≤ l.length ∧ ∀ j, j < i → opOk (opAt l j) = true) (fun i => l.length - i) (fun i => .of [(1, .ptr 0 1 0 0), (3, .lit (.int .i64 l.length)), (4, .lit (.int .i64 i))] [some ⟨25, 1, 1, fun _ => [.sl 4 l.length (opCells l)]⟩]) ⟨0, ⟨by omega, by simp⟩, ?_⟩ (fun i hi => ?_)
    · simp [go_sem]
      exact fun i c _ h => opClosed l i c h
    · simp [go_sem, opCells_at]
      have cl : ∀ (i : Nat) (c : AV), i < l.length → c ∈ opCells l i → Closed c := fun i c _ h => opClosed l i c h
      refine ⟨fun h => ⟨h, vcall_pure (c_l1OpOk (opAt l i) (hw i h)) ?_ ?_⟩, fun h => ?_⟩
      · simp [go_sem, POp.cells]
      · simp [go_sem]
        refine ⟨fun e => ?_, fun e => ⟨i + 1, ⟨by omega, fun j hj => ?_⟩, by omega, wrap_succ (by omega), cl⟩⟩
        · have : tblOps l = false := by
            simp only [tblOps, List.all_eq_false, List.mem_range]
            exact ⟨i, h, by rw [e]; simp⟩
          simp only [tblOk, this, if_neg (show ¬ 500 < l.length by omega), if_true]
        · rcases Nat.lt_succ_iff_lt_or_eq.mp hj with hj | rfl
          · exact hi.2 j hj
          · exact e
      · have hok : tblOps l = true := by
          simp only [tblOps, List.all_eq_true, List.mem_range]
          exact fun j hj => hi.2 j (by omega)
        clear hi h
        refine vc_loop (fun c : Nat => c ≤ 2 ∧ ∀ q : Nat, q < c → tblClash l (3 + q) = false) (fun c => 2 - c) (fun c => .of [(1, .ptr 0 1 0 0), (3, .lit (.int .i64 l.length)), (5, .lit (.int .i64 (3 + c)))] [some ⟨25, 1, 1, fun _ => [.sl 4 l.length (opCells l)]⟩]) ⟨0, ⟨by omega, by simp⟩, ?_⟩ (fun c hc => ?_)
        · simp [go_sem]
          exact cl
        · simp [go_sem]
          refine ⟨fun h => ?_, fun h => ?_⟩
          · refine vc_loop (fun i : Nat => i ≤ l.length ∧ ∀ i', i' < i → ∀ j, j < i' → clash (opAt l i') (opAt l j) (3 + c) = false) (fun i => l.length - i) (fun i => .of [(1, .ptr 0 1 0 0), (3, .lit (.int .i64 l.length)), (5, .lit (.int .i64 (3 + c))), (6, .lit (.int .i64 i))] [some ⟨25, 1, 1, fun _ => [.sl 4 l.length (opCells l)]⟩]) ⟨0, ⟨by omega, by simp⟩, ?_⟩ (fun i hi => ?_)
            · simp [go_sem]
              exact cl
            · simp [go_sem]
              refine ⟨fun h2 => ?_, fun h2 => ?_⟩
              · refine vc_loop (fun j : Nat => j ≤ i ∧ ∀ j', j' < j → clash (opAt l i) (opAt l j') (3 + c) = false) (fun j => i - j) (fun j => .of [(1, .ptr 0 1 0 0), (3, .lit (.int .i64 l.length)), (5, .lit (.int .i64 (3 + c))), (6, .lit (.int .i64 i)), (7, .lit (.int .i64 j))] [some ⟨25, 1, 1, fun _ => [.sl 4 l.length (opCells l)]⟩]) ⟨0, ⟨by omega, by simp⟩, ?_⟩ (fun j hj => ?_)
                · simp [go_sem]
                  exact cl
                · simp [go_sem]
                  refine ⟨fun h3 => ?_, fun h3 => ?_⟩
                  · refine vc_drawn [] (.q 0 <| .q 1 <| .q 2 <| .q 3 <| .q 4 <| .q 5 <| .q 6 <| .q 7 <| .q 8 <| .q 9 <| .q 10 <| .or 11 (.done) (.nil)) (by kernel_rfl) ?_
                    simp [go_sem, opCells_at]
                    refine ⟨h2, by omega, vcallV_pure (c_l1Clash (opAt l i) (opAt l j) (3 + c)) ?_ ?_⟩
                    · simp [go_sem, POp.cells]
                    · simp [go_sem]
                      refine ⟨fun e => ?_, fun e => ⟨j + 1, ⟨by omega, fun j' hj' => ?_⟩, by omega, wrap_succ (by omega), cl⟩⟩
                      · have hcl : tblClash l (3 + c) = true := (tblClash_iff l _).2 ⟨i, h2, j, h3, e⟩
                        rcases (by omega : c = 0 ∨ c = 1) with rfl | rfl
                        · have h4 : tblClash l 3 = true := hcl
                          simp only [tblOk, hok, h4, if_neg (show ¬ 500 < l.length by omega)]
                          rfl
                        · have h4 : tblClash l 4 = true := hcl
                          have h5 : tblClash l 3 = false := hc.2 0 (by omega)
                          simp only [tblOk, hok, h4, h5, if_neg (show ¬ 500 < l.length by omega)]
                          rfl
                      · rcases Nat.lt_succ_iff_lt_or_eq.mp hj' with hj' | rfl
                        · exact hj.2 j' hj'
                        · exact e
                  · refine ⟨i + 1, ⟨by omega, fun i' hi' j' hj' => ?_⟩, by omega, wrap_succ (by omega), cl⟩
                    rcases Nat.lt_succ_iff_lt_or_eq.mp hi' with hi' | rfl
                    · exact hi.2 i' hi' j' hj'
                    · exact hj.2 j' (by omega)
              · refine ⟨c + 1, ⟨by omega, fun q hq => ?_⟩, by omega, ?_, cl⟩
                · rcases Nat.lt_succ_iff_lt_or_eq.mp hq with hq | rfl
                  · exact hc.2 q hq
                  · rw [Bool.eq_false_iff]
                    intro e
                    obtain ⟨i', h4, j', h5, h6⟩ := (tblClash_iff l _).1 e
                    rw [hi.2 i' (by omega) j' h5] at h6
                    cases h6
                · rw [wrap_i64 (by omega)]; omega
          · have : c = 2 := by omega
            subst this
            have h4 : tblClash l 3 = false := hc.2 0 (by omega)
            have h5 : tblClash l 4 = false := hc.2 1 (by omega)
            simp only [tblOk, hok, h4, h5, if_neg (show ¬ 500 < l.length by omega)]
            rfl
end Go.Proofs.Ytcnmgfbafcnkhaa.V
/- Contracts: what a valid table is, by the program. -/
namespace Go.Proofs.Ytcnmgfbafcnkhaa.V
open Go.RowKit
open Go.Maps (Keyed)
set_option linter.unusedVariables false
set_option linter.unusedSimpArgs false
set_option linter.constructorNameAsVariable false
open Classical in
theorem mget_mput : ∀ (es : List (Value × Value)) (x u y : Value), mget (mput es x u) y = if x = y then some u else mget es y
  | [], x, u, y => by
    simp only [mput, mget]
  | (k, v) :: r, x, u, y => by
    simp only [mput]
    by_cases h : k = x
    · subst h
      rw [if_pos rfl]
      simp only [mget]
      split <;> rfl
    · rw [if_neg h]
      simp only [mget]
      by_cases h2 : k = y
      · subst h2
        rw [if_pos rfl, if_neg (fun e : x = k => h e.symm)]
        simp [mget]
      · rw [if_neg h2, if_neg h2]
        exact mget_mput r x u y
theorem keyOf_struct {P : Program} {k : TypeId} {fs : Array Field} {cs : Array Value} (hu : P.underlying k = some (.struct fs)) (hkt : P.keyType k = true) (hc : cs.size = P.cellsOf k) (hn : fs.all (·.name != "_") = true) (hsz : 1 ≤ P.types.size)
    (hm : ∀ d, ∃ lss, (fs.toList.mapM fun f => P.keyLits (d + 1) f.type ((cs.toList.drop f.offset).take (P.cellsOf f.type))) = some lss) : ∃ l, keyOf P k (.agg cs) = some l := by
  obtain ⟨n, hn1⟩ : ∃ n, P.types.size = n + 1 := ⟨P.types.size - 1, by omega⟩
  obtain ⟨lss, hl⟩ := hm n
  have h1 : P.keyLits (P.types.size + 1) k cs.toList = some lss.flatten := by
    rw [hn1]
    unfold Program.keyLits
    simp only [hu, Array.length_toList, hc, hn, and_self, if_true, hl, Option.map_some]
  refine ⟨.string (keyBytes lss.flatten), ?_⟩
  unfold keyOf
  rw [hu]
  simp only [hkt, Value.formed, hu, hc, beq_self_eq_true, Bool.and_self, if_true, Value.cells, h1, Option.map_some]
theorem keyLits_str {P : Program} {t : TypeId} (hu : P.underlying t = some .string) {z : ByteArray} (h : z.size ≤ maxLen) (d : Nat) : P.keyLits (d + 1) t [.string z] = some [.string z.data.toList] := by
  unfold Program.keyLits; simp only [hu, if_pos h]
theorem keyLits_bool {P : Program} {t : TypeId} (hu : P.underlying t = some .bool) {b : Bool} (d : Nat) : P.keyLits (d + 1) t [.bool b] = some [.bool b] := by
  unfold Program.keyLits; simp only [hu]
theorem int_wf {n : Int} (h : -9223372036854775808 ≤ n ∧ n ≤ 9223372036854775807) : (Lit.int .i64 n).wf = true := by
  simp only [Lit.wf, IntKind.min, IntKind.max, IntKind.bits, IntKind.signed, decide_eq_true_eq, Bool.and_eq_true]
  exact h
theorem keyLits_int {P : Program} {t : TypeId} (hu : P.underlying t = some (.int .i64)) {n : Int} (h : -9223372036854775808 ≤ n ∧ n ≤ 9223372036854775807) (d : Nat) : P.keyLits (d + 1) t [.int .i64 n] = some [.int .i64 n] := by
  unfold Program.keyLits; simp only [hu, int_wf h, and_self, if_true]
theorem size1 : 1 ≤ Try.prog.types.size := of_decide_eq_true (by kernel_rfl)
theorem rowPlace : (115 : TypeId) < Try.prog.types.size := of_decide_eq_true (by kernel_rfl)
theorem co_place : Try.prog.cellsOf 115 = 2 := by kernel_rfl
theorem co_string : Try.prog.cellsOf 9 = 1 := by kernel_rfl
theorem co_bool : Try.prog.cellsOf 4 = 1 := by kernel_rfl
theorem co_int : Try.prog.cellsOf 3 = 1 := by kernel_rfl
theorem keyedPlace : Keyed Try.prog 115 := Keyed.of_law (deep_law_laid laidOut (m := 2) (by omega) rowPlace (by kernel_rfl) (by kernel_rfl))
theorem keyedInt : Keyed Try.prog 3 := Go.Maps.int_keyed Try.underlying3
theorem keyedString : Keyed Try.prog 9 := Go.Maps.string_keyed Try.underlying9
theorem keyInt {n : Int} (h : -9223372036854775808 ≤ n ∧ n ≤ 9223372036854775807) : ∃ l, keyOf Try.prog 3 (.int .i64 n) = some l :=
  ⟨_, Go.Maps.keyOf_int_mk Try.underlying3 (int_wf h)⟩
theorem keyString {z : ByteArray} (h : z.size ≤ maxLen) : ∃ l, keyOf Try.prog 9 (.string z) = some l := ⟨_, Go.WideMaps.keyOf_string_mk Try.underlying9 h⟩
theorem keyPlace {z : ByteArray} {b : Bool} (h : z.size ≤ maxLen) : ∃ l, keyOf Try.prog 115 (.agg #[.string z, .bool b]) = some l := by
  refine keyOf_struct Try.underlying115 (by kernel_rfl) co_place.symm (by kernel_rfl) size1 fun d => ?_
  simp only [List.mapM_cons, List.mapM_nil, co_string, co_bool, List.drop_zero, List.take_succ_cons, List.take_zero, List.drop_succ_cons, keyLits_str Try.underlying9 h, keyLits_bool Try.underlying4]
  exact ⟨_, rfl⟩
theorem zeroInt : zeroIs Try.prog 3 (.int .i64 0) := fun w => Try.zeroValue3 w
end Go.Proofs.Ytcnmgfbafcnkhaa.V
/- Contracts: what a valid table is, by the program: TableOk. -/
namespace Go.Proofs.Ytcnmgfbafcnkhaa.V
open Go.RowKit
open Go.Maps (Keyed)
set_option linter.unusedVariables false
set_option linter.unusedSimpArgs false
set_option linter.constructorNameAsVariable false
def placeV (o : POp) : Value := .agg #[.string o.text, .bool (o.kind == 1)]
theorem placeV_fold (o : POp) : Value.agg #[.string o.text, .bool (o.kind == 1)] = placeV o := rfl
theorem placeV_eq {a b : POp} : placeV a = placeV b ↔ clash a b 3 = true := by
  simp only [placeV, clash, if_true, Value.agg.injEq, Bool.and_eq_true, decide_eq_true_eq, Array.mk.injEq, List.cons.injEq, Value.string.injEq, Value.bool.injEq, and_true]
def SeenIs (l : List POp) (i : Nat) (es : List (Value × Value)) : Prop := (∀ j, j < i → (mget es (placeV (opAt l j))).isSome = true) ∧ ∀ x v, mget es x = some v → ∃ j, j < i ∧ x = placeV (opAt l j)
def SortsIs (l : List POp) (i : Nat) (es : List (Value × Value)) : Prop := (∀ j, j < i → mget es (.int .i64 (opAt l j).level) = some (.int .i64 (sortN (opAt l j)))) ∧ ∀ x v, mget es x = some v → ∃ j, j < i ∧ x = .int .i64 (opAt l j).level
theorem c_TableOk (l : List POp) (hl : l.length ≤ 9223372036854775807) (hw : opsWf l) : VFun Try.prog 31 [.agg [.sl 4 l.length (opCells l)]] (fun av obs => obs = [] ∧ av = .lit (.int .i64 (tblOk l))) := by
  have cl : ∀ (i : Nat) (c : AV), i < l.length → c ∈ opCells l i → Closed c := fun i c _ h => opClosed l i c h
  refine vfun_start Try.func31 (by kernel_rfl) rfl (by simp [Try.ntmps31]) ?_; simp only [Try.ntmps31, Try.results31]; simp [go_sem]
  refine ⟨by omega, fun h1 => ?_, fun h1 => ?_⟩
  · simp [tblOk]; omega
  · have hmax : ¬ 500 < l.length := by omega
    refine ⟨by omega, ?_⟩
    refine vc_loop (fun i : Nat => i ≤ l.length ∧ ∀ j, j < i → opOk (opAt l j) = true) (fun i => l.length - i) (fun i => .of [(1, .ptr 0 1 0 0), (20, .sl 4 l.length (opCells l)), (21, .lit (.int .i64 l.length)), (22, .lit (.int .i64 i))] [some ⟨25, 1, 1, fun _ => [.sl 4 l.length (opCells l)]⟩]) ⟨0, ⟨by omega, by simp⟩, ?_⟩ (fun i hi => ?_)
    · simp [go_sem]
      exact cl
    · simp [go_sem, opCells_at]
      refine ⟨fun h => ⟨h, vcall_pure (c_opOk (opAt l i) (hw i h)) ?_ ?_⟩, fun h => ?_⟩
      · simp [go_sem, POp.cells]
      · simp [go_sem]
        refine ⟨fun e => ?_, fun e => ⟨i + 1, ⟨by omega, fun j hj => ?_⟩, by omega, ⟨⟨cl, wrap_succ (by omega)⟩, cl⟩⟩⟩
        · have : tblOps l = false := by
            simp only [tblOps, List.all_eq_false, List.mem_range]
            exact ⟨i, h, by rw [e]; simp⟩
          simp only [tblOk, this, if_neg hmax, if_true]
        · rcases Nat.lt_succ_iff_lt_or_eq.mp hj with hj | rfl
          · exact hi.2 j hj
          · exact e
      · have hok : tblOps l = true := by
          simp only [tblOps, List.all_eq_true, List.mem_range]
          exact fun j hj => hi.2 j (by omega)
        have hop : ∀ j, j < l.length → opOk (opAt l j) = true := fun j hj => hi.2 j (by omega)
        clear hi h
        refine fun b => ⟨by omega, ?_⟩
        refine vc_loop (fun p : Nat × List (Value × Value) => p.1 ≤ l.length ∧ SeenIs l p.1 p.2 ∧ ∀ i', i' < p.1 → ∀ j, j < i' → clash (opAt l i') (opAt l j) 3 = false) (fun p => l.length - p.1)
          (fun p => ⟨[(1, .ptr 0 1 0 0), (5, .lit (.map (some b))), (32, .sl 4 l.length (opCells l)), (33, .lit (.int .i64 l.length)), (34, .lit (.int .i64 p.1))], [some ⟨25, 1, 1, fun _ => [.sl 4 l.length (opCells l)]⟩], [(b, ⟨115, p.2⟩)], 0⟩) ⟨(0, []), ⟨by omega, ⟨by simp, by simp [mget]⟩, by simp⟩, ?_⟩ (fun p hp => ?_)
        · simp [go_sem]
          exact cl
        · obtain ⟨i, es⟩ := p
          simp only at hp
          simp [go_sem, opCells_at]
          refine ⟨fun h => ⟨h, vcall_val (c_placeOf (opAt l i)) ?_ ?_ ?_⟩, fun h => ?_⟩
          · simp [go_sem, POp.cells]
          · simp [go_sem]
          · simp [go_sem]
            refine vlookK_use keyedPlace (keyPlace (hw i h)) _ zeroInt ?_
            simp [go_sem]
            simp only [placeV_fold]
            have hno : ∀ (h0 : (mget es (placeV (opAt l i))).isSome = true), tblClash l 3 = true := by
              intro h0
              obtain ⟨v, hv⟩ := Option.isSome_iff_exists.1 h0
              obtain ⟨j, hj, e⟩ := hp.2.1.2 _ v hv
              exact (tblClash_iff l _).2 ⟨i, h, j, hj, placeV_eq.1 e⟩
            refine ⟨fun h0 => ?_, fun h0 => ?_⟩
            · simp only [tblOk, hok, hno h0, if_neg hmax]
              rfl
            · refine vcall_val (c_placeOf (opAt l i)) ?_ ?_ ?_
              · simp [go_sem, POp.cells]
              · simp [go_sem]
              · simp [go_sem]
                refine vmsetK_use keyedPlace (keyPlace (hw i h)) ?_
                simp [go_sem]
                simp only [placeV_fold]
                refine ⟨i + 1, mput es (placeV (opAt l i)) (.int .i64 i), ⟨by omega, ⟨fun j hj => ?_, fun x v hv => ?_⟩, fun i' hi' j hj => ?_⟩, by omega, rfl, ⟨cl, wrap_succ (by omega)⟩, cl⟩
                · rw [mget_mput]
                  split
                  · rfl
                  · rename_i hne
                    rcases Nat.lt_succ_iff_lt_or_eq.mp hj with hj | rfl
                    · exact hp.2.1.1 j hj
                    · exact absurd rfl hne
                · rw [mget_mput] at hv
                  split at hv
                  · rename_i e
                    exact ⟨i, by omega, e.symm⟩
                  · obtain ⟨j, hj, e⟩ := hp.2.1.2 x v hv
                    exact ⟨j, by omega, e⟩
                · rcases Nat.lt_succ_iff_lt_or_eq.mp hi' with hi' | rfl
                  · exact hp.2.2 i' hi' j hj
                  · rw [Bool.eq_false_iff]
                    intro e
                    have h5 := hp.2.1.1 j hj
                    rw [← placeV_eq.2 e, h0] at h5
                    cases h5
          · have hc3 : tblClash l 3 = false := by
              rw [Bool.eq_false_iff]
              intro e
              obtain ⟨i', h4, j', h5, h6⟩ := (tblClash_iff l _).1 e
              rw [hp.2.2 i' (by omega) j' h5] at h6
              cases h6
            clear hp h
            refine fun b2 hb2 => ⟨by omega, ?_⟩
            refine vc_loop (fun p : Nat × List (Value × Value) => p.1 ≤ l.length ∧ SortsIs l p.1 p.2 ∧ ∀ i', i' < p.1 → ∀ j, j < i' → clash (opAt l i') (opAt l j) 4 = false) (fun p => l.length - p.1)
              (fun p => ⟨[(1, .ptr 0 1 0 0), (10, .lit (.map (some b2))), (54, .sl 4 l.length (opCells l)), (55, .lit (.int .i64 l.length)), (56, .lit (.int .i64 p.1))], [some ⟨25, 1, 1, fun _ => [.sl 4 l.length (opCells l)]⟩], [(b2, ⟨3, p.2⟩)], 0⟩) ⟨(0, []), ⟨by omega, ⟨by simp, by simp [mget]⟩, by simp⟩, ?_⟩ (fun p hp => ?_)
            · simp [go_sem]
              exact cl
            · obtain ⟨i, es⟩ := p
              simp only at hp
              simp [go_sem, opCells_at]
              refine ⟨fun h => ⟨h, ?_⟩, fun h => ?_⟩
              · have hlv := opOk_level (hop i h)
                have hki := keyInt (n := (opAt l i).level) (by omega)
                refine vlookK_use keyedInt hki _ zeroInt ?_
                have step : ∀ (h4 : ∀ j, j < i → clash (opAt l i) (opAt l j) 4 = false), SortsIs l (i + 1) (mput es (.int .i64 (opAt l i).level) (.int .i64 (sortN (opAt l i)))) ∧ ∀ i', i' < i + 1 → ∀ j, j < i' → clash (opAt l i') (opAt l j) 4 = false := by
                  intro h4
                  refine ⟨⟨fun j hj => ?_, fun x v hv => ?_⟩, fun i' hi' j hj => ?_⟩
                  · rw [mget_mput]
                    rcases Nat.lt_succ_iff_lt_or_eq.mp hj with hj | rfl
                    · split
                      · rename_i e
                        simp only [Value.int.injEq, true_and] at e
                        have := h4 j hj
                        simp only [clash, e, decide_true, Bool.true_and, show ((4 : Int) = 3) = False by decide, if_false, decide_eq_false_iff_not, ne_eq, Classical.not_not] at this
                        rw [this]
                      · exact hp.2.1.1 j hj
                    · rw [if_pos rfl]
                  · rw [mget_mput] at hv
                    split at hv
                    · rename_i e
                      exact ⟨i, by omega, e.symm⟩
                    · obtain ⟨j, hj, e⟩ := hp.2.1.2 x v hv
                      exact ⟨j, by omega, e⟩
                  · rcases Nat.lt_succ_iff_lt_or_eq.mp hi' with hi' | rfl
                    · exact hp.2.2 i' hi' j hj
                    · exact h4 j hj
                cases hm : mget es (.int .i64 (opAt l i).level) with
                | none =>
                  simp [go_sem]
                  have h4 : ∀ j, j < i → clash (opAt l i) (opAt l j) 4 = false := by
                    intro j hj
                    simp only [clash, show ((4 : Int) = 3) = False by decide, if_false, Bool.and_eq_false_iff, decide_eq_false_iff_not]
                    refine .inl fun e => ?_
                    have := hp.2.1.1 j hj
                    rw [← e, hm] at this
                    cases this
                  refine vc_drawn [5] (.q 0 <| .q 1 <| .q 2 <| .q 3 <| .or 4 (.or 5 (.done) (.nil)) (.nil)) (by kernel_rfl) ?_
                  simp [go_sem]
                  refine vcallV_pure (c_sortOf (opAt l i)) ?_ ?_
                  · simp [go_sem, POp.cells]
                  · simp [go_sem]
                    refine vmsetK_use keyedInt hki ?_
                    simp [go_sem]
                    obtain ⟨s1, s2⟩ := step h4
                    exact ⟨i + 1, _, ⟨by omega, s1, s2⟩, by omega, rfl, ⟨cl, wrap_succ (by omega)⟩, cl⟩
                | some v =>
                  obtain ⟨j, hj, e⟩ := hp.2.1.2 _ v hm
                  simp only [Value.int.injEq, true_and] at e
                  have hv : v = .int .i64 (sortN (opAt l j)) := by
                    have := hp.2.1.1 j hj
                    rw [← e, hm] at this
                    exact Option.some.inj this
                  subst hv
                  simp [go_sem]
                  refine vcall_pure (c_sortOf (opAt l i)) ?_ ?_
                  · simp [go_sem, POp.cells]
                  · simp [go_sem]
                    refine ⟨fun hne => ?_, fun heq => ?_⟩
                    · have hc4 : tblClash l 4 = true := by
                        refine (tblClash_iff l _).2 ⟨i, h, j, hj, ?_⟩
                        simp only [clash, show ((4 : Int) = 3) = False by decide, if_false, Bool.and_eq_true, decide_eq_true_eq]
                        exact ⟨e, fun e2 => hne e2.symm⟩
                      simp only [tblOk, hok, hc3, hc4, if_neg hmax]
                      rfl
                    · have h4 : ∀ j, j < i → clash (opAt l i) (opAt l j) 4 = false := by
                        intro j' hj'
                        simp only [clash, show ((4 : Int) = 3) = False by decide, if_false, Bool.and_eq_false_iff, decide_eq_false_iff_not]
                        by_cases e2 : (opAt l i).level = (opAt l j').level
                        · refine .inr fun h5 => h5 ?_
                          have := hp.2.1.1 j' hj'
                          rw [← e2, hm] at this
                          simp only [Option.some.injEq, Value.int.injEq, true_and] at this
                          rw [← heq, this]
                        · exact .inl e2
                      refine vc_drawn [5] (.q 0 <| .q 1 <| .q 2 <| .q 3 <| .or 4 (.or 5 (.done) (.nil)) (.nil)) (by kernel_rfl) ?_
                      simp [go_sem]
                      refine vcallV_pure (c_sortOf (opAt l i)) ?_ ?_
                      · simp [go_sem, POp.cells]
                      · simp [go_sem]
                        refine vmsetK_use keyedInt hki ?_
                        simp [go_sem]
                        obtain ⟨s1, s2⟩ := step h4
                        exact ⟨i + 1, _, ⟨by omega, s1, s2⟩, by omega, rfl, ⟨cl, wrap_succ (by omega)⟩, cl⟩
              · have hc4 : tblClash l 4 = false := by
                  rw [Bool.eq_false_iff]
                  intro e
                  obtain ⟨i', h4, j', h5, h6⟩ := (tblClash_iff l _).1 e
                  rw [hp.2.2 i' (by omega) j' h5] at h6
                  cases h6
                simp only [tblOk, hok, hc3, hc4, if_neg hmax]
                rfl
end Go.Proofs.Ytcnmgfbafcnkhaa.V
/- Contracts: the law of TableOk; tables as arguments. -/
namespace Go.Proofs.Ytcnmgfbafcnkhaa.V
open Go.RowKit
set_option linter.unusedVariables false
set_option linter.unusedSimpArgs false
set_option linter.constructorNameAsVariable false
def AVIn (a b : AV) : Prop := ∀ (w : World) (ok : Nat → Prop) (hd : Nat → Value) (m : Nat) (v : Value), Rep w ok hd m a v → Rep w ok hd m b v
theorem AVIn.refl (a : AV) : AVIn a a := fun _ _ _ _ _ h => h
theorem avIn_sl {sz n : Nat} {f g : Nat → List AV} (h : ∀ i, i < n → f i = g i) : AVIn (.sl sz n f) (.sl sz n g) := by
  intro w ok hd m v hr
  cases hr with
  | sl _ _ _ A c u hc hm hsz hl ha hr => exact .sl sz n g A c u hc hm hsz (fun i hi => by rw [← h i hi]; exact hl i hi) ha fun i j a hi hj => hr i j a hi (by rw [h i hi]; exact hj)
theorem avIn_agg {a b : AV} (h : AVIn a b) : AVIn (.agg [a]) (.agg [b]) := by
  intro w ok hd m v hr
  cases hr with
  | agg _ vs hl hr => refine .agg _ vs (by simpa using hl) fun j x u hx hu => ?_
                      cases j with
                      | zero => simp at hx; subst hx; exact h _ _ _ _ _ (hr 0 a u rfl hu)
                      | succ j => simp at hx
def ArgsIn : List AV → List AV → Prop
  | [], [] => True
  | a :: r, b :: r' => AVIn a b ∧ ArgsIn r r'
  | _, _ => False
theorem argsIn_get : ∀ {l l' : List AV}, ArgsIn l l' → l.length = l'.length ∧ ∀ (j : Nat) a b, l[j]? = some a → l'[j]? = some b → AVIn a b
  | [], [], _ => ⟨rfl, fun j a b h => by simp at h⟩
  | a :: r, b :: r', h => by
    obtain ⟨h1, h2⟩ := argsIn_get h.2
    refine ⟨by simp [h1], fun j x y hx hy => ?_⟩
    cases j with
    | zero =>
      simp only [List.getElem?_cons_zero, Option.some.injEq] at hx hy
      subst hx; subst hy; exact h.1
    | succ j => exact h2 j x y (by simpa using hx) (by simpa using hy)
  | [], _ :: _, h => h.elim
  | _ :: _, [], h => h.elim
theorem VFun.congr {P : Program} {f : FuncId} {args args' : List AV} {R : AV → List Ob → Prop} (h : VFun P f args' R) (ha : ArgsIn args args') : VFun P f args R := by
  obtain ⟨h1, h2⟩ := argsIn_get ha
  refine ⟨h.1, fun w vs hl hv => h.2 w vs (by omega) fun j b u hb hu => ?_⟩
  have hj : j < args.length := by have := (List.getElem?_eq_some_iff.1 hb).1; omega
  exact h2 j _ b (List.getElem?_eq_getElem hj) hb _ _ _ _ _ (hv j _ u (List.getElem?_eq_getElem hj) hu)
/-- rows that read as operators are a list of operators -/
theorem rows_of {α : Type} [Inhabited α] (cells : α → List AV) (p : α → Prop) {m : Nat} {f : Nat → List AV} (h : ∀ i, i < m → ∃ o, p o ∧ f i = cells o) : ∃ l : List α, l.length = m ∧ (∀ i, i < m → p (l.getD i default)) ∧ ∀ i, i < m → f i = cells (l.getD i default) := by
  induction m with
  | zero => exact ⟨[], rfl, fun i hi => by omega, fun i hi => by omega⟩
  | succ m ih =>
    obtain ⟨l, h1, h2, h3⟩ := ih fun i hi => h i (by omega)
    obtain ⟨o, h4, h5⟩ := h m (by omega)
    have low : ∀ i, i < m → (l ++ [o]).getD i default = l.getD i default := fun i hi => by
      rw [List.getD_eq_getElem?_getD, List.getD_eq_getElem?_getD, List.getElem?_append_left (by omega)]
    have hi : (l ++ [o]).getD m default = o := by
      rw [List.getD_eq_getElem?_getD, List.getElem?_append_right (by omega)]; simp [h1]
    refine ⟨l ++ [o], by simp [h1], fun i hi' => ?_, fun i hi' => ?_⟩
    · rcases Nat.lt_succ_iff_lt_or_eq.mp hi' with hlt | rfl
      · rw [low i hlt]; exact h2 i hlt
      · rw [hi]; exact h4
    · rcases Nat.lt_succ_iff_lt_or_eq.mp hi' with hlt | rfl
      · rw [low i hlt]; exact h3 i hlt
      · rw [hi]; exact h5
set_option maxRecDepth 100000 in
theorem shape_table (n : Nat) (xs : List AV) (h : Shape Try.prog (n + 4) 38 xs) : ∃ l : List POp, l.length ≤ maxLen ∧ opsWf l ∧ ∃ f, xs = [.sl 4 l.length f] ∧ ∀ i, i < l.length → f i = opCells l i := by
  obtain ⟨parts, h0, rfl⟩ := shape_struct Try.underlying38 h
  clear h
  simp only [List.toList_toArray, all2_cons, all2_nil] at h0
  obtain ⟨_, _, rfl, ⟨_, h1⟩, rfl⟩ := h0
  obtain ⟨m, f, rfl, hm, hf⟩ := shape_slice Try.underlying36 h1
  have hc : Try.prog.cellsOf 121 = 4 := by kernel_rfl
  obtain ⟨l, rfl, h2, h3⟩ := rows_of POp.cells POp.wf fun i hi => shape_op n (f i) (hf i hi).2
  exact ⟨l, hm, h2, f, by rw [hc]; rfl, h3⟩
theorem opEq_refl (a : POp) : opEq a a = true := by simp [opEq, ba_beq]
theorem opsEq_refl (a : List POp) : opsEq a a = true := opsEq_true rfl fun i _ => opEq_refl _
end Go.Proofs.Ytcnmgfbafcnkhaa.V
/- Contracts: marks. -/
namespace Go.Proofs.Ytcnmgfbafcnkhaa.V
open Go.RowKit
set_option linter.unusedVariables false
set_option linter.unusedSimpArgs false
set_option linter.constructorNameAsVariable false
/-- a digit's text -/
def digB (d : Nat) : ByteArray := ⟨#[(48 + d).toUInt8]⟩
theorem digB_cells (d : Nat) (h : d < 10) : [.lit (.int .u8 (48 + d))] = byteCells (digB d) 0 := by
  have e : byteAt (digB d) 0 = 48 + d := by
    have h1 : 0 < (digB d).size := by show 0 < 1; omega
    unfold byteAt
    rw [dif_pos h1]
    have : ((digB d)[0]'h1) = (48 + d).toUInt8 := rfl
    rw [this]
    simp [Nat.toUInt8]
    omega
  simp only [byteCells, e]
/-- the digits of a number ahead of a text -/
def digs (k : Nat) (acc : ByteArray) : ByteArray := if h : k = 0 then acc else digs (k / 10) (digB (k % 10) ++ acc)
termination_by k
decreasing_by omega
theorem digs_zero (acc : ByteArray) : digs 0 acc = acc := by rw [digs]; simp
theorem digs_pos {k : Nat} (h : 0 < k) (acc : ByteArray) : digs k acc = digs (k / 10) (digB (k % 10) ++ acc) := by
  conv => lhs; rw [digs]
  rw [dif_neg (by omega)]
def mtext (k : Nat) : ByteArray := ⟨#[109]⟩ ++ digs k ⟨#[]⟩
theorem u8_small {n : Int} (h : 0 ≤ n ∧ n < 256) : IntKind.u8.wrap n = n := by
  simp only [IntKind.wrap, IntKind.bits, IntKind.signed]
  simp
  omega
theorem c_markText (k : Nat) (h : 0 < k ∧ k ≤ 9223372036854775000) : VFun Try.prog 81 [.lit (.int .i64 k)] (fun av obs => obs = [] ∧ av = .lit (.string (mtext k))) := by
  refine vfun_start Try.func81 (by kernel_rfl) rfl (by simp [Try.ntmps81]) ?_; simp only [Try.ntmps81, Try.results81]; simp [go_sem]
  refine ⟨by omega, fun _ => ?_⟩
  refine vc_loop (fun p : Nat × ByteArray => digs p.1 p.2 = digs k ⟨#[]⟩ ∧ p.2.size + p.1 ≤ k) (fun p => p.1) (fun p => .of [(0, .lit (.int .i64 p.1)), (3, .lit (.string p.2))] []) ⟨(k, ⟨#[]⟩), ⟨rfl, by show 0 + k ≤ k; omega⟩, ?_⟩ (fun p hp => ?_)
  · simp [go_sem]
  · obtain ⟨q, out⟩ := p
    simp only at hp
    simp [go_sem]
    refine ⟨fun h1 => ?_, fun h1 w => ?_⟩
    · refine ⟨digB (q % 10), rfl, ?_, ?_⟩
      · have e : (q : Int).tmod 10 = ((q % 10 : Nat) : Int) := by rw [Int.tmod_eq_emod_of_nonneg (by omega)]; omega
        rw [e, wrap_i64 (by omega), u8_small (by omega)]
        exact digB_cells (q % 10) (by omega)
      · refine ⟨_, fun w => if_neg ?_, q / 10, _, ⟨?_, ?_⟩, by omega, ?_, rfl⟩
        · have : (digB (q % 10)).size = 1 := rfl
          omega
        · rw [← digs_pos h1]; exact hp.1
        · have : (digB (q % 10)).size = 1 := rfl
          rw [ByteArray.size_append]
          omega
        · rw [wrap_i64 (by omega)]; omega
    · subst h1
      rw [if_neg (by omega)]
      have h2 := hp.1
      rw [digs_zero] at h2
      rw [h2]; rfl
end Go.Proofs.Ytcnmgfbafcnkhaa.V
/- Contracts: marks written into tables, and read again. -/
namespace Go.Proofs.Ytcnmgfbafcnkhaa.V
open Go.RowKit
set_option linter.unusedVariables false
set_option linter.unusedSimpArgs false
set_option linter.constructorNameAsVariable false
theorem map_lits {g : Nat → Nat} : ∀ {l : List AV}, l.all isLit = true → l.map (ren1 g) = l
  | [], _ => rfl
  | a :: r, h => by
    simp only [List.all_cons, Bool.and_eq_true] at h
    simp only [List.map_cons, map_lits h.2]
    cases a <;> simp [isLit] at h
    rfl
theorem flat_lits : ∀ {l : List AV}, l.all isLit = true → l.all flat1 = true
  | [], _ => rfl
  | a :: r, h => by
    simp only [List.all_cons, Bool.and_eq_true] at h ⊢
    refine ⟨?_, flat_lits h.2⟩
    cases a <;> simp [isLit] at h
    rfl
theorem outAt_lits {idx : Nat → Nat} {ks : List Nat} {ty sz n : Nat} {f f' : Nat → List AV} (h : ∀ i, i < n → f i = f' i) (hl : ∀ i, i < n → (f' i).all isLit = true) : OutAt idx ks ⟨ty, sz, n, f'⟩ (some (some ⟨ty, sz, n, f⟩)) := by
  refine ⟨rfl, rfl, rfl, fun i hi => ⟨?_, flatC_all (flat_lits (hl i hi)), fun c hc q hq => ?_⟩⟩
  · simp only
    rw [h i hi]; exact map_lits (hl i hi)
  · simp only at hc
    rw [h i hi] at hc
    have := List.all_eq_true.1 (hl i hi) c hc
    cases c <;> simp [isLit] at this
    simp [owns1] at hq
theorem renOb_lits {g : Nat → Nat} {ty sz n : Nat} {f : Nat → List AV} (h : ∀ i, (f i).all isLit = true) : renOb g ⟨ty, sz, n, f⟩ = ⟨ty, sz, n, f⟩ := by
  simp only [renOb]
  congr 1
  funext i
  exact map_lits (h i)
def markRow (k i : Nat) : POp := ⟨mtext (k + 4 * i), (k + 4 * i + 1 : Nat), (k + 4 * i + 2 : Nat), (k + 4 * i + 3 : Nat)⟩
def markCells (k i : Nat) : List AV := (markRow k i).cells
def markFill (l : List POp) (k i j : Nat) : List AV := if j < i then markCells k j else opCells l j
theorem markFill_bd (l : List POp) (k i j m : Nat) : ∀ c, c ∈ markFill l k i j → Bd m c := by
  intro c h
  unfold markFill at h
  split at h
  · simp [markCells, POp.cells] at h
    rcases h with rfl | rfl | rfl | rfl <;> exact .closed _ (.lit _)
  · exact .closed _ (opClosed l j c h)
theorem c_markOpS (l : List POp) (k : Nat) (hl : l.length ≤ 1048576) (hk : 0 < k ∧ k ≤ 1000000000) : VProc Try.prog 48 [.own 0, .lit (.int .i64 k)] [some ⟨75, 4, l.length, opCells l⟩] [] (fun av mem maps => av = .lit (.int .i64 (k + 4 * l.length : Nat)) ∧ mem = [some ⟨75, 4, l.length, markCells k⟩] ∧ maps = []) := by
  refine vproc_start Try.func48 (by kernel_rfl) rfl (by simp [Try.ntmps48]) ?_; simp only [Try.ntmps48, Try.results48]; simp [go_sem]
  refine vc_loop (fun i : Nat => i ≤ l.length) (fun i => l.length - i) (fun i => ⟨[(0, .own 0), (1, .lit (.int .i64 (k + 4 * i : Nat))), (5, .lit (.int .i64 i))], [some ⟨75, 4, l.length, markFill l k i⟩], [], 1⟩) ⟨0, by omega, ?_⟩ (fun i hi => ?_)
  · simp [go_sem, markFill]
    exact fun i h c hc => .closed _ (opClosed l i c hc)
  · simp [go_sem]
    refine ⟨by omega, fun h => vcall_pure (c_markText (k + 4 * i) (by omega)) ?_ ?_, fun h => ?_⟩
    · simp [go_sem]
    · simp [go_sem]
      simp only [wrap_i64 (n := (k : Int) + 4 * i + 1) (by omega), wrap_i64 (n := (k : Int) + 4 * i + 1 + 1) (by omega), wrap_i64 (n := (k : Int) + 4 * i + 1 + 1 + 1) (by omega), wrap_i64 (n := (k : Int) + 4 * i + 1 + 1 + 1 + 1) (by omega)]
      refine ⟨h, i + 1, by omega, by omega, ⟨by omega, wrap_succ (by omega)⟩, fun j hj => ⟨?_, markFill_bd _ _ _ _ _⟩⟩
      simp only [updF_at h hj, updF_at h h, if_true]
      by_cases hji : j = i
      · subst hji
        simp only [if_true, markFill, Nat.lt_irrefl, if_false, Nat.lt_succ_self]
        simp [opCells_at, splice, markCells, markRow, POp.cells, Nat.add_assoc]
        omega
      · simp only [if_neg hji, markFill]
        by_cases h2 : j < i
        · rw [if_pos h2, if_pos (by omega)]
        · rw [if_neg h2, if_neg (by omega)]
    · have : i = l.length := by omega
      subst this
      refine ⟨rfl, [], [some ⟨75, 4, l.length, markCells k⟩], by simp, by simp, by simp [go_sem], ?_, by simp [go_sem], ?_⟩
      · simp [go_sem]
        exact outAt_lits (fun i hi => by simp only [markFill, if_pos hi]) (fun i _ => rfl)
      · simp [go_sem]
@[go_sem] theorem markCells_ren {g : Nat → Nat} {k i : Nat} : (markCells k i).map (ren1 g) = markCells k i := map_lits rfl
@[go_sem] theorem opCells_ren {g : Nat → Nat} {l : List POp} {i : Nat} : (opCells l i).map (ren1 g) = opCells l i := map_lits rfl
theorem cellsRn_lits {f : Nat → Nat} {m : Nat} : ∀ {l : List AV}, l.all isLit = true → CellsRn f m l l
  | [], _ => trivial
  | a :: r, h => by
    simp only [List.all_cons, Bool.and_eq_true] at h
    exact ⟨.closed _ (.of_lit h.1), cellsRn_lits h.2⟩
theorem c_markTable (l : List POp) (k : Nat) (hl : l.length ≤ 1048576) (hk : 0 < k ∧ k ≤ 1000000000) : VProc Try.prog 17 [.agg [.own 0], .lit (.int .i64 k)] [some ⟨75, 4, l.length, opCells l⟩] [] (fun av mem maps => av = .lit (.int .i64 (k + 4 * l.length : Nat)) ∧ mem = [some ⟨75, 4, l.length, markCells k⟩] ∧ maps = []) := by
  refine vproc_start Try.func17 (by kernel_rfl) rfl (by simp [Try.ntmps17]) ?_; simp only [Try.ntmps17, Try.results17]; simp [go_sem]
  refine vcall_share [0] (c_markOpS l k hl hk) (by simp) ?_ ?_ trivial ?_
  · simp [go_sem]
  · simp [go_sem]
    exact fun i _ => cellsRn_lits rfl
  · rintro av mem maps ⟨rfl, rfl, rfl⟩
    simp [go_sem]
    refine ⟨rfl, [], [some ⟨75, 4, l.length, markCells k⟩], by simp, by simp, by simp [go_sem], ?_, by simp [go_sem], ?_⟩
    · simp [go_sem]
      exact outAt_lits (fun i _ => rfl) (fun i _ => rfl)
    · simp [go_sem]
end Go.Proofs.Ytcnmgfbafcnkhaa.V
/- Contracts: marks read again. -/
namespace Go.Proofs.Ytcnmgfbafcnkhaa.V
open Go.RowKit
set_option linter.unusedVariables false
set_option linter.unusedSimpArgs false
set_option linter.constructorNameAsVariable false
theorem markClosed (k i : Nat) (c : AV) (h : c ∈ markCells k i) : Closed c := by
  simp [markCells, POp.cells] at h
  rcases h with rfl | rfl | rfl | rfl <;> exact .lit _
theorem markCells_at (k i : Nat) : markCells k i = [.lit (.string (mtext (k + 4 * i))), .lit (.int .i64 (k + 4 * i + 1 : Nat)), .lit (.int .i64 (k + 4 * i + 2 : Nat)), .lit (.int .i64 (k + 4 * i + 3 : Nat))] := rfl
end Go.Proofs.Ytcnmgfbafcnkhaa.V
/- Contracts: tokens compared, marked, read again. -/
namespace Go.Proofs.Ytcnmgfbafcnkhaa.V
open Go.RowKit
set_option linter.unusedVariables false
set_option linter.unusedSimpArgs false
set_option linter.constructorNameAsVariable false
def tokAt (l : List PTok) (i : Nat) : PTok := l.getD i default
theorem tokCells_at (l : List PTok) (i : Nat) : tokCells l i = [.lit (.int .i64 (tokAt l i).kind), .lit (.string (tokAt l i).gap), .lit (.string (tokAt l i).text)] := rfl
def tokEq (a b : PTok) : Bool := a.kind == b.kind && a.gap == b.gap && a.text == b.text
def toksEq (a b : List PTok) : Bool := decide (a.length = b.length) && (List.range a.length).all fun i => tokEq (tokAt a i) (tokAt b i)
theorem toksEq_false {a b : List PTok} {i : Nat} (h : i < a.length) (e : tokEq (tokAt a i) (tokAt b i) = false) : toksEq a b = false := by
  simp only [toksEq, Bool.and_eq_false_iff, List.all_eq_false, List.mem_range]
  exact .inr ⟨i, h, by rw [e]; simp⟩
theorem toksEq_true {a b : List PTok} (hl : a.length = b.length) (h : ∀ i, i < a.length → tokEq (tokAt a i) (tokAt b i) = true) : toksEq a b = true := by
  simp only [toksEq, Bool.and_eq_true, decide_eq_true_eq, List.all_eq_true, List.mem_range]
  exact ⟨hl, h⟩
theorem toksEq_refl (a : List PTok) : toksEq a a = true := toksEq_true rfl fun i _ => by simp [tokEq, ba_beq]
/-! marks -/
def markTok (k i : Nat) : PTok := ⟨(k + 3 * i : Nat), mtext (k + 3 * i + 1), mtext (k + 3 * i + 2)⟩
def markTCells (k i : Nat) : List AV := (markTok k i).cells
def markTFill (l : List PTok) (k i j : Nat) : List AV := if j < i then markTCells k j else tokCells l j
theorem markTFill_bd (l : List PTok) (k i j m : Nat) : ∀ c, c ∈ markTFill l k i j → Bd m c := by
  intro c h
  unfold markTFill at h
  split at h
  · simp [markTCells, PTok.cells] at h
    rcases h with rfl | rfl | rfl <;> exact .closed _ (.lit _)
  · exact .closed _ (tokClosed l j c h)
@[go_sem] theorem markTCells_ren {g : Nat → Nat} {k i : Nat} : (markTCells k i).map (ren1 g) = markTCells k i := map_lits rfl
@[go_sem] theorem tokCells_ren {g : Nat → Nat} {l : List PTok} {i : Nat} : (tokCells l i).map (ren1 g) = tokCells l i := map_lits rfl
theorem markTClosed (k i : Nat) (c : AV) (h : c ∈ markTCells k i) : Closed c := by
  simp [markTCells, PTok.cells] at h
  rcases h with rfl | rfl | rfl <;> exact .lit _
theorem markTCells_at (k i : Nat) : markTCells k i = [.lit (.int .i64 (k + 3 * i : Nat)), .lit (.string (mtext (k + 3 * i + 1))), .lit (.string (mtext (k + 3 * i + 2)))] := rfl
end Go.Proofs.Ytcnmgfbafcnkhaa.V
/- Contracts: kinds of bytes, numbers, names. -/
namespace Go.Proofs.Ytcnmgfbafcnkhaa.V
open Go.RowKit
set_option linter.unusedVariables false
set_option linter.unusedSimpArgs false
set_option linter.constructorNameAsVariable false
def isDg (c : Int) : Bool := decide (48 ≤ c) && decide (c ≤ 57)
def isLt (c : Int) : Bool := decide ((97 ≤ c ∧ c ≤ 122) ∨ (65 ≤ c ∧ c ≤ 90) ∨ c = 95)
def isBl (c : Int) : Bool := decide (c = 32 ∨ c = 9 ∨ c = 10)
theorem c_l2Digit (c : Int) : VFun Try.prog 86 [.lit (.int .u8 c)] (fun av obs => obs = [] ∧ av = .lit (.bool (isDg c))) := by
  refine vfun_start Try.func86 (by kernel_rfl) rfl (by simp [Try.ntmps86]) ?_; simp only [Try.ntmps86, Try.results86]; simp [go_sem]
  by_cases h1 : 48 ≤ c <;> by_cases h2 : c ≤ 57 <;> simp [isDg, h1, h2] <;> omega
theorem c_isDigit (c : Int) : VFun Try.prog 62 [.lit (.int .u8 c)] (fun av obs => obs = [] ∧ av = .lit (.bool (isDg c))) := by
  refine vfun_start Try.func62 (by kernel_rfl) rfl (by simp [Try.ntmps62]) ?_; simp only [Try.ntmps62, Try.results62]; simp [go_sem]
  by_cases h1 : 48 ≤ c <;> by_cases h2 : c ≤ 57 <;> simp [isDg, h1, h2] <;> omega
theorem c_l2Letter (c : Int) : VFun Try.prog 85 [.lit (.int .u8 c)] (fun av obs => obs = [] ∧ av = .lit (.bool (isLt c))) := by
  refine vfun_start Try.func85 (by kernel_rfl) rfl (by simp [Try.ntmps85]) ?_; simp only [Try.ntmps85, Try.results85]; simp [go_sem]
  simp only [isLt, int_beq, decide_eq_decide, decide_eq_true_eq]
  omega
theorem c_isLetter (c : Int) : VFun Try.prog 63 [.lit (.int .u8 c)] (fun av obs => obs = [] ∧ av = .lit (.bool (isLt c))) := by
  refine vfun_start Try.func63 (by kernel_rfl) rfl (by simp [Try.ntmps63]) ?_; simp only [Try.ntmps63, Try.results63]; simp [go_sem]
  simp only [isLt, int_beq, decide_eq_decide, decide_eq_true_eq]
  omega
theorem c_l2Blank (c : Int) : VFun Try.prog 28 [.lit (.int .u8 c)] (fun av obs => obs = [] ∧ av = .lit (.bool (isBl c))) := by
  refine vfun_start Try.func28 (by kernel_rfl) rfl (by simp [Try.ntmps28]) ?_; simp only [Try.ntmps28, Try.results28]; simp [go_sem]
  simp only [isBl, int_beq, decide_eq_decide, decide_eq_true_eq]
  omega
/-! texts that are numbers, names -/
def numZ (z : ByteArray) : Bool := ((List.range z.size).all fun i => isDg (byteAt z i)) && decide (0 < z.size)
def namAt (z : ByteArray) (i : Nat) : Bool := isLt (byteAt z i) || (decide (i ≠ 0) && isDg (byteAt z i))
def namZ (z : ByteArray) : Bool := ((List.range z.size).all fun i => namAt z i) && decide (0 < z.size)
theorem all_false {p : Nat → Bool} {n i : Nat} (h : i < n) (e : p i = false) : (List.range n).all p = false := by
  simp only [List.all_eq_false, List.mem_range]
  exact ⟨i, h, by rw [e]; simp⟩
theorem all_true {p : Nat → Bool} {n : Nat} (h : ∀ i, i < n → p i = true) : (List.range n).all p = true := by
  simp only [List.all_eq_true, List.mem_range]
  exact h
theorem c_l2IsNumber (z : ByteArray) (hz : z.size ≤ 9223372036854775807) : VFun Try.prog 56 [.lit (.string z)] (fun av obs => obs = [] ∧ av = .lit (.bool (numZ z))) := by
  refine vfun_start Try.func56 (by kernel_rfl) rfl (by simp [Try.ntmps56]) ?_; simp only [Try.ntmps56, Try.results56]; simp [go_sem]
  refine vc_loop (fun i : Nat => i ≤ z.size ∧ ∀ j, j < i → isDg (byteAt z j) = true) (fun i => z.size - i) (fun i => .of [(0, .lit (.string z)), (3, .lit (.int .i64 i))] []) ⟨0, ⟨by omega, by simp⟩, ?_⟩ (fun i hi => ?_)
  · simp [go_sem]
  · simp [go_sem]
    refine ⟨fun h => ⟨h, vcall_pure (c_l2Digit (byteAt z i)) ?_ ?_⟩, fun h => ?_⟩
    · simp [go_sem]
    · simp [go_sem]
      refine ⟨fun e => ?_, fun e => ⟨i + 1, ⟨by omega, fun j hj => ?_⟩, by omega, wrap_succ (by omega)⟩⟩
      · simp only [numZ, all_false (p := fun i => isDg (byteAt z i)) h e, Bool.false_and]
      · rcases Nat.lt_succ_iff_lt_or_eq.mp hj with hj | rfl
        · exact hi.2 j hj
        · exact e
    · simp only [numZ, all_true (p := fun i => isDg (byteAt z i)) (n := z.size) fun j hj => hi.2 j (by omega), Bool.true_and]
theorem c_l2IsName (z : ByteArray) (hz : z.size ≤ 9223372036854775807) : VFun Try.prog 57 [.lit (.string z)] (fun av obs => obs = [] ∧ av = .lit (.bool (namZ z))) := by
  refine vfun_start Try.func57 (by kernel_rfl) rfl (by simp [Try.ntmps57]) ?_; simp only [Try.ntmps57, Try.results57]; simp [go_sem]
  refine vc_loop (fun i : Nat => i ≤ z.size ∧ ∀ j, j < i → namAt z j = true) (fun i => z.size - i) (fun i => .of [(0, .lit (.string z)), (3, .lit (.int .i64 i))] []) ⟨0, ⟨by omega, by simp⟩, ?_⟩ (fun i hi => ?_)
  · simp [go_sem]
  · simp [go_sem]
    refine ⟨fun h => ⟨h, vcall_pure (c_l2Letter (byteAt z i)) ?_ ?_⟩, fun h => ?_⟩
    · simp [go_sem]
    · have step : namAt z i = true → ∃ j : Nat, (j ≤ z.size ∧ ∀ q, q < j → namAt z q = true) ∧ z.size - j < z.size - i ∧ IntKind.i64.wrap ((i : Int) + 1) = j := fun e => ⟨i + 1, ⟨by omega, fun j hj => by
        rcases Nat.lt_succ_iff_lt_or_eq.mp hj with hj | rfl
        · exact hi.2 j hj
        · exact e⟩, by omega, wrap_succ (by omega)⟩
      have bad : namAt z i = false → namZ z = false := fun e => by simp only [namZ, all_false (p := fun i => namAt z i) h e, Bool.false_and]
      simp [go_sem]
      refine ⟨fun e1 => ⟨fun h0 => ⟨h, vcall_pure (c_l2Digit (byteAt z i)) ?_ ?_⟩, fun h0 => bad (by subst h0; simp [namAt, e1])⟩, fun e1 => step (by simp [namAt, e1])⟩
      · simp [go_sem]
      · simp [go_sem]
        exact ⟨fun e2 => bad (by simp [namAt, e1, e2]), fun e2 => step (by simp [namAt, e1, e2, h0])⟩
    · simp only [namZ, all_true (p := fun i => namAt z i) (n := z.size) fun j hj => hi.2 j (by omega), Bool.true_and]
/-! operators by their texts -/
def opHas (l : List POp) (z : ByteArray) (kd : Int) : Bool := (List.range l.length).any fun i => decide ((opAt l i).text = z) && decide ((opAt l i).kind = kd)
theorem c_l2Find (l : List POp) (hl : l.length ≤ 9223372036854775807) (z : ByteArray) (kd : Int) : VFun Try.prog 64 [.agg [.sl 4 l.length (opCells l)], .lit (.string z), .lit (.int .i64 kd)] (fun av obs => obs = [] ∧ ∃ r : Int, av = .lit (.int .i64 r) ∧ (0 ≤ r ↔ opHas l z kd = true)) := by
  have cl : ∀ (i : Nat) (c : AV), i < l.length → c ∈ opCells l i → Closed c := fun i c _ h => opClosed l i c h
  refine vfun_start Try.func64 (by kernel_rfl) rfl (by simp [Try.ntmps64]) ?_; simp only [Try.ntmps64, Try.results64]; simp [go_sem]
  refine vc_loop (fun i : Nat => i ≤ l.length ∧ ∀ j, j < i → ¬ ((opAt l j).text = z ∧ (opAt l j).kind = kd)) (fun i => l.length - i) (fun i => .of [(1, .lit (.string z)), (2, .lit (.int .i64 kd)), (3, .ptr 0 1 0 0), (7, .lit (.int .i64 i))] [some ⟨25, 1, 1, fun _ => [.sl 4 l.length (opCells l)]⟩]) ⟨0, ⟨by omega, by simp⟩, ?_⟩ (fun i hi => ?_)
  · simp [go_sem]
    exact cl
  · simp [go_sem, opCells_at, ba_toList]
    have step : ¬ ((opAt l i).text = z ∧ (opAt l i).kind = kd) → ∀ j, j < i + 1 → ¬ ((opAt l j).text = z ∧ (opAt l j).kind = kd) := fun e j hj => by
      rcases Nat.lt_succ_iff_lt_or_eq.mp hj with hj | rfl
      · exact hi.2 j hj
      · exact e
    refine ⟨by omega, fun h => ?_, fun h => ?_⟩
    · have cl2 : ∀ (i : Nat) (c : AV), i < l.length → c = AV.lit (Value.string (opAt l i).text) ∨ c = AV.lit (Value.int IntKind.i64 (opAt l i).kind) ∨ c = AV.lit (Value.int IntKind.i64 (opAt l i).level) ∨ c = AV.lit (Value.int IntKind.i64 (opAt l i).side) → Closed c := by
        rintro i c _ (rfl | rfl | rfl | rfl) <;> exact .lit _
      refine ⟨h, fun e1 => ⟨h, fun e2 => ?_, fun e2 => ⟨i + 1, ⟨by omega, fun j hj e3 e4 => step (fun e5 => e2 e5.2) j hj ⟨e3, e4⟩⟩, by omega, wrap_succ (by omega), cl2⟩⟩, fun e1 => ⟨i + 1, ⟨by omega, fun j hj e3 e4 => step (fun e5 => e1 e5.1) j hj ⟨e3, e4⟩⟩, by omega, wrap_succ (by omega), cl2⟩⟩
      simp only [opHas, List.any_eq_true, List.mem_range]
      exact ⟨i, h, by simp [e1, e2]⟩
    · simp only [opHas, List.any_eq_false, List.mem_range]
      exact fun j hj => by
        have := hi.2 j (by omega)
        simp only [Bool.and_eq_true, decide_eq_true_eq]
        exact this
end Go.Proofs.Ytcnmgfbafcnkhaa.V
/- Contracts: the kind of a token, how far one reaches, the longest. -/
namespace Go.Proofs.Ytcnmgfbafcnkhaa.V
open Go.RowKit
set_option linter.unusedVariables false
set_option linter.unusedSimpArgs false
set_option linter.constructorNameAsVariable false
def isOpZ (l : List POp) (z : ByteArray) : Bool := opHas l z 1 || opHas l z 2 || opHas l z 3
theorem c_l2IsOp (l : List POp) (hl : l.length ≤ 9223372036854775807) (z : ByteArray) : VFun Try.prog 58 [.agg [.sl 4 l.length (opCells l)], .lit (.string z)] (fun av obs => obs = [] ∧ av = .lit (.bool (isOpZ l z))) := by
  have cl : ∀ (i : Nat) (c : AV), i < l.length → c ∈ opCells l i → Closed c := fun i c _ h => opClosed l i c h
  have dec : ∀ (r : Int) (b : Bool), (0 ≤ r ↔ b = true) → decide (0 ≤ r) = b := fun r b h => by cases b <;> simp_all
  refine vfun_start Try.func58 (by kernel_rfl) rfl (by simp [Try.ntmps58]) ?_; simp only [Try.ntmps58, Try.results58]; simp [go_sem]
  refine vcall_use (c_l2Find l hl z 1) ?_ ?_
  · simp [go_sem]
    exact argSl_refl (by omega) cl
  · rintro av obs ⟨rfl, r, rfl, hr⟩
    simp [go_sem]
    refine ⟨fun e1 => vcall_use (c_l2Find l hl z 2) ?_ ?_, fun e1 => by simp [isOpZ, hr.1 e1]⟩
    · simp [go_sem]
      exact argSl_refl (by omega) cl
    · have n1 : opHas l z 1 = false := by rw [Bool.eq_false_iff]; exact fun e => by have := hr.2 e; omega
      rintro av obs ⟨rfl, r2, rfl, hr2⟩
      simp [go_sem]
      refine ⟨fun e2 => vcall_use (c_l2Find l hl z 3) ?_ ?_, fun e2 => by simp [isOpZ, hr2.1 e2]⟩
      · simp [go_sem]
        exact argSl_refl (by omega) cl
      · have n2 : opHas l z 2 = false := by rw [Bool.eq_false_iff]; exact fun e => by have := hr2.2 e; omega
        rintro av obs ⟨rfl, r3, rfl, hr3⟩
        simp [go_sem, isOpZ, n1, n2, dec r3 _ hr3]
def kindZ (l : List POp) (z : ByteArray) : Int := if numZ z then 1 else if namZ z then 2 else if z = ⟨#[40]⟩ then 4 else if z = ⟨#[41]⟩ then 5 else if isOpZ l z then 3 else 6
theorem c_l2Kind (l : List POp) (hl : l.length ≤ 9223372036854775807) (z : ByteArray) (hz : z.size ≤ 9223372036854775807) : VFun Try.prog 30 [.agg [.sl 4 l.length (opCells l)], .lit (.string z)] (fun av obs => obs = [] ∧ av = .lit (.int .i64 (kindZ l z))) := by
  have cl : ∀ (i : Nat) (c : AV), i < l.length → c ∈ opCells l i → Closed c := fun i c _ h => opClosed l i c h
  refine vfun_start Try.func30 (by kernel_rfl) rfl (by simp [Try.ntmps30]) ?_; simp only [Try.ntmps30, Try.results30]; simp [go_sem]
  refine vcall_pure (c_l2IsNumber z hz) ?_ ?_
  · simp [go_sem]
  · simp [go_sem]
    refine ⟨fun e1 => by simp [kindZ, e1], fun e1 => vcall_pure (c_l2IsName z hz) ?_ ?_⟩
    · simp [go_sem]
    · simp [go_sem]
      have b1 : z.toList = [40] ↔ z = ⟨#[40]⟩ := by have := ba_toList z ⟨#[40]⟩; simpa using this
      have b2 : z.toList = [41] ↔ z = ⟨#[41]⟩ := by have := ba_toList z ⟨#[41]⟩; simpa using this
      refine ⟨fun e2 => by simp [kindZ, e1, e2], fun e2 => ⟨fun e3 => by rw [b1] at e3; simp only [kindZ, e1, e2, if_pos e3]; rfl, fun e3 => ⟨fun e4 => by rw [b1] at e3; rw [b2] at e4; simp only [kindZ, e1, e2, if_neg e3, if_pos e4]; rfl, fun e4 => vcall_pure (c_l2IsOp l hl z) ?_ ?_⟩⟩⟩
      · simp [go_sem]
        exact argSl_refl (by omega) cl
      · rw [b1] at e3
        rw [b2] at e4
        simp [go_sem]
        simp only [kindZ, e1, e2, if_neg e3, if_neg e4]
        refine ⟨fun e5 => ?_, fun e5 => ?_⟩ <;> rw [e5] <;> rfl
/-! how far a token reaches -/
def alnum (c : Int) : Bool := isLt c || isDg c
def run (p : Int → Bool) (z : ByteArray) (j : Nat) : Nat := if h : j < z.size then if p (byteAt z j) then 1 + run p z (j + 1) else 0 else 0
termination_by z.size - j
theorem run_end {p : Int → Bool} {z : ByteArray} {j : Nat} (h : z.size ≤ j) : run p z j = 0 := by rw [run, dif_neg (by omega)]
theorem run_yes {p : Int → Bool} {z : ByteArray} {j : Nat} (h : j < z.size) (e : p (byteAt z j) = true) : run p z j = 1 + run p z (j + 1) := by
  conv => lhs; rw [run]
  rw [dif_pos h, if_pos e]
theorem run_no {p : Int → Bool} {z : ByteArray} {j : Nat} (h : j < z.size) (e : p (byteAt z j) = false) : run p z j = 0 := by rw [run, dif_pos h, if_neg (by rw [e]; simp)]
theorem run_le (p : Int → Bool) (z : ByteArray) (j : Nat) (h : j ≤ z.size) : j + run p z j ≤ z.size := by
  rcases Nat.lt_or_ge j z.size with h1 | h1
  · cases e : p (byteAt z j)
    · rw [run_no h1 e]; omega
    · have := run_le p z (j + 1) (by omega)
      rw [run_yes h1 e]; omega
  · rw [run_end h1]; omega
termination_by z.size - j
def reachZ (z : ByteArray) (i : Nat) : Nat := if isSg (byteAt z i) then (if z.size - i < 16 then z.size - i else 16) else if alnum (byteAt z i) then 1 + run alnum z (i + 1) else 1
theorem c_l2Reach (z : ByteArray) (hz : z.size ≤ 1048576) (i : Nat) (hi : i < z.size) : VFun Try.prog 55 [.lit (.string z), .lit (.int .i64 i)] (fun av obs => obs = [] ∧ av = .lit (.int .i64 (reachZ z i))) := by
  refine vfun_start Try.func55 (by kernel_rfl) rfl (by simp [Try.ntmps55]) ?_; simp only [Try.ntmps55, Try.results55]; simp [go_sem]
  refine ⟨hi, vcall_pure (c_l1IsSign (byteAt z i)) ?_ ?_⟩
  · simp [go_sem]
  · simp [go_sem]
    rw [wrap_i64 (by omega)]
    refine ⟨fun e0 => ⟨fun h => ?_, fun h => ?_⟩, fun e0 => ?_⟩
    · simp only [reachZ, e0, if_true]
      rw [if_pos (by omega)]; omega
    · simp only [reachZ, e0, if_true]
      rw [if_neg (by omega)]; rfl
    · refine vc_loop (fun n : Nat => 1 ≤ n ∧ i + n ≤ z.size ∧ reachZ z i = if alnum (byteAt z i) then n + run alnum z (i + n) else n) (fun n => z.size - n) (fun n => .of [(0, .lit (.string z)), (1, .lit (.int .i64 i)), (5, .lit (.int .i64 n))] []) ⟨1, ⟨by omega, by omega, ?_⟩, ?_⟩ (fun n hn => ?_)
      · simp only [reachZ, e0]
        simp
      · simp [go_sem]
      · obtain ⟨h1, h2, h3⟩ := hn
        simp [go_sem]
        rw [wrap_i64 (n := (i : Int) + n) (by omega)]
        have ex : z.size ≤ i + n → (n : Int) = reachZ z i := fun h => by
          rw [h3, run_end h]; simp
        refine ⟨fun h => ⟨hi, vcall_pure (c_l2Letter (byteAt z i)) ?_ ?_⟩, fun h => ex (by omega)⟩
        · simp [go_sem]
        · have hlt : ((i : Int) + n < z.size) = True := by simp; omega
          cases eL : isLt (byteAt z i) with
          | true =>
            have al : alnum (byteAt z i) = true := by simp [alnum, eL]
            rw [al, if_pos rfl] at h3
            have stop : alnum (byteAt z (i + n)) = false → (n : Int) = reachZ z i := fun e => by rw [h3, run_no (by omega) e]; simp
            have go_ : alnum (byteAt z (i + n)) = true → 1 ≤ n + 1 ∧ i + (n + 1) ≤ z.size ∧ reachZ z i = if alnum (byteAt z i) then n + 1 + run alnum z (i + (n + 1)) else n + 1 := fun e => ⟨by omega, by omega, by rw [al, if_pos rfl, h3, run_yes (by omega) e, show i + (n + 1) = i + n + 1 by omega]; omega⟩
            simp [go_sem]
            simp only [wrap_i64 (n := (i : Int) + n) (by omega), show ((i : Int) + n).toNat = i + n by omega]
            refine ⟨by omega, by omega, vcall_pure (c_l2Letter (byteAt z (i + n))) ?_ ?_⟩
            · simp [go_sem]
            · have done_ : alnum (byteAt z (i + n)) = true → ∃ j : Nat, (1 ≤ j ∧ i + j ≤ z.size ∧ reachZ z i = if alnum (byteAt z i) = true then j + run alnum z (i + j) else j) ∧ z.size - j < z.size - n ∧ IntKind.i64.wrap ((n : Int) + 1) = j := fun e => ⟨n + 1, go_ e, by omega, wrap_succ (by omega)⟩
              cases fL : isLt (byteAt z (i + n)) with
              | true =>
                simp [go_sem]
                exact done_ (by simp [alnum, fL])
              | false =>
                simp [go_sem]
                simp only [wrap_i64 (n := (i : Int) + n) (by omega), show ((i : Int) + n).toNat = i + n by omega]
                refine ⟨by omega, by omega, vcall_pure (c_l2Digit (byteAt z (i + n))) ?_ ?_⟩
                · simp [go_sem]
                · simp [go_sem]
                  exact ⟨fun e => done_ (by simp [alnum, e]), fun e => stop (by simp [alnum, fL, e])⟩
          | false =>
            simp [go_sem]
            refine ⟨hi, vcall_pure (c_l2Digit (byteAt z i)) ?_ ?_⟩
            · simp [go_sem]
            · cases eD : isDg (byteAt z i) with
              | true =>
                have al : alnum (byteAt z i) = true := by simp [alnum, eL, eD]
                rw [al, if_pos rfl] at h3
                have stop : alnum (byteAt z (i + n)) = false → (n : Int) = reachZ z i := fun e => by rw [h3, run_no (by omega) e]; simp
                have go_ : alnum (byteAt z (i + n)) = true → 1 ≤ n + 1 ∧ i + (n + 1) ≤ z.size ∧ reachZ z i = if alnum (byteAt z i) then n + 1 + run alnum z (i + (n + 1)) else n + 1 := fun e => ⟨by omega, by omega, by rw [al, if_pos rfl, h3, run_yes (by omega) e, show i + (n + 1) = i + n + 1 by omega]; omega⟩
                simp [go_sem]
                simp only [wrap_i64 (n := (i : Int) + n) (by omega), show ((i : Int) + n).toNat = i + n by omega]
                refine ⟨by omega, by omega, vcall_pure (c_l2Letter (byteAt z (i + n))) ?_ ?_⟩
                · simp [go_sem]
                · have done_ : alnum (byteAt z (i + n)) = true → ∃ j : Nat, (1 ≤ j ∧ i + j ≤ z.size ∧ reachZ z i = if alnum (byteAt z i) = true then j + run alnum z (i + j) else j) ∧ z.size - j < z.size - n ∧ IntKind.i64.wrap ((n : Int) + 1) = j := fun e => ⟨n + 1, go_ e, by omega, wrap_succ (by omega)⟩
                  cases fL : isLt (byteAt z (i + n)) with
                  | true =>
                    simp [go_sem]
                    exact done_ (by simp [alnum, fL])
                  | false =>
                    simp [go_sem]
                    simp only [wrap_i64 (n := (i : Int) + n) (by omega), show ((i : Int) + n).toNat = i + n by omega]
                    refine ⟨by omega, by omega, vcall_pure (c_l2Digit (byteAt z (i + n))) ?_ ?_⟩
                    · simp [go_sem]
                    · simp [go_sem]
                      exact ⟨fun e => done_ (by simp [alnum, e]), fun e => stop (by simp [alnum, fL, e])⟩
              | false =>
                simp [go_sem]
                have al : alnum (byteAt z i) = false := by simp [alnum, eL, eD]
                rw [al] at h3
                rw [h3]; simp
def longF (l : List POp) (z : ByteArray) (i : Nat) : Nat → Nat
  | 0 => 1
  | n + 1 => if n = 0 then 1 else if kindZ l (z.extract i (i + (n + 1))) ≠ 6 then n + 1 else longF l z i n
def longest (l : List POp) (z : ByteArray) (i : Nat) : Nat := longF l z i (reachZ z i)
theorem reachZ_le (z : ByteArray) (i : Nat) (hi : i < z.size) : 1 ≤ reachZ z i ∧ i + reachZ z i ≤ z.size := by
  unfold reachZ
  split
  · split <;> omega
  · split
    · have := run_le alnum z (i + 1) (by omega)
      omega
    · omega
theorem c_l2Longest (l : List POp) (hl : l.length ≤ 9223372036854775807) (z : ByteArray) (hz : z.size ≤ 1048576) (i : Nat) (hi : i < z.size) : VFun Try.prog 29 [.agg [.sl 4 l.length (opCells l)], .lit (.string z), .lit (.int .i64 i)] (fun av obs => obs = [] ∧ av = .lit (.int .i64 (longest l z i))) := by
  have cl : ∀ (i : Nat) (c : AV), i < l.length → c ∈ opCells l i → Closed c := fun i c _ h => opClosed l i c h
  have hr := reachZ_le z i hi
  refine vfun_start Try.func29 (by kernel_rfl) rfl (by simp [Try.ntmps29]) ?_; simp only [Try.ntmps29, Try.results29]; simp [go_sem]
  refine vcall_pure (c_l2Reach z hz i hi) ?_ ?_
  · simp [go_sem]
  · simp [go_sem]
    refine vc_loop (fun n : Nat => 1 ≤ n ∧ i + n ≤ z.size ∧ longest l z i = longF l z i n) (fun n => n) (fun n => .of [(1, .lit (.string z)), (2, .lit (.int .i64 i)), (3, .ptr 0 1 0 0), (7, .lit (.int .i64 n))] [some ⟨25, 1, 1, fun _ => [.sl 4 l.length (opCells l)]⟩]) ⟨reachZ z i, ⟨by omega, by omega, rfl⟩, ?_⟩ (fun n hn => ?_)
    · simp [go_sem]
      exact cl
    · simp [go_sem]
      refine ⟨fun h => ?_, fun h => ?_⟩
      · refine vc_drawn [] (.q 0 <| .q 1 <| .q 2 <| .q 3 <| .q 4 <| .q 5 <| .q 6 <| .or 7 (.q 8 <| .done) (.nil)) (by kernel_rfl) ?_
        simp [go_sem]
        simp only [wrap_i64 (n := (i : Int) + n) (by omega), show ((i : Int) + n).toNat = i + n by omega]
        refine ⟨by omega, by omega, vcallV_pure (c_l2Kind l hl (z.extract i (i + n)) (by rw [ByteArray.size_extract]; omega)) ?_ ?_⟩
        · simp [go_sem]
          exact argSl_refl (by omega) cl
        · obtain ⟨h1, h2, h3⟩ := hn
          obtain ⟨m, rfl⟩ : ∃ m, n = m + 1 := ⟨n - 1, by omega⟩
          simp [go_sem]
          refine ⟨fun e => ?_, fun e => ?_⟩
          · rw [h3, longF, if_neg (by omega), if_pos (by simpa using e)]
            omega
          · rw [h3, longF, if_neg (by omega), if_neg (by simpa using e)]
            exact ⟨m, ⟨by omega, by omega, rfl⟩, by omega, wrap_i64 (by omega), cl⟩
      · have e : n = 1 := by omega
        rw [hn.2.2, e]; rfl
end Go.Proofs.Ytcnmgfbafcnkhaa.V
/- Contracts: the specification's Union. -/
namespace Go.Proofs.Ytcnmgfbafcnkhaa.V
open Go.RowKit
set_option linter.unusedVariables false
set_option linter.unusedSimpArgs false
set_option linter.constructorNameAsVariable false
def opsHas (l : List POp) (n : Nat) (o : POp) : Bool := (List.range n).any fun i => opEq (opAt l i) o
end Go.Proofs.Ytcnmgfbafcnkhaa.V
/- Contracts: the specification's Union, its loop. -/
namespace Go.Proofs.Ytcnmgfbafcnkhaa.V
open Go.RowKit
set_option linter.unusedVariables false
set_option linter.unusedSimpArgs false
set_option linter.constructorNameAsVariable false
theorem argSl_sub {mem : List (Option Ob)} {k sz lo n N ty : Nat} {f f' : Nat → List AV} (hk : mem[k]? = some (some ⟨ty, sz, N, f⟩)) (hsz : 0 < sz) (hn : lo + n ≤ N) (h : ∀ i, i < n → f (lo + i) = f' i ∧ ∀ c, c ∈ f' i → Closed c) : ArgSl mem (.sub k sz lo n) sz n f' :=
  ⟨hsz, fun i => f (lo + i), by simp [contents, hk, hn], h⟩
/-- the first i operators, each but once -/
def uniq (l : List POp) : Nat → List POp
  | 0 => []
  | i + 1 => if opsHas l i (opAt l i) then uniq l i else uniq l i ++ [opAt l i]
def union (a b : List POp) : List POp := uniq (a ++ b) (a.length + b.length)
theorem uniq_len (l : List POp) : ∀ i, (uniq l i).length ≤ i
  | 0 => by simp [uniq]
  | i + 1 => by
    have := uniq_len l i
    simp only [uniq]
    split
    · omega
    · simp; omega
theorem opAt_app (a b : List POp) (i : Nat) : opAt (a ++ b) i = if i < a.length then opAt a i else opAt b (i - a.length) := by
  unfold opAt
  by_cases h : i < a.length
  · rw [if_pos h, List.getD_eq_getElem?_getD, List.getD_eq_getElem?_getD, List.getElem?_append_left h]
  · rw [if_neg h, List.getD_eq_getElem?_getD, List.getD_eq_getElem?_getD, List.getElem?_append_right (by omega)]
theorem opCells_app (a b : List POp) (i : Nat) : opCells (a ++ b) i = joinF a.length (opCells a) (opCells b) i := by
  unfold joinF
  simp only [opCells_at, opAt_app]
  split <;> rfl
theorem opCells_one (l : List POp) (o : POp) (i : Nat) (h : i < l.length + 1) : joinF l.length (opCells l) (fun _ => o.cells) i = opCells (l ++ [o]) i := by
  rw [opCells_app]
  unfold joinF
  split
  · rfl
  · have : i - l.length = 0 := by omega
    rw [this]; rfl
@[go_sem] theorem opOne (l : List POp) (i : Nat) : (opCells l i).all oneAV = true := rfl
end Go.Proofs.Ytcnmgfbafcnkhaa.V
/- Contracts: the program's Union: its set. -/
namespace Go.Proofs.Ytcnmgfbafcnkhaa.V
open Go.RowKit
open Go.Maps (Keyed)
set_option linter.unusedVariables false
set_option linter.unusedSimpArgs false
set_option linter.constructorNameAsVariable false
def i64 (n : Int) : Prop := -9223372036854775808 ≤ n ∧ n ≤ 9223372036854775807
def POp.rng (o : POp) : Prop := i64 o.kind ∧ i64 o.level ∧ i64 o.side
def opV (o : POp) : Value := .agg #[.string o.text, .int .i64 o.kind, .int .i64 o.level, .int .i64 o.side]
theorem opV_fold (o : POp) : Value.agg #[.string o.text, .int .i64 o.kind, .int .i64 o.level, .int .i64 o.side] = opV o := rfl
theorem opV_eq {a b : POp} : opV a = opV b ↔ opEq a b = true := by
  simp only [opV, opEq, ba_beq, int_beq, Value.agg.injEq, Array.mk.injEq, List.cons.injEq, Value.string.injEq, Value.int.injEq, true_and, and_true, Bool.and_eq_true, decide_eq_true_eq]
  exact ⟨fun ⟨h1, h2, h3, h4⟩ => ⟨⟨⟨h1, h2⟩, h3⟩, h4⟩, fun ⟨⟨⟨h1, h2⟩, h3⟩, h4⟩ => ⟨h1, h2, h3, h4⟩⟩
theorem rowOp : (75 : TypeId) < Try.prog.types.size := of_decide_eq_true (by kernel_rfl)
theorem co_op : Try.prog.cellsOf 75 = 4 := by kernel_rfl
theorem keyedOp : Keyed Try.prog 75 := Keyed.of_law (deep_law_laid laidOut (m := 2) (by omega) rowOp (by kernel_rfl) (by kernel_rfl))
theorem keyOp {o : POp} (h : o.wf) (hr : o.rng) : ∃ l, keyOf Try.prog 75 (opV o) = some l := by
  obtain ⟨z, k, lv, sd⟩ := o
  obtain ⟨h1, h2, h3⟩ := hr
  refine keyOf_struct Try.underlying75 (by kernel_rfl) co_op.symm (by kernel_rfl) size1 fun d => ?_
  simp only [List.mapM_cons, List.mapM_nil, co_string, co_int, List.drop_zero, List.take_succ_cons, List.take_zero, List.drop_succ_cons, keyLits_str Try.underlying9 h, keyLits_int Try.underlying3 h1, keyLits_int Try.underlying3 h2, keyLits_int Try.underlying3 h3]
  exact ⟨_, rfl⟩
/-- what the set holds behind an operator -/
noncomputable def addEs (es : List (Value × Value)) (o : POp) : List (Value × Value) := if (mget es (opV o)).isSome then es else mput es (opV o) (.int .i64 es.length)
end Go.Proofs.Ytcnmgfbafcnkhaa.V
/- Contracts: the program's Union. -/
namespace Go.Proofs.Ytcnmgfbafcnkhaa.V
open Go.RowKit
open Go.Maps (Keyed)
set_option linter.unusedVariables false
set_option linter.unusedSimpArgs false
set_option linter.constructorNameAsVariable false
/-- the set holds the first i operators -/
def SetIs (l : List POp) (i : Nat) (es : List (Value × Value)) : Prop := (∀ j, j < i → (mget es (opV (opAt l j))).isSome = true) ∧ ∀ x v, mget es x = some v → ∃ j, j < i ∧ x = opV (opAt l j)
theorem set_has {l : List POp} {i : Nat} {es : List (Value × Value)} (h : SetIs l i es) : (mget es (opV (opAt l i))).isSome = opsHas l i (opAt l i) := by
  rw [Bool.eq_iff_iff]
  simp only [opsHas, List.any_eq_true, List.mem_range]
  constructor
  · intro h0
    obtain ⟨v, hv⟩ := Option.isSome_iff_exists.1 h0
    obtain ⟨j, hj, e⟩ := h.2 _ v hv
    exact ⟨j, hj, opV_eq.1 e.symm⟩
  · rintro ⟨j, hj, e⟩
    rw [← opV_eq.2 e]
    exact h.1 j hj
theorem set_step {l : List POp} {i : Nat} {es : List (Value × Value)} (h : SetIs l i es) : SetIs l (i + 1) (addEs es (opAt l i)) := by
  unfold addEs
  split
  · rename_i h0
    refine ⟨fun j hj => ?_, fun x v hv => ?_⟩
    · rcases Nat.lt_succ_iff_lt_or_eq.mp hj with hj | rfl
      · exact h.1 j hj
      · exact h0
    · obtain ⟨j, hj, e⟩ := h.2 x v hv
      exact ⟨j, by omega, e⟩
  · refine ⟨fun j hj => ?_, fun x v hv => ?_⟩
    · rw [mget_mput]
      split
      · rfl
      · rename_i hne
        rcases Nat.lt_succ_iff_lt_or_eq.mp hj with hj | rfl
        · exact h.1 j hj
        · exact absurd rfl hne
    · rw [mget_mput] at hv
      split at hv
      · rename_i e
        exact ⟨i, by omega, e.symm⟩
      · obtain ⟨j, hj, e⟩ := h.2 x v hv
        exact ⟨j, by omega, e⟩
def sel (a b : List POp) (q : Nat) : List POp := if q = 0 then a else b
def posQ (a b : List POp) (q : Nat) : Nat := if q = 0 then 0 else if q = 1 then a.length else a.length + b.length
theorem posQ_step (a b : List POp) (q : Nat) (h : q < 2) : posQ a b (q + 1) = posQ a b q + (sel a b q).length := by
  rcases (by omega : q = 0 ∨ q = 1) with rfl | rfl <;> simp [posQ, sel]
theorem opAt_sel (a b : List POp) (q i : Nat) (h : q < 2) (hi : i < (sel a b q).length) : opAt (a ++ b) (posQ a b q + i) = opAt (sel a b q) i := by
  rcases (by omega : q = 0 ∨ q = 1) with rfl | rfl
  · simp only [posQ, sel, if_true] at hi ⊢
    rw [opAt_app, if_pos (by omega), Nat.zero_add]
  · simp only [posQ, sel, if_true, show ((1 : Nat) = 0) = False by decide, if_false] at hi ⊢
    rw [opAt_app, if_neg (by omega), Nat.add_sub_cancel_left]
def opsRng (l : List POp) : Prop := ∀ i, i < l.length → (opAt l i).rng
end Go.Proofs.Ytcnmgfbafcnkhaa.V
/- Contracts: the law of Union. -/
namespace Go.Proofs.Ytcnmgfbafcnkhaa.V
open Go.RowKit
set_option linter.unusedVariables false
set_option linter.unusedSimpArgs false
set_option linter.constructorNameAsVariable false
theorem wf_i64 {n : Int} (h : (Lit.int .i64 n).wf = true) : i64 n := by
  simp only [Lit.wf, IntKind.min, IntKind.max, IntKind.bits, IntKind.signed, decide_eq_true_eq, Bool.and_eq_true] at h
  exact h
set_option maxRecDepth 100000 in
theorem shape_opR (n : Nat) (xs : List AV) (h : Shape Try.prog (n + 2) 121 xs) : ∃ o : POp, (o.wf ∧ o.rng) ∧ xs = o.cells := by
  obtain ⟨parts, h0, rfl⟩ := shape_struct Try.underlying121 h
  clear h
  simp only [List.toList_toArray, all2_cons, all2_nil] at h0
  obtain ⟨_, _, rfl, ⟨_, h1⟩, _, _, rfl, ⟨_, h2⟩, _, _, rfl, ⟨_, h3⟩, _, _, rfl, ⟨_, h4⟩, rfl⟩ := h0
  obtain ⟨z, rfl, hz⟩ := shape_string Try.underlying9 h1
  obtain ⟨k, rfl, hk⟩ := shape_int Try.underlying3 h2
  obtain ⟨l, rfl, hl⟩ := shape_int Try.underlying3 h3
  obtain ⟨s, rfl, hs⟩ := shape_int Try.underlying3 h4
  exact ⟨⟨z, k, l, s⟩, ⟨hz, wf_i64 hk, wf_i64 hl, wf_i64 hs⟩, rfl⟩
set_option maxRecDepth 100000 in
theorem shape_tableR (n : Nat) (xs : List AV) (h : Shape Try.prog (n + 4) 38 xs) : ∃ l : List POp, l.length ≤ maxLen ∧ opsWf l ∧ opsRng l ∧ ∃ f, xs = [.sl 4 l.length f] ∧ ∀ i, i < l.length → f i = opCells l i := by
  obtain ⟨parts, h0, rfl⟩ := shape_struct Try.underlying38 h
  clear h
  simp only [List.toList_toArray, all2_cons, all2_nil] at h0
  obtain ⟨_, _, rfl, ⟨_, h1⟩, rfl⟩ := h0
  obtain ⟨m, f, rfl, hm, hf⟩ := shape_slice Try.underlying36 h1
  have hc : Try.prog.cellsOf 121 = 4 := by kernel_rfl
  obtain ⟨l, rfl, h2, h3⟩ := rows_of POp.cells (fun o => o.wf ∧ o.rng) fun i hi => shape_opR n (f i) (hf i hi).2
  exact ⟨l, hm, fun i hi => (h2 i hi).1, fun i hi => (h2 i hi).2, f, by rw [hc]; rfl, h3⟩
end Go.Proofs.Ytcnmgfbafcnkhaa.V
/- Contracts: a text cut into tokens, by the specification. -/
namespace Go.Proofs.Ytcnmgfbafcnkhaa.V
open Go.RowKit
set_option linter.unusedVariables false
set_option linter.unusedSimpArgs false
set_option linter.constructorNameAsVariable false
theorem longF_ge (l : List POp) (z : ByteArray) (i : Nat) : ∀ n, 1 ≤ longF l z i n
  | 0 => by simp [longF]
  | n + 1 => by
    unfold longF
    split
    · omega
    · split
      · omega
      · exact longF_ge l z i n
theorem longF_le (l : List POp) (z : ByteArray) (i : Nat) : ∀ n, longF l z i n ≤ n ∨ longF l z i n = 1
  | 0 => by simp [longF]
  | n + 1 => by
    unfold longF
    split
    · omega
    · split
      · omega
      · rcases longF_le l z i n with h | h <;> omega
theorem longest_ge (l : List POp) (z : ByteArray) (i : Nat) : 1 ≤ longest l z i := longF_ge _ _ _ _
theorem longest_le (l : List POp) (z : ByteArray) (i : Nat) (hi : i < z.size) : i + longest l z i ≤ z.size := by
  have := reachZ_le z i hi
  unfold longest
  rcases longF_le l z i (reachZ z i) with h | h <;> omega
/-- the tokens of a text from a place on -/
def lexFrom (l : List POp) (z : ByteArray) (f : Nat) : List PTok :=
  if h : f + run isBl z f < z.size then
    ⟨kindZ l (z.extract (f + run isBl z f) (f + run isBl z f + longest l z (f + run isBl z f))), z.extract f (f + run isBl z f), z.extract (f + run isBl z f) (f + run isBl z f + longest l z (f + run isBl z f))⟩ ::
      lexFrom l z (f + run isBl z f + longest l z (f + run isBl z f))
  else [⟨7, z.extract f (f + run isBl z f), ⟨#[]⟩⟩]
termination_by z.size - f
decreasing_by
  have := longest_ge l z (f + run isBl z f)
  omega
theorem lexFrom_end {l : List POp} {z : ByteArray} {f i : Nat} (hi : i = f + run isBl z f) (h : ¬ i < z.size) : lexFrom l z f = [⟨7, z.extract f i, ⟨#[]⟩⟩] := by
  subst hi; rw [lexFrom, dif_neg h]
theorem lexFrom_go {l : List POp} {z : ByteArray} {f i : Nat} (hi : i = f + run isBl z f) (h : i < z.size) : lexFrom l z f = ⟨kindZ l (z.extract i (i + longest l z i)), z.extract f i, z.extract i (i + longest l z i)⟩ :: lexFrom l z (i + longest l z i) := by
  subst hi; rw [lexFrom, dif_pos h]
def lexOk (l : List POp) (z : ByteArray) : Bool := decide (tblOk l = 0) && decide (z.size ≤ 20000)
def lexZ (l : List POp) (z : ByteArray) : List PTok := if lexOk l z then lexFrom l z 0 else []
theorem tokAt_app (a b : List PTok) (i : Nat) : tokAt (a ++ b) i = if i < a.length then tokAt a i else tokAt b (i - a.length) := by
  unfold tokAt
  by_cases h : i < a.length
  · rw [if_pos h, List.getD_eq_getElem?_getD, List.getD_eq_getElem?_getD, List.getElem?_append_left h]
  · rw [if_neg h, List.getD_eq_getElem?_getD, List.getD_eq_getElem?_getD, List.getElem?_append_right (by omega)]
theorem tokCells_one (l : List PTok) (o : PTok) (i : Nat) (h : i < l.length + 1) : joinF l.length (tokCells l) (fun _ => o.cells) i = tokCells (l ++ [o]) i := by
  unfold joinF
  simp only [tokCells_at, tokAt_app]
  split
  · rfl
  · have : i - l.length = 0 := by omega
    rw [this]; rfl
theorem tok_app1 (toks : List PTok) (k : Int) (g x : ByteArray) (i : Nat) (hi : i < toks.length + 1) : joinF toks.length (tokCells toks) (fun i => [[AV.lit (.int .i64 k), AV.lit (.string g), AV.lit (.string x)]][i]?.getD []) i = tokCells (toks ++ [⟨k, g, x⟩]) i := by
  rw [← tokCells_one toks ⟨k, g, x⟩ i hi]
  unfold joinF
  split
  · rfl
  · have : i - toks.length = 0 := by omega
    rw [this]; rfl
@[go_sem] theorem tokOne (l : List PTok) (i : Nat) : (tokCells l i).all oneAV = true := rfl
theorem c_specLex (l : List POp) (hl : l.length ≤ 9223372036854775807) (hw : opsWf l) (z : ByteArray) (hz : z.size ≤ 1048576) : VFun Try.prog 6 [.agg [.sl 4 l.length (opCells l)], .lit (.string z)] (fun av obs => av = .tup [.own 0, .lit (.bool (lexOk l z))] ∧ obs = [⟨61, 3, (lexZ l z).length, tokCells (lexZ l z)⟩]) := by
  have cl : ∀ (i : Nat) (c : AV), i < l.length → c ∈ opCells l i → Closed c := fun i c _ h => opClosed l i c h
  refine vfun_start Try.func6 (by kernel_rfl) rfl (by simp [Try.ntmps6]) ?_; simp only [Try.ntmps6, Try.results6]; simp [go_sem]
  refine vcall_pure (c_specTableOk l hl hw) ?_ ?_
  · simp [go_sem]
    exact argSl_refl (by omega) cl
  · simp [go_sem]
    have bad : lexOk l z = false → ObsSame [⟨61, 3, 0, fun _ => []⟩] [⟨61, 3, (lexZ l z).length, tokCells (lexZ l z)⟩] ∧ lexOk l z = false := fun h => by
      refine ⟨?_, h⟩
      have e : lexZ l z = [] := by simp [lexZ, h]
      rw [e]
      exact obsSame_one.mpr ⟨⟨61, 3, 0, tokCells []⟩, ⟨rfl, rfl, rfl, fun j hj => by simp at hj⟩, rfl⟩
    refine ⟨fun h0 => ⟨fun h1 => bad (by simp [lexOk]; omega), fun h1 => ?_⟩, fun h0 => bad (by simp [lexOk, h0])⟩
    have hok : lexOk l z = true := by simp [lexOk, h0]; omega
    have hz2 : z.size ≤ 20000 := by omega
    refine vc_loopE (fun p : List PTok × Nat => p.2 ≤ z.size ∧ p.1.length ≤ p.2 ∧ lexFrom l z 0 = p.1 ++ lexFrom l z p.2) (fun p => z.size - p.2) (fun p => .of [(1, .lit (.string z)), (2, .ptr 0 1 0 0), (6, .own 1), (7, .lit (.int .i64 p.2))] [some ⟨25, 1, 1, fun _ => [.sl 4 l.length (opCells l)]⟩, some ⟨61, 3, p.1.length, tokCells p.1⟩]) ⟨([], 0), ⟨by omega, by simp, by simp⟩, ?_⟩ (fun p hp => ?_)
    · refine ent_ks [0, 1] (by simp) (by simp) (by simp) (by simp) trivial ?_ ?_
      · simp [go_sem]
      · simp [go_sem]
        exact cl
    · obtain ⟨toks, f⟩ := p
      obtain ⟨hp1, hp2, hp3⟩ := hp
      simp only at hp1 hp2 hp3
      simp [go_sem]
      refine vc_loop (fun j : Nat => f ≤ j ∧ j ≤ z.size ∧ f + run isBl z f = j + run isBl z j) (fun j => z.size - j) (fun j => .of [(1, .lit (.string z)), (2, .ptr 0 1 0 0), (6, .own 1), (7, .lit (.int .i64 j)), (8, .lit (.int .i64 f))] [some ⟨25, 1, 1, fun _ => [.sl 4 l.length (opCells l)]⟩, some ⟨61, 3, toks.length, tokCells toks⟩]) ⟨f, ⟨by omega, by omega, by omega⟩, ?_⟩ (fun j hj => ?_)
      · simp [go_sem]
        exact ⟨cl, fun i _ c h => .closed _ (tokClosed _ i c h)⟩
      · obtain ⟨hj1, hj2, hj3⟩ := hj
        simp [go_sem]
        refine ⟨fun h => ⟨h, vcall_pure (c_l2Blank (byteAt z j)) ?_ ?_⟩, fun h => ?_⟩
        · simp [go_sem]
        · simp [go_sem]
          refine ⟨fun e => ?_, fun e => ?_⟩
          · exact ⟨j + 1, ⟨by omega, by omega, by rw [hj3, run_yes h e]; omega⟩, by omega, wrap_succ (by omega), cl, fun i _ c h => .closed _ (tokClosed _ i c h)⟩
          · have hj4 : j = f + run isBl z f := by rw [hj3, run_no h e]; rfl
            have hlo := longest_ge l z j
            have hle := longest_le l z j h
            refine ⟨fun e2 => absurd e2 (by omega), fun e2 => vcall_pure (c_l2Longest l hl z hz j h) ?_ ?_⟩
            · simp [go_sem]
              exact argSl_refl (by omega) cl
            · simp [go_sem]
              refine vc_drawn [21] (.q 0 <| .q 1 <| .q 2 <| .q 3 <| .q 4 <| .q 5 <| .q 6 <| .q 7 <| .q 9 <| .q 10 <| .q 11 <| .q 12 <| .q 13 <| .q 14 <| .q 15 <| .q 16 <| .q 17 <| .q 18 <| .or 8 (.q 19 <| .or 20 (.or 21 (.q 22 <| .done) (.nil)) (.nil)) (.nil)) (by kernel_rfl) ?_
              simp [go_sem]
              simp only [wrap_i64 (n := (j : Int) + longest l z j) (by omega), show ((j : Int) + longest l z j).toNat = j + longest l z j by omega]
              refine ⟨by omega, by omega, by omega, by omega, by omega, by omega, vcallV_pure (c_l2Kind l hl (z.extract j (j + longest l z j)) (by rw [ByteArray.size_extract]; omega)) ?_ ?_⟩
              · simp [go_sem]
                exact argSl_refl (by omega) cl
              · simp [go_sem]
                have hn : lexFrom l z f = ⟨kindZ l (z.extract j (j + longest l z j)), z.extract f j, z.extract j (j + longest l z j)⟩ :: lexFrom l z (j + longest l z j) := lexFrom_go hj4 h
                refine ⟨by omega, by omega, toks ++ [⟨kindZ l (z.extract j (j + longest l z j)), z.extract f j, z.extract j (j + longest l z j)⟩], j + longest l z j, ⟨by omega, by simp; omega, by rw [hp3, hn]; simp⟩, by omega, ?_⟩
                refine ent_ks [0, 3] (by simp) (by simp) (by simp) (by simp) trivial ?_ ?_
                · simp [go_sem]
                  rw [wrap_i64 (by omega)]
                · simp [go_sem]
                  exact ⟨cl, .inl fun i hi => ⟨tok_app1 _ _ _ _ _ hi, fun c h => tokClosed _ i c h⟩⟩
        · have hj5 : j = z.size := by omega
          subst hj5
          have hj4 : z.size = f + run isBl z f := by rw [hj3, run_end (by omega)]; rfl
          refine ⟨fun e2 => ⟨hp1, by omega, by omega, by omega, ?_, hok⟩, fun e2 => absurd rfl e2⟩
          have e3 : lexZ l z = toks ++ [⟨7, z.extract f z.size, ⟨#[]⟩⟩] := by
            simp only [lexZ, hok, if_true, hp3]
            rw [lexFrom_end hj4 (by omega)]
          rw [e3]
          refine obsSame_one.mpr ⟨⟨61, 3, toks.length + 1, tokCells (toks ++ [⟨7, z.extract f z.size, ⟨#[]⟩⟩])⟩, ⟨rfl, rfl, rfl, fun i hi => ?_⟩, by simp⟩
          exact ⟨tok_app1 _ _ _ _ _ hi, rfl⟩
end Go.Proofs.Ytcnmgfbafcnkhaa.V
/- Plain law: what stands in front of a text is its longest token. -/
namespace Go.Proofs.Ytcnmgfbafcnkhaa.V
open Go.RowKit
set_option linter.unusedVariables false
set_option linter.unusedSimpArgs false
set_option linter.constructorNameAsVariable false
def textHas (l : List POp) (z : ByteArray) : Bool := (List.range l.length).any fun j => decide ((opAt l j).text = z)
def opFront (l : List POp) (z : ByteArray) : Nat → Int × Nat
  | 0 => (6, 1)
  | k + 1 => if textHas l (z.extract 0 (k + 1)) then (3, k + 1) else opFront l z k
def front (l : List POp) (z : ByteArray) : Int × Nat :=
  if isDg (byteAt z 0) then (1, 1 + run isDg z 1) else if isLt (byteAt z 0) then (2, 1 + run alnum z 1) else if byteAt z 0 = 40 then (4, 1) else if byteAt z 0 = 41 then (5, 1) else opFront l z (if z.size < 16 then z.size else 16)

theorem byteAt_extract {z : ByteArray} {i e j : Nat} (he : e ≤ z.size) (hj : i + j < e) : byteAt (z.extract i e) j = byteAt z (i + j) := by
  unfold byteAt
  have h1 : j < (z.extract i e).size := by rw [ByteArray.size_extract]; omega
  rw [dif_pos h1, dif_pos (show i + j < z.size by omega)]
  rw [ByteArray.getElem_extract]
theorem extract_extract0 (z : ByteArray) (i k : Nat) (h : i + k ≤ z.size) : (z.extract i z.size).extract 0 k = z.extract i (i + k) := by
  rw [ByteArray.extract_extract]
  congr 1
  omega
theorem size_ext {z : ByteArray} {i n : Nat} (h : i + n ≤ z.size) : (z.extract i (i + n)).size = n := by rw [ByteArray.size_extract]; omega
theorem run_extract (p : Int → Bool) (z : ByteArray) (i : Nat) (j : Nat) : run p (z.extract i z.size) j = run p z (i + j) := by
  by_cases h : i + j < z.size
  · have h1 : j < (z.extract i z.size).size := by rw [ByteArray.size_extract]; omega
    have e := byteAt_extract (z := z) (i := i) (e := z.size) (j := j) (by omega) h
    cases hp : p (byteAt z (i + j))
    · rw [run_no h1 (by rw [e]; exact hp), run_no h hp]
    · rw [run_yes h1 (by rw [e]; exact hp), run_yes h hp, run_extract p z i (j + 1)]; rfl
  · rw [run_end (by rw [ByteArray.size_extract]; omega), run_end (by omega)]
termination_by z.size - (i + j)
theorem run_all (p : Int → Bool) (z : ByteArray) (j : Nat) (k : Nat) (h : k < run p z j) : p (byteAt z (j + k)) = true := by
  by_cases h1 : j < z.size
  · cases hp : p (byteAt z j)
    · rw [run_no h1 hp] at h; omega
    · cases k with
      | zero => exact hp
      | succ k =>
        rw [run_yes h1 hp] at h
        have := run_all p z (j + 1) k (by omega)
        rw [show j + (k + 1) = j + 1 + k by omega]; exact this
  · rw [run_end (by omega)] at h; omega
termination_by z.size - j
theorem run_stop (p : Int → Bool) (z : ByteArray) (j : Nat) (h : j + run p z j < z.size) : p (byteAt z (j + run p z j)) = false := by
  have h1 : j < z.size := by omega
  cases hp : p (byteAt z j)
  · rw [run_no h1 hp]; exact hp
  · rw [run_yes h1 hp] at h ⊢
    have := run_stop p z (j + 1) (by omega)
    rw [show j + (1 + run p z (j + 1)) = j + 1 + run p z (j + 1) by omega]; exact this
termination_by z.size - j
theorem run_mono {p q : Int → Bool} (hpq : ∀ c, p c = true → q c = true) (z : ByteArray) (j : Nat) : run p z j ≤ run q z j := by
  by_cases h1 : j < z.size
  · cases hp : p (byteAt z j)
    · rw [run_no h1 hp]; omega
    · rw [run_yes h1 hp, run_yes h1 (hpq _ hp)]
      have := run_mono hpq z (j + 1)
      omega
  · rw [run_end (by omega)]; omega
termination_by z.size - j
theorem sign_apart : (List.range 256).all (fun n => !isSg n || !(isDg n || isLt n || (n : Int) == 40 || (n : Int) == 41)) = true := by kernel_rfl
theorem digit_apart : (List.range 256).all (fun n => !isDg n || !(isLt n || (n : Int) == 40 || (n : Int) == 41)) = true := by kernel_rfl
theorem letter_apart : (List.range 256).all (fun n => !isLt n || !((n : Int) == 40 || (n : Int) == 41)) = true := by kernel_rfl
theorem of_range {f : Int → Bool} (h : (List.range 256).all (fun n => f n) = true) {c : Int} (hc : 0 ≤ c ∧ c < 256) : f c = true := by
  obtain ⟨n, rfl⟩ : ∃ n : Nat, c = n := ⟨c.toNat, by omega⟩
  exact List.all_eq_true.1 h n (List.mem_range.2 (by omega))
theorem isSg_no {c : Int} (hc : 0 ≤ c ∧ c < 256) (h : isDg c = true ∨ isLt c = true ∨ c = 40 ∨ c = 41) : isSg c = false := by
  have := of_range (f := fun n => !isSg n || !(isDg n || isLt n || n == 40 || n == 41)) sign_apart hc
  simp at this
  rcases h with h | h | rfl | rfl <;> simp_all
theorem isDg_no {c : Int} (hc : 0 ≤ c ∧ c < 256) (h : isDg c = true) : isLt c = false ∧ c ≠ 40 ∧ c ≠ 41 := by
  have := of_range (f := fun n => !isDg n || !(isLt n || n == 40 || n == 41)) digit_apart hc
  simp [h] at this
  exact ⟨this.1.1, this.1.2, this.2⟩
theorem isLt_no {c : Int} (hc : 0 ≤ c ∧ c < 256) (h : isLt c = true) : c ≠ 40 ∧ c ≠ 41 := by
  have := of_range (f := fun n => !isLt n || !(n == 40 || n == 41)) letter_apart hc
  simp [h] at this
  exact this
/-! the kinds of texts by their first byte -/
theorem numZ_no {s : ByteArray} (h0 : 0 < s.size) (h : isDg (byteAt s 0) = false) : numZ s = false := by
  unfold numZ; rw [all_false h0 h]; rfl
theorem namZ_no {s : ByteArray} (h0 : 0 < s.size) (h : isLt (byteAt s 0) = false) : namZ s = false := by
  unfold namZ; rw [all_false h0 (by simp [namAt, h])]; rfl
theorem byte_ne {s : ByteArray} {b : UInt8} (h : byteAt s 0 ≠ b.toNat) : s ≠ ⟨#[b]⟩ := by
  rintro rfl
  exact h rfl
theorem byte_one {s : ByteArray} {b : UInt8} (h1 : s.size = 1) (h : byteAt s 0 = b.toNat) : s = ⟨#[b]⟩ := by
  obtain ⟨⟨l⟩⟩ := s
  match l, h1 with
  | [x], _ =>
    have h2 : ((x.toNat : Nat) : Int) = b.toNat := h
    have h3 : x = b := UInt8.toNat_inj.1 (by omega)
    rw [h3]
theorem isOpZ_has {l : List POp} (hok : tblOps l = true) (s : ByteArray) : isOpZ l s = textHas l s := by
  have hop : ∀ j, j < l.length → opOk (opAt l j) = true := by simpa [tblOps] using hok
  rw [Bool.eq_iff_iff]
  simp only [isOpZ, opHas, textHas, Bool.or_eq_true, List.any_eq_true, List.mem_range, Bool.and_eq_true, decide_eq_true_eq]
  constructor
  · rintro ((⟨j, h1, h2, _⟩ | ⟨j, h1, h2, _⟩) | ⟨j, h1, h2, _⟩) <;> exact ⟨j, h1, h2⟩
  · rintro ⟨j, h1, h2⟩
    have hk : (opAt l j).kind = 1 ∨ (opAt l j).kind = 2 ∨ (opAt l j).kind = 3 := by
      have := hop j h1
      simp [opOk] at this
      omega
    rcases hk with h | h | h
    · exact .inl (.inl ⟨j, h1, h2, h⟩)
    · exact .inl (.inr ⟨j, h1, h2, h⟩)
    · exact .inr ⟨j, h1, h2, h⟩
theorem textHas_no {l : List POp} (hok : tblOps l = true) {s : ByteArray} (h0 : 0 < s.size) (h : isSg (byteAt s 0) = false) : textHas l s = false := by
  have hop : ∀ j, j < l.length → opOk (opAt l j) = true := by simpa [tblOps] using hok
  simp only [textHas, List.any_eq_false, List.mem_range, decide_eq_true_eq]
  rintro j hj rfl
  have := hop j hj
  simp only [opOk, sgOk, sgAll, Bool.and_eq_true, List.all_eq_true, List.mem_range] at this
  have := this.1.1.1 0 h0
  rw [h] at this
  cases this
theorem textHas_none {l : List POp} (hok : tblOps l = true) {s : ByteArray} (h0 : s.size = 0) : textHas l s = false := by
  have hop : ∀ j, j < l.length → opOk (opAt l j) = true := by simpa [tblOps] using hok
  simp only [textHas, List.any_eq_false, List.mem_range, decide_eq_true_eq]
  rintro j hj rfl
  have := hop j hj
  simp only [opOk, sgOk, Bool.and_eq_true, decide_eq_true_eq] at this
  omega
theorem longF_eq {l : List POp} {z : ByteArray} {i m : Nat} (h1 : 1 ≤ m) (hm : m = 1 ∨ kindZ l (z.extract i (i + m)) ≠ 6) : ∀ N, m ≤ N → (∀ n, m < n → n ≤ N → kindZ l (z.extract i (i + n)) = 6) → longF l z i N = m
  | 0, h, _ => by omega
  | N + 1, h, h2 => by
    unfold longF
    by_cases e : m = N + 1
    · subst e
      split
      · omega
      · rename_i hN
        rw [if_pos (hm.resolve_left (by omega))]
    · rw [if_neg (by omega), if_neg (by rw [h2 (N + 1) (by omega) (by omega)]; simp)]
      exact longF_eq h1 hm N (by omega) fun n a b => h2 n a (by omega)
theorem opFront_none {l : List POp} {s : ByteArray} : ∀ K, (∀ k, k ≤ K → textHas l (s.extract 0 k) = false) → opFront l s K = (6, 1)
  | 0, _ => rfl
  | K + 1, h => by
    unfold opFront
    rw [if_neg (by rw [h (K + 1) (by omega)]; simp)]
    exact opFront_none K fun k hk => h k (by omega)
theorem opFront_long {l : List POp} {z : ByteArray} {i : Nat} (hk : ∀ n, 1 ≤ n → i + n ≤ z.size → kindZ l (z.extract i (i + n)) = if textHas l (z.extract i (i + n)) then 3 else 6) : ∀ N, i + (N + 1) ≤ z.size → opFront l (z.extract i z.size) (N + 1) = (kindZ l (z.extract i (i + longF l z i (N + 1))), longF l z i (N + 1))
  | 0, h => by
    have e : longF l z i (0 + 1) = 1 := by simp [longF]
    rw [e, hk 1 (by omega) (by omega)]
    simp only [opFront, extract_extract0 z i (0 + 1) (by omega)]
    cases textHas l (z.extract i (i + (0 + 1))) <;> rfl
  | N + 1, h => by
    have ih := opFront_long hk N (by omega)
    have h1 := hk (N + 1 + 1) (by omega) (by omega)
    unfold opFront
    rw [extract_extract0 z i (N + 1 + 1) (by omega)]
    cases ht : textHas l (z.extract i (i + (N + 1 + 1)))
    · rw [ht] at h1
      have e : longF l z i (N + 1 + 1) = longF l z i (N + 1) := by
        conv => lhs; unfold longF
        rw [if_neg (by omega), if_neg (by rw [h1]; simp)]
      rw [e, ← ih]; rfl
    · rw [ht] at h1
      have e : longF l z i (N + 1 + 1) = N + 1 + 1 := by
        conv => lhs; unfold longF
        rw [if_neg (by omega), if_pos (by rw [h1]; decide)]
      rw [e, h1]; rfl
theorem front_eq (l : List POp) (hok : tblOps l = true) (z : ByteArray) (i : Nat) (hi : i < z.size) : front l (z.extract i z.size) = (kindZ l (z.extract i (i + longest l z i)), longest l z i) := by
  have hr := byteAt_range z i
  have e0 : byteAt (z.extract i z.size) 0 = byteAt z i := byteAt_extract (by omega) (by omega)
  have b0 : ∀ n, 1 ≤ n → i + n ≤ z.size → byteAt (z.extract i (i + n)) 0 = byteAt z i := fun n h1 h2 => byteAt_extract (by omega) (by omega)
  have hs : (z.extract i z.size).size = z.size - i := by rw [ByteArray.size_extract]; omega
  unfold front
  rw [e0, run_extract, run_extract, hs]
  cases hd : isDg (byteAt z i) with
  | true =>
    obtain ⟨a1, a2, a3⟩ := isDg_no hr hd
    have a4 := isSg_no hr (.inl hd)
    have hN : reachZ z i = 1 + run alnum z (i + 1) := by simp [reachZ, a4, alnum, hd]
    have hle := run_mono (p := isDg) (q := alnum) (fun c h => by simp [alnum, h]) z (i + 1)
    have hrl := reachZ_le z i hi
    have kd : ∀ n, 1 ≤ n → i + n ≤ z.size → kindZ l (z.extract i (i + n)) = if numZ (z.extract i (i + n)) then 1 else 6 := by
      intro n h1 h2
      have hsz := size_ext h2
      have q1 : namZ (z.extract i (i + n)) = false := namZ_no (by omega) (by rw [b0 n h1 h2]; exact a1)
      have q2 : z.extract i (i + n) ≠ ⟨#[40]⟩ := byte_ne (by rw [b0 n h1 h2]; exact a2)
      have q3 : z.extract i (i + n) ≠ ⟨#[41]⟩ := byte_ne (by rw [b0 n h1 h2]; exact a3)
      have q4 : isOpZ l (z.extract i (i + n)) = false := by rw [isOpZ_has hok]; exact textHas_no hok (by omega) (by rw [b0 n h1 h2]; exact a4)
      simp only [kindZ, q1, q4, if_neg q2, if_neg q3]
      rfl
    have hlong : longest l z i = 1 + run isDg z (i + 1) := by
      unfold longest
      have hnum : kindZ l (z.extract i (i + (1 + run isDg z (i + 1)))) = 1 := by
        rw [kd _ (by omega) (by omega), if_pos]
        have hsz := size_ext (z := z) (i := i) (n := 1 + run isDg z (i + 1)) (by omega)
        simp only [numZ, Bool.and_eq_true, decide_eq_true_eq]
        refine ⟨all_true fun j hj => ?_, by omega⟩
        rw [hsz] at hj
        rw [byteAt_extract (by omega) (by omega)]
        cases j with
        | zero => exact hd
        | succ j =>
          have := run_all isDg z (i + 1) j (by omega)
          rw [show i + (j + 1) = i + 1 + j by omega]; exact this
      refine longF_eq (by omega) (.inr (by rw [hnum]; decide)) _ (by omega) fun n h1 h2 => ?_
      rw [kd n (by omega) (by omega), if_neg]
      have hst := run_stop isDg z (i + 1) (by omega)
      have hsz := size_ext (z := z) (i := i) (n := n) (by omega)
      unfold numZ
      rw [all_false (i := 1 + run isDg z (i + 1)) (by omega) (by rw [byteAt_extract (by omega) (by omega), show i + (1 + run isDg z (i + 1)) = i + 1 + run isDg z (i + 1) by omega]; exact hst)]
      simp
    rw [if_pos rfl, hlong]
    refine Prod.ext ?_ rfl
    rw [kd _ (by omega) (by omega), if_pos]
    have hsz := size_ext (z := z) (i := i) (n := 1 + run isDg z (i + 1)) (by omega)
    simp only [numZ, Bool.and_eq_true, decide_eq_true_eq]
    refine ⟨all_true fun j hj => ?_, by omega⟩
    rw [hsz] at hj
    rw [byteAt_extract (by omega) (by omega)]
    cases j with
    | zero => exact hd
    | succ j =>
      have := run_all isDg z (i + 1) j (by omega)
      rw [show i + (j + 1) = i + 1 + j by omega]; exact this
  | false =>
    rw [if_neg (by simp)]
    cases hl : isLt (byteAt z i) with
    | true =>
      obtain ⟨a2, a3⟩ := isLt_no hr hl
      have a4 := isSg_no hr (.inr (.inl hl))
      have hN : reachZ z i = 1 + run alnum z (i + 1) := by simp [reachZ, a4, alnum, hl]
      have hrl := reachZ_le z i hi
      have hk : kindZ l (z.extract i (i + (1 + run alnum z (i + 1)))) = 2 := by
        have hsz := size_ext (z := z) (i := i) (n := 1 + run alnum z (i + 1)) (by omega)
        have q1 : numZ (z.extract i (i + (1 + run alnum z (i + 1)))) = false := numZ_no (by omega) (by rw [b0 _ (by omega) (by omega)]; exact hd)
        have q2 : namZ (z.extract i (i + (1 + run alnum z (i + 1)))) = true := by
          simp only [namZ, Bool.and_eq_true, decide_eq_true_eq]
          refine ⟨all_true fun j hj => ?_, by omega⟩
          rw [hsz] at hj
          unfold namAt
          rw [byteAt_extract (by omega) (by omega)]
          cases j with
          | zero => simp [hl]
          | succ j =>
            have := run_all alnum z (i + 1) j (by omega)
            rw [show i + (j + 1) = i + 1 + j by omega]
            simpa [alnum] using this
        simp only [kindZ, q1, q2]; rfl
      have hlong : longest l z i = 1 + run alnum z (i + 1) := by
        unfold longest
        rw [hN]
        exact longF_eq (by omega) (.inr (by rw [hk]; decide)) _ (by omega) fun n h1 h2 => by omega
      rw [if_pos rfl, hlong, hk]
    | false =>
      rw [if_neg (by simp)]
      have kd : ∀ n, 1 ≤ n → i + n ≤ z.size → kindZ l (z.extract i (i + n)) = if z.extract i (i + n) = ⟨#[40]⟩ then 4 else if z.extract i (i + n) = ⟨#[41]⟩ then 5 else if textHas l (z.extract i (i + n)) then 3 else 6 := by
        intro n h1 h2
        have hsz := size_ext h2
        have q1 : numZ (z.extract i (i + n)) = false := numZ_no (by omega) (by rw [b0 n h1 h2]; exact hd)
        have q2 : namZ (z.extract i (i + n)) = false := namZ_no (by omega) (by rw [b0 n h1 h2]; exact hl)
        simp only [kindZ, q1, q2, isOpZ_has hok]
        rfl
      have reach1 : isSg (byteAt z i) = false → reachZ z i = 1 := fun h => by simp [reachZ, h, alnum, hd, hl]
      have long1 : isSg (byteAt z i) = false → longest l z i = 1 := fun h => by rw [longest, reach1 h]; simp [longF]
      by_cases h40 : byteAt z i = 40
      · rw [if_pos h40, long1 (isSg_no hr (.inr (.inr (.inl h40)))), kd 1 (by omega) (by omega), if_pos (byte_one (size_ext (by omega)) (by rw [b0 1 (by omega) (by omega)]; exact h40))]
      · rw [if_neg h40]
        by_cases h41 : byteAt z i = 41
        · rw [if_pos h41, long1 (isSg_no hr (.inr (.inr (.inr h41)))), kd 1 (by omega) (by omega), if_neg (byte_ne (by rw [b0 1 (by omega) (by omega)]; exact h40)), if_pos (byte_one (size_ext (by omega)) (by rw [b0 1 (by omega) (by omega)]; exact h41))]
        · rw [if_neg h41]
          have kd' : ∀ n, 1 ≤ n → i + n ≤ z.size → kindZ l (z.extract i (i + n)) = if textHas l (z.extract i (i + n)) then 3 else 6 := by
            intro n h1 h2
            rw [kd n h1 h2, if_neg (byte_ne (by rw [b0 n h1 h2]; exact h40)), if_neg (byte_ne (by rw [b0 n h1 h2]; exact h41))]
          cases hsg : isSg (byteAt z i) with
          | true =>
            have hN : reachZ z i = if z.size - i < 16 then z.size - i else 16 := by simp [reachZ, hsg]
            have hrl := reachZ_le z i hi
            unfold longest
            rw [← hN]
            obtain ⟨N, hN2⟩ : ∃ N, reachZ z i = N + 1 := ⟨reachZ z i - 1, by omega⟩
            rw [hN2]
            exact opFront_long kd' N (by omega)
          | false =>
            rw [long1 hsg, kd' 1 (by omega) (by omega), textHas_no hok (by rw [size_ext (by omega)]; omega) (by rw [b0 1 (by omega) (by omega)]; exact hsg)]
            refine opFront_none _ fun k hk => ?_
            have hk2 : k ≤ z.size - i := by split at hk <;> omega
            rw [extract_extract0 z i k (by omega)]
            cases k with
            | zero => exact textHas_none hok (by rw [size_ext (by omega)])
            | succ k => exact textHas_no hok (by rw [size_ext (by omega)]; omega) (by rw [b0 _ (by omega) (by omega)]; exact hsg)
end Go.Proofs.Ytcnmgfbafcnkhaa.V
/- Contracts: the program's index of a table. -/
namespace Go.Proofs.Ytcnmgfbafcnkhaa.V
open Go.RowKit
open Go.Maps (Keyed)
set_option linter.unusedVariables false
set_option linter.unusedSimpArgs false
set_option linter.constructorNameAsVariable false
def AtIs (l : List POp) (i : Nat) (es : List (Value × Value)) : Prop := (∀ j, j < i → (mget es (placeV (opAt l j))).isSome = true) ∧ ∀ x v, mget es x = some v → ∃ j, j < i ∧ x = placeV (opAt l j) ∧ v = opV (opAt l j)
def TextIs (l : List POp) (i : Nat) (es : List (Value × Value)) : Prop := (∀ j, j < i → (mget es (.string (opAt l j).text)).isSome = true) ∧ ∀ x v, mget es x = some v → (∃ j, j < i ∧ x = .string (opAt l j).text) ∧ ∃ n, v = .int .i64 n
theorem atIs_step {l : List POp} {i : Nat} {es : List (Value × Value)} (h : AtIs l i es) : AtIs l (i + 1) (mput es (placeV (opAt l i)) (opV (opAt l i))) := by
  refine ⟨fun j hj => ?_, fun x v hv => ?_⟩
  · rw [mget_mput]
    split
    · rfl
    · rename_i hne
      rcases Nat.lt_succ_iff_lt_or_eq.mp hj with hj | rfl
      · exact h.1 j hj
      · exact absurd rfl hne
  · rw [mget_mput] at hv
    split at hv
    · rename_i e
      cases hv
      exact ⟨i, by omega, e.symm, rfl⟩
    · obtain ⟨j, hj, e⟩ := h.2 x v hv
      exact ⟨j, by omega, e⟩
theorem textIs_step {l : List POp} {i : Nat} {es : List (Value × Value)} (h : TextIs l i es) (n : Int) : TextIs l (i + 1) (mput es (.string (opAt l i).text) (.int .i64 n)) := by
  refine ⟨fun j hj => ?_, fun x v hv => ?_⟩
  · rw [mget_mput]
    split
    · rfl
    · rename_i hne
      rcases Nat.lt_succ_iff_lt_or_eq.mp hj with hj | rfl
      · exact h.1 j hj
      · exact absurd rfl hne
  · rw [mget_mput] at hv
    split at hv
    · rename_i e
      cases hv
      exact ⟨⟨i, by omega, e.symm⟩, n, rfl⟩
    · obtain ⟨⟨j, hj, e⟩, m⟩ := h.2 x v hv
      exact ⟨⟨j, by omega, e⟩, m⟩
theorem c_indexOf (l : List POp) (hl : l.length ≤ 9223372036854775807) (hw : opsWf l) : VProc Try.prog 32 [.agg [.sl 4 l.length (opCells l)]] [] [] (fun av mem maps => ∃ b1 b2 e1 e2, av = .agg [.lit (.map (some b1)), .lit (.map (some b2))] ∧ mem = [] ∧ maps = [(b2, ⟨9, e2⟩), (b1, ⟨115, e1⟩)] ∧ b1 ≠ b2 ∧ AtIs l l.length e1 ∧ TextIs l l.length e2) := by
  have cl : ∀ (i : Nat) (c : AV), i < l.length → c ∈ opCells l i → Closed c := fun i c _ h => opClosed l i c h
  refine vproc_start Try.func32 (by kernel_rfl) rfl (by simp [Try.ntmps32]) ?_; simp only [Try.ntmps32, Try.results32]; simp [go_sem]
  refine fun b1 b2 hb => ⟨by omega, ?_⟩
  have hb' : ¬ b2 = b1 := fun e => hb e.symm
  refine vc_loop (fun p : Nat × List (Value × Value) × List (Value × Value) => p.1 ≤ l.length ∧ AtIs l p.1 p.2.1 ∧ TextIs l p.1 p.2.2) (fun p => l.length - p.1)
    (fun p => ⟨[(2, .ptr 1 2 0 0), (3, .ptr 2 2 0 0), (10, .sl 4 l.length (opCells l)), (11, .lit (.int .i64 l.length)), (12, .lit (.int .i64 p.1))],
      [none, some ⟨67, 2, 1, fun _ => [.lit (.map none), .lit (.map none)]⟩, some ⟨67, 2, 1, fun _ => [.lit (.map (some b1)), .lit (.map (some b2))]⟩], [(b2, ⟨9, p.2.2⟩), (b1, ⟨115, p.2.1⟩)], 0⟩) ⟨(0, [], []), ⟨by omega, ⟨by simp, by simp [mget]⟩, by simp, by simp [mget]⟩, ?_⟩ (fun p hp => ?_)
  · simp [go_sem]
    exact ⟨fun e => hb e.symm, cl⟩
  · obtain ⟨i, e1, e2⟩ := p
    simp only at hp
    simp [go_sem, opCells_at]
    refine ⟨fun h => ⟨h, vc_drawn [5] (.q 0 <| .q 1 <| .q 2 <| .q 4 <| .or 3 (.or 5 (.done) (.nil)) (.nil)) (by kernel_rfl) ?_⟩, fun h => ?_⟩
    · simp [go_sem]
      refine vcallV_val (c_placeOf (opAt l i)) ?_ ?_ ?_
      · simp [go_sem, POp.cells]
      · simp [go_sem]
      · simp [go_sem, hb, hb']
        refine vmsetK_use keyedPlace (keyPlace (hw i h)) ?_
        simp [go_sem, hb, hb']
        simp only [placeV_fold, opV_fold]
        refine vlookK_use keyedString (keyString (hw i h)) _ zeroInt ?_
        have fin : ∀ n : Int, ∃ j es1 es2, (j ≤ l.length ∧ AtIs l j es1 ∧ TextIs l j es2) ∧ l.length - j < l.length - i ∧ (mput e2 (.string (opAt l i).text) (.int .i64 n) = es2 ∧ mput e1 (placeV (opAt l i)) (opV (opAt l i)) = es1) ∧ ((∀ (i : Nat) (c : AV), i < l.length → c ∈ opCells l i → Closed c) ∧ IntKind.i64.wrap ((i : Int) + 1) = j) := fun n =>
          ⟨i + 1, _, _, ⟨by omega, atIs_step hp.2.1, textIs_step hp.2.2 n⟩, by omega, ⟨rfl, rfl⟩, cl, wrap_succ (by omega)⟩
        cases hm : mget e2 (.string (opAt l i).text) with
        | none =>
          simp [go_sem, hb, hb']
          refine vmsetK_use keyedString (keyString (hw i h)) ?_
          simp [go_sem, hb, hb']
          exact fin _
        | some v =>
          obtain ⟨_, n, rfl⟩ := hp.2.2.2 _ _ hm
          simp [go_sem, hb, hb']
          refine vmsetK_use keyedString (keyString (hw i h)) ?_
          simp [go_sem, hb, hb']
          exact fin _
    · have hi : i = l.length := by omega
      subst hi
      refine ⟨rfl, [], [], by simp, by simp, by simp [go_sem], by simp [go_sem], by simp [go_sem], ?_⟩
      simp [go_sem]
      exact ⟨b1, b2, ⟨rfl, rfl⟩, e1, e2, ⟨⟨rfl, rfl⟩, rfl, rfl⟩, hb, hp.2⟩
/-! what stands in front of a text -/
theorem textIs_has {l : List POp} {es : List (Value × Value)} (h : TextIs l l.length es) (z : ByteArray) : (mget es (.string z)).isSome = textHas l z := by
  cases e : textHas l z with
  | true =>
    simp only [textHas, List.any_eq_true, List.mem_range, decide_eq_true_eq] at e
    obtain ⟨j, hj, rfl⟩ := e
    exact h.1 j hj
  | false =>
    rw [Bool.eq_false_iff]
    intro h1
    obtain ⟨v, hv⟩ := Option.isSome_iff_exists.1 h1
    obtain ⟨⟨j, hj, e2⟩, _⟩ := h.2 _ v hv
    simp only [textHas, List.any_eq_false, List.mem_range, decide_eq_true_eq] at e
    simp only [Value.string.injEq] at e2
    exact e j hj e2.symm
theorem c_front (l : List POp) (b1 b2 : Nat) (es e1 : List (Value × Value)) (h : TextIs l l.length es) (hb : ¬ b1 = b2) (z : ByteArray) (hz : 0 < z.size ∧ z.size ≤ 1048576) : VProc Try.prog 33 [.agg [.lit (.map (some b1)), .lit (.map (some b2))], .lit (.string z)] [] [(b2, ⟨9, es⟩)] (fun av mem maps => av = .tup [.lit (.int .i64 (front l z).1), .lit (.int .i64 (front l z).2)] ∧ mem = [] ∧ maps = [(b2, ⟨9, es⟩)]) := by
  refine vproc_start Try.func33 (by kernel_rfl) rfl (by simp [Try.ntmps33]) ?_; simp only [Try.ntmps33, Try.results33]; simp [go_sem]
  have fin : ∀ (t : List (Nat × AV)) (m : List (Option Ob)) (k : Int) (n : Nat), front l z = (k, n) → vendP [(b2, ⟨9, es⟩)] (fun av mem maps => av = .tup [.lit (.int .i64 (front l z).1), .lit (.int .i64 (front l z).2)] ∧ mem = [] ∧ maps = [(b2, ⟨9, es⟩)]) ⟨t, m, [(b2, ⟨9, es⟩)], 0⟩ (.tup [.lit (.int .i64 k), .lit (.int .i64 n)]) := by
    intro t m k n h3
    refine ⟨rfl, [], [], by simp, by simp, by simp [go_sem], by simp [go_sem], by simp [go_sem], ?_⟩
    simp [go_sem, h3]
  refine ⟨hz.1, vcall_pure (c_isDigit (byteAt z 0)) ?_ ?_⟩
  · simp [go_sem]
  · simp [go_sem]
    refine ⟨fun e1 => ?_, fun e1 => vcall_pure (c_isLetter (byteAt z 0)) ?_ ?_⟩
    · refine vc_loop (fun n : Nat => 1 ≤ n ∧ n ≤ z.size ∧ 1 + run isDg z 1 = n + run isDg z n) (fun n => z.size - n) (fun n => ⟨[(1, .lit (.string z)), (6, .lit (.int .i64 n))], [], [(b2, ⟨9, es⟩)], 0⟩) ⟨1, ⟨by omega, by omega, rfl⟩, ?_⟩ (fun n hn => ?_)
      · simp [go_sem]
      · simp [go_sem]
        refine ⟨fun h1 => ⟨h1, vcall_pure (c_isDigit (byteAt z n)) ?_ ?_⟩, fun h1 => ?_⟩
        · simp [go_sem]
        · simp [go_sem]
          refine ⟨fun e => ⟨n + 1, ⟨by omega, by omega, ?_⟩, by omega, wrap_succ (by omega)⟩, fun e => fin _ _ _ _ ?_⟩
          · rw [hn.2.2, run_yes h1 e]; omega
          · simp only [front, e1, if_true, hn.2.2, run_no h1 e]; rfl
        · refine fin _ _ _ _ ?_
          simp only [front, e1, if_true, hn.2.2, run_end (show z.size ≤ n by omega)]; rfl
    · simp [go_sem]
    · simp [go_sem]
      refine ⟨fun e2 => ?_, fun e2 => ⟨fun e3 => fin _ _ _ 1 ?_, fun e3 => ⟨fun e4 => fin _ _ _ 1 ?_, fun e4 => ?_⟩⟩⟩
      · refine vc_loop (fun n : Nat => 1 ≤ n ∧ n ≤ z.size ∧ 1 + run alnum z 1 = n + run alnum z n) (fun n => z.size - n) (fun n => ⟨[(1, .lit (.string z)), (6, .lit (.int .i64 n))], [], [(b2, ⟨9, es⟩)], 0⟩) ⟨1, ⟨by omega, by omega, rfl⟩, ?_⟩ (fun n hn => ?_)
        · simp [go_sem]
        · simp [go_sem]
          have done_ : n < z.size → alnum (byteAt z n) = true → ∃ m : Nat, (1 ≤ m ∧ m ≤ z.size ∧ 1 + run alnum z 1 = m + run alnum z m) ∧ z.size - m < z.size - n ∧ IntKind.i64.wrap ((n : Int) + 1) = m := fun h1 e => ⟨n + 1, ⟨by omega, by omega, by rw [hn.2.2, run_yes h1 e]; omega⟩, by omega, wrap_succ (by omega)⟩
          refine ⟨fun h1 => ⟨h1, vcall_pure (c_isLetter (byteAt z n)) ?_ ?_⟩, fun h1 => ?_⟩
          · simp [go_sem]
          · cases eL : isLt (byteAt z n) with
            | true =>
              simp [go_sem]
              exact done_ h1 (by simp [alnum, eL])
            | false =>
              simp [go_sem]
              refine ⟨h1, vcall_pure (c_isDigit (byteAt z n)) ?_ ?_⟩
              · simp [go_sem]
              · simp [go_sem]
                refine ⟨fun e => done_ h1 (by simp [alnum, e]), fun e => fin _ _ _ _ ?_⟩
                simp only [front, e1, e2, if_true, hn.2.2, run_no h1 (show alnum (byteAt z n) = false by simp [alnum, eL, e])]; rfl
          · refine fin _ _ _ _ ?_
            simp only [front, e1, e2, if_true, hn.2.2, run_end (show z.size ≤ n by omega)]; rfl
      · simp only [front, e1, e2, e3]; rfl
      · simp only [front, e1, e2, e3, e4]; rfl
      · have hf : ∀ k : Nat, opFront l z (if z.size < 16 then z.size else 16) = opFront l z k → front l z = opFront l z k := fun k hk => by
          simp only [front, e1, e2, if_neg e3, if_neg e4, hk]; rfl
        refine vc_loop (fun k : Nat => k ≤ z.size ∧ opFront l z (if z.size < 16 then z.size else 16) = opFront l z k) (fun k => k) (fun k => ⟨[(1, .lit (.string z)), (2, .ptr 0 2 0 0), (8, .lit (.int .i64 k))], [some ⟨67, 2, 1, fun _ => [.lit (.map (some b1)), .lit (.map (some b2))]⟩], [(b2, ⟨9, es⟩)], 0⟩) ⟨_, ⟨?_, rfl⟩, ?_⟩ (fun k hk => ?_)
        · split <;> omega
        · simp [go_sem]
          split <;> split <;> omega
        · simp [go_sem]
          refine ⟨fun h1 => vc_drawn [] (.q 0 <| .q 1 <| .q 2 <| .q 3 <| .q 4 <| .q 5 <| .q 6 <| .q 7 <| .q 8 <| .q 9 <| .q 10 <| .done) (by kernel_rfl) ?_, fun h1 => ?_⟩
          · simp [go_sem]
            refine ⟨hk.1, ?_⟩
            refine vlookK_use keyedString (keyString (by rw [ByteArray.size_extract]; simp only [maxLen]; omega)) _ zeroInt ?_
            simp [go_sem, textIs_has h]
            obtain ⟨m, rfl⟩ : ∃ m, k = m + 1 := ⟨k - 1, by omega⟩
            cases ht : textHas l (z.extract 0 (m + 1)) with
            | true =>
              simp [go_sem]
              refine fin _ _ 3 (m + 1) ?_
              rw [hf _ hk.2]
              simp only [opFront, ht, if_true]
            | false =>
              simp [go_sem]
              refine ⟨m, ⟨by omega, ?_⟩, by omega, wrap_i64 (by omega)⟩
              rw [hk.2]
              simp only [opFront, ht]
              rfl
          · subst h1
            refine fin _ _ 6 1 ?_
            rw [hf _ hk.2]; rfl
end Go.Proofs.Ytcnmgfbafcnkhaa.V
/- Contracts: numbers compared, marked, read again. -/
namespace Go.Proofs.Ytcnmgfbafcnkhaa.V
open Go.RowKit
set_option linter.unusedVariables false
set_option linter.unusedSimpArgs false
set_option linter.constructorNameAsVariable false
def intAt (l : List Int) (i : Nat) : Int := l.getD i 0
def intCells (l : List Int) (i : Nat) : List AV := [.lit (.int .i64 (intAt l i))]
theorem intCells_at (l : List Int) (i : Nat) : intCells l i = [.lit (.int .i64 (intAt l i))] := rfl
theorem intClosed (l : List Int) (i : Nat) (c : AV) (h : c ∈ intCells l i) : Closed c := by
  simp [intCells] at h
  subst h
  exact .lit _
def intsEq (a b : List Int) : Bool := decide (a.length = b.length) && (List.range a.length).all fun i => intAt a i == intAt b i
theorem intsEq_false {a b : List Int} {i : Nat} (h : i < a.length) (e : ¬ intAt a i = intAt b i) : intsEq a b = false := by
  simp only [intsEq, Bool.and_eq_false_iff, List.all_eq_false, List.mem_range]
  exact .inr ⟨i, h, by simpa using e⟩
theorem intsEq_true {a b : List Int} (hl : a.length = b.length) (h : ∀ i, i < a.length → intAt a i = intAt b i) : intsEq a b = true := by
  simp only [intsEq, Bool.and_eq_true, decide_eq_true_eq, List.all_eq_true, List.mem_range, beq_iff_eq]
  exact ⟨hl, h⟩
theorem intsEq_refl (a : List Int) : intsEq a a = true := intsEq_true rfl fun i _ => rfl
/-! marks -/
def markI (k i : Nat) : List AV := [.lit (.int .i64 (k + i : Nat))]
theorem markI_at (k i : Nat) : markI k i = [.lit (.int .i64 (k + i : Nat))] := rfl
theorem markIClosed (k i : Nat) (c : AV) (h : c ∈ markI k i) : Closed c := by
  simp [markI] at h
  subst h
  exact .lit _
def markIFill (l : List Int) (k i j : Nat) : List AV := if j < i then markI k j else intCells l j
theorem markIFill_bd (l : List Int) (k i j m : Nat) : ∀ c, c ∈ markIFill l k i j → Bd m c := by
  intro c h
  unfold markIFill at h
  split at h
  · exact .closed _ (markIClosed k j c h)
  · exact .closed _ (intClosed l j c h)
@[go_sem] theorem markI_ren {g : Nat → Nat} {k i : Nat} : (markI k i).map (ren1 g) = markI k i := map_lits rfl
@[go_sem] theorem intCells_ren {g : Nat → Nat} {l : List Int} {i : Nat} : (intCells l i).map (ren1 g) = intCells l i := map_lits rfl
end Go.Proofs.Ytcnmgfbafcnkhaa.V
/- Contracts: what tokens do, by the specification. -/
namespace Go.Proofs.Ytcnmgfbafcnkhaa.V
open Go.RowKit
set_option linter.unusedVariables false
set_option linter.unusedSimpArgs false
set_option linter.constructorNameAsVariable false
/-- behind an operand, in front of token i -/
def stAt (l : List POp) (t : List PTok) : Nat → Bool
  | 0 => false
  | i + 1 => decide ((tokAt t i).kind = 1) || decide ((tokAt t i).kind = 2) || decide ((tokAt t i).kind = 5) || (decide ((tokAt t i).kind = 3) && stAt l t i && opHas l (tokAt t i).text 3)
/-- brackets that are open in front of token i -/
def openAt (t : List PTok) : Nat → Int
  | 0 => 0
  | i + 1 => openAt t i + (if (tokAt t i).kind = 4 then 1 else 0) - (if (tokAt t i).kind = 5 then 1 else 0)
theorem openAt_le (t : List PTok) : ∀ i : Nat, -(i : Int) ≤ openAt t i ∧ openAt t i ≤ i
  | 0 => by simp [openAt]
  | i + 1 => by
    have := openAt_le t i
    simp only [openAt]
    split <;> split <;> omega
def roleAt (l : List POp) (t : List PTok) (i : Nat) (b : Bool) : Int :=
  if b = false then
    if (tokAt t i).kind = 1 ∨ (tokAt t i).kind = 2 ∨ (tokAt t i).kind = 4 then 0
    else if (tokAt t i).kind = 3 ∧ opHas l (tokAt t i).text 1 = true then 1 else -1
  else if (tokAt t i).kind = 3 ∧ opHas l (tokAt t i).text 2 = true then 2
  else if (tokAt t i).kind = 3 ∧ opHas l (tokAt t i).text 3 = true then 3
  else if (tokAt t i).kind = 5 ∧ 0 < openAt t i then 0
  else if (tokAt t i).kind = 7 ∧ openAt t i = 0 ∧ i + 1 = t.length then 0 else -1
def rolesUp (l : List POp) (t : List PTok) (n : Nat) : List Int := (List.range n).map fun i => roleAt l t i (stAt l t i)
def boolCells (f : Nat → Bool) (i : Nat) : List AV := [.lit (.bool (f i))]
theorem boolCells_at (f : Nat → Bool) (i : Nat) : boolCells f i = [.lit (.bool (f i))] := rfl
theorem boolClosed (f : Nat → Bool) (i : Nat) (c : AV) (h : c ∈ boolCells f i) : Closed c := by
  simp [boolCells] at h
  subst h
  exact .lit _
@[go_sem] theorem boolOne (f : Nat → Bool) (i : Nat) : (boolCells f i).all oneAV = true := rfl
theorem c_l2Open (t : List PTok) (ht : t.length ≤ 9223372036854775807) (n : Nat) (hn : n ≤ t.length) (hn2 : n ≤ 1048576) : VFun Try.prog 65 [.sl 3 t.length (tokCells t), .lit (.int .i64 n)] (fun av obs => obs = [] ∧ av = .lit (.int .i64 (openAt t n))) := by
  have cl : ∀ (i : Nat) (c : AV), i < t.length → c ∈ tokCells t i → Closed c := fun i c _ h => tokClosed t i c h
  refine vfun_start Try.func65 (by kernel_rfl) rfl (by simp [Try.ntmps65]) ?_; simp only [Try.ntmps65, Try.results65]; simp [go_sem]
  refine vc_loop (fun i : Nat => i ≤ n) (fun i => n - i) (fun i => .of [(0, .sl 3 t.length (tokCells t)), (1, .lit (.int .i64 n)), (5, .lit (.int .i64 (openAt t i))), (6, .lit (.int .i64 i))] []) ⟨0, by omega, ?_⟩ (fun i hi => ?_)
  · simp [go_sem, openAt]
    exact cl
  · have ho := openAt_le t i
    have cl2 : ∀ (i : Nat) (c : AV), i < t.length → c = AV.lit (Value.int IntKind.i64 (tokAt t i).kind) ∨ c = AV.lit (Value.string (tokAt t i).gap) ∨ c = AV.lit (Value.string (tokAt t i).text) → Closed c := by
      rintro i c _ (rfl | rfl | rfl) <;> exact .lit _
    simp [go_sem, tokCells_at]
    refine ⟨fun h => ⟨by omega, fun e4 => ⟨by omega, fun e5 => by omega, fun e5 => ⟨i + 1, by omega, by omega, cl2, ?_, wrap_succ (by omega)⟩⟩, fun e4 => ⟨by omega, fun e5 => ⟨i + 1, by omega, by omega, cl2, ?_, wrap_succ (by omega)⟩, fun e5 => ⟨i + 1, by omega, by omega, cl2, ?_, wrap_succ (by omega)⟩⟩⟩, fun h => ?_⟩
    · rw [wrap_i64 (by omega)]; simp only [openAt, if_pos e4, if_neg e5]; omega
    · rw [wrap_i64 (by omega)]; simp only [openAt, if_neg e4, if_pos e5]; omega
    · simp only [openAt, if_neg e4, if_neg e5]; omega
    · have : i = n := by omega
      rw [this]
theorem c_l2States (l : List POp) (hl : l.length ≤ 9223372036854775807) (t : List PTok) (ht : t.length ≤ 1048576) : VFun Try.prog 34 [.agg [.sl 4 l.length (opCells l)], .sl 3 t.length (tokCells t)] (fun av obs => av = .own 0 ∧ obs = [⟨4, 1, t.length + 1, boolCells (stAt l t)⟩]) := by
  have cl : ∀ (i : Nat) (c : AV), i < l.length → c ∈ opCells l i → Closed c := fun i c _ h => opClosed l i c h
  have clt : ∀ (i : Nat) (c : AV), i < t.length → c ∈ tokCells t i → Closed c := fun i c _ h => tokClosed t i c h
  refine vfun_start Try.func34 (by kernel_rfl) rfl (by simp [Try.ntmps34]) ?_; simp only [Try.ntmps34, Try.results34]; simp [go_sem]
  refine vc_loopE (fun i : Nat => i ≤ t.length) (fun i => t.length - i) (fun i => .of [(1, .sl 3 t.length (tokCells t)), (2, .ptr 0 1 0 0), (5, .own 1), (6, .lit (.int .i64 i))] [some ⟨25, 1, 1, fun _ => [.sl 4 l.length (opCells l)]⟩, some ⟨4, 1, i + 1, boolCells (stAt l t)⟩]) ⟨0, by omega, ?_⟩ (fun i hi => ?_)
  · refine ent_ks [0, 1] (by simp) (by simp) (by simp) (by simp) trivial ?_ ?_
    · simp [go_sem]
      exact clt
    · simp [go_sem]
      exact ⟨cl, .inl ⟨rfl, boolClosed _ _⟩⟩
  · have cl2 : ∀ (i : Nat) (c : AV), i < t.length → c = AV.lit (Value.int IntKind.i64 (tokAt t i).kind) ∨ c = AV.lit (Value.string (tokAt t i).gap) ∨ c = AV.lit (Value.string (tokAt t i).text) → Closed c := by
      rintro i c _ (rfl | rfl | rfl) <;> exact .lit _
    have hst : ∀ v, stAt l t (i + 1) = v → ∀ j, j < i + 1 + 1 → joinF (i + 1) (boolCells (stAt l t)) (fun q => [[AV.lit (.bool v)]][q]?.getD []) j = boolCells (stAt l t) j := fun v hv j hj => by
      unfold joinF
      split
      · rfl
      · have e : j = i + 1 := by omega
        subst e
        simp [boolCells, hv]
    by_cases h : i < t.length
    · by_cases k1 : (tokAt t i).kind = 1
      · have hv : stAt l t (i + 1) = true := by simp [stAt, k1]
        simp [go_sem, tokCells_at, h, k1]
        refine ⟨by omega, vc_drawn [] (.q 0 <| .q 1 <| .q 2 <| .q 3 <| .q 4 <| .q 5 <| .q 6 <| .q 7 <| .q 8 <| .q 9 <| .q 10 <| .q 11 <| .q 12 <| .q 13 <| .q 14 <| .or 15 (.q 16 <| .q 17 <| .done) (.nil)) (by kernel_rfl) ?_⟩
        simp [go_sem, k1]
        refine ⟨by omega, by omega, i + 1, by omega, by omega, ?_⟩
        refine ent_ks [0, 3] (by simp) (by simp) (by simp) (by simp) trivial ?_ ?_
        · simp [go_sem]
          exact ⟨clt, wrap_succ (by omega)⟩
        · simp [go_sem]
          exact ⟨cl, .inl fun j hj => ⟨hst true hv j hj, boolClosed _ _⟩⟩
      · by_cases k2 : (tokAt t i).kind = 2
        · have hv : stAt l t (i + 1) = true := by simp [stAt, k2]
          simp [go_sem, tokCells_at, h, k2]
          refine ⟨by omega, vc_drawn [] (.q 0 <| .q 1 <| .q 2 <| .q 3 <| .q 4 <| .q 5 <| .q 6 <| .q 7 <| .q 8 <| .q 9 <| .q 10 <| .q 11 <| .q 12 <| .q 13 <| .q 14 <| .or 15 (.q 16 <| .q 17 <| .done) (.nil)) (by kernel_rfl) ?_⟩
          simp [go_sem, k2]
          refine ⟨by omega, by omega, i + 1, by omega, by omega, ?_⟩
          refine ent_ks [0, 3] (by simp) (by simp) (by simp) (by simp) trivial ?_ ?_
          · simp [go_sem]
            exact ⟨clt, wrap_succ (by omega)⟩
          · simp [go_sem]
            exact ⟨cl, .inl fun j hj => ⟨hst true hv j hj, boolClosed _ _⟩⟩
        · by_cases k5 : (tokAt t i).kind = 5
          · have hv : stAt l t (i + 1) = true := by simp [stAt, k5]
            simp [go_sem, tokCells_at, h, k5]
            refine ⟨by omega, vc_drawn [] (.q 0 <| .q 1 <| .q 2 <| .q 3 <| .q 4 <| .q 5 <| .q 6 <| .q 7 <| .q 8 <| .q 9 <| .q 10 <| .q 11 <| .q 12 <| .q 13 <| .q 14 <| .or 15 (.q 16 <| .q 17 <| .done) (.nil)) (by kernel_rfl) ?_⟩
            simp [go_sem, k5]
            refine ⟨by omega, by omega, i + 1, by omega, by omega, ?_⟩
            refine ent_ks [0, 3] (by simp) (by simp) (by simp) (by simp) trivial ?_ ?_
            · simp [go_sem]
              exact ⟨clt, wrap_succ (by omega)⟩
            · simp [go_sem]
              exact ⟨cl, .inl fun j hj => ⟨hst true hv j hj, boolClosed _ _⟩⟩
          · by_cases k3 : (tokAt t i).kind = 3
            · cases hb : stAt l t i with
              | false =>
                have hv : stAt l t (i + 1) = false := by simp [stAt, k3, hb]
                simp [go_sem, tokCells_at, h, k3, boolCells_at, hb]
                refine ⟨by omega, vc_drawn [] (.q 0 <| .q 1 <| .q 2 <| .q 3 <| .q 4 <| .q 5 <| .q 6 <| .q 7 <| .q 8 <| .q 9 <| .q 10 <| .q 11 <| .q 12 <| .q 13 <| .q 14 <| .or 15 (.q 16 <| .q 17 <| .done) (.nil)) (by kernel_rfl) ?_⟩
                simp [go_sem, k3, boolCells_at, hb]
                refine ⟨by omega, by omega, by omega, i + 1, by omega, by omega, ?_⟩
                refine ent_ks [0, 3] (by simp) (by simp) (by simp) (by simp) trivial ?_ ?_
                · simp [go_sem]
                  exact ⟨clt, wrap_succ (by omega)⟩
                · simp [go_sem]
                  exact ⟨cl, .inl fun j hj => ⟨hst false hv j hj, boolClosed _ _⟩⟩
              | true =>
                simp [go_sem, tokCells_at, h, k3, boolCells_at, hb]
                refine ⟨by omega, vc_drawn [] (.q 0 <| .q 1 <| .q 2 <| .q 3 <| .q 4 <| .q 5 <| .q 6 <| .q 7 <| .q 8 <| .q 9 <| .q 10 <| .q 11 <| .q 12 <| .q 13 <| .q 14 <| .or 15 (.q 16 <| .q 17 <| .done) (.nil)) (by kernel_rfl) ?_⟩
                simp [go_sem, tokCells_at, k3, boolCells_at, hb]
                refine ⟨by omega, h, vcallV_use (c_l2Find l hl (tokAt t i).text 3) ?_ ?_⟩
                · simp [go_sem]
                  exact argSl_refl (by omega) cl
                · rintro av obs ⟨rfl, r, rfl, hr⟩
                  simp [go_sem]
                  refine ⟨fun e1 => ?_, fun e1 => ?_⟩
                  · have ho : opHas l (tokAt t i).text 3 = true := hr.1 e1
                    have hv : stAt l t (i + 1) = true := by simp [stAt, k3, hb, ho]
                    refine ⟨by omega, by omega, i + 1, by omega, by omega, ?_⟩
                    refine ent_ks [0, 3] (by simp) (by simp) (by simp) (by simp) trivial ?_ ?_
                    · simp [go_sem]
                      exact ⟨clt, wrap_succ (by omega)⟩
                    · simp [go_sem]
                      exact ⟨cl, .inl fun j hj => ⟨hst true hv j hj, boolClosed _ _⟩⟩
                  · have ho : opHas l (tokAt t i).text 3 = false := by
                      rw [Bool.eq_false_iff]
                      exact fun e2 => absurd (hr.2 e2) (by omega)
                    have hv : stAt l t (i + 1) = false := by simp [stAt, k3, hb, ho]
                    refine ⟨by omega, by omega, i + 1, by omega, by omega, ?_⟩
                    refine ent_ks [0, 3] (by simp) (by simp) (by simp) (by simp) trivial ?_ ?_
                    · simp [go_sem]
                      exact ⟨clt, wrap_succ (by omega)⟩
                    · simp [go_sem]
                      exact ⟨cl, .inl fun j hj => ⟨hst false hv j hj, boolClosed _ _⟩⟩
            · have hv : stAt l t (i + 1) = false := by simp [stAt, k1, k2, k3, k5]
              have q1 : ((tokAt t i).kind == 1) = false := by simpa using k1
              have q2 : ((tokAt t i).kind == 2) = false := by simpa using k2
              have q3 : ((tokAt t i).kind == 3) = false := by simpa using k3
              have q5 : ((tokAt t i).kind == 5) = false := by simpa using k5
              simp [go_sem, tokCells_at, h, q1, q2, q3, q5]
              refine ⟨by omega, vc_drawn [] (.q 0 <| .q 1 <| .q 2 <| .q 3 <| .q 4 <| .q 5 <| .q 6 <| .q 7 <| .q 8 <| .q 9 <| .q 10 <| .q 11 <| .q 12 <| .q 13 <| .q 14 <| .or 15 (.q 16 <| .q 17 <| .done) (.nil)) (by kernel_rfl) ?_⟩
              simp [go_sem, q1, q2, q3, q5]
              refine ⟨by omega, by omega, i + 1, by omega, by omega, ?_⟩
              refine ent_ks [0, 3] (by simp) (by simp) (by simp) (by simp) trivial ?_ ?_
              · simp [go_sem]
                exact ⟨clt, wrap_succ (by omega)⟩
              · simp [go_sem]
                exact ⟨cl, .inl fun j hj => ⟨hst false hv j hj, boolClosed _ _⟩⟩
    · have e : i = t.length := by omega
      simp [go_sem, h]
      refine ⟨by omega, ?_⟩
      rw [e]
      exact obsSame_one.mpr ⟨_, ⟨rfl, rfl, rfl, fun j hj => ⟨rfl, rfl⟩⟩, rfl⟩
theorem c_l2Role (l : List POp) (hl : l.length ≤ 9223372036854775807) (t : List PTok) (ht : t.length ≤ 1048576) (i : Nat) (hi : i < t.length) (b : Bool) : VFun Try.prog 35 [.agg [.sl 4 l.length (opCells l)], .sl 3 t.length (tokCells t), .lit (.int .i64 i), .lit (.bool b)] (fun av obs => obs = [] ∧ av = .lit (.int .i64 (roleAt l t i b))) := by
  have cl : ∀ (i : Nat) (c : AV), i < l.length → c ∈ opCells l i → Closed c := fun i c _ h => opClosed l i c h
  have clt : ∀ (i : Nat) (c : AV), i < t.length → c ∈ tokCells t i → Closed c := fun i c _ h => tokClosed t i c h
  have hopen := openAt_le t i
  refine vfun_start Try.func35 (by kernel_rfl) rfl (by simp [Try.ntmps35]) ?_; simp only [Try.ntmps35, Try.results35]; simp [go_sem]
  cases b with
  | false =>
    simp [go_sem, tokCells_at, hi]
    by_cases k1 : (tokAt t i).kind = 1
    · simp [go_sem, k1, roleAt]
    · by_cases k2 : (tokAt t i).kind = 2
      · simp [go_sem, k1, k2, roleAt]
      · by_cases k4 : (tokAt t i).kind = 4
        · simp [go_sem, k1, k2, k4, roleAt]
        · simp [go_sem, k1, k2, k4]
          refine vc_drawn [] (.q 0 <| .q 1 <| .q 2 <| .q 3 <| .q 4 <| .q 5 <| .q 6 <| .q 7 <| .q 8 <| .or 9 (.q 10 <| .q 11 <| .done) (.nil)) (by kernel_rfl) ?_
          by_cases k3 : (tokAt t i).kind = 3
          · simp [go_sem, tokCells_at, k3]
            refine ⟨hi, vcallV_use (c_l2Find l hl (tokAt t i).text 1) ?_ ?_⟩
            · simp [go_sem]
              exact argSl_refl (by omega) cl
            · rintro av obs ⟨rfl, r, rfl, hr⟩
              simp [go_sem]
              refine ⟨fun e1 => ?_, fun e1 => ?_⟩
              · have ho : opHas l (tokAt t i).text 1 = true := hr.1 e1
                simp [roleAt, k3, ho]
              · have ho : opHas l (tokAt t i).text 1 = false := by
                  rw [Bool.eq_false_iff]
                  exact fun e2 => absurd (hr.2 e2) (by omega)
                simp [roleAt, k3, ho]
          · have q3 : ((tokAt t i).kind == 3) = false := by simpa using k3
            simp [go_sem, q3]
            simp [roleAt, k1, k2, k3, k4]
  | true =>
    simp [go_sem, tokCells_at, hi]
    refine vc_drawn [] (.q 0 <| .q 1 <| .q 2 <| .q 3 <| .q 4 <| .q 5 <| .q 6 <| .q 7 <| .q 8 <| .or 9 (.q 10 <| .q 11 <| .done) (.nil)) (by kernel_rfl) ?_
    by_cases k3 : (tokAt t i).kind = 3
    · simp [go_sem, tokCells_at, k3]
      refine ⟨hi, vcallV_use (c_l2Find l hl (tokAt t i).text 2) ?_ ?_⟩
      · simp [go_sem]
        exact argSl_refl (by omega) cl
      · rintro av obs ⟨rfl, r, rfl, hr⟩
        simp [go_sem]
        refine ⟨fun e1 => ?_, fun e1 => ?_⟩
        · have ho : opHas l (tokAt t i).text 2 = true := hr.1 e1
          simp [roleAt, k3, ho]
        · have ho : opHas l (tokAt t i).text 2 = false := by
            rw [Bool.eq_false_iff]
            exact fun e2 => absurd (hr.2 e2) (by omega)
          refine vc_drawn [] (.q 0 <| .q 1 <| .q 2 <| .q 3 <| .q 4 <| .q 5 <| .q 6 <| .q 7 <| .q 8 <| .or 9 (.q 10 <| .q 11 <| .done) (.nil)) (by kernel_rfl) ?_
          simp [go_sem, tokCells_at, k3]
          refine ⟨hi, vcallV_use (c_l2Find l hl (tokAt t i).text 3) ?_ ?_⟩
          · simp [go_sem]
            exact argSl_refl (by omega) cl
          · rintro av obs ⟨rfl, r2, rfl, hr2⟩
            simp [go_sem]
            refine ⟨fun e2 => ?_, fun e2 => ?_⟩
            · have ho2 : opHas l (tokAt t i).text 3 = true := hr2.1 e2
              simp [roleAt, k3, ho, ho2]
            · have ho2 : opHas l (tokAt t i).text 3 = false := by
                rw [Bool.eq_false_iff]
                exact fun e3 => absurd (hr2.2 e3) (by omega)
              simp [roleAt, k3, ho, ho2]
    · have q3 : ((tokAt t i).kind == 3) = false := by simpa using k3
      simp [go_sem, q3]
      refine vc_drawn [] (.q 0 <| .q 1 <| .q 2 <| .q 3 <| .q 4 <| .q 5 <| .q 6 <| .q 7 <| .q 8 <| .or 9 (.q 10 <| .q 11 <| .done) (.nil)) (by kernel_rfl) ?_
      simp [go_sem, q3]
      by_cases k5 : (tokAt t i).kind = 5
      · simp [go_sem, k5]
        refine vcall_pure (c_l2Open t (by omega) i (by omega) (by omega)) ?_ ?_
        · simp [go_sem]
          exact argSl_refl (by omega) clt
        · simp [go_sem]
          refine ⟨fun e => by simp [roleAt, k5, e], fun e => ?_⟩
          have : ¬ 0 < openAt t i := by omega
          simp [roleAt, k5, this]
      · have q5 : ((tokAt t i).kind == 5) = false := by simpa using k5
        simp [go_sem, q5]
        by_cases k7 : (tokAt t i).kind = 7
        · simp [go_sem, k7]
          refine vcall_pure (c_l2Open t (by omega) i (by omega) (by omega)) ?_ ?_
          · simp [go_sem]
            exact argSl_refl (by omega) clt
          · simp [go_sem]
            rw [wrap_i64 (by omega)]
            refine ⟨fun e => ⟨by omega, fun e2 => ?_, fun e2 => ?_⟩, fun e => by simp [roleAt, k7, e]⟩
            · have : i + 1 = t.length := by omega
              simp [roleAt, k7, e, this]
            · have : ¬ i + 1 = t.length := by omega
              simp [roleAt, k7, e, this]
        · have q7 : ((tokAt t i).kind == 7) = false := by simpa using k7
          simp [go_sem, q7]
          simp [roleAt, k3, k5, k7]
/-- the first token that does not fit; the roles -/
def firstBad (l : List POp) (t : List PTok) : Option Nat := (List.range t.length).find? fun i => decide (roleAt l t i (stAt l t i) < 0)
def endsOk (t : List PTok) : Bool := decide (t.length ≠ 0) && decide ((tokAt t (t.length - 1)).kind = 7)
def rolesZ (l : List POp) (t : List PTok) : List Int × Int :=
  if tblOk l ≠ 0 then ([], 0) else match firstBad l t with
    | some i => ([], i)
    | none => if endsOk t then (rolesUp l t t.length, -1) else ([], t.length)
theorem firstBad_some {l : List POp} {t : List PTok} {i : Nat} (hi : i < t.length) (h : ∀ j, j < i → 0 ≤ roleAt l t j (stAt l t j)) (hb : roleAt l t i (stAt l t i) < 0) : firstBad l t = some i := by
  unfold firstBad
  rw [List.find?_range_eq_some]
  refine ⟨by simpa using hb, by simpa using hi, fun j hj => ?_⟩
  simpa using h j hj
theorem firstBad_none {l : List POp} {t : List PTok} (h : ∀ j, j < t.length → 0 ≤ roleAt l t j (stAt l t j)) : firstBad l t = none := by
  unfold firstBad
  rw [List.find?_eq_none]
  intro j hj
  have := h j (by simpa using hj)
  simp only [decide_eq_true_eq]
  omega
theorem rolesUp_succ (l : List POp) (t : List PTok) (n : Nat) : rolesUp l t (n + 1) = rolesUp l t n ++ [roleAt l t n (stAt l t n)] := by simp [rolesUp, List.range_succ]
theorem rolesUp_len (l : List POp) (t : List PTok) (n : Nat) : (rolesUp l t n).length = n := by simp [rolesUp]
theorem roleAt_range (l : List POp) (t : List PTok) (i : Nat) (b : Bool) : -1 ≤ roleAt l t i b ∧ roleAt l t i b ≤ 3 := by
  unfold roleAt
  split
  · split
    · omega
    · split <;> omega
  · split
    · omega
    · split
      · omega
      · split
        · omega
        · split <;> omega
theorem int_app1 (a : List Int) (x : Int) (i : Nat) (hi : i < a.length + 1) : joinF a.length (intCells a) (fun q => [[AV.lit (.int .i64 x)]][q]?.getD []) i = intCells (a ++ [x]) i := by
  unfold joinF
  split
  · rename_i h
    simp [intCells, intAt, List.getD_eq_getElem?_getD, List.getElem?_append_left h]
  · have e : i = a.length := by omega
    subst e
    simp [intCells, intAt, List.getD_eq_getElem?_getD]
@[go_sem] theorem intOne (a : List Int) (i : Nat) : (intCells a i).all oneAV = true := rfl
theorem c_specRoles (l : List POp) (hl : l.length ≤ 9223372036854775807) (hw : opsWf l) (t : List PTok) (ht : t.length ≤ 1048576) : VFun Try.prog 8 [.agg [.sl 4 l.length (opCells l)], .sl 3 t.length (tokCells t)] (fun av obs => av = .tup [.own 0, .lit (.int .i64 (rolesZ l t).2)] ∧ obs = [⟨3, 1, (rolesZ l t).1.length, intCells (rolesZ l t).1⟩]) := by
  have cl : ∀ (i : Nat) (c : AV), i < l.length → c ∈ opCells l i → Closed c := fun i c _ h => opClosed l i c h
  have clt : ∀ (i : Nat) (c : AV), i < t.length → c ∈ tokCells t i → Closed c := fun i c _ h => tokClosed t i c h
  refine vfun_start Try.func8 (by kernel_rfl) rfl (by simp [Try.ntmps8]) ?_; simp only [Try.ntmps8, Try.results8]; simp [go_sem]
  refine vcall_pure (c_specTableOk l hl hw) ?_ ?_
  · simp [go_sem]
    exact argSl_refl (by omega) cl
  · simp [go_sem]
    have none_ : ∀ (x : Int) (f : Nat → List AV), rolesZ l t = ([], x) → ObsSame [⟨3, 1, 0, f⟩] [⟨3, 1, (rolesZ l t).1.length, intCells (rolesZ l t).1⟩] ∧ x = (rolesZ l t).2 := fun x f h => by
      rw [h]
      exact ⟨obsSame_one.mpr ⟨⟨3, 1, 0, intCells []⟩, ⟨rfl, rfl, rfl, fun j hj => by simp at hj⟩, rfl⟩, rfl⟩
    refine ⟨fun h0 => none_ 0 _ (by simp [rolesZ, h0]), fun h0 => ?_⟩
    refine vcall_use (c_l2States l hl t ht) ?_ ?_
    · simp [go_sem]
      exact ⟨argSl_refl (by omega) cl, argSl_refl (by omega) clt⟩
    · rintro av obs ⟨rfl, rfl⟩
      simp [go_sem]
      refine vc_loopE (fun i : Nat => i ≤ t.length ∧ ∀ j, j < i → 0 ≤ roleAt l t j (stAt l t j)) (fun i => t.length - i) (fun i => .of [(1, .sl 3 t.length (tokCells t)), (2, .ptr 0 1 0 0), (6, .own 1), (7, .own 2), (8, .lit (.int .i64 i))] [some ⟨25, 1, 1, fun _ => [.sl 4 l.length (opCells l)]⟩, some ⟨3, 1, (rolesUp l t i).length, intCells (rolesUp l t i)⟩, some ⟨4, 1, t.length + 1, boolCells (stAt l t)⟩]) ⟨0, ⟨by omega, by simp⟩, ?_⟩ (fun i hi => ?_)
      · refine ent_ks [0, 1, 2] (by simp) (by simp) (by simp) (by simp) trivial ?_ ?_
        · simp [go_sem]
          exact clt
        · simp [go_sem, rolesUp]
          exact ⟨cl, .inl fun j _ => boolClosed _ _⟩
      · have hr := roleAt_range l t i (stAt l t i)
        have hlen := rolesUp_len l t i
        have hsucc := rolesUp_succ l t i
        simp [go_sem, tokCells_at]
        refine ⟨by omega, fun h => vc_drawn [] (.q 0 <| .q 1 <| .q 2 <| .q 3 <| .q 4 <| .q 5 <| .q 6 <| .or 7 (.q 8 <| .done) (.nil)) (by kernel_rfl) ?_, fun h => ?_⟩
        · simp [go_sem, boolCells_at]
          refine ⟨by omega, by omega, vcallV_pure (c_l2Role l hl t ht i h (stAt l t i)) ?_ ?_⟩
          · simp [go_sem]
            exact ⟨argSl_refl (by omega) cl, argSl_refl (by omega) clt⟩
          · simp [go_sem, boolCells_at]
            refine ⟨fun e => none_ i _ ?_, fun e => ?_⟩
            · have := firstBad_some h hi.2 e
              simp [rolesZ, h0, this]
            · rw [hlen]
              refine ⟨by omega, by omega, i + 1, ⟨by omega, fun j hj => ?_⟩, by omega, ?_⟩
              · rcases Nat.lt_succ_iff_lt_or_eq.mp hj with hj | rfl
                · exact hi.2 j hj
                · exact e
              · refine ent_ks [0, 4, 2] (by simp) (by simp) (by simp) (by simp) trivial ?_ ?_
                · simp [go_sem]
                  exact ⟨clt, wrap_succ (by omega)⟩
                · simp [go_sem, hsucc, hlen]
                  refine ⟨cl, .inl fun j hj => ⟨?_, intClosed _ _⟩, .inl fun j _ => boolClosed _ _⟩
                  have := int_app1 (rolesUp l t i) (roleAt l t i (stAt l t i)) j (by rw [hlen]; exact hj)
                  rw [hlen] at this
                  exact this
        · have e : i = t.length := by omega
          subst e
          have hn := firstBad_none (l := l) (t := t) fun j hj => hi.2 j hj
          refine ⟨by omega, fun h1 => ?_, fun h1 => ?_⟩
          · have hpos : 0 < t.length := List.length_pos_iff.2 h1
            have e2 : (IntKind.i64.wrap ((t.length : Int) - 1)) = ((t.length - 1 : Nat) : Int) := by rw [wrap_i64 (by omega)]; omega
            rw [e2]
            simp only [Int.toNat_natCast]
            refine ⟨by omega, by omega, by omega, fun e => ⟨by omega, none_ _ _ ?_⟩, fun e => ?_⟩
            · simp [rolesZ, h0, hn, endsOk, e]
            · have hz : rolesZ l t = (rolesUp l t t.length, -1) := by simp [rolesZ, h0, hn, endsOk, e]; omega
              rw [hz]
              exact ⟨obsSame_one.mpr ⟨_, ⟨rfl, rfl, rfl, fun j hj => ⟨rfl, rfl⟩⟩, rfl⟩, rfl⟩
          · refine ⟨by omega, none_ _ _ ?_⟩
            rw [h1] at hn
            simp [rolesZ, h0, hn, endsOk, h1]
end Go.Proofs.Ytcnmgfbafcnkhaa.V
/- Contracts: an operator looked up in the index. -/
namespace Go.Proofs.Ytcnmgfbafcnkhaa.V
open Go.RowKit
open Go.Maps (Keyed)
set_option linter.unusedVariables false
set_option linter.unusedSimpArgs false
set_option linter.constructorNameAsVariable false
def noOp : POp := ⟨⟨#[]⟩, 0, 0, 0⟩
theorem zeroOpV : zeroIs Try.prog 75 (opV noOp) := fun w => Try.zeroValue75 w
/-- no two operators at one place -/
def Uniq (l : List POp) : Prop := ∀ i j, i < l.length → j < l.length → (opAt l i).text = (opAt l j).text → ((opAt l i).kind == 1) = ((opAt l j).kind == 1) → opAt l i = opAt l j
theorem uniq_of_ok {l : List POp} (h : tblOk l = 0) : Uniq l := by
  have hc : tblClash l 3 = false := by
    unfold tblOk at h
    cases hh : tblClash l 3
    · rfl
    · rw [hh] at h
      split at h
      · cases h
      · split at h
        · cases h
        · simp at h
  intro i j hi hj e1 e2
  have no : ∀ i j, i < l.length → j < i → clash (opAt l i) (opAt l j) 3 = true → False := fun i j hi hj hcl => by
    have := (tblClash_iff l 3).2 ⟨i, hi, j, hj, hcl⟩
    rw [hc] at this
    cases this
  rcases Nat.lt_trichotomy i j with hlt | rfl | hlt
  · exact (no j i hj hlt (by simp [clash, e1, e2])).elim
  · rfl
  · exact (no i j hi hlt (by simp [clash, e1, e2])).elim
theorem at_cases {l : List POp} {es : List (Value × Value)} (h : AtIs l l.length es) (z : ByteArray) (pre : Bool) :
    (mget es (.agg #[.string z, .bool pre]) = none ∧ ∀ j, j < l.length → ¬ ((opAt l j).text = z ∧ ((opAt l j).kind == 1) = pre)) ∨
    ∃ j, j < l.length ∧ mget es (.agg #[.string z, .bool pre]) = some (opV (opAt l j)) ∧ (opAt l j).text = z ∧ ((opAt l j).kind == 1) = pre := by
  cases hm : mget es (.agg #[.string z, .bool pre]) with
  | none =>
    refine .inl ⟨rfl, fun j hj e => ?_⟩
    have := h.1 j hj
    rw [placeV, e.1, e.2, hm] at this
    cases this
  | some v =>
    obtain ⟨j, hj, e1, e2⟩ := h.2 _ _ hm
    simp only [placeV, Value.agg.injEq, Array.mk.injEq, List.cons.injEq, Value.string.injEq, Value.bool.injEq, and_true] at e1
    exact .inr ⟨j, hj, by rw [e2], e1.1.symm, e1.2.symm⟩
theorem opHas_iff (l : List POp) (z : ByteArray) (k : Int) : opHas l z k = true ↔ ∃ j, j < l.length ∧ (opAt l j).text = z ∧ (opAt l j).kind = k := by
  simp [opHas]
theorem c_of (l : List POp) (hu : Uniq l) (b1 b2 : Nat) (es : List (Value × Value)) (h : AtIs l l.length es) (z : ByteArray) (hz : z.size ≤ maxLen) (k : Int) : VProc Try.prog 36 [.agg [.lit (.map (some b1)), .lit (.map (some b2))], .lit (.string z), .lit (.int .i64 k)] [] [(b1, ⟨115, es⟩)] (fun av mem maps => (∃ o : POp, av = .tup [.agg o.cells, .lit (.bool (opHas l z k))] ∧ (opHas l z k = true → ∃ j, j < l.length ∧ o = opAt l j ∧ o.text = z ∧ o.kind = k)) ∧ mem = [] ∧ maps = [(b1, ⟨115, es⟩)]) := by
  have fin : ∀ (t : List (Nat × AV)) (m : List (Option Ob)) (o : POp), (opHas l z k = true → ∃ j, j < l.length ∧ o = opAt l j ∧ o.text = z ∧ o.kind = k) → vendP [(b1, ⟨115, es⟩)] (fun av mem maps => (∃ o : POp, av = .tup [.agg o.cells, .lit (.bool (opHas l z k))] ∧ (opHas l z k = true → ∃ j, j < l.length ∧ o = opAt l j ∧ o.text = z ∧ o.kind = k)) ∧ mem = [] ∧ maps = [(b1, ⟨115, es⟩)]) ⟨t, m, [(b1, ⟨115, es⟩)], 0⟩ (.tup [.agg o.cells, .lit (.bool (opHas l z k))]) := by
    intro t m o ho
    refine ⟨rfl, [], [], by simp, by simp, by simp [go_sem, POp.cells], by simp [go_sem], by simp [go_sem], ?_⟩
    simp only [POp.cells]
    exact ⟨⟨o, rfl, ho⟩, by simp [go_sem], by simp⟩
  refine vproc_start Try.func36 (by kernel_rfl) rfl (by simp [Try.ntmps36]) ?_; simp only [Try.ntmps36, Try.results36]; simp [go_sem]
  refine vlookK_use keyedPlace (keyPlace hz) _ zeroOpV ?_
  rcases at_cases h z (k == 1) with ⟨h1, h3⟩ | ⟨j, hj, h1, h3, h4⟩
  · rw [h1]
    have hno : opHas l z k = false := by
      rw [Bool.eq_false_iff]
      intro e
      obtain ⟨j, hj, e1, e2⟩ := (opHas_iff l z k).1 e
      exact h3 j hj ⟨e1, by rw [e2]⟩
    simp [go_sem, opV, noOp]
    refine vc_drawnE (⟨[(6, .ptr 0 4 0 0), (7, .lit (.bool false))], [some ⟨75, 4, 1, fun _ => noOp.cells⟩], [(b1, ⟨115, es⟩)], 0⟩) [8] (.q 0 <| .q 1 <| .q 2 <| .or 3 (.or 4 (.or 5 (.or 6 (.or 7 (.or 8 (.q 9 <| .done) (.nil)) (.or 8 (.q 7 <| .q 9 <| .done) (.nil))) (.or 8 (.q 6 <| .q 7 <| .q 9 <| .done) (.nil))) (.or 8 (.q 5 <| .q 6 <| .q 7 <| .q 9 <| .done) (.nil))) (.or 5 (.or 4 (.or 6 (.or 7 (.or 8 (.q 9 <| .done) (.nil)) (.or 8 (.q 7 <| .q 9 <| .done) (.nil))) (.or 8 (.q 6 <| .q 7 <| .q 9 <| .done) (.nil))) (.or 8 (.q 4 <| .q 6 <| .q 7 <| .q 9 <| .done) (.nil))) (.or 8 (.q 4 <| .q 5 <| .q 6 <| .q 7 <| .q 9 <| .done) (.nil)))) (.or 5 (.or 3 (.or 4 (.or 6 (.or 7 (.or 8 (.q 9 <| .done) (.nil)) (.or 8 (.q 7 <| .q 9 <| .done) (.nil))) (.or 8 (.q 6 <| .q 7 <| .q 9 <| .done) (.nil))) (.or 8 (.q 4 <| .q 6 <| .q 7 <| .q 9 <| .done) (.nil))) (.or 8 (.q 3 <| .q 4 <| .q 6 <| .q 7 <| .q 9 <| .done) (.nil))) (.or 8 (.q 3 <| .q 4 <| .q 5 <| .q 6 <| .q 7 <| .q 9 <| .done) (.nil)))) (by kernel_rfl) ?_ ?_
    · simp [go_sem]
      repeat' apply And.intro
      all_goals
        refine ent_ks [1] (by simp) (by simp) (by simp) (by simp) (by simp [go_sem]) ?_ ?_
        · simp [go_sem]
        · simp [go_sem, noOp, POp.cells]
    · have := fin [(6, .ptr 0 4 0 0), (7, .lit (.bool false))] [some ⟨75, 4, 1, fun _ => noOp.cells⟩] noOp (fun e => by rw [hno] at e; cases e)
      rw [hno] at this ⊢
      simp only [POp.cells, noOp] at this
      simp [go_sem, noOp, POp.cells] at this ⊢
      exact this
  · rw [h1]
    have hyes : opHas l z k = ((opAt l j).kind == k) := by
      rw [Bool.eq_iff_iff, opHas_iff]
      simp only [beq_iff_eq]
      constructor
      · rintro ⟨j', hj', e1, e2⟩
        have := hu j' j hj' hj (by rw [e1, h3]) (by rw [e2, h4])
        rw [← this]; exact e2
      · exact fun e => ⟨j, hj, h3, e⟩
    have hfin := fin [(6, .ptr 0 4 0 0), (7, .lit (.bool ((opAt l j).kind == k)))] [some ⟨75, 4, 1, fun _ => (opAt l j).cells⟩] (opAt l j) (fun e => ⟨j, hj, rfl, h3, by rw [hyes] at e; simpa using e⟩)
    rw [hyes] at hfin ⊢
    simp [go_sem, opV]
    refine vc_drawnE (⟨[(6, .ptr 0 4 0 0), (7, .lit (.bool ((opAt l j).kind == k)))], [some ⟨75, 4, 1, fun _ => (opAt l j).cells⟩], [(b1, ⟨115, es⟩)], 0⟩) [8] (.q 0 <| .q 1 <| .q 2 <| .or 3 (.or 4 (.or 5 (.or 6 (.or 7 (.or 8 (.q 9 <| .done) (.nil)) (.or 8 (.q 7 <| .q 9 <| .done) (.nil))) (.or 8 (.q 6 <| .q 7 <| .q 9 <| .done) (.nil))) (.or 8 (.q 5 <| .q 6 <| .q 7 <| .q 9 <| .done) (.nil))) (.or 5 (.or 4 (.or 6 (.or 7 (.or 8 (.q 9 <| .done) (.nil)) (.or 8 (.q 7 <| .q 9 <| .done) (.nil))) (.or 8 (.q 6 <| .q 7 <| .q 9 <| .done) (.nil))) (.or 8 (.q 4 <| .q 6 <| .q 7 <| .q 9 <| .done) (.nil))) (.or 8 (.q 4 <| .q 5 <| .q 6 <| .q 7 <| .q 9 <| .done) (.nil)))) (.or 5 (.or 3 (.or 4 (.or 6 (.or 7 (.or 8 (.q 9 <| .done) (.nil)) (.or 8 (.q 7 <| .q 9 <| .done) (.nil))) (.or 8 (.q 6 <| .q 7 <| .q 9 <| .done) (.nil))) (.or 8 (.q 4 <| .q 6 <| .q 7 <| .q 9 <| .done) (.nil))) (.or 8 (.q 3 <| .q 4 <| .q 6 <| .q 7 <| .q 9 <| .done) (.nil))) (.or 8 (.q 3 <| .q 4 <| .q 5 <| .q 6 <| .q 7 <| .q 9 <| .done) (.nil)))) (by kernel_rfl) ?_ ?_
    · simp [go_sem]
      repeat' apply And.intro
      all_goals
        refine ent_ks [1] (by simp) (by simp) (by simp) (by simp) (by simp [go_sem]) ?_ ?_
        · simp [go_sem]
        · simp [go_sem, POp.cells]
    · simp only [POp.cells] at hfin
      simp [go_sem, POp.cells] at hfin ⊢
      exact hfin
end Go.Proofs.Ytcnmgfbafcnkhaa.V
/- Contracts: a text cut into tokens, by the program. -/
namespace Go.Proofs.Ytcnmgfbafcnkhaa.V
open Go.RowKit
set_option linter.unusedVariables false
set_option linter.unusedSimpArgs false
set_option linter.constructorNameAsVariable false
theorem tblOk_ops {l : List POp} (h : tblOk l = 0) : tblOps l = true := by
  unfold tblOk at h
  split at h
  · cases h
  · split at h
    · cases h
    · simp_all
theorem c_Lex (l : List POp) (hl : l.length ≤ 9223372036854775807) (hw : opsWf l) (z : ByteArray) (hz : z.size ≤ 1048576) : VFun Try.prog 7 [.agg [.sl 4 l.length (opCells l)], .lit (.string z)] (fun av obs => (lexOk l z = false ∧ av = .tup [.lit (.slice none 0 0), .lit (.bool false)] ∧ obs = []) ∨ (lexOk l z = true ∧ av = .tup [.own 0, .lit (.bool true)] ∧ obs = [⟨61, 3, (lexZ l z).length, tokCells (lexZ l z)⟩])) := by
  have cl : ∀ (i : Nat) (c : AV), i < l.length → c ∈ opCells l i → Closed c := fun i c _ h => opClosed l i c h
  refine vfun_start Try.func7 (by kernel_rfl) rfl (by simp [Try.ntmps7]) ?_; simp only [Try.ntmps7, Try.results7]; simp [go_sem]
  refine vcall_pure (c_TableOk l hl hw) ?_ ?_
  · simp [go_sem]
    exact argSl_refl (by omega) cl
  · simp [go_sem]
    refine ⟨fun h0 => ⟨fun h1 => by simp [lexOk]; omega, fun h1 => ?_⟩, fun h0 => by simp [lexOk, h0]⟩
    have hok : lexOk l z = true := by simp [lexOk, h0]; omega
    have hops := tblOk_ops h0
    have hz2 : z.size ≤ 20000 := by omega
    refine vcall_share [] (c_indexOf l hl hw) (by simp) ?_ ?_ ?_ ?_
    · simp [go_sem]
      exact cl
    · simp [go_sem]
    · simp [go_sem]
    · rintro av mem maps ⟨b1, b2, e1, e2, rfl, rfl, rfl, hb, hat, htx⟩
      have hb' : ¬ b2 = b1 := fun e => hb e.symm
      simp [go_sem]
      refine vc_loopE (fun p : List PTok × Nat => p.2 ≤ z.size ∧ p.1.length ≤ p.2 ∧ lexFrom l z 0 = p.1 ++ lexFrom l z p.2) (fun p => z.size - p.2) (fun p => ⟨[(1, .lit (.string z)), (6, .ptr 0 2 0 0), (7, .own 1), (8, .lit (.int .i64 p.2))], [some ⟨67, 2, 1, fun _ => [.lit (.map (some b1)), .lit (.map (some b2))]⟩, some ⟨61, 3, p.1.length, tokCells p.1⟩], [(b2, ⟨9, e2⟩), (b1, ⟨115, e1⟩)], 0⟩) ⟨([], 0), ⟨by omega, by simp, by simp⟩, ?_⟩ (fun p hp => ?_)
      · refine ent_ks [1, 2] (by simp) (by simp) (by simp) (by simp) (by simp [go_sem, hb']) ?_ ?_
        · simp [go_sem]
        · simp [go_sem]
      · obtain ⟨toks, f⟩ := p
        obtain ⟨hp1, hp2, hp3⟩ := hp
        simp only at hp1 hp2 hp3
        simp [go_sem]
        refine vc_loop (fun j : Nat => f ≤ j ∧ j ≤ z.size ∧ f + run isBl z f = j + run isBl z j) (fun j => z.size - j) (fun j => ⟨[(1, .lit (.string z)), (6, .ptr 0 2 0 0), (7, .own 1), (8, .lit (.int .i64 f)), (9, .lit (.int .i64 j))], [some ⟨67, 2, 1, fun _ => [.lit (.map (some b1)), .lit (.map (some b2))]⟩, some ⟨61, 3, toks.length, tokCells toks⟩], [(b2, ⟨9, e2⟩), (b1, ⟨115, e1⟩)], 0⟩) ⟨f, ⟨by omega, by omega, by omega⟩, ?_⟩ (fun j hj => ?_)
        · simp [go_sem]
          exact ⟨hb', fun i _ c h => .closed _ (tokClosed _ i c h)⟩
        · obtain ⟨hj1, hj2, hj3⟩ := hj
          have tl : ∀ (i : Nat), i < toks.length → ∀ (c : AV), c ∈ tokCells toks i → Bd 2 c := fun i _ c h => .closed _ (tokClosed _ i c h)
          by_cases hlt : j < z.size
          · have again : isBl (byteAt z j) = true → ∃ j_1 : Nat, (f ≤ j_1 ∧ j_1 ≤ z.size ∧ f + run isBl z f = j_1 + run isBl z j_1) ∧ z.size - j_1 < z.size - j ∧ ¬b2 = b1 ∧ IntKind.i64.wrap ((j : Int) + 1) = j_1 ∧ ∀ (i : Nat), i < toks.length → ∀ (c : AV), c ∈ tokCells toks i → Bd 2 c := fun e =>
              ⟨j + 1, ⟨by omega, by omega, by rw [hj3, run_yes hlt e]; omega⟩, by omega, hb', wrap_succ (by omega), tl⟩
            cases hbl : isBl (byteAt z j) with
            | true =>
              have hc : byteAt z j = 32 ∨ byteAt z j = 9 ∨ byteAt z j = 10 := by
                simpa [isBl, or_assoc] using hbl
              rcases hc with e | e | e
              · simp [go_sem, hlt, e]
                exact again hbl
              · simp [go_sem, hlt, e]
                exact again hbl
              · simp [go_sem, hlt, e]
                exact again hbl
            | false =>
              have hc : (byteAt z j == 32) = false ∧ (byteAt z j == 9) = false ∧ (byteAt z j == 10) = false := by
                simp only [isBl, decide_eq_false_iff_not, not_or] at hbl
                simp [hbl]
              have hj4 : j = f + run isBl z f := by rw [hj3, run_no hlt hbl]; rfl
              simp [go_sem, hlt, hc]
              refine vc_drawn [4] (.q 0 <| .q 1 <| .q 2 <| .q 3 <| .or 4 (.q 5 <| .q 6 <| .q 7 <| .q 8 <| .q 9 <| .done) (.nil)) (by kernel_rfl) ?_
              simp [go_sem, hlt, hc]
              have hfr := front_eq l hops z j hlt
              have hle := longest_le l z j hlt
              have hge := longest_ge l z j
              refine ⟨by omega, vcall_share [] (c_front l b1 b2 e2 e1 htx hb (z.extract j z.size) (by rw [ByteArray.size_extract]; omega)) (by simp) ?_ ?_ ?_ ?_⟩
              · simp [go_sem]
              · simp [go_sem]
              · simp [go_sem]
              · rintro av mem maps ⟨rfl, rfl, rfl⟩
                rw [hfr]
                simp [go_sem]
                refine vc_drawn [14] (.q 0 <| .q 1 <| .q 2 <| .q 3 <| .q 4 <| .q 5 <| .q 6 <| .q 7 <| .q 8 <| .q 9 <| .q 10 <| .q 11 <| .q 12 <| .or 13 (.or 14 (.q 15 <| .done) (.nil)) (.nil)) (by kernel_rfl) ?_
                simp [go_sem]
                simp only [wrap_i64 (n := (j : Int) + longest l z j) (by omega), show ((j : Int) + longest l z j).toNat = j + longest l z j by omega]
                have hn : lexFrom l z f = ⟨kindZ l (z.extract j (j + longest l z j)), z.extract f j, z.extract j (j + longest l z j)⟩ :: lexFrom l z (j + longest l z j) := lexFrom_go hj4 hlt
                refine ⟨by omega, by omega, by omega, by omega, by omega, by omega, toks ++ [⟨kindZ l (z.extract j (j + longest l z j)), z.extract f j, z.extract j (j + longest l z j)⟩], j + longest l z j, ⟨by omega, by simp; omega, by rw [hp3, hn]; simp⟩, by omega, ?_⟩
                refine ent_ks [0, 3] (by simp) (by simp) (by simp) (by simp) (by simp [go_sem, hb']) ?_ ?_
                · simp [go_sem]
                · simp [go_sem]
                  exact .inl fun i hi => ⟨tok_app1 _ _ _ _ _ hi, fun c h => tokClosed _ i c h⟩
          · have hj5 : j = z.size := by omega
            subst hj5
            have hj4 : z.size = f + run isBl z f := by rw [hj3, run_end (by omega)]; rfl
            simp [go_sem]
            refine ⟨hp1, by omega, by omega, ?_, hok⟩
            have e3 : lexZ l z = toks ++ [⟨7, z.extract f z.size, ⟨#[]⟩⟩] := by
              simp only [lexZ, hok, if_true, hp3]
              rw [lexFrom_end hj4 (by omega)]
            rw [e3]
            exact obsSame_one.mpr ⟨⟨61, 3, toks.length + 1, tokCells (toks ++ [⟨7, z.extract f z.size, ⟨#[]⟩⟩])⟩, ⟨rfl, rfl, rfl, fun i hi => ⟨tok_app1 _ _ _ _ _ hi, rfl⟩⟩, by simp⟩
end Go.Proofs.Ytcnmgfbafcnkhaa.V
/- Contracts: the law of Lex. -/
namespace Go.Proofs.Ytcnmgfbafcnkhaa.V
open Go.RowKit
set_option linter.unusedVariables false
set_option linter.unusedSimpArgs false
set_option linter.constructorNameAsVariable false
/-- a nil slice as the first of two results: an own row of none -/
theorem VFun.adopt {P : Program} {f : FuncId} {args : List AV} {R R' : AV → List Ob → Prop} (h : VFun P f args R) (ty sz : Nat) (hsz : 0 < sz) (g : Nat → List AV)
    (hr : ∀ av obs, R av obs → R' av obs ∨ ∃ x, av = .tup [.lit (.slice none 0 0), .lit x] ∧ obs = [] ∧ R' (.tup [.own 0, .lit x]) [⟨ty, sz, 0, g⟩]) : VFun P f args R' := by
  refine ⟨h.1, fun w vs hl hv => (h.2 w vs hl hv).mono fun e w' ⟨v, e1, gr, hd, av, obs, r, fl, hlit, hm, hrep⟩ => ?_⟩
  rcases hr av obs r with r' | ⟨x, rfl, rfl, r'⟩
  · exact ⟨v, e1, gr, hd, av, obs, r', fl, hlit, hm, hrep⟩
  · refine ⟨v, e1, gr, fun _ => .slice none 0 0, _, _, r', rfl, fun ob ho i hi => ?_, ⟨fun k ob hk b hb => ?_, fun k ob hk => ?_, fun k hk => ⟨none, 0, 0, rfl⟩, fun k k' o o' hk hk' hne => .inl rfl⟩, ?_⟩
    · simp only [List.mem_singleton] at ho
      subst ho
      simp at hi
    · simp [Value.ownBlock] at hb
    · cases k with
      | zero =>
        simp only [List.map_cons, List.map_nil, List.getElem?_cons_zero, Option.some.injEq] at hk
        subst hk
        exact ⟨hsz, [], ⟨by simp, .inl ⟨rfl, rfl⟩⟩, fun i hi => by simp at hi⟩
      | succ k => simp at hk
    · cases hrep with
      | tup _ us hl2 hr2 =>
        match us, hl2 with
        | [u1, u2], _ =>
          have q1 := hr2 0 _ u1 rfl rfl
          have q2 := hr2 1 _ u2 rfl rfl
          cases q1
          cases q2
          refine .tup _ [.slice none 0 0, x] rfl fun j a u ha hu => ?_
          match j with
          | 0 =>
            simp only [List.getElem?_cons_zero, Option.some.injEq] at ha hu
            subst ha; subst hu
            exact .own (hd := fun _ => .slice none 0 0) 0 (by simp)
          | 1 =>
            simp only [List.getElem?_cons_succ, List.getElem?_cons_zero, Option.some.injEq] at ha hu
            subst ha; subst hu
            exact .lit _
          | j + 2 => simp at ha
theorem c_LexO (l : List POp) (hl : l.length ≤ 9223372036854775807) (hw : opsWf l) (z : ByteArray) (hz : z.size ≤ 1048576) : VFun Try.prog 7 [.agg [.sl 4 l.length (opCells l)], .lit (.string z)] (fun av obs => av = .tup [.own 0, .lit (.bool (lexOk l z))] ∧ obs = [⟨61, 3, (lexZ l z).length, tokCells (lexZ l z)⟩]) := by
  refine (c_Lex l hl hw z hz).adopt 61 3 (by omega) (tokCells []) fun av obs h => ?_
  rcases h with ⟨h1, rfl, rfl⟩ | ⟨h1, rfl, rfl⟩
  · refine .inr ⟨_, rfl, rfl, ?_⟩
    have e : lexZ l z = [] := by simp [lexZ, h1]
    rw [h1, e]
    exact ⟨rfl, rfl⟩
  · exact .inl ⟨by rw [h1], rfl⟩
theorem lexFrom_len (l : List POp) (z : ByteArray) (f : Nat) (h : f ≤ z.size) : (lexFrom l z f).length + f ≤ z.size + 1 := by
  by_cases hi : f + run isBl z f < z.size
  · rw [lexFrom_go rfl hi]
    have h1 := longest_ge l z (f + run isBl z f)
    have h2 := longest_le l z (f + run isBl z f) hi
    have := lexFrom_len l z (f + run isBl z f + longest l z (f + run isBl z f)) h2
    simp only [List.length_cons]
    omega
  · rw [lexFrom_end rfl hi]
    simp
    omega
termination_by z.size - f
theorem lexZ_len (l : List POp) (z : ByteArray) : (lexZ l z).length ≤ z.size + 1 := by
  unfold lexZ
  split
  · have := lexFrom_len l z 0 (by omega)
    omega
  · simp
end Go.Proofs.Ytcnmgfbafcnkhaa.V
/- Contracts: what tokens do, by the program. -/
namespace Go.Proofs.Ytcnmgfbafcnkhaa.V
open Go.RowKit
set_option linter.unusedVariables false
set_option linter.unusedSimpArgs false
set_option linter.constructorNameAsVariable false
set_option maxRecDepth 10000 in
theorem c_Roles (l : List POp) (hl : l.length ≤ 9223372036854775807) (hw : opsWf l) (t : List PTok) (ht : t.length ≤ 1048576) (hz : ∀ i, i < t.length → (tokAt t i).text.size ≤ maxLen) : VFun Try.prog 9 [.agg [.sl 4 l.length (opCells l)], .sl 3 t.length (tokCells t)] (fun av obs => (∃ x, rolesZ l t = ([], x) ∧ av = .tup [.lit (.slice none 0 0), .lit (.int .i64 x)] ∧ obs = []) ∨ (av = .tup [.own 0, .lit (.int .i64 (rolesZ l t).2)] ∧ obs = [⟨3, 1, (rolesZ l t).1.length, intCells (rolesZ l t).1⟩])) := by
  have cl : ∀ (i : Nat) (c : AV), i < l.length → c ∈ opCells l i → Closed c := fun i c _ h => opClosed l i c h
  have clt : ∀ (i : Nat) (c : AV), i < t.length → c ∈ tokCells t i → Closed c := fun i c _ h => tokClosed t i c h
  refine vfun_start Try.func9 (by kernel_rfl) rfl (by simp [Try.ntmps9]) ?_; simp only [Try.ntmps9, Try.results9]; simp [go_sem]
  refine vcall_pure (c_TableOk l hl hw) ?_ ?_
  · simp [go_sem]
    exact argSl_refl (by omega) cl
  · simp [go_sem]
    refine ⟨fun h0 => by simp [rolesZ, h0], fun h0 => ?_⟩
    have hu := uniq_of_ok h0
    have nil_ : ∀ x, rolesZ l t = ([], x) → rolesZ l t = ([], x) ∨ False := fun x h => .inl h
    refine vcall_share [] (c_indexOf l hl hw) (by simp) ?_ ?_ ?_ ?_
    · simp [go_sem]
      exact cl
    · simp [go_sem]
    · simp [go_sem]
    · rintro av mem maps ⟨b1, b2, e1, e2, rfl, rfl, rfl, hb, hat, htx⟩
      have hb' : ¬ b2 = b1 := fun e => hb e.symm
      simp [go_sem]
      refine ⟨by omega, by omega, by omega, by omega, ?_⟩
      refine vc_loopE (fun i : Nat => i ≤ t.length ∧ (∀ j, j < i → 0 ≤ roleAt l t j (stAt l t j)) ∧ (∀ j, j < i → (tokAt t j).kind ≠ 7) ∧ 0 ≤ openAt t i) (fun i => t.length - i) (fun i => ⟨[(1, .sl 3 t.length (tokCells t)), (6, .ptr 0 2 0 0), (7, .own 1), (8, .lit (.bool !(stAt l t i))), (9, .lit (.int .i64 (openAt t i))), (27, .sl 3 t.length (tokCells t)), (28, .lit (.int .i64 t.length)), (29, .lit (.int .i64 i))], [some ⟨67, 2, 1, fun _ => [.lit (.map (some b1)), .lit (.map (some b2))]⟩, some ⟨3, 1, (rolesUp l t i).length, intCells (rolesUp l t i)⟩], [(b2, ⟨9, e2⟩), (b1, ⟨115, e1⟩)], 0⟩) ⟨0, ⟨by omega, by simp, by simp, by simp [openAt]⟩, ?_⟩ (fun i hi => ?_)
      · refine ent_ks [1, 2] (by simp) (by simp) (by simp) (by simp) (by simp [go_sem, hb']) ?_ ?_
        · simp [go_sem, stAt, openAt]
          exact clt
        · simp [go_sem, rolesUp]
      · obtain ⟨h1, h2, h3, h4⟩ := hi
        have hop := openAt_le t i
        have hlen := rolesUp_len l t i
        have hsucc := rolesUp_succ l t i
        by_cases h : i < t.length
        · have bad : roleAt l t i (stAt l t i) < 0 → rolesZ l t = ([], (i : Int)) := fun e => by
            have := firstBad_some h h2 e
            simp [rolesZ, h0, this]
          have next : 0 ≤ roleAt l t i (stAt l t i) → (tokAt t i).kind ≠ 7 → 0 ≤ openAt t (i + 1) → i + 1 ≤ t.length ∧ (∀ j, j < i + 1 → 0 ≤ roleAt l t j (stAt l t j)) ∧ (∀ j, j < i + 1 → (tokAt t j).kind ≠ 7) ∧ 0 ≤ openAt t (i + 1) := fun a1 a2 a3 => by
            refine ⟨by omega, fun j hj => ?_, fun j hj => ?_, a3⟩
            · rcases Nat.lt_succ_iff_lt_or_eq.mp hj with hj | rfl
              · exact h2 j hj
              · exact a1
            · rcases Nat.lt_succ_iff_lt_or_eq.mp hj with hj | rfl
              · exact h3 j hj
              · exact a2
          have app : ∀ (r : Int), roleAt l t i (stAt l t i) = r → ∀ j, j < i + 1 → joinF i (intCells (rolesUp l t i)) (fun q => [[AV.lit (.int .i64 r)]][q]?.getD []) j = intCells (rolesUp l t i ++ [roleAt l t i (stAt l t i)]) j := fun r e j hj => by
            have := int_app1 (rolesUp l t i) (roleAt l t i (stAt l t i)) j (by rw [hlen]; exact hj)
            rw [hlen, e] at this
            rw [e]; exact this
          cases hst : stAt l t i with
          | false =>
            rw [hst] at bad app
            by_cases k1 : (tokAt t i).kind = 1
            · have hst' : stAt l t (i + 1) = true := by simp [stAt, hst, k1]
              have ho' : openAt t (i + 1) = openAt t i := by simp [openAt, k1]
              simp [go_sem, tokCells_at, h, hst, k1, hlen]
              refine ⟨by omega, by omega, i + 1, next (by rw [hst]; simp [roleAt, k1]) (by omega) (by rw [ho']; omega), by omega, ?_⟩
              refine ent_ks [0, 4] (by simp) (by simp) (by simp) (by simp) (by simp [go_sem, hb', hb]) ?_ ?_
              · simp [go_sem, hst', ho']
                exact ⟨clt, wrap_succ (by omega)⟩
              · simp [go_sem, hsucc, hlen, hst]
                exact .inl fun j hj => ⟨app 0 (by simp [roleAt, k1]) j hj, intClosed _ _⟩
            · by_cases k2 : (tokAt t i).kind = 2
              · have hst' : stAt l t (i + 1) = true := by simp [stAt, hst, k2]
                have ho' : openAt t (i + 1) = openAt t i := by simp [openAt, k2]
                simp [go_sem, tokCells_at, h, hst, k2, hlen]
                refine ⟨by omega, by omega, i + 1, next (by rw [hst]; simp [roleAt, k2]) (by omega) (by rw [ho']; omega), by omega, ?_⟩
                refine ent_ks [0, 4] (by simp) (by simp) (by simp) (by simp) (by simp [go_sem, hb', hb]) ?_ ?_
                · simp [go_sem, hst', ho']
                  exact ⟨clt, wrap_succ (by omega)⟩
                · simp [go_sem, hsucc, hlen, hst]
                  exact .inl fun j hj => ⟨app 0 (by simp [roleAt, k2]) j hj, intClosed _ _⟩
              · by_cases k4 : (tokAt t i).kind = 4
                · have hst' : stAt l t (i + 1) = false := by simp [stAt, hst, k4]
                  have ho' : openAt t (i + 1) = openAt t i + 1 := by simp [openAt, k4]
                  simp [go_sem, tokCells_at, h, hst, k4, hlen]
                  refine ⟨by omega, by omega, i + 1, next (by rw [hst]; simp [roleAt, k4]) (by omega) (by rw [ho']; omega), by omega, ?_⟩
                  refine ent_ks [0, 4] (by simp) (by simp) (by simp) (by simp) (by simp [go_sem, hb', hb]) ?_ ?_
                  · simp [go_sem, hst', ho']
                    exact ⟨clt, wrap_i64 (by omega), clt, wrap_succ (by omega)⟩
                  · simp [go_sem, hsucc, hlen, hst]
                    exact .inl fun j hj => ⟨app 0 (by simp [roleAt, k4]) j hj, intClosed _ _⟩
                · by_cases k3 : (tokAt t i).kind = 3
                  · simp [go_sem, tokCells_at, h, hst, k3, hlen]
                    refine vcall_share [] (c_of l hu b1 b2 e1 hat (tokAt t i).text (hz i h) 1) (by simp) ?_ ?_ ?_ ?_
                    · simp [go_sem]
                    · simp [go_sem]
                    · simp [go_sem, hb']
                    · rintro av mem maps ⟨⟨o1, rfl, ho1⟩, rfl, rfl⟩
                      cases hp : opHas l (tokAt t i).text 1 with
                      | false =>
                        simp [go_sem, hp, POp.cells]
                        exact bad (by simp [roleAt, k3, hp])
                      | true =>
                        have hst' : stAt l t (i + 1) = false := by simp [stAt, hst, k3]
                        have ho' : openAt t (i + 1) = openAt t i := by simp [openAt, k3]
                        simp [go_sem, hp, hlen, POp.cells]
                        refine ⟨by omega, by omega, i + 1, next (by rw [hst]; simp [roleAt, k3, hp]) (by omega) (by rw [ho']; omega), by omega, ?_⟩
                        refine ent_ks [0, 5] (by simp) (by simp) (by simp) (by simp) (by simp [go_sem, hb', hb]) ?_ ?_
                        · simp [go_sem, hst', ho']
                          exact ⟨clt, wrap_succ (by omega)⟩
                        · simp [go_sem, hsucc, hlen, hst]
                          exact .inl fun j hj => ⟨app 1 (by simp [roleAt, k3, hp]) j hj, intClosed _ _⟩
                  · have q1 : ((tokAt t i).kind == 1) = false := by simpa using k1
                    have q2 : ((tokAt t i).kind == 2) = false := by simpa using k2
                    have q3 : ((tokAt t i).kind == 3) = false := by simpa using k3
                    have q4 : ((tokAt t i).kind == 4) = false := by simpa using k4
                    simp [go_sem, tokCells_at, h, hst, q1, q2, q3, q4, hlen]
                    exact bad (by simp [roleAt, k1, k2, k3, k4])
          | true =>
            rw [hst] at bad app
            by_cases k3 : (tokAt t i).kind = 3
            · simp [go_sem, tokCells_at, h, hst, k3, hlen]
              refine vcall_share [] (c_of l hu b1 b2 e1 hat (tokAt t i).text (hz i h) 2) (by simp) ?_ ?_ ?_ ?_
              · simp [go_sem]
              · simp [go_sem]
              · simp [go_sem, hb']
              · rintro av mem maps ⟨⟨o2, rfl, ho2⟩, rfl, rfl⟩
                cases hp : opHas l (tokAt t i).text 2 with
                | true =>
                  have hno : opHas l (tokAt t i).text 3 = false := by
                    rw [Bool.eq_false_iff]
                    intro e
                    obtain ⟨j, hj, e3, e4⟩ := (opHas_iff _ _ _).1 e
                    obtain ⟨j', hj', e5, e6⟩ := (opHas_iff _ _ _).1 hp
                    have := hu j j' hj hj' (by rw [e3, e5]) (by rw [e4, e6]; rfl)
                    rw [this, e6] at e4
                    cases e4
                  have hst' : stAt l t (i + 1) = false := by simp [stAt, hst, k3, hno]
                  have ho' : openAt t (i + 1) = openAt t i := by simp [openAt, k3]
                  simp [go_sem, hp, hlen, POp.cells]
                  refine ⟨by omega, by omega, i + 1, next (by rw [hst]; simp [roleAt, k3, hp]) (by omega) (by rw [ho']; omega), by omega, ?_⟩
                  refine ent_ks [0, 5] (by simp) (by simp) (by simp) (by simp) (by simp [go_sem, hb', hb]) ?_ ?_
                  · simp [go_sem, hst', ho']
                    exact ⟨clt, wrap_succ (by omega)⟩
                  · simp [go_sem, hsucc, hlen, hst]
                    exact .inl fun j hj => ⟨app 2 (by simp [roleAt, k3, hp]) j hj, intClosed _ _⟩
                | false =>
                  simp [go_sem, hp, POp.cells]
                  refine vcall_share [] (c_of l hu b1 b2 e1 hat (tokAt t i).text (hz i h) 3) (by simp) ?_ ?_ ?_ ?_
                  · simp [go_sem]
                  · simp [go_sem]
                  · simp [go_sem, hb']
                  · rintro av mem maps ⟨⟨o3, rfl, ho3⟩, rfl, rfl⟩
                    cases hq : opHas l (tokAt t i).text 3 with
                    | true =>
                      have hst' : stAt l t (i + 1) = true := by simp [stAt, hst, k3, hq]
                      have ho' : openAt t (i + 1) = openAt t i := by simp [openAt, k3]
                      simp [go_sem, hq, hlen, POp.cells]
                      refine ⟨by omega, by omega, i + 1, next (by rw [hst]; simp [roleAt, k3, hp, hq]) (by omega) (by rw [ho']; omega), by omega, ?_⟩
                      refine ent_ks [0, 6] (by simp) (by simp) (by simp) (by simp) (by simp [go_sem, hb', hb]) ?_ ?_
                      · simp [go_sem, hst', ho']
                        exact ⟨clt, wrap_succ (by omega)⟩
                      · simp [go_sem, hsucc, hlen, hst]
                        exact .inl fun j hj => ⟨app 3 (by simp [roleAt, k3, hp, hq]) j hj, intClosed _ _⟩
                    | false =>
                      simp [go_sem, hq, POp.cells]
                      exact bad (by simp [roleAt, k3, hp, hq])
            · have q3 : ((tokAt t i).kind == 3) = false := by simpa using k3
              by_cases k5 : (tokAt t i).kind = 5
              · by_cases hpos : 0 < openAt t i
                · have hst' : stAt l t (i + 1) = true := by simp [stAt, k5]
                  have ho' : openAt t (i + 1) = openAt t i - 1 := by simp [openAt, k5]
                  simp [go_sem, tokCells_at, h, hst, k5, hpos, hlen]
                  refine ⟨by omega, by omega, i + 1, next (by rw [hst]; simp [roleAt, k5, hpos]) (by omega) (by rw [ho']; omega), by omega, ?_⟩
                  refine ent_ks [0, 4] (by simp) (by simp) (by simp) (by simp) (by simp [go_sem, hb', hb]) ?_ ?_
                  · simp [go_sem, hst', ho']
                    exact ⟨clt, wrap_i64 (by omega), clt, wrap_succ (by omega)⟩
                  · simp [go_sem, hsucc, hlen, hst]
                    exact .inl fun j hj => ⟨app 0 (by simp [roleAt, k5, hpos]) j hj, intClosed _ _⟩
                · have e0 : openAt t i = 0 := by omega
                  simp [go_sem, tokCells_at, h, hst, k5, e0, hlen]
                  exact bad (by simp [roleAt, k5, e0])
              · have q5 : ((tokAt t i).kind == 5) = false := by simpa using k5
                by_cases k7 : (tokAt t i).kind = 7
                · by_cases e0 : openAt t i = 0
                  · by_cases elast : i + 1 = t.length
                    · have ew : IntKind.i64.wrap ((t.length : Int) - 1) = i := by rw [wrap_i64 (by omega)]; omega
                      simp [go_sem, tokCells_at, h, hst, k7, e0, hlen, ew]
                      have hr0 : roleAt l t i true = 0 := by simp [roleAt, k7, e0, elast]
                      have hn := firstBad_none (l := l) (t := t) fun j hj => by
                        rcases Nat.lt_succ_iff_lt_or_eq.mp (show j < i + 1 by omega) with hj | rfl
                        · exact h2 j hj
                        · rw [hst, hr0]; omega
                      have hlast : t.length - 1 = i := by omega
                      have hzz : rolesZ l t = (rolesUp l t (i + 1), -1) := by
                        have hne : endsOk t = true := by
                          simp only [endsOk, hlast, k7, Bool.and_eq_true, decide_eq_true_eq]
                          exact ⟨by omega, trivial⟩
                        simp [rolesZ, h0, hn, hne, elast]
                      rw [hzz]
                      refine ⟨by omega, by omega, by omega, ?_, rfl⟩
                      refine obsSame_one.mpr ⟨⟨3, 1, i + 1, intCells (rolesUp l t (i + 1))⟩, ⟨rfl, rfl, rfl, fun j hj => ⟨?_, rfl⟩⟩, by rw [rolesUp_len]⟩
                      have := app 0 hr0 j hj
                      rw [hsucc, hst]
                      exact this
                    · have ew : ((i : Int) == IntKind.i64.wrap ((t.length : Int) - 1)) = false := by rw [wrap_i64 (by omega)]; simp; omega
                      simp [go_sem, tokCells_at, h, hst, k7, e0, hlen, ew]
                      exact ⟨by omega, bad (by simp [roleAt, k7, e0, elast])⟩
                  · have q0 : (openAt t i == 0) = false := by simpa using e0
                    simp [go_sem, tokCells_at, h, hst, k7, q0, hlen]
                    exact bad (by simp [roleAt, k7, e0])
                · have q7 : ((tokAt t i).kind == 7) = false := by simpa using k7
                  simp [go_sem, tokCells_at, h, hst, q3, q5, q7, hlen]
                  exact bad (by simp [roleAt, k3, k5, k7])
        · have e : i = t.length := by omega
          simp [go_sem, h]
          refine ⟨by omega, ?_⟩
          have hn := firstBad_none (l := l) (t := t) fun j hj => h2 j (by omega)
          have hne : endsOk t = false := by
            rw [Bool.eq_false_iff]
            intro e2
            simp only [endsOk, Bool.and_eq_true, decide_eq_true_eq] at e2
            exact h3 (t.length - 1) (by omega) e2.2
          simp [rolesZ, h0, hn, hne]
end Go.Proofs.Ytcnmgfbafcnkhaa.V
/- Contracts: package strings' Builder: String. -/
namespace Go.Proofs.Ytcnmgfbafcnkhaa.V
open Go.RowKit
set_option linter.unusedVariables false
set_option linter.unusedSimpArgs false
set_option linter.constructorNameAsVariable false
theorem grown_drew (w : World) (row : Option Nat) : w.grownBy w.drew row := ⟨rfl, rfl, rfl, Nat.le_refl _, fun _ _ _ => rfl⟩
theorem grown_freeze (w : World) (p : Addr) (n : Nat) : w.grownBy (w.freeze p n) (some p.block) := by
  unfold World.freeze
  split
  · exact ⟨rfl, rfl, rfl, Nat.le_refl _, fun _ _ _ => rfl⟩
  · exact ⟨rfl, rfl, rfl, by simp, fun k _ hk => by
      simp only [Array.getElem?_modify]
      rw [if_neg (fun e => hk (by rw [e]))]⟩
theorem cellsByte : Try.prog.cellsOf 5 = 1 := by kernel_rfl
set_option maxHeartbeats 2000000 in
set_option maxRecDepth 100000 in
theorem str_row (b g cap : Nat) (cur : Array Value) (l : List UInt8) (w : World) (h0 : l ≠ []) (c1 : w.drew.cell? ⟨b, 1, none⟩ = some (.slice (some ⟨g, 0, none⟩) l.length cap)) (hg : w.drew.heap[g]? = some (.cells cur 5 (0, 0)))
    (hnc : l.length ≤ cap) (hcm : cap ≤ maxLen) (hcs : cur.size = cap) (hcell : ∀ j x, l[j]? = some x → w.drew.cell? ((⟨g, 0, none⟩ : Addr).add j) = some (.int .u8 x.toNat)) :
    Calls Try.prog 38 #[.pointer (some ⟨b, 0, none⟩)] w fun e w' => e = .returned (.string ⟨l.toArray⟩) ∧ w.grownBy w' (some g) := by
  have hl0 : l.length ≠ 0 := by simpa using h0
  have hSD : (Builtin.unsafeSliceData_ #[22] 119 #[.slice (some ⟨g, 0, none⟩) l.length cap]).run Try.prog w.drew = .ok (.pointer (some ⟨g, 0, none⟩)) w.drew :=
    Lib.run_unsafeSliceData_row _ _ _ _ _ _ (by omega)
  have hUS : (Builtin.unsafeString_ #[119, 3] 9 #[.pointer (some ⟨g, 0, none⟩), .int .i64 l.length]).run Try.prog w.drew = .ok (.string ⟨l.toArray⟩) (w.drew.freeze ⟨g, 0, none⟩ l.length) :=
    Lib.run_unsafeString_row w.drew 119 3 9 5 Try.underlying119 cellsByte g cur.size (by simp [World.shape?, hg]) l h0 (by omega) (by unfold maxLen at hcm; omega) hcell
  have hgr : w.grownBy (w.drew.freeze ⟨g, 0, none⟩ l.length) (some g) := by
    have h1 := grown_freeze w.drew ⟨g, 0, none⟩ l.length
    exact ⟨h1.os, h1.tape, h1.output, h1.size, h1.block⟩
  clear hcell hnc hcm hcs hg
  go_enter Try.func38, Try.ntmps38
  go_wp2
  go_region
  all_goals (go_wp2; go_ret; exact ⟨rfl, hgr⟩)
theorem str_none (W : World) (q : Option Addr) : (Builtin.unsafeString_ #[119, 3] 9 #[.pointer q, .int .i64 0]).run Try.prog W = .ok (.string .empty) W := Lib.run_unsafeString_none W _ _ _ q
set_option maxHeartbeats 2000000 in
set_option maxRecDepth 100000 in
theorem str_nil (b : Nat) (w : World) (row : Option Nat) (c1 : w.drew.cell? ⟨b, 1, none⟩ = some (.slice none 0 0)) :
    Calls Try.prog 38 #[.pointer (some ⟨b, 0, none⟩)] w fun e w' => e = .returned (.string ⟨#[]⟩) ∧ w.grownBy w' row := by
  have hUS := str_none
  have hSD : (Builtin.unsafeSliceData_ #[22] 119 #[.slice none 0 0]).run Try.prog w.drew = .ok (.pointer none) w.drew := rfl
  have hgr := grown_drew w row
  go_enter Try.func38, Try.ntmps38
  go_wp2
  go_region
  all_goals (go_wp2; go_ret; exact ⟨rfl, hgr⟩)
set_option maxHeartbeats 2000000 in
set_option maxRecDepth 100000 in
theorem str_noroom (b g : Nat) (w : World) (row : Option Nat) (cur : Array Value) (hlt : b < w.heap.size) (c1 : w.drew.cell? ⟨b, 1, none⟩ = some (.slice (some ⟨g, 0, none⟩) 0 0)) (hg : w.drew.heap[g]? = some (.cells cur 5 (0, 0))) :
    Calls Try.prog 38 #[.pointer (some ⟨b, 0, none⟩)] w fun e w' => e = .returned (.string ⟨#[]⟩) ∧ w.grownBy w' row := by
  have hUS := str_none
  have hSD : (Builtin.unsafeSliceData_ #[22] 119 #[.slice (some ⟨g, 0, none⟩) 0 0]).run Try.prog w.drew = .ok (.pointer (some ⟨w.drew.heap.size, 0, none⟩)) (w.drew.alloc (.view ⟨g, 0, none⟩ 5)) :=
    Lib.run_unsafeSliceData_zero w.drew _ _ 5 Try.underlying119 ⟨g, 0, none⟩ 0 (5, cur.size) (by simp [World.shape?, hg])
  have c2 : (w.drew.alloc (.view ⟨g, 0, none⟩ 5)).cell? ⟨b, 1, none⟩ = some (.slice (some ⟨g, 0, none⟩) 0 0) := by
    have e : (w.drew.alloc (.view ⟨g, 0, none⟩ 5)).heap[b]? = w.drew.heap[b]? := Lib.alloc_old w.drew _ b hlt
    unfold World.cell? at c1 ⊢
    simp only at c1 ⊢
    rw [e]; exact c1
  have c3 : (w.alloc (.view ⟨g, 0, none⟩ 5)).drew.cell? ⟨b, 1, none⟩ = some (.slice (some ⟨g, 0, none⟩) 0 0) := c2
  have c0 : w.cell? ⟨b, 1, none⟩ = some (.slice (some ⟨g, 0, none⟩) 0 0) := c1
  have hgr : w.grownBy (w.drew.alloc (.view ⟨g, 0, none⟩ 5)) row := by
    have h1 := World.grownBy_alloc w.drew (.view ⟨g, 0, none⟩ 5) row
    exact ⟨h1.os, h1.tape, h1.output, h1.size, h1.block⟩
  clear hg hlt
  go_enter Try.func38, Try.ntmps38
  go_wp2
  go_region
  all_goals (go_wp2; go_ret; exact ⟨rfl, hgr⟩)
set_option maxHeartbeats 2000000 in
set_option maxRecDepth 100000 in
theorem str_room (b g cap : Nat) (w : World) (row : Option Nat) (hc0 : cap ≠ 0) (c1 : w.drew.cell? ⟨b, 1, none⟩ = some (.slice (some ⟨g, 0, none⟩) 0 cap)) :
    Calls Try.prog 38 #[.pointer (some ⟨b, 0, none⟩)] w fun e w' => e = .returned (.string ⟨#[]⟩) ∧ w.grownBy w' row := by
  have hUS := str_none
  have hSD : (Builtin.unsafeSliceData_ #[22] 119 #[.slice (some ⟨g, 0, none⟩) 0 cap]).run Try.prog w.drew = .ok (.pointer (some ⟨g, 0, none⟩)) w.drew :=
    Lib.run_unsafeSliceData_row _ _ _ _ _ _ hc0
  have hgr := grown_drew w row
  clear hc0
  go_enter Try.func38, Try.ntmps38
  go_wp2
  go_region
  all_goals (go_wp2; go_ret; exact ⟨rfl, hgr⟩)
/-- String, of a builder whose bytes are those of a text: the text; its bytes are given up -/
theorem c_String (p : AV) (z : ByteArray) : VProc Try.prog 38 [.ptr 0 2 0 0] [some ⟨80, 2, 1, fun _ => [p, .own 1]⟩, some ⟨5, 1, z.size, byteCells z⟩] [] (fun av mem maps => av = .lit (.string z) ∧ mem = [none, none] ∧ maps = []) := by
  refine ⟨⟨_, Try.func38, rfl, rfl⟩, fun w vs hd0 hl hv hm hmp htl => ?_⟩
  match vs, hl with
  | [v], _ =>
    have h0 := hv 0 _ v rfl rfl
    cases h0 with
    | ptr _ _ _ _ b n' c' hk hb =>
      obtain ⟨_, vals0, hown0, hr0⟩ := hm.obs 0 _ rfl
      obtain ⟨_, vals1, hown1, hr1⟩ := hm.obs 1 _ rfl
      replace hown0 := hown0.row (show (80 : Nat) < 1000000 by omega)
      replace hown1 := hown1.row (show (5 : Nat) < 1000000 by omega)
      obtain ⟨u, hu1, hu2, hu3⟩ := (hr0 0 (by simp)).2 1 _ rfl
      cases hu3
      simp only [Nat.zero_mul, Nat.zero_add] at hu1
      have c1 : w.cell? ⟨b, 1, none⟩ = some (hd0 1) := by
        have := hown0.cells (g := b) (by rw [hb]; rfl) 1 _ hu1
        simpa [Addr.add] using this
      have hlt : b < w.heap.size := World.block_lt_of_cell? w ⟨b, 1, none⟩ c1
      have hbytes : ∀ i, i < z.size → vals1[i]? = some (.int .u8 (byteAt z i)) := by
        intro i hi
        obtain ⟨u, g1, g2, g3⟩ := (hr1 i hi).2 0 _ rfl
        cases g3
        simpa using g1
      have fin : ∀ w', w.grownBy w' (hd0 1).ownBlock → Bel (Sh w hd0 [some ⟨80, 2, 1, fun _ => [p, .own 1]⟩, some ⟨5, 1, z.size, byteCells z⟩] []) w w' ∧ ∃ hd av mem maps, (av = .lit (.string z) ∧ mem = [none, none] ∧ maps = []) ∧ PostOk [some ⟨80, 2, 1, fun _ => [p, .own 1]⟩, some ⟨5, 1, z.size, byteCells z⟩] [] av mem maps ∧ ((∀ k, k < 2 → hd k = hd0 k) ∧ TailEq hd0 hd) ∧ MemRel (Sh w hd0 [some ⟨80, 2, 1, fun _ => [p, .own 1]⟩, some ⟨5, 1, z.size, byteCells z⟩] []) w' hd mem ∧ MapRel Try.prog (Sh w hd0 [some ⟨80, 2, 1, fun _ => [p, .own 1]⟩, some ⟨5, 1, z.size, byteCells z⟩] []) w' maps ∧ Rep w' (okOf mem hd) hd mem.length av (.string z) := by
        intro w' hg
        have nn : ∀ (k : Nat) (ob : Ob), ([none, none] : List (Option Ob))[k]? = some (some ob) → False := fun k ob h => by
          match k, h with
          | 0, h => simp at h
          | 1, h => simp at h
          | k + 2, h => simp at h
        refine ⟨(Bel.refl _ w).grown hg fun k hk => .inr (.inl ⟨1, _, rfl, hk⟩), hd0, _, _, _, ⟨rfl, rfl, rfl⟩, ⟨by simp, rfl, fun k ob h => (nn k ob h).elim, fun b h => h⟩, ⟨fun _ _ => rfl, TailEq.refl _⟩, ⟨fun k ob h => (nn k ob h).elim, fun k ob h => (nn k ob h).elim, fun k hk => hm.hds k (by simpa using hk), fun k k' ob ob' h => (nn k ob h).elim⟩, fun b mp h => by simp [lkm] at h, .lit _⟩
      have done_ : ∀ (l : List UInt8), z = ⟨l.toArray⟩ → (Calls Try.prog 38 #[.pointer (some ⟨b, 0, none⟩)] w fun e w' => e = .returned (.string ⟨l.toArray⟩) ∧ w.grownBy w' (hd0 1).ownBlock) → Calls Try.prog 38 [Value.pointer (some ⟨b, 0 * 2 + 0, none⟩)].toArray w (fun e w' => ∃ v, e = .returned v ∧ Bel (Sh w hd0 [some ⟨80, 2, 1, fun _ => [p, .own 1]⟩, some ⟨5, 1, z.size, byteCells z⟩] []) w w' ∧ ∃ hd av mem maps, (av = .lit (.string z) ∧ mem = [none, none] ∧ maps = []) ∧ PostOk [some ⟨80, 2, 1, fun _ => [p, .own 1]⟩, some ⟨5, 1, z.size, byteCells z⟩] [] av mem maps ∧ ((∀ k, k < 2 → hd k = hd0 k) ∧ TailEq hd0 hd) ∧ MemRel (Sh w hd0 [some ⟨80, 2, 1, fun _ => [p, .own 1]⟩, some ⟨5, 1, z.size, byteCells z⟩] []) w' hd mem ∧ MapRel Try.prog (Sh w hd0 [some ⟨80, 2, 1, fun _ => [p, .own 1]⟩, some ⟨5, 1, z.size, byteCells z⟩] []) w' maps ∧ Rep w' (okOf mem hd) hd mem.length av v) := by
        intro l hz hc
        refine hc.mono ?_
        rintro e w' ⟨rfl, hg⟩
        rw [← hz]
        exact ⟨_, rfl, fin w' hg⟩
      rcases hown1.2 with ⟨hn, hz0⟩ | ⟨g, cap, cur, hg1, _, hg2, hnc, hcm, hcs, htake⟩
      · refine done_ [] ?_ (str_nil b w _ ?_)
        · obtain ⟨⟨l⟩⟩ := z
          match l, hz0 with
          | [], _ => rfl
        · rw [hn] at c1; exact c1
      · rw [hg1] at c1
        rw [hg1] at done_
        rcases Nat.eq_zero_or_pos z.size with h0 | h0
        · have hz : z = ⟨#[]⟩ := by
            obtain ⟨⟨l⟩⟩ := z
            match l, h0 with
            | [], _ => rfl
          simp only at c1
          rw [h0] at c1
          by_cases hc0 : cap = 0
          · subst hc0
            exact done_ [] hz (str_noroom b g w _ cur hlt c1 hg2)
          · exact done_ [] hz (str_room b g cap w _ hc0 c1)
        · have hls : z.data.toList.length = z.size := by simp
          refine done_ z.data.toList (by simp) ?_
          refine (str_row b g cap cur z.data.toList w (by intro e; rw [e] at hls; simp at hls; omega) ?_ hg2 (by rw [hls]; exact hnc) hcm (by simpa using hcs) fun j x hx => ?_).mono fun e w' h => h
          · rw [hls]; exact c1
          · have hj : j < z.size := by rw [← hls]; exact (List.getElem?_eq_some_iff.1 hx).1
            have h1 := hown1.cells (g := g) (by rw [hg1]; rfl) j _ (hbytes j hj)
            have e : byteAt z j = (x.toNat : Int) := by
              unfold byteAt
              rw [dif_pos hj]
              have : z[j] = x := by
                rw [List.getElem?_eq_getElem (by rw [hls]; exact hj)] at hx
                exact Option.some.inj hx
              rw [this]
            rw [e] at h1
            exact h1
end Go.Proofs.Ytcnmgfbafcnkhaa.V
/- Contracts: package strings' Builder: WriteString; rendering by the program. -/
namespace Go.Proofs.Ytcnmgfbafcnkhaa.V
open Go.RowKit
set_option linter.unusedVariables false
set_option linter.unusedSimpArgs false
set_option linter.constructorNameAsVariable false
def bp (u : Bool) : AV := if u then .ptr 0 2 0 0 else .lit (.pointer none)
theorem coBuilder : Try.prog.cellsOf 80 = 2 := by kernel_rfl
@[go_sem] theorem byteCells_ren {g : Nat → Nat} {z : ByteArray} {i : Nat} : (byteCells z i).map (ren1 g) = byteCells z i := map_lits rfl
theorem same_NoEscape : sameX Try.prog 88 := ⟨_, Try.func88, by kernel_rfl, by kernel_rfl, by kernel_rfl, by kernel_rfl⟩
theorem c_copyCheck (u : Bool) (z : ByteArray) : VProc Try.prog 66 [.ptr 0 2 0 0] [some ⟨80, 2, 1, fun _ => [bp u, .own 1]⟩, some ⟨5, 1, z.size, byteCells z⟩] [] (fun av mem maps => av = .tup [] ∧ mem = [some ⟨80, 2, 1, fun _ => [.ptr 0 2 0 0, .own 1]⟩, some ⟨5, 1, z.size, byteCells z⟩] ∧ maps = []) := by
  refine vproc_start Try.func66 (by kernel_rfl) rfl (by simp [Try.ntmps66]) ?_; simp only [Try.ntmps66, Try.results66]; simp [go_sem]
  have fin : ∀ t, vendP [] (fun av mem maps => av = .tup [] ∧ mem = [some ⟨80, 2, 1, fun _ => [.ptr 0 2 0 0, .own 1]⟩, some ⟨5, 1, z.size, byteCells z⟩] ∧ maps = []) ⟨t, [some ⟨80, 2, 1, fun _ => [.ptr 0 2 0 0, .own 1]⟩, some ⟨5, 1, z.size, byteCells z⟩], [], 2⟩ (.tup []) := by
    intro t
    refine ⟨rfl, [], [some ⟨80, 2, 1, fun _ => [.ptr 0 2 0 0, .own 1]⟩, some ⟨5, 1, z.size, byteCells z⟩], by simp, by simp, by simp [go_sem], ?_, by simp [go_sem], ?_⟩
    · simp [go_sem]
      exact ⟨⟨rfl, rfl, rfl, fun i hi => ⟨rfl, flatC_all rfl, fun c hc q hq => by simp at hc; rcases hc with rfl | rfl <;> simp [owns1] at hq <;> simp [hq]⟩⟩, outAt_lits (fun i _ => rfl) (fun i _ => rfl)⟩
    · simp [go_sem]
  cases u with
  | true =>
    simp [go_sem, bp]
    exact fin _
  | false =>
    simp [go_sem, bp]
    refine ⟨⟨_, _, ⟨rfl, rfl⟩, by decide⟩, vcall_same same_NoEscape ?_⟩
    simp [go_sem, coBuilder]
    exact fin _
theorem c_WriteString (u : Bool) (z t : ByteArray) (h : z.size + t.size ≤ 140737488355328) : VProc Try.prog 37 [.ptr 0 2 0 0, .lit (.string t)] [some ⟨80, 2, 1, fun _ => [bp u, .own 1]⟩, some ⟨5, 1, z.size, byteCells z⟩] [] (fun av mem maps => av = .tup [.lit (.int .i64 t.size), .lit .nilIface] ∧ mem = [some ⟨80, 2, 1, fun _ => [.ptr 0 2 0 0, .own 2]⟩, none, some ⟨5, 1, z.size + t.size, byteCells (z ++ t)⟩] ∧ maps = []) := by
  refine vproc_start Try.func37 (by kernel_rfl) rfl (by simp [Try.ntmps37]) ?_; simp only [Try.ntmps37, Try.results37]; simp [go_sem]
  refine vcall_share [0, 1] (c_copyCheck u z) (by simp) ?_ ?_ trivial ?_
  · simp [go_sem]
  · simp [go_sem]
    refine ⟨?_, fun i _ => cellsRn_lits rfl⟩
    cases u
    · exact .closed _ (.lit _)
    · exact .ptr 0 2 0 0 (by omega)
  · rintro av mem maps ⟨rfl, rfl, rfl⟩
    simp [go_sem]
    refine ⟨h, rfl, [2], [some ⟨80, 2, 1, fun _ => [.ptr 0 2 0 0, .own 2]⟩, none, some ⟨5, 1, z.size + t.size, byteCells (z ++ t)⟩], by simp, by simp, by simp [go_sem], ?_, by simp [go_sem], ?_⟩
    · simp [go_sem]
      exact ⟨⟨rfl, rfl, rfl, fun i hi => ⟨rfl, flatC_all rfl, fun c hc q hq => by simp at hc; rcases hc with rfl | rfl <;> simp [owns1] at hq <;> simp [hq]⟩⟩, outAt_lits (fun i hi => join_bytes z t i hi) (fun i _ => rfl)⟩
    · simp [go_sem]
theorem c_Render (l : List PTok) (hl : l.length + tokSum l ≤ 1048576) : VFun Try.prog 10 [.sl 3 l.length (tokCells l)] (fun av obs => obs = [] ∧ av = .lit (.string (rend l))) := by
  have cl : ∀ (i : Nat) (c : AV), i < l.length → c ∈ tokCells l i → Closed c := fun i c _ h => tokClosed l i c h
  refine vfun_start Try.func10 (by kernel_rfl) rfl (by simp [Try.ntmps10]) ?_; simp only [Try.ntmps10, Try.results10]; simp [go_sem]
  refine ⟨by omega, ?_⟩
  refine vc_loopE (fun p : Nat × Bool => p.1 ≤ l.length) (fun p => l.length - p.1) (fun p => .of [(3, .ptr 0 2 0 0), (6, .sl 3 l.length (tokCells l)), (7, .lit (.int .i64 l.length)), (8, .lit (.int .i64 p.1))] [some ⟨80, 2, 1, fun _ => [bp p.2, .own 1]⟩, some ⟨5, 1, (rend (l.take p.1)).size, byteCells (rend (l.take p.1))⟩]) ⟨(0, false), by omega, ?_⟩ (fun p hp => ?_)
  · refine (Ent.adopt (j := 0) (c := 1) rfl rfl rfl 5 1 (by omega) (fun _ => [])).trans ?_
    refine ent_ks [0, 1] (by simp) (by simp) (by simp) (by simp) trivial ?_ ?_
    · simp [go_sem]
      exact cl
    · simp [go_sem, rend, bp]
  · obtain ⟨i, u⟩ := p
    simp only at hp
    have bpr : ∀ g : Nat → Nat, g 0 = 0 → ren1 g (bp u) = bp u := fun g h => by cases u <;> simp [bp, ren1, h]
    have bpc : ∀ f : Nat → Nat, ∀ m, 0 < m → f 0 = 0 → Rn f m (bp u) (bp u) := fun f m h1 h2 => by
      cases u
      · exact .closed _ (.lit _)
      · have := Rn.ptr (f := f) (m := m) 0 2 0 0 h1
        rw [h2] at this
        exact this
    simp [go_sem]
    refine ⟨fun h => ?_, fun h => ?_⟩
    · have hs := tokSum_take l i h
      rcases ho : l.getD i default with ⟨k, g, z⟩
      rw [ho] at hs
      have e : tokCells l i = [.lit (.int .i64 k), .lit (.string g), .lit (.string z)] := by unfold tokCells; rw [ho]; rfl
      have hr := rend_take l i h
      have hz := rend_size (l.take i)
      have hz2 := tokSum_take_le l (i + 1)
      rw [ho] at hr
      simp only at hr
      simp only [tokSize] at hs
      simp [go_sem, e]
      refine ⟨h, ?_⟩
      refine vcall_share [0, 1] (c_WriteString u (rend (l.take i)) g (by omega)) (by simp) ?_ ?_ trivial ?_
      · simp [go_sem]
      · simp [go_sem]
        exact ⟨bpc _ _ (by omega) rfl, fun i _ => cellsRn_lits rfl⟩
      · rintro av mem maps ⟨rfl, rfl, rfl⟩
        simp [go_sem]
        refine vcall_share [0, 3] (c_WriteString true (rend (l.take i) ++ g) z (by rw [ByteArray.size_append]; omega)) (by simp) ?_ ?_ trivial ?_
        · simp [go_sem]
        · simp [go_sem, bp]
          exact fun i _ => cellsRn_lits rfl
        · rintro av mem maps ⟨rfl, rfl, rfl⟩
          simp [go_sem]
          refine ⟨i + 1, by omega, by omega, .inr ?_⟩
          refine ent_ks [0, 4] (by simp) (by simp) (by simp) (by simp) trivial ?_ ?_
          · simp [go_sem]
            exact ⟨cl, wrap_succ (by omega)⟩
          · simp [go_sem, hr, bp]
            exact .inl fun j hj => byteClosed _ _
    · have e2 : l.take i = l := List.take_of_length_le h
      rw [e2]
      refine vcall_share [0, 1] (c_String (bp u) (rend l)) (by simp) ?_ ?_ trivial ?_
      · simp [go_sem]
      · simp [go_sem]
        exact ⟨bpc _ _ (by omega) rfl, fun i _ => cellsRn_lits rfl⟩
      · rintro av mem maps ⟨rfl, rfl, rfl⟩
        simp [go_sem]
end Go.Proofs.Ytcnmgfbafcnkhaa.V
/- Contracts: the law of Render. -/
namespace Go.Proofs.Ytcnmgfbafcnkhaa.V
open Go.RowKit
set_option linter.unusedVariables false
set_option linter.unusedSimpArgs false
set_option linter.constructorNameAsVariable false
end Go.Proofs.Ytcnmgfbafcnkhaa.V
/- Contracts: the law of Roles. -/
namespace Go.Proofs.Ytcnmgfbafcnkhaa.V
open Go.RowKit
set_option linter.unusedVariables false
set_option linter.unusedSimpArgs false
set_option linter.constructorNameAsVariable false
theorem c_RolesO (l : List POp) (hl : l.length ≤ 9223372036854775807) (hw : opsWf l) (t : List PTok) (ht : t.length ≤ 1048576) (hz : ∀ i, i < t.length → (tokAt t i).text.size ≤ maxLen) : VFun Try.prog 9 [.agg [.sl 4 l.length (opCells l)], .sl 3 t.length (tokCells t)] (fun av obs => av = .tup [.own 0, .lit (.int .i64 (rolesZ l t).2)] ∧ obs = [⟨3, 1, (rolesZ l t).1.length, intCells (rolesZ l t).1⟩]) := by
  refine (c_Roles l hl hw t ht hz).adopt 3 1 (by omega) (intCells []) fun av obs h => ?_
  rcases h with ⟨x, h1, rfl, rfl⟩ | h1
  · refine .inr ⟨_, rfl, rfl, ?_⟩
    rw [h1]
    exact ⟨rfl, rfl⟩
  · exact .inl h1
theorem rolesZ_len (l : List POp) (t : List PTok) : (rolesZ l t).1.length ≤ t.length := by
  unfold rolesZ
  split
  · simp
  · split
    · simp
    · split
      · simp [rolesUp_len]
      · simp
end Go.Proofs.Ytcnmgfbafcnkhaa.V
