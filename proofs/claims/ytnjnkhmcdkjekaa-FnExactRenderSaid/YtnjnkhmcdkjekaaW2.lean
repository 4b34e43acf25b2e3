/- Contracts, operators. -/
import Derived.Test.YtnjnkhmcdkjekaaW1
namespace Go.Proofs.Ytnjnkhmcdkjekaa.V
open Go.RowKit
set_option linter.unusedVariables false
set_option linter.unusedSimpArgs false

/-- an operator -/
structure POp where
  text : ByteArray
  kind : Int
  level : Int
  side : Int
def POp.cells (o : POp) : List AV := [.lit (.string o.text), .lit (.int .i64 o.kind), .lit (.int .i64 o.level), .lit (.int .i64 o.side)]
def POp.wf (o : POp) : Prop := o.text.size ≤ maxLen
def opOk (o : POp) : Bool := sgOk o.text && decide (1 ≤ o.level ∧ o.level ≤ 1000 ∧ ((o.kind = 2 ∧ 1 ≤ o.side ∧ o.side ≤ 3) ∨ ((o.kind = 1 ∨ o.kind = 3) ∧ o.side = 0)))
theorem int_beq (a b : Int) : (a == b) = decide (a = b) := by
  rw [Bool.eq_iff_iff]; simp
theorem c_l1OpOk (o : POp) (ho : o.wf) : VFun Try.prog 51 [.agg o.cells] (fun av obs => obs = [] ∧ av = .lit (.bool (opOk o))) := by
  obtain ⟨z, kind, level, side⟩ := o
  simp only [POp.cells]
  refine vfun_start Try.func51 (by kernel_rfl) rfl (by simp [Try.ntmps51]) ?_
  simp only [Try.ntmps51, Try.results51]
  simp [go_sem]
  refine vcall_pure (c_l1Signs z ho) ?_ ?_
  · simp [go_sem]
  · simp (maxSteps := 1000000) [go_sem]
    cases hs : sgOk z
    · simp [opOk, hs]
    · simp only [opOk, hs, int_beq, Bool.true_and, decide_eq_decide, decide_eq_true_eq, decide_eq_false_iff_not, true_implies, reduceCtorEq, false_implies, and_true, true_and]
      omega
theorem c_opOk (o : POp) (ho : o.wf) : VFun Try.prog 53 [.agg o.cells] (fun av obs => obs = [] ∧ av = .lit (.bool (opOk o))) := by
  obtain ⟨z, kind, level, side⟩ := o
  simp only [POp.cells]
  refine vfun_start Try.func53 (by kernel_rfl) rfl (by simp [Try.ntmps53]) ?_
  simp only [Try.ntmps53, Try.results53]
  simp [go_sem]
  refine vcall_pure (c_signsOk z ho) ?_ ?_
  · simp [go_sem]
  · simp (maxSteps := 1000000) [go_sem]
    cases hs : sgOk z
    · simp [opOk, hs]
    · simp only [opOk, hs, int_beq, Bool.true_and, decide_eq_decide, decide_eq_true_eq, decide_eq_false_iff_not, true_implies, reduceCtorEq, false_implies, and_true, true_and]
      omega

end Go.Proofs.Ytnjnkhmcdkjekaa.V
