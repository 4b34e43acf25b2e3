/- Contracts, holes. -/
import Derived.Test.YtnjnkhmcdkjekaaW2
namespace Go.Proofs.Ytnjnkhmcdkjekaa.V
open Go.RowKit
set_option linter.unusedVariables false
set_option linter.unusedSimpArgs false

def hole (o : POp) (second : Bool) : Int := if opOk o = false ∨ (second = true ∧ o.kind ≠ 2) then 0 else if o.kind = 2 ∧ (o.side = 3 ∨ (decide (o.side = 1) = second)) then o.level + 1 else o.level
theorem opOk_level {o : POp} (h : opOk o = true) : 1 ≤ o.level ∧ o.level ≤ 1000 := by
  simp [opOk] at h; omega
theorem c_l1Hole (o : POp) (ho : o.wf) (b : Bool) : VFun Try.prog 116 [.agg o.cells, .lit (.bool b)] (fun av obs => obs = [] ∧ av = .lit (.int .i64 (hole o b))) := by
  have hc := c_l1OpOk o ho
  have hl := @opOk_level o
  obtain ⟨z, kind, level, side⟩ := o
  simp only [POp.cells] at hc ⊢
  refine vfun_start Try.func116 (by kernel_rfl) rfl (by simp [Try.ntmps116]) ?_
  simp only [Try.ntmps116, Try.results116]
  simp [go_sem]
  refine vcall_pure hc ?_ ?_
  · simp [go_sem]
  · simp (maxSteps := 1000000) [go_sem]
    have hw : opOk ⟨z, kind, level, side⟩ = true → IntKind.i64.wrap (level + 1) = level + 1 := fun h => wrap_i64 (by have := hl h; simp only at this; omega)
    clear hc hl ho
    simp only [hole, int_beq]
    generalize opOk ⟨z, kind, level, side⟩ = q at hw ⊢
    cases q
    · simp
    · simp only [hw rfl]
      by_cases h1 : kind = 2 <;> by_cases h2 : side = 3 <;> by_cases h3 : side = 1 <;> cases b <;> simp [h1, h2, h3]
theorem c_Hole (o : POp) (ho : o.wf) (b : Bool) : VFun Try.prog 102 [.agg o.cells, .lit (.bool b)] (fun av obs => obs = [] ∧ av = .lit (.int .i64 (hole o b))) := by
  have hc := c_opOk o ho
  have hl := @opOk_level o
  obtain ⟨z, kind, level, side⟩ := o
  simp only [POp.cells] at hc ⊢
  refine vfun_start Try.func102 (by kernel_rfl) rfl (by simp [Try.ntmps102]) ?_
  simp only [Try.ntmps102, Try.results102]
  simp [go_sem]
  refine vcall_pure hc ?_ ?_
  · simp [go_sem]
  · simp (maxSteps := 1000000) [go_sem]
    have hw : opOk ⟨z, kind, level, side⟩ = true → IntKind.i64.wrap (level + 1) = level + 1 := fun h => wrap_i64 (by have := hl h; simp only at this; omega)
    clear hc hl ho
    simp only [hole, int_beq]
    generalize opOk ⟨z, kind, level, side⟩ = q at hw ⊢
    cases q
    · simp
    · simp only [hw rfl]
      by_cases h1 : kind = 2 <;> by_cases h2 : side = 3 <;> by_cases h3 : side = 1 <;> cases b <;> simp [h1, h2, h3]
theorem c_szOp (o : POp) (left : Int) (ho : o.wf) (h0 : 0 ≤ left) (h : left ≤ 1048576) : VFun Try.prog 81 [.agg o.cells, .lit (.int .i64 left)] (fun av obs => obs = [] ∧ av = .lit (.int .i64 (if left - o.text.size < 0 then -1 else left - o.text.size))) := by
  obtain ⟨z, kind, level, side⟩ := o
  simp only [POp.cells, POp.wf, maxLen] at ho ⊢
  refine vfun_start Try.func81 (by kernel_rfl) rfl (by simp [Try.ntmps81]) ?_
  simp only [Try.ntmps81, Try.results81]
  simp [go_sem]
  rw [wrap_i64 (by omega)]
  refine ⟨fun h1 h2 => by omega, fun h1 => ?_⟩
  rw [if_neg (by omega)]
end Go.Proofs.Ytnjnkhmcdkjekaa.V
