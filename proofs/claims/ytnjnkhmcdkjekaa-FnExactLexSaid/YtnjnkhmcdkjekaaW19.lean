/- Contracts: the specification's Union. -/
import Derived.Test.YtnjnkhmcdkjekaaW18
namespace Go.Proofs.Ytnjnkhmcdkjekaa.V
open Go.RowKit
set_option linter.unusedVariables false
set_option linter.unusedSimpArgs false
set_option linter.constructorNameAsVariable false
def opsHas (l : List POp) (n : Nat) (o : POp) : Bool := (List.range n).any fun i => opEq (opAt l i) o
theorem c_l1Has (l : List POp) (n : Nat) (hn : n ≤ 9223372036854775807) (o : POp) : VFun Try.prog 45 [.sl 4 n (opCells l), .agg o.cells] (fun av obs => obs = [] ∧ av = .lit (.bool (opsHas l n o))) := by
  have cl : ∀ (i : Nat) (c : AV), i < n → c ∈ opCells l i → Closed c := fun i c _ h => opClosed l i c h
  obtain ⟨z, kd, lv, sd⟩ := o
  simp only [POp.cells]
  refine vfun_start Try.func45 (by kernel_rfl) rfl (by simp [Try.ntmps45]) ?_
  simp only [Try.ntmps45, Try.results45]
  simp [go_sem]
  refine vc_loop (fun i : Nat => i ≤ n ∧ ∀ j, j < i → opEq (opAt l j) ⟨z, kd, lv, sd⟩ = false) (fun i => n - i) (fun i => .of [(0, .sl 4 n (opCells l)), (3, .ptr 0 4 0 0), (5, .lit (.int .i64 i))] [some ⟨81, 4, 1, fun _ => POp.cells ⟨z, kd, lv, sd⟩⟩]) ⟨0, ⟨by omega, by simp⟩, ?_⟩ (fun i hi => ?_)
  · simp [go_sem, POp.cells]
    exact cl
  · simp [go_sem]
    refine ⟨by omega, fun h => ?_, fun h => ?_⟩
    · refine vc_drawn 6 (.q 0 <| .q 1 <| .q 2 <| .q 3 <| .q 4 <| .q 5 <| .done) (by kernel_rfl) ?_
      simp [go_sem, opCells_at, POp.cells]
      refine ⟨h, .bool (opEq (opAt l i) ⟨z, kd, lv, sd⟩), fun w => ?_, ?_⟩
      · simp only [opEq, ba_toList, ba_beq, int_beq]
        by_cases h1 : (opAt l i).text = z <;> by_cases h2 : (opAt l i).kind = kd <;> by_cases h3 : (opAt l i).level = lv <;> by_cases h4 : (opAt l i).side = sd <;> simp [h1, h2, h3, h4]
      · simp [go_sem]
        refine ⟨fun e => ?_, fun e => ⟨i + 1, ⟨by omega, fun j hj => ?_⟩, by omega, ⟨cl, wrap_succ (by omega)⟩⟩⟩
        · simp only [opsHas, List.any_eq_true, List.mem_range]
          exact ⟨i, h, e⟩
        · rcases Nat.lt_succ_iff_lt_or_eq.mp hj with hj | rfl
          · exact hi.2 j hj
          · exact e
    · simp only [opsHas, List.any_eq_false, List.mem_range]
      exact fun j hj => by rw [hi.2 j (by omega)]; simp
end Go.Proofs.Ytnjnkhmcdkjekaa.V
