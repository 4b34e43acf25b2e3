/- Contracts: marks read again. -/
import Derived.Test.YtnjnkhmcdkjekaaW17
namespace Go.Proofs.Ytnjnkhmcdkjekaa.V
open Go.RowKit
set_option linter.unusedVariables false
set_option linter.unusedSimpArgs false
set_option linter.constructorNameAsVariable false
theorem markClosed (k i : Nat) (c : AV) (h : c ∈ markCells k i) : Closed c := by
  simp [markCells, POp.cells] at h
  rcases h with rfl | rfl | rfl | rfl <;> exact .lit _
theorem markCells_at (k i : Nat) : markCells k i = [.lit (.string (mtext (k + 4 * i))), .lit (.int .i64 (k + 4 * i + 1 : Nat)), .lit (.int .i64 (k + 4 * i + 2 : Nat)), .lit (.int .i64 (k + 4 * i + 3 : Nat))] := rfl
theorem c_heldOpS (n k : Nat) (hl : n ≤ 1048576) (hk : 0 < k ∧ k ≤ 1000000000) : VFun Try.prog 50 [.sl 4 n (markCells k), .lit (.int .i64 k)] (fun av obs => obs = [] ∧ av = .lit (.int .i64 (k + 4 * n : Nat))) := by
  have cl : ∀ (i : Nat) (c : AV), i < n → c ∈ markCells k i → Closed c := fun i c _ h => markClosed k i c h
  refine vfun_start Try.func50 (by kernel_rfl) rfl (by simp [Try.ntmps50]) ?_
  simp only [Try.ntmps50, Try.results50]
  simp [go_sem]
  refine vc_loop (fun i : Nat => i ≤ n) (fun i => n - i) (fun i => .of [(0, .sl 4 n (markCells k)), (1, .lit (.int .i64 (k + 4 * i : Nat))), (5, .lit (.int .i64 i))] []) ⟨0, by omega, ?_⟩ (fun i hi => ?_)
  · simp [go_sem]
    exact cl
  · simp [go_sem]
    refine ⟨by omega, fun h => ?_, fun h => ?_⟩
    · refine vc_drawn 8 (.q 0 <| .q 1 <| .q 2 <| .q 3 <| .q 4 <| .q 5 <| .or 6 (.q 7 <| .done) (.nil)) (by kernel_rfl) ?_
      simp [go_sem, markCells_at]
      refine ⟨h, vcallV_pure (c_markText (k + 4 * i) (by omega)) ?_ ?_⟩
      · simp [go_sem]
      · simp [go_sem, markCells_at]
        have e1 := wrap_i64 (n := (k : Int) + 4 * i + 1) (by omega)
        have e2 := wrap_i64 (n := (k : Int) + 4 * i + 1 + 1) (by omega)
        have e3 := wrap_i64 (n := (k : Int) + 4 * i + 1 + 1 + 1) (by omega)
        have e4 := wrap_i64 (n := (k : Int) + 4 * i + 1 + 1 + 1 + 1) (by omega)
        simp only [e1, e2, e3, e4]
        refine ⟨h, fun h1 => absurd trivial h1, fun _ => ⟨h, fun h1 => by omega, fun _ => ⟨h, fun h1 => by omega, fun _ => ⟨i + 1, by omega, by omega, fun i c hi hc => cl i c hi (by simp only [markCells_at]; simpa using hc), by omega, wrap_succ (by omega)⟩⟩⟩⟩
    · omega
theorem c_heldTable (n k : Nat) (hl : n ≤ 1048576) (hk : 0 < k ∧ k ≤ 1000000000) : VFun Try.prog 21 [.agg [.sl 4 n (markCells k)], .lit (.int .i64 k)] (fun av obs => obs = [] ∧ av = .lit (.int .i64 (k + 4 * n : Nat))) := by
  refine vfun_start Try.func21 (by kernel_rfl) rfl (by simp [Try.ntmps21]) ?_
  simp only [Try.ntmps21, Try.results21]
  simp [go_sem]
  refine vcall_pure (c_heldOpS n k hl hk) ?_ ?_
  · simp [go_sem]
    exact argSl_refl (by omega) fun i c _ h => markClosed k i c h
  · simp [go_sem]
    omega
end Go.Proofs.Ytnjnkhmcdkjekaa.V
