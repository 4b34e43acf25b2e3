/- Contracts: comparison of lists of operators, of tables. -/
import Derived.Test.YtnjnkhmcdkjekaaW9
namespace Go.Proofs.Ytnjnkhmcdkjekaa.V
open Go.RowKit
set_option linter.unusedVariables false
set_option linter.unusedSimpArgs false
set_option linter.constructorNameAsVariable false
def opAt (l : List POp) (i : Nat) : POp := l.getD i default
theorem opCells_at (l : List POp) (i : Nat) : opCells l i = [.lit (.string (opAt l i).text), .lit (.int .i64 (opAt l i).kind), .lit (.int .i64 (opAt l i).level), .lit (.int .i64 (opAt l i).side)] := rfl
def opsEq (a b : List POp) : Bool := decide (a.length = b.length) && (List.range a.length).all fun i => opEq (opAt a i) (opAt b i)
theorem opsEq_false {a b : List POp} {i : Nat} (h : i < a.length) (e : opEq (opAt a i) (opAt b i) = false) : opsEq a b = false := by
  simp only [opsEq, Bool.and_eq_false_iff, List.all_eq_false, List.mem_range]
  exact .inr ⟨i, h, by rw [e]; simp⟩
theorem opsEq_true {a b : List POp} (hl : a.length = b.length) (h : ∀ i, i < a.length → opEq (opAt a i) (opAt b i) = true) : opsEq a b = true := by
  simp only [opsEq, Bool.and_eq_true, decide_eq_true_eq, List.all_eq_true, List.mem_range]
  exact ⟨hl, h⟩
theorem c_eqOpS (a b : List POp) (ha : a.length ≤ 9223372036854775807) (hb : b.length ≤ 9223372036854775807) : VFun Try.prog 48 [.sl 4 a.length (opCells a), .sl 4 b.length (opCells b)] (fun av obs => obs = [] ∧ av = .lit (.bool (opsEq a b))) := by
  refine vfun_start Try.func48 (by kernel_rfl) rfl (by simp [Try.ntmps48]) ?_
  simp only [Try.ntmps48, Try.results48]
  simp [go_sem]
  refine ⟨by omega, by omega, fun h1 => ?_, fun h1 => ?_⟩
  · simp [opsEq]; omega
  · refine vc_loop (fun i : Nat => i ≤ a.length ∧ ∀ j, j < i → opEq (opAt a j) (opAt b j) = true) (fun i => a.length - i) (fun i => .of [(0, .sl 4 a.length (opCells a)), (1, .sl 4 b.length (opCells b)), (4, .lit (.bool false)), (5, .lit (.int .i64 i))] []) ⟨0, ⟨by omega, by simp⟩, ?_⟩ (fun i hi => ?_)
    · simp [go_sem]
      exact ⟨fun i c _ h => opClosed a i c h, fun i c _ h => opClosed b i c h⟩
    · simp [go_sem]
      refine ⟨by omega, fun h => ?_, fun h => ?_⟩
      · refine vc_drawn 10 (.q 0 <| .q 1 <| .q 2 <| .q 3 <| .q 4 <| .q 5 <| .q 6 <| .q 7 <| .or 8 (.q 9 <| .done) (.nil)) (by kernel_rfl) ?_
        simp [go_sem, opCells_at]
        refine ⟨h, by omega, vcallV_pure (c_eqOp (opAt a i) (opAt b i)) ?_ ?_⟩
        · simp [go_sem, POp.cells]
        · simp [go_sem]
          refine ⟨fun e => opsEq_false h e, fun e => ⟨i + 1, ⟨by omega, fun j hj => ?_⟩, by omega, ⟨fun i c _ h => opClosed a i c h, fun i c _ h => opClosed b i c h, wrap_succ (by omega)⟩⟩⟩
          rcases Nat.lt_succ_iff_lt_or_eq.mp hj with hj | rfl
          · exact hi.2 j hj
          · exact e
      · exact opsEq_true (by omega) fun j hj => hi.2 j (by omega)
theorem c_eqTable (a b : List POp) (ha : a.length ≤ 9223372036854775807) (hb : b.length ≤ 9223372036854775807) : VFun Try.prog 19 [.agg [.sl 4 a.length (opCells a)], .agg [.sl 4 b.length (opCells b)]] (fun av obs => obs = [] ∧ av = .lit (.bool (opsEq a b))) := by
  refine vfun_start Try.func19 (by kernel_rfl) rfl (by simp [Try.ntmps19]) ?_
  simp only [Try.ntmps19, Try.results19]
  simp [go_sem]
  refine vcall_pure (c_eqOpS a b ha hb) ?_ ?_
  · simp [go_sem]
    exact ⟨argSl_refl (by omega) fun i c _ h => opClosed a i c h, argSl_refl (by omega) fun i c _ h => opClosed b i c h⟩
  · simp [go_sem]
end Go.Proofs.Ytnjnkhmcdkjekaa.V
