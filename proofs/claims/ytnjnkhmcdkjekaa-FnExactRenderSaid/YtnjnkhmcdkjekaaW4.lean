/- Contracts, conversions. -/
import Derived.Test.YtnjnkhmcdkjekaaW3
namespace Go.Proofs.Ytnjnkhmcdkjekaa.V
open Go.RowKit
set_option linter.unusedVariables false
set_option linter.unusedSimpArgs false
set_option linter.constructorNameAsVariable false

theorem c_toOp (o : POp) : VFun Try.prog 82 [.agg o.cells] (fun av obs => obs = [] ∧ av = .agg o.cells) := by
  obtain ⟨z, kind, level, side⟩ := o
  simp only [POp.cells]
  refine vfun_start Try.func82 (by kernel_rfl) rfl (by simp [Try.ntmps82]) ?_
  simp only [Try.ntmps82, Try.results82]
  simp [go_sem]
set_option maxRecDepth 100000 in
theorem shape_op (n : Nat) (xs : List AV) (h : Shape Try.prog (n + 2) 134 xs) : ∃ o : POp, o.wf ∧ xs = o.cells := by
  obtain ⟨parts, h0, rfl⟩ := shape_struct Try.underlying134 h
  clear h
  simp only [List.toList_toArray, all2_cons, all2_nil] at h0
  obtain ⟨_, _, rfl, ⟨_, h1⟩, _, _, rfl, ⟨_, h2⟩, _, _, rfl, ⟨_, h3⟩, _, _, rfl, ⟨_, h4⟩, rfl⟩ := h0
  obtain ⟨z, rfl, hz⟩ := shape_string Try.underlying9 h1
  obtain ⟨k, rfl, _⟩ := shape_int Try.underlying3 h2
  obtain ⟨l, rfl, _⟩ := shape_int Try.underlying3 h3
  obtain ⟨s, rfl, _⟩ := shape_int Try.underlying3 h4
  exact ⟨⟨z, k, l, s⟩, hz, rfl⟩
theorem laidOut : laidOutB Try.prog = true := by kernel_rfl
theorem fullSlices : ∀ t e, t < Try.prog.types.size → Try.prog.underlying t = some (.slice e) → 0 < Try.prog.cellsOf e := slices_full_of Try.prog (by kernel_rfl)
theorem own : ownKnob Try.prog.godebug = none := by kernel_rfl
theorem each_of {α : Type} {p : α → Bool} {l : List α} (h : l.all p = true) : ∀ x, x ∈ l → p x = true := List.all_eq_true.mp h
end Go.Proofs.Ytnjnkhmcdkjekaa.V
