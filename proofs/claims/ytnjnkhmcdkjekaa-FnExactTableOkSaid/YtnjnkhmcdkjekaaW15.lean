/- The law FnExactTableOk returns true for every argument. No conditions. -/
import Derived.Test.YtnjnkhmcdkjekaaRows
import Derived.Test.YtnjnkhmcdkjekaaW14
namespace Go.Proofs.Ytnjnkhmcdkjekaa.V
open Go.RowKit
set_option linter.unusedVariables false
set_option linter.unusedSimpArgs false
set_option linter.constructorNameAsVariable false
set_option maxRecDepth 100000 in
theorem fnExactTableOk_lifted (os : Os) (started : os.Started) (H : Type) (enc : TypeId × Value → H) :
    ReturnsInHanded {} Try.checked os 5 .any (Rows.fnExactTableOkSpec.pre6 enc Try.prog Try.f5 Rows.fnExactTableOkRow.domain false) (Rows.fnExactTableOkSpec.post enc Try.prog Try.f5 false true false false) := by
  refine returnsInHanded_of_change_sized (C := Try.checked) own started (by kernel_rfl) Try.func5
    (ChangeSpec.witness6 (enc := enc) (C := Try.checked) false ⟨#[], #[.agg #[.slice none 0 0]], []⟩ 8 (by kernel_rfl) (by kernel_rfl) (by kernel_rfl) (by kernel_rfl)) ?_
  intro W base args ds gs before hval hW hcnd hsz _
  refine law_of 6 laidOut fullSlices rfl (fun t h => by simpa using each_of (p := fun t => decide (t < Try.prog.types.size) && Try.prog.readableRec t) (by kernel_rfl) t h) (fun ds h => ?_) (by kernel_rfl) Try.underlying4 (fun ass h => ?_) hval hW
  · match ds, h with
    | [a], _ => rfl
  · rw [Try.params5] at h ⊢
    simp only [List.toList_toArray, all2_cons, all2_nil] at h
    obtain ⟨_, _, rfl, h1, rfl⟩ := h
    obtain ⟨l, hl, hw, f, rfl, hf⟩ := shape_table 2 _ h1
    have := (c_FnExactTableOk l hl hw).congr (args := [.agg [.sl 4 l.length f]]) ⟨avIn_agg (avIn_sl hf), trivial⟩
    simpa [avOf, go_sem] using this
theorem fnExactTableOk_over : Rows.fnExactTableOkRow.holds Try.pinned (OpenSpec.ofChange Rows.fnExactTableOkSpec) :=
  OpenClaim.holds_of_wide 5 Try.f5 rfl rfl rfl rfl rfl rfl rfl ⟨rfl, rfl, rfl, rfl, rfl⟩ rfl rfl rfl rfl rfl (by kernel_rfl) Try.func5 (by kernel_rfl)
    (of_decide_eq_true (by kernel_rfl)) (by unfold Func.isWrapper; first | (rw [if_pos (by decide +kernel)]; kernel_rfl) | (rw [if_neg (by decide +kernel)]; exact ⟨rfl, rfl⟩))
    (fun os started H enc _ => fnExactTableOk_lifted os started H enc)
end Go.Proofs.Ytnjnkhmcdkjekaa.V
namespace Go.Proofs.Ytnjnkhmcdkjekaa
theorem fnExactTableOk_holds : Rows.FnExactTableOkSaid := V.fnExactTableOk_over
#print axioms fnExactTableOk_holds
end Go.Proofs.Ytnjnkhmcdkjekaa
