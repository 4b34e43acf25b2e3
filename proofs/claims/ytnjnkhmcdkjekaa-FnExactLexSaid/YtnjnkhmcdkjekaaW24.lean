/- The law FnExactUnion returns true for every argument. No conditions. -/
import Derived.Test.YtnjnkhmcdkjekaaRows
import Derived.Test.YtnjnkhmcdkjekaaW23
namespace Go.Proofs.Ytnjnkhmcdkjekaa.V
open Go.RowKit
set_option linter.unusedVariables false
set_option linter.unusedSimpArgs false
set_option linter.constructorNameAsVariable false
set_option maxRecDepth 100000 in
theorem fnExactUnion_lifted (os : Os) (started : os.Started) (H : Type) (enc : TypeId × Value → H) :
    ReturnsInHanded {} Try.checked os 4 .any (Rows.fnExactUnionSpec.pre6 enc Try.prog Try.f4 Rows.fnExactUnionRow.domain false) (Rows.fnExactUnionSpec.post enc Try.prog Try.f4 false true false false) := by
  refine returnsInHanded_of_change_sized (C := Try.checked) own started (by kernel_rfl) Try.func4
    (ChangeSpec.witness6 (enc := enc) (C := Try.checked) false ⟨#[], #[.agg #[.slice none 0 0], .agg #[.slice none 0 0]], []⟩ 8 (by kernel_rfl) (by kernel_rfl) (by kernel_rfl) (by kernel_rfl)) ?_
  intro W base args ds gs before hval hW hcnd hsz _
  refine law_of 6 laidOut fullSlices rfl (fun t h => by simpa using each_of (p := fun t => decide (t < Try.prog.types.size) && Try.prog.readableRec t) (by kernel_rfl) t h) (fun ds h => ?_) (by kernel_rfl) Try.underlying4 (fun ass h => ?_) hval hW
  · match ds, h with
    | [a, b], _ => rfl
  · rw [Try.params4] at h ⊢
    simp only [List.toList_toArray, all2_cons, all2_nil] at h
    obtain ⟨_, _, rfl, h1, _, _, rfl, h2, rfl⟩ := h
    obtain ⟨a, hla, hwa, hra, f, rfl, hf⟩ := shape_tableR 2 _ h1
    obtain ⟨b, hlb, hwb, hrb, g, rfl, hg⟩ := shape_tableR 2 _ h2
    have := (c_FnExactUnion a b hla hlb hwa hwb hra hrb).congr (args := [.agg [.sl 4 a.length f], .agg [.sl 4 b.length g]]) ⟨avIn_agg (avIn_sl hf), avIn_agg (avIn_sl hg), trivial⟩
    simpa [avOf, go_sem] using this
theorem fnExactUnion_over : Rows.fnExactUnionRow.holds Try.pinned (OpenSpec.ofChange Rows.fnExactUnionSpec) :=
  OpenClaim.holds_of_wide 4 Try.f4 rfl rfl rfl rfl rfl rfl rfl ⟨rfl, rfl, rfl, rfl, rfl⟩ rfl rfl rfl rfl rfl (by kernel_rfl) Try.func4 (by kernel_rfl)
    (of_decide_eq_true (by kernel_rfl)) (by unfold Func.isWrapper; first | (rw [if_pos (by decide +kernel)]; kernel_rfl) | (rw [if_neg (by decide +kernel)]; exact ⟨rfl, rfl⟩))
    (fun os started H enc _ => fnExactUnion_lifted os started H enc)
end Go.Proofs.Ytnjnkhmcdkjekaa.V
namespace Go.Proofs.Ytnjnkhmcdkjekaa
theorem fnExactUnion_holds : Rows.FnExactUnionSaid := V.fnExactUnion_over
#print axioms fnExactUnion_holds
end Go.Proofs.Ytnjnkhmcdkjekaa
