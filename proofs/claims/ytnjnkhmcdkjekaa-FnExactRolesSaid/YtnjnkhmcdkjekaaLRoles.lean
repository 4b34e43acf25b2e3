import Derived.Test.YtnjnkhmcdkjekaaRows
import Derived.Test.YtnjnkhmcdkjekaaMD
/- The law FnExactRoles returns true for every argument. No conditions. -/
namespace Go.Proofs.Ytnjnkhmcdkjekaa.V
open Go.RowKit
set_option linter.unusedVariables false
set_option linter.unusedSimpArgs false
set_option linter.constructorNameAsVariable false
set_option maxRecDepth 100000 in
theorem fnExactRoles_lifted (os : Os) (started : os.Started) (H : Type) (enc : TypeId × Value → H) :
    ReturnsInHanded {} Try.checked os 7 .any (Rows.fnExactRolesSpec.pre6 enc Try.prog Try.f7 Rows.fnExactRolesRow.domain false) (Rows.fnExactRolesSpec.post enc Try.prog Try.f7 false true false false) := by
  refine returnsInHanded_of_change_sized (C := Try.checked) own started (by kernel_rfl) Try.func7
    (ChangeSpec.witness6 (enc := enc) (C := Try.checked) false ⟨#[], #[.agg #[.slice none 0 0], .slice none 0 0], []⟩ 8 (by kernel_rfl) (by kernel_rfl) (by kernel_rfl) (by kernel_rfl)) ?_
  intro W base args ds gs before hval hW hcnd hsz _
  refine law_of 6 laidOut fullSlices rfl (fun t h => by simpa using each_of (p := fun t => decide (t < Try.prog.types.size) && Try.prog.readableRec t) (by kernel_rfl) t h) (fun ds h => ?_) (by kernel_rfl) Try.underlying4 (fun ass h => ?_) hval hW
  · match ds, h with
    | [a, b], _ => rfl
  · rw [Try.params7] at h ⊢
    simp only [List.toList_toArray, all2_cons, all2_nil] at h
    obtain ⟨_, _, rfl, h1, _, _, rfl, h2, rfl⟩ := h
    obtain ⟨a, hla, hwa, f, rfl, hf⟩ := shape_table 2 _ h1
    obtain ⟨b, hlb, hwb, g, rfl, hg⟩ := shape_toks 3 _ h2
    have := (c_FnExactRoles a hla hwa b hlb hwb).congr (args := [.agg [.sl 4 a.length f], .sl 3 b.length g]) ⟨avIn_agg (avIn_sl hf), avIn_sl hg, trivial⟩
    simpa [avOf, go_sem] using this
theorem fnExactRoles_over : Rows.fnExactRolesRow.holds Try.pinned (OpenSpec.ofChange Rows.fnExactRolesSpec) :=
  OpenClaim.holds_of_wide 7 Try.f7 rfl rfl rfl rfl rfl rfl rfl ⟨rfl, rfl, rfl, rfl, rfl⟩ rfl rfl rfl rfl rfl (by kernel_rfl) Try.func7 (by kernel_rfl)
    (of_decide_eq_true (by kernel_rfl)) (by unfold Func.isWrapper; first | (rw [if_pos (by decide +kernel)]; kernel_rfl) | (rw [if_neg (by decide +kernel)]; exact ⟨rfl, rfl⟩))
    (fun os started H enc _ => fnExactRoles_lifted os started H enc)
end Go.Proofs.Ytnjnkhmcdkjekaa.V
namespace Go.Proofs.Ytnjnkhmcdkjekaa
theorem fnExactRoles_holds : Rows.FnExactRolesSaid := V.fnExactRoles_over
#print axioms fnExactRoles_holds
end Go.Proofs.Ytnjnkhmcdkjekaa
