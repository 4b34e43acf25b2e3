import Derived.Test.YtcnmgfbafcnkhaaRows
import Derived.Test.YtcnmgfbafcnkhaaME
/- The law FnLexed returns true for every argument. No conditions. -/
namespace Go.Proofs.Ytcnmgfbafcnkhaa.V
open Go.RowKit
set_option linter.unusedVariables false
set_option linter.unusedSimpArgs false
set_option linter.constructorNameAsVariable false
set_option maxRecDepth 100000 in
theorem fnLexed_lifted (os : Os) (started : os.Started) (H : Type) (enc : TypeId × Value → H) :
    ReturnsInHanded {} Try.checked os 3 .any (Rows.fnLexedSpec.pre6 enc Try.prog Try.f3 Rows.fnLexedRow.domain false) (Rows.fnLexedSpec.post enc Try.prog Try.f3 false true false false) := by
  refine returnsInHanded_of_change_sized (C := Try.checked) own started (by kernel_rfl) Try.func3
    (ChangeSpec.witness6 (enc := enc) (C := Try.checked) false ⟨#[], #[.slice none 0 0], []⟩ 8 (by kernel_rfl) (by kernel_rfl) (by kernel_rfl) (by kernel_rfl)) ?_
  intro W base args ds gs before hval hW hcnd hsz _
  refine law_of 6 laidOut fullSlices rfl (fun t h => by simpa using each_of (p := fun t => decide (t < Try.prog.types.size) && Try.prog.readableRec t) (by kernel_rfl) t h) (fun ds h => ?_) (by kernel_rfl) Try.underlying4 (fun ass h => ?_) hval hW
  · match ds, h with
    | [a], _ => rfl
  · rw [Try.params3] at h ⊢
    simp only [List.toList_toArray, all2_cons, all2_nil] at h
    obtain ⟨_, _, rfl, h1, rfl⟩ := h
    obtain ⟨m, g, hm, hg, f, rfl, hf⟩ := shape_bytes 4 _ h1
    have := (c_FnLexed m g hm hg).congr (args := [.sl 1 m f]) ⟨avIn_sl hf, trivial⟩
    simpa [avOf, go_sem] using this
theorem fnLexed_over : Rows.fnLexedRow.holds Try.pinned (OpenSpec.ofChange Rows.fnLexedSpec) :=
  OpenClaim.holds_of_wide 3 Try.f3 rfl rfl rfl rfl rfl rfl rfl ⟨rfl, rfl, rfl, rfl, rfl⟩ rfl rfl rfl rfl rfl (by kernel_rfl) Try.func3 (by kernel_rfl)
    (of_decide_eq_true (by kernel_rfl)) (by unfold Func.isWrapper; first | (rw [if_pos (by decide +kernel)]; kernel_rfl) | (rw [if_neg (by decide +kernel)]; exact ⟨rfl, rfl⟩))
    (fun os started H enc _ => fnLexed_lifted os started H enc)
end Go.Proofs.Ytcnmgfbafcnkhaa.V
namespace Go.Proofs.Ytcnmgfbafcnkhaa
theorem fnLexed_holds : Rows.FnLexedSaid := V.fnLexed_over
#print axioms fnLexed_holds
end Go.Proofs.Ytcnmgfbafcnkhaa
