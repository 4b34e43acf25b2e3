import Derived.Test.YtcnmgfbafcnkhaaRows
import Derived.Test.YtcnmgfbafcnkhaaMF
/- The law FnExactParse returns true for every argument. No conditions. -/
namespace Go.Proofs.Ytcnmgfbafcnkhaa.V
open Go.RowKit
set_option linter.unusedVariables false
set_option linter.unusedSimpArgs false
set_option linter.constructorNameAsVariable false
set_option maxRecDepth 100000 in
theorem fnExactParse_lifted (os : Os) (started : os.Started) (H : Type) (enc : TypeId × Value → H) :
    ReturnsInHanded {} Try.checked os 4 .any (Rows.fnExactParseSpec.pre6 enc Try.prog Try.f4 Rows.fnExactParseRow.domain false) (Rows.fnExactParseSpec.post enc Try.prog Try.f4 false true false false) := by
  refine returnsInHanded_of_change_sized (C := Try.checked) own started (by kernel_rfl) Try.func4
    (ChangeSpec.witness6 (enc := enc) (C := Try.checked) false ⟨#[], #[.agg #[.slice none 0 0], .string ⟨#[]⟩], []⟩ 8 (by kernel_rfl) (by kernel_rfl) (by kernel_rfl) (by kernel_rfl)) ?_
  intro W base args ds gs before hval hW hcnd hsz _
  refine law_of 6 laidOut fullSlices rfl (fun t h => by simpa using each_of (p := fun t => decide (t < Try.prog.types.size) && Try.prog.readableRec t) (by kernel_rfl) t h) (fun ds h => ?_) (by kernel_rfl) Try.underlying4 (fun ass h => ?_) hval hW
  · match ds, h with
    | [a, b], _ => rfl
  · rw [Try.params4] at h ⊢
    simp only [List.toList_toArray, all2_cons, all2_nil] at h
    obtain ⟨_, _, rfl, h1, _, _, rfl, h2, rfl⟩ := h
    obtain ⟨a, hla, hwa, f, rfl, hf⟩ := shape_table 2 _ h1
    obtain ⟨z, rfl, hz⟩ := shape_string Try.underlying9 h2
    have := (c_FnExactParse a hla hwa z hz).congr (args := [.agg [.sl 4 a.length f], .lit (.string z)]) ⟨avIn_agg (avIn_sl hf), AVIn.refl _, trivial⟩
    simpa [avOf, go_sem] using this
theorem fnExactParse_over : Rows.fnExactParseRow.holds Try.pinned (OpenSpec.ofChange Rows.fnExactParseSpec) :=
  OpenClaim.holds_of_wide 4 Try.f4 rfl rfl rfl rfl rfl rfl rfl ⟨rfl, rfl, rfl, rfl, rfl⟩ rfl rfl rfl rfl rfl (by kernel_rfl) Try.func4 (by kernel_rfl)
    (of_decide_eq_true (by kernel_rfl)) (by unfold Func.isWrapper; first | (rw [if_pos (by decide +kernel)]; kernel_rfl) | (rw [if_neg (by decide +kernel)]; exact ⟨rfl, rfl⟩))
    (fun os started H enc _ => fnExactParse_lifted os started H enc)
end Go.Proofs.Ytcnmgfbafcnkhaa.V
namespace Go.Proofs.Ytcnmgfbafcnkhaa
theorem fnExactParse_holds : Rows.FnExactParseSaid := V.fnExactParse_over
#print axioms fnExactParse_holds
end Go.Proofs.Ytcnmgfbafcnkhaa
