/- The law FnExactHole returns true for every argument. No conditions. -/
import Derived.Test.YthhgckbfmpkipaaRows
import Derived.Test.YthhgckbfmpkipaaW4
namespace Go.Proofs.Ythhgckbfmpkipaa.V
open Go.RowKit
set_option linter.unusedVariables false
set_option linter.unusedSimpArgs false
set_option linter.constructorNameAsVariable false
theorem laidOut : laidOutB Try.prog = true := by kernel_rfl
theorem fullSlices : ∀ t e, t < Try.prog.types.size → Try.prog.underlying t = some (.slice e) → 0 < Try.prog.cellsOf e := slices_full_of Try.prog (by kernel_rfl)
theorem own : ownKnob Try.prog.godebug = none := by kernel_rfl
theorem each_of {α : Type} {p : α → Bool} {l : List α} (h : l.all p = true) : ∀ x, x ∈ l → p x = true := List.all_eq_true.mp h
set_option maxRecDepth 100000 in
theorem fnExactHole_lifted (os : Os) (started : os.Started) (H : Type) (enc : TypeId × Value → H) :
    ReturnsInHanded {} Try.checked os 4 .any (Rows.fnExactHoleSpec.pre6 enc Try.prog Try.f4 Rows.fnExactHoleRow.domain false) (Rows.fnExactHoleSpec.post enc Try.prog Try.f4 false true false false) := by
  refine returnsInHanded_of_change_sized (C := Try.checked) own started (by kernel_rfl) Try.func4
    (ChangeSpec.witness6 (enc := enc) (C := Try.checked) false ⟨#[], #[.agg #[.string ⟨#[]⟩, .int .i64 0, .int .i64 0, .int .i64 0], .bool false], []⟩ 8 (by kernel_rfl) (by kernel_rfl) (by kernel_rfl) (by kernel_rfl)) ?_
  intro W base args ds gs before hval hW hcnd hsz _
  refine law_of 4 laidOut fullSlices rfl (fun t h => by simpa using each_of (p := fun t => decide (t < Try.prog.types.size) && Try.prog.readableRec t) (by kernel_rfl) t h) (fun ds h => ?_) (by kernel_rfl) Try.underlying4 (fun ass h => ?_) hval hW
  · match ds, h with
    | [a, b], _ => rfl
  · rw [Try.params4] at h ⊢
    simp only [List.toList_toArray, all2_cons, all2_nil] at h
    obtain ⟨_, _, rfl, h1, _, _, rfl, h2, rfl⟩ := h
    obtain ⟨o, ho, rfl⟩ := shape_op 2 _ h1
    obtain ⟨b, rfl⟩ := shape_bool Try.underlying4 h2
    have := c_FnExactHole o ho b
    simpa [avOf, go_sem] using this
theorem fnExactHole_over : Rows.fnExactHoleRow.holds Try.pinned (OpenSpec.ofChange Rows.fnExactHoleSpec) :=
  OpenClaim.holds_of_wide 4 Try.f4 rfl rfl rfl rfl rfl rfl rfl ⟨rfl, rfl, rfl, rfl, rfl⟩ rfl rfl rfl rfl rfl (by kernel_rfl) Try.func4 (by kernel_rfl)
    (of_decide_eq_true (by kernel_rfl)) (by unfold Func.isWrapper; first | (rw [if_pos (by decide +kernel)]; kernel_rfl) | (rw [if_neg (by decide +kernel)]; exact ⟨rfl, rfl⟩))
    (fun os started H enc _ => fnExactHole_lifted os started H enc)
end Go.Proofs.Ythhgckbfmpkipaa.V
namespace Go.Proofs.Ythhgckbfmpkipaa
theorem fnExactHole_holds : Rows.FnExactHoleSaid := V.fnExactHole_over
#print axioms fnExactHole_holds
end Go.Proofs.Ythhgckbfmpkipaa
