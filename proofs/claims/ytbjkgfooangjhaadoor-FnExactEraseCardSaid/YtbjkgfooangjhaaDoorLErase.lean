import Derived.Test.YtbjkgfooangjhaaDoorCards
import Derived.Test.YtbjkgfooangjhaaDoorTie
import Derived.Test.YtbjkgfooangjhaaDoorME
import Derived.LaidMore
import Derived.Lay
import Derived.SevenTiedAt
import Derived.Stop.Joined
/- The law FnExactErase returns true for every argument (the card: the two tables of unicode/utf8 that its row lists are tied to the program's text). No conditions. -/
namespace Go.Proofs.YtbjkgfooangjhaaDoor.V
open Go.ChangeShapes Go.WideShapes Go.ChangeAt Go.RowKit
set_option linter.unusedVariables false
set_option linter.unusedSimpArgs false
set_option linter.constructorNameAsVariable false
set_option maxRecDepth 100000 in
theorem fnExactErase_lifted (os : Os) (started : os.Started) (H : Type) (enc : TypeId × Value → H) :
    ReturnsInHanded {} Tryd.checked os 3 .any (fun w args => (Rows.fnExactEraseSpec.pre enc Tryd.prog Tryd.f3 Rows.fnExactEraseRow.domain false w args ∧ laidMetH Tryd.prog Rows.fnExactEraseRow.laid w) ∧ sizedMet enc Tryd.prog Tryd.f3 (OpenSpec.ofChange Rows.fnExactEraseSpec) false w args)
      (Rows.fnExactEraseSpec.post enc Tryd.prog Tryd.f3 false true false false) := by
  refine returnsInHanded_of_change_and (C := Tryd.checked) (X := fun w _ => laidMetH Tryd.prog Rows.fnExactEraseRow.laid w) (fun _ _ _ hh h => h.of_heap hh) own started (by kernel_rfl) Tryd.func3
    (ChangeSpec.witness_shaped (enc := enc) (C := Tryd.checked) (os := os) (X := fun w _ => laidMetH Tryd.prog Rows.fnExactEraseRow.laid w) false (World.laidAll Tryd.prog os Rows.fnExactEraseRow.laid) #[.agg #[.slice none 0 0]] 8 (World.laidAll_os _ _ _)
      (World.shaped_of_ZipB (by kernel_rfl) (by kernel_rfl)) (by kernel_rfl) (by kernel_rfl) (by kernel_rfl)
      (by rw [MakeChecks.laidMetH_plain _ _ _ (by kernel_rfl)]; exact laidMet_laidAll _ (by kernel_rfl) (by kernel_rfl))) ?_
  intro W base args ds gs before hval hW hcnd _ _ _
  refine law_of 6 laidOut fullSlices rfl (fun t h => by simpa using each_of (p := fun t => decide (t < Tryd.prog.types.size) && Tryd.prog.readableRec t) (by kernel_rfl) t h) (fun ds h => ?_) (by kernel_rfl) Tryd.underlying4 (fun ass h => ?_) hval hW
  · match ds, h with
    | [a], _ => rfl
  · rw [Tryd.params3] at h ⊢
    simp only [List.toList_toArray, all2_cons, all2_nil] at h
    obtain ⟨_, _, rfl, h2, rfl⟩ := h
    obtain ⟨b, hlb, hwb, g, rfl, hg⟩ := shape_tree 2 _ h2
    have := (c_FnExactErase b hlb hwb).congr (args := [.agg [.sl 4 b.length g]]) ⟨avIn_agg (avIn_sl hg), trivial⟩
    simpa [avOf, go_sem] using this
theorem fnExactErase_over : Rows.fnExactEraseRow.holds Tryd.pinned (OpenSpec.ofChange Rows.fnExactEraseSpec) :=
  OpenClaim.holds_of_wide 3 Tryd.f3 rfl rfl rfl rfl rfl rfl rfl ⟨rfl, rfl, rfl, rfl, rfl⟩ rfl rfl rfl rfl rfl (by kernel_rfl) Tryd.func3 (by kernel_rfl)
    (of_decide_eq_true (by kernel_rfl)) (by unfold Func.isWrapper; first | (rw [if_pos (by decide +kernel)]; kernel_rfl) | (rw [if_neg (by decide +kernel)]; exact ⟨rfl, rfl⟩))
    (fun os started H enc _ => fnExactErase_lifted os started H enc)
end Go.Proofs.YtbjkgfooangjhaaDoor.V
namespace Go.Proofs.YtbjkgfooangjhaaDoor
open Go
theorem fnExactErase_holds : Rows.FnExactEraseCardSaid :=
  Claim7.holds_tied_plain_at .later [] [.data, .pinned] true Rows.fnExactEraseCard.stood.harness true V.fnExactErase_over (fun _ h => by cases h) (by kernel_rfl) (fun _ h => by cases h) fnExactErase_row_tie rfl ⟨rfl, rfl⟩ (by kernel_rfl) rfl
    (fun f fn hf hfn => by
      obtain rfl : f = 3 := Option.some.inj ((show Tryd.prog.funcNamed "loop.example/s0059/laws.FnExactErase" = some 3 by kernel_rfl).symm.trans hf) |>.symm
      obtain rfl : fn = Tryd.f3 := (Option.some.inj (Tryd.func3.symm.trans hfn)).symm
      exact ⟨by kernel_rfl, fun j t ht => by
        rw [Tryd.params3] at ht
        have hm : t ∈ [24] := by simpa using Array.mem_of_getElem? ht
        have hall : ([24].all fun u => !Tryd.prog.wantsStandIn u) = true := by kernel_rfl
        exact (show Tryd.prog.wantsStandIn t = false by simpa using List.all_eq_true.1 hall t hm)⟩)
    (by kernel_rfl)
#print axioms fnExactErase_holds
end Go.Proofs.YtbjkgfooangjhaaDoor
