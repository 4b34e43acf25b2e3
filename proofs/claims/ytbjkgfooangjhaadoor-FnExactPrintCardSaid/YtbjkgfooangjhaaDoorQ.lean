import Derived.Test.YtbjkgfooangjhaaDoorCards
import Derived.Test.YtbjkgfooangjhaaDoorTie
import Derived.Test.YtbjkgfooangjhaaDoorMF
import Derived.LaidMore
import Derived.Lay
import Derived.SevenTiedAt
import Derived.Stop.Joined
/- The law FnExactPrint returns true for every argument (the card: the two tables of unicode/utf8 that its row lists are tied to the program's text). No conditions. -/
namespace Go.Proofs.YtbjkgfooangjhaaDoor.V
open Go.ChangeShapes Go.WideShapes Go.ChangeAt Go.RowKit
set_option linter.unusedVariables false
set_option linter.unusedSimpArgs false
set_option linter.constructorNameAsVariable false
set_option maxRecDepth 100000 in
theorem fnExactPrint_lifted (os : Os) (started : os.Started) (H : Type) (enc : TypeId × Value → H) :
    ReturnsInHanded {} Tryd.checked os 6 .any (fun w args => (Rows.fnExactPrintSpec.pre enc Tryd.prog Tryd.f6 Rows.fnExactPrintRow.domain false w args ∧ laidMetH Tryd.prog Rows.fnExactPrintRow.laid w) ∧ sizedMet enc Tryd.prog Tryd.f6 (OpenSpec.ofChange Rows.fnExactPrintSpec) false w args)
      (Rows.fnExactPrintSpec.post enc Tryd.prog Tryd.f6 false true false false) := by
  refine returnsInHanded_of_change_and (C := Tryd.checked) (X := fun w _ => laidMetH Tryd.prog Rows.fnExactPrintRow.laid w) (fun _ _ _ hh h => h.of_heap hh) own started (by kernel_rfl) Tryd.func6
    (ChangeSpec.witness_shaped (enc := enc) (C := Tryd.checked) (os := os) (X := fun w _ => laidMetH Tryd.prog Rows.fnExactPrintRow.laid w) false (World.laidAll Tryd.prog os Rows.fnExactPrintRow.laid) #[.agg #[.slice none 0 0], .agg #[.slice none 0 0]] 8 (World.laidAll_os _ _ _)
      (World.shaped_of_ZipB (by kernel_rfl) (by kernel_rfl)) (by kernel_rfl) (by kernel_rfl) (by kernel_rfl)
      (by rw [MakeChecks.laidMetH_plain _ _ _ (by kernel_rfl)]; exact laidMet_laidAll _ (by kernel_rfl) (by kernel_rfl))) ?_
  intro W base args ds gs before hval hW hcnd _ _ _
  refine law_of 6 laidOut fullSlices rfl (fun t h => by simpa using each_of (p := fun t => decide (t < Tryd.prog.types.size) && Tryd.prog.readableRec t) (by kernel_rfl) t h) (fun ds h => ?_) (by kernel_rfl) Tryd.underlying4 (fun ass h => ?_) hval hW
  · match ds, h with
    | [a, b], _ => rfl
  · rw [Tryd.params6] at h ⊢
    simp only [List.toList_toArray, all2_cons, all2_nil] at h
    obtain ⟨_, _, rfl, h1, _, _, rfl, h2, rfl⟩ := h
    obtain ⟨a, hla, hwa, f, rfl, hf⟩ := shape_table 2 _ h1
    obtain ⟨b, hlb, hwb, g, rfl, hg⟩ := shape_tree 2 _ h2
    have := (c_FnExactPrint a hla hwa b hlb hwb).congr (args := [.agg [.sl 4 a.length f], .agg [.sl 4 b.length g]]) ⟨avIn_agg (avIn_sl hf), avIn_agg (avIn_sl hg), trivial⟩
    simpa [avOf, go_sem] using this
theorem fnExactPrint_over : Rows.fnExactPrintRow.holds Tryd.pinned (OpenSpec.ofChange Rows.fnExactPrintSpec) :=
  OpenClaim.holds_of_wide 6 Tryd.f6 rfl rfl rfl rfl rfl rfl rfl ⟨rfl, rfl, rfl, rfl, rfl⟩ rfl rfl rfl rfl rfl (by kernel_rfl) Tryd.func6 (by kernel_rfl)
    (of_decide_eq_true (by kernel_rfl)) (by unfold Func.isWrapper; first | (rw [if_pos (by decide +kernel)]; kernel_rfl) | (rw [if_neg (by decide +kernel)]; exact ⟨rfl, rfl⟩))
    (fun os started H enc _ => fnExactPrint_lifted os started H enc)
end Go.Proofs.YtbjkgfooangjhaaDoor.V
namespace Go.Proofs.YtbjkgfooangjhaaDoor
open Go
theorem fnExactPrint_holds : Rows.FnExactPrintCardSaid :=
  Claim7.holds_tied_plain_at .later [] [.data, .pinned] true Rows.fnExactPrintCard.stood.harness true V.fnExactPrint_over (fun _ h => by cases h) (by kernel_rfl) (fun _ h => by cases h) fnExactPrint_row_tie rfl ⟨rfl, rfl⟩ (by kernel_rfl) rfl
    (fun f fn hf hfn => by
      obtain rfl : f = 6 := Option.some.inj ((show Tryd.prog.funcNamed "loop.example/s0059/laws.FnExactPrint" = some 6 by kernel_rfl).symm.trans hf) |>.symm
      obtain rfl : fn = Tryd.f6 := (Option.some.inj (Tryd.func6.symm.trans hfn)).symm
      exact ⟨by kernel_rfl, fun j t ht => by
        rw [Tryd.params6] at ht
        have hm : t ∈ [37, 24] := by simpa using Array.mem_of_getElem? ht
        have hall : ([37, 24].all fun u => !Tryd.prog.wantsStandIn u) = true := by kernel_rfl
        exact (show Tryd.prog.wantsStandIn t = false by simpa using List.all_eq_true.1 hall t hm)⟩)
    (by kernel_rfl)
#print axioms fnExactPrint_holds
end Go.Proofs.YtbjkgfooangjhaaDoor
