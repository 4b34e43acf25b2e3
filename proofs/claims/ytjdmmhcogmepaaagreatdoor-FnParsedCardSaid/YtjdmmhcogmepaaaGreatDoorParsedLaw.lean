import Derived.Test.YtjdmmhcogmepaaaGreatDoorCards
import Derived.Test.YtjdmmhcogmepaaaGreatDoorTie
import Derived.Test.YtjdmmhcogmepaaaGreatDoorMF
import Derived.LaidMore
import Derived.Lay
import Derived.SevenTiedAt
import Derived.Stop.Joined
/- The law FnParsed returns true for every argument (the card: the two tables of unicode/utf8 that its row lists are tied to the program's text). No conditions. -/
namespace Go.Proofs.YtjdmmhcogmepaaaGreatDoor.V
open Go.ChangeShapes Go.WideShapes Go.ChangeAt Go.RowKit
set_option linter.unusedVariables false
set_option linter.unusedSimpArgs false
set_option linter.constructorNameAsVariable false
set_option maxRecDepth 100000 in
theorem fnParsed_lifted (os : Os) (started : os.Started) (H : Type) (enc : TypeId × Value → H) :
    ReturnsInHanded {} Tryz.checked os 7 .any (fun w args => (Rows.fnParsedSpec.pre enc Tryz.prog Tryz.f7 Rows.fnParsedRow.domain false w args ∧ laidMetH Tryz.prog Rows.fnParsedRow.laid w) ∧ sizedMet enc Tryz.prog Tryz.f7 (OpenSpec.ofChange Rows.fnParsedSpec) false w args)
      (Rows.fnParsedSpec.post enc Tryz.prog Tryz.f7 false true false false) := by
  refine returnsInHanded_of_change_and (C := Tryz.checked) (X := fun w _ => laidMetH Tryz.prog Rows.fnParsedRow.laid w) (fun _ _ _ hh h => h.of_heap hh) own started (by kernel_rfl) Tryz.func7
    (ChangeSpec.witness_shaped (enc := enc) (C := Tryz.checked) (os := os) (X := fun w _ => laidMetH Tryz.prog Rows.fnParsedRow.laid w) false (World.laidAll Tryz.prog os Rows.fnParsedRow.laid) #[.slice none 0 0, .slice none 0 0] 8 (World.laidAll_os _ _ _)
      (World.shaped_of_ZipB (by kernel_rfl) (by kernel_rfl)) (by kernel_rfl) (by kernel_rfl) (by kernel_rfl)
      (by rw [MakeChecks.laidMetH_plain _ _ _ (by kernel_rfl)]; exact laidMet_laidAll _ (by kernel_rfl) (by kernel_rfl))) ?_
  intro W base args ds gs before hval hW hcnd _ _ _
  refine law_of 6 laidOut fullSlices rfl (fun t h => by simpa using each_of (p := fun t => decide (t < Tryz.prog.types.size) && Tryz.prog.readableRec t) (by kernel_rfl) t h) (fun ds h => ?_) (by kernel_rfl) Tryz.underlying4 (fun ass h => ?_) hval hW
  · match ds, h with
    | [a, b], _ => rfl
  · rw [Tryz.params7] at h ⊢
    simp only [List.toList_toArray, all2_cons, all2_nil] at h
    obtain ⟨_, _, rfl, h1, _, _, rfl, h2, rfl⟩ := h
    obtain ⟨na, ga, hla, hba, fa, rfl, hfa⟩ := shape_bytes 4 _ h1
    obtain ⟨nb, gb, hlb, hbb, fb, rfl, hfb⟩ := shape_bytes 4 _ h2
    have := (c_FnParsed na ga hla hba nb gb hlb hbb).congr (args := [.sl 1 na fa, .sl 1 nb fb]) ⟨avIn_sl hfa, avIn_sl hfb, trivial⟩
    simpa [avOf, go_sem] using this
theorem fnParsed_over : Rows.fnParsedRow.holds Tryz.pinned (OpenSpec.ofChange Rows.fnParsedSpec) :=
  OpenClaim.holds_of_wide 7 Tryz.f7 rfl rfl rfl rfl rfl rfl rfl ⟨rfl, rfl, rfl, rfl, rfl⟩ rfl rfl rfl rfl rfl (by kernel_rfl) Tryz.func7 (by kernel_rfl)
    (of_decide_eq_true (by kernel_rfl)) (by unfold Func.isWrapper; first | (rw [if_pos (by decide +kernel)]; kernel_rfl) | (rw [if_neg (by decide +kernel)]; exact ⟨rfl, rfl⟩))
    (fun os started H enc _ => fnParsed_lifted os started H enc)
end Go.Proofs.YtjdmmhcogmepaaaGreatDoor.V
namespace Go.Proofs.YtjdmmhcogmepaaaGreatDoor
open Go
theorem fnParsed_holds : Rows.FnParsedCardSaid :=
  Claim7.holds_tied_plain_at .later [] [.data, .pinned] true Rows.fnParsedCard.stood.harness true V.fnParsed_over (fun _ h => by cases h) (by kernel_rfl) (fun _ h => by cases h) fnParsed_row_tie rfl ⟨rfl, rfl⟩ (by kernel_rfl) rfl
    (fun f fn hf hfn => by
      obtain rfl : f = 7 := Option.some.inj ((show Tryz.prog.funcNamed "loop.example/s0059/laws.FnParsed" = some 7 by kernel_rfl).symm.trans hf) |>.symm
      obtain rfl : fn = Tryz.f7 := (Option.some.inj (Tryz.func7.symm.trans hfn)).symm
      exact ⟨by kernel_rfl, fun j t ht => by
        rw [Tryz.params7] at ht
        have hm : t ∈ [34, 34] := by simpa using Array.mem_of_getElem? ht
        have hall : ([34, 34].all fun u => !Tryz.prog.wantsStandIn u) = true := by kernel_rfl
        exact (show Tryz.prog.wantsStandIn t = false by simpa using List.all_eq_true.1 hall t hm)⟩)
    (by kernel_rfl)
#print axioms fnParsed_holds
end Go.Proofs.YtjdmmhcogmepaaaGreatDoor
