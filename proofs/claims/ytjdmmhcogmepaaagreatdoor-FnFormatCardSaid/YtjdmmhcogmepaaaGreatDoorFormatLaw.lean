import Derived.Test.YtjdmmhcogmepaaaGreatDoorCards
import Derived.Test.YtjdmmhcogmepaaaGreatDoorTie
import Derived.Test.YtjdmmhcogmepaaaGreatDoorFF
import Derived.LaidMore
import Derived.Lay
import Derived.SevenTiedAt
import Derived.Stop.Joined
/- The law FnFormat returns true for every argument (the card: the two tables of unicode/utf8 that its row lists are tied to the program's text). No conditions. -/
namespace Go.Proofs.YtjdmmhcogmepaaaGreatDoor.V
open Go.ChangeShapes Go.WideShapes Go.ChangeAt Go.RowKit
set_option linter.unusedVariables false
set_option linter.unusedSimpArgs false
set_option linter.constructorNameAsVariable false
set_option maxRecDepth 100000 in
theorem fnFormat_lifted (os : Os) (started : os.Started) (H : Type) (enc : TypeId × Value → H) :
    ReturnsInHanded {} Tryz.checked os 8 .any (fun w args => (Rows.fnFormatSpec.pre enc Tryz.prog Tryz.f8 Rows.fnFormatRow.domain false w args ∧ laidMetH Tryz.prog Rows.fnFormatRow.laid w) ∧ sizedMet enc Tryz.prog Tryz.f8 (OpenSpec.ofChange Rows.fnFormatSpec) false w args)
      (Rows.fnFormatSpec.post enc Tryz.prog Tryz.f8 false true false false) := by
  refine returnsInHanded_of_change_and (C := Tryz.checked) (X := fun w _ => laidMetH Tryz.prog Rows.fnFormatRow.laid w) (fun _ _ _ hh h => h.of_heap hh) own started (by kernel_rfl) Tryz.func8
    (ChangeSpec.witness_shaped (enc := enc) (C := Tryz.checked) (os := os) (X := fun w _ => laidMetH Tryz.prog Rows.fnFormatRow.laid w) false (World.laidAll Tryz.prog os Rows.fnFormatRow.laid) #[.slice none 0 0] 8 (World.laidAll_os _ _ _)
      (World.shaped_of_ZipB (by kernel_rfl) (by kernel_rfl)) (by kernel_rfl) (by kernel_rfl) (by kernel_rfl)
      (by rw [MakeChecks.laidMetH_plain _ _ _ (by kernel_rfl)]; exact laidMet_laidAll _ (by kernel_rfl) (by kernel_rfl))) ?_
  intro W base args ds gs before hval hW hcnd _ _ _
  refine ZlN 6 ZhE ZgP rfl (fun t h => by simpa using Zle (p := fun t => decide (t < Tryz.prog.types.size) && Tryz.prog.readableRec t) (by kernel_rfl) t h) (fun ds h => ?_) (by kernel_rfl) Tryz.underlying4 (fun ass h => ?_) hval hW
  · match ds, h with
    | [a], _ => rfl
  · rw [Tryz.params8] at h ⊢
    simp only [List.toList_toArray, ZiQ, Zkz] at h
    obtain ⟨_, _, rfl, h1, rfl⟩ := h
    obtain ⟨na, ga, hla, hba, fa, rfl, hfa⟩ := ZeI 4 _ h1
    have := (Zg3 na ga hla hba).congr (args := [.sl 1 na fa]) ⟨Zln hfa, trivial⟩
    simpa [ZiM, go_sem] using this
theorem fnFormat_over : Rows.fnFormatRow.holds Tryz.pinned (OpenSpec.ofChange Rows.fnFormatSpec) :=
  OpenClaim.holds_of_wide 8 Tryz.f8 rfl rfl rfl rfl rfl rfl rfl ⟨rfl, rfl, rfl, rfl, rfl⟩ rfl rfl rfl rfl rfl (by kernel_rfl) Tryz.func8 (by kernel_rfl)
    (of_decide_eq_true (by kernel_rfl)) (by unfold Func.isWrapper; first | (rw [if_pos (by decide +kernel)]; kernel_rfl) | (rw [if_neg (by decide +kernel)]; exact ⟨rfl, rfl⟩))
    (fun os started H enc _ => fnFormat_lifted os started H enc)
end Go.Proofs.YtjdmmhcogmepaaaGreatDoor.V
namespace Go.Proofs.YtjdmmhcogmepaaaGreatDoor
open Go
theorem fnFormat_holds : Rows.FnFormatCardSaid :=
  Claim7.holds_tied_plain_at .later [] [.data, .pinned] true Rows.fnFormatCard.stood.harness true V.fnFormat_over (fun _ h => by cases h) (by kernel_rfl) (fun _ h => by cases h) fnFormat_row_tie rfl ⟨rfl, rfl⟩ (by kernel_rfl) rfl
    (fun f fn hf hfn => by
      obtain rfl : f = 8 := Option.some.inj ((show Tryz.prog.funcNamed "loop.example/s0059/laws.FnFormat" = some 8 by kernel_rfl).symm.trans hf) |>.symm
      obtain rfl : fn = Tryz.f8 := (Option.some.inj (Tryz.func8.symm.trans hfn)).symm
      exact ⟨by kernel_rfl, fun j t ht => by
        rw [Tryz.params8] at ht
        have hm : t ∈ [34] := by simpa using Array.mem_of_getElem? ht
        have hall : ([34].all fun u => !Tryz.prog.wantsStandIn u) = true := by kernel_rfl
        exact (show Tryz.prog.wantsStandIn t = false by simpa using List.all_eq_true.1 hall t hm)⟩)
    (by kernel_rfl)
#print axioms fnFormat_holds
end Go.Proofs.YtjdmmhcogmepaaaGreatDoor
