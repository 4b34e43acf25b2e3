import Derived.Test.YtadghlfkddkelaaGreatDoorCards
import Derived.Test.YtadghlfkddkelaaGreatDoorTie
import Derived.Test.YtadghlfkddkelaaGreatDoorTF
import Derived.LaidMore
import Derived.Lay
import Derived.SevenTiedAt
import Derived.Stop.Joined
import Derived.HandedShaped
import Derived.Lib.LaidTab
import Derived.LaidSub
/- The law FnExactTrees returns true for every argument (the card: the tables that its row lists are tied to the program's text). No conditions. -/
namespace Go.Proofs.YtadghlfkddkelaaGreatDoor.V
open Go.ChangeShapes Go.WideShapes Go.ChangeAt Go.RowKit
set_option linter.unusedVariables false
set_option linter.unusedSimpArgs false
set_option linter.constructorNameAsVariable false
theorem gw_of {W : World} (hs : W.ShapedOpen Tryz.prog) (hx : laidMetH Tryz.prog Rows.fnExactTreesRow.laid W) : GW Tryz.prog W := by
  refine ⟨?_, W, hs, ?_, fun _ _ => rfl⟩
  · have hp : decide (0 < Tryz.prog.globals.size) = true := by kernel_rfl
    have hp := of_decide_eq_true hp
    obtain ⟨⟨zero, t⟩, hz⟩ := Option.isSome_iff_exists.1 (show (((begin Tryz.prog (fun _ _ => 0) default).world.heap[Tryz.prog.globals.size - 1]?).bind Obj.row?).isSome = true by kernel_rfl)
    obtain ⟨cs, hc, _⟩ := hs.1 (Tryz.prog.globals.size - 1) zero t (by omega) hz
    have := (Array.getElem?_eq_some_iff.1 hc).1
    omega
  · have h1 := hx.filter fun x => x.1 == "internal/strconv.uint64pow10"
    have h2 := (laidMetH_iff.1 h1).1
    exact Zj1 (by kernel_rfl) h2
set_option maxRecDepth 100000 in
theorem fnExactTrees_lifted (os : Os) (started : os.Started) (H : Type) (enc : TypeId × Value → H) :
    ReturnsInHanded {} Tryz.checked os 4 .any (fun w args => (Rows.fnExactTreesSpec.pre enc Tryz.prog Tryz.f4 Rows.fnExactTreesRow.domain false w args ∧ laidMetH Tryz.prog Rows.fnExactTreesRow.laid w) ∧ sizedMet enc Tryz.prog Tryz.f4 (OpenSpec.ofChange Rows.fnExactTreesSpec) false w args)
      (Rows.fnExactTreesSpec.post enc Tryz.prog Tryz.f4 false true false false) := by
  refine ZaD (C := Tryz.checked) (X := fun w _ => laidMetH Tryz.prog Rows.fnExactTreesRow.laid w) (fun _ _ _ hh h => h.of_heap hh) own started (by kernel_rfl) Tryz.func4
    (ChangeSpec.witness_shaped (enc := enc) (C := Tryz.checked) (os := os) (X := fun w _ => laidMetH Tryz.prog Rows.fnExactTreesRow.laid w) false (World.laidAll Tryz.prog os Rows.fnExactTreesRow.laid) #[.slice none 0 0] 8 (World.laidAll_os _ _ _)
      (World.shaped_of_ZipB (by kernel_rfl) (by kernel_rfl)) (by kernel_rfl) (by kernel_rfl) (by kernel_rfl)
      (by rw [MakeChecks.laidMetH_plain _ _ _ (by kernel_rfl)]; exact laidMet_laidAll _ (by kernel_rfl) (by kernel_rfl))) ?_
  intro W base args ds gs before hval hW hcnd hx hsh
  refine ZmL 6 Zdx ZgI rfl (fun t h => by simpa using ZlY (p := fun t => decide (t < Tryz.prog.types.size) && Tryz.prog.readableRec t) (by kernel_rfl) t h) (fun ds h => ?_) (by kernel_rfl) Tryz.underlying4 (fun ass h => ?_) hval hW (gw_of hsh hx)
  · match ds, h with
    | [a], _ => rfl
  · rw [Tryz.params4] at h ⊢
    simp only [List.toList_toArray, ZcM, ZfS] at h
    obtain ⟨_, _, rfl, h1, rfl⟩ := h
    obtain ⟨l, hl, hw, f, rfl, hf⟩ := Zgo 3 _ h1
    have := (Zbv l hl hw).congr (args := [.sl 2 l.length f]) ⟨Zmb hf, trivial⟩
    simpa [Zjf, go_sem] using this
theorem fnExactTrees_over : Rows.fnExactTreesRow.holds Tryz.pinned (OpenSpec.ofChange Rows.fnExactTreesSpec) :=
  OpenClaim.holds_of_wide 4 Tryz.f4 rfl rfl rfl rfl rfl rfl rfl ⟨rfl, rfl, rfl, rfl, rfl⟩ rfl rfl rfl rfl rfl (by kernel_rfl) Tryz.func4 (by kernel_rfl)
    (of_decide_eq_true (by kernel_rfl)) (by unfold Func.isWrapper; first | (rw [if_pos (by decide +kernel)]; kernel_rfl) | (rw [if_neg (by decide +kernel)]; exact ⟨rfl, rfl⟩))
    (fun os started H enc _ => fnExactTrees_lifted os started H enc)
end Go.Proofs.YtadghlfkddkelaaGreatDoor.V
namespace Go.Proofs.YtadghlfkddkelaaGreatDoor
open Go
theorem fnExactTrees_holds : Rows.FnExactTreesCardSaid :=
  Claim7.holds_tied_plain_at .later [] [.data, .data, .data, .data, .sentinel, .sentinel, .pinned] true Rows.fnExactTreesCard.stood.harness true V.fnExactTrees_over (fun _ h => by cases h) (by kernel_rfl) (fun _ h => by cases h) fnExactTrees_row_tie rfl ⟨rfl, rfl⟩ (by kernel_rfl) rfl
    (fun f fn hf hfn => by
      obtain rfl : f = 4 := Option.some.inj ((show Tryz.prog.funcNamed "loop.example/s0059/laws.FnExactTrees" = some 4 by kernel_rfl).symm.trans hf) |>.symm
      obtain rfl : fn = Tryz.f4 := (Option.some.inj (Tryz.func4.symm.trans hfn)).symm
      exact ⟨by kernel_rfl, fun j t ht => by
        rw [Tryz.params4] at ht
        have hm : t ∈ [22] := by simpa using Array.mem_of_getElem? ht
        have hall : ([22].all fun u => !Tryz.prog.wantsStandIn u) = true := by kernel_rfl
        exact (show Tryz.prog.wantsStandIn t = false by simpa using List.all_eq_true.1 hall t hm)⟩)
    (by kernel_rfl)
#print axioms fnExactTrees_holds
end Go.Proofs.YtadghlfkddkelaaGreatDoor
