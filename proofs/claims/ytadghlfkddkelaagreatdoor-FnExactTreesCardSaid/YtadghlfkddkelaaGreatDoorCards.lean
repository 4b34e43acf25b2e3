/-
  DERIVED. GIVEN WITH THE SEED: THE CARDS: each row of YtadghlfkddkelaaGreatDoorRows.lean that lists a variable, with what it lists TIED to the program's text (the seventh form; the later family's looks); each row that meets fmt, with fmt's text TOLD by the authors' own Lean function (tested against real Go, not proved from fmt's source: count such statements apart). THE CARD IS WHAT COUNTS. Prove the row's statement (the work); the ties are given (YtadghlfkddkelaaGreatDoorTie.lean); close each card by the builder's one call (the guide's Derived/Test/ToyasCard.lean, 'card_holds'). Laid BY PROGRAM, IN A SANDBOX (cutbox-door.mjs). By AI agents, Wed Nov 11 2026. No macro, syntax, notation, axiom, sorry.
-/
import Derived.Test.YtadghlfkddkelaaGreatDoorRows
import GoSem.ClaimSeven
namespace Go.Proofs.YtadghlfkddkelaaGreatDoor
namespace Rows

/-- THE TIED CARD OF 'laws.FnExactLoad'. -/
def fnExactLoadCard : Claim7 := { stood := { row := fnExactLoadRow, standIns := [], harness := (true, "0cc4a4fae84ac3432dde671c5b48afefa55dd0d9ac2459099e4dc2fcacb63226"), looks := true }, kinds := [], alts := [], laidByText := true, laidKinds := [.data, .data, .data, .data, .sentinel, .sentinel, .pinned], laidTests := true, laidLooks := .later }
def FnExactLoadCardSaid : Prop := Claim7.holds Tryz.pinned (.plain (OpenSpec.ofChange fnExactLoadSpec)) fnExactLoadCard

/-- THE TIED CARD OF 'laws.FnExactTrees'. -/
def fnExactTreesCard : Claim7 := { stood := { row := fnExactTreesRow, standIns := [], harness := (true, "0cc4a4fae84ac3432dde671c5b48afefa55dd0d9ac2459099e4dc2fcacb63226"), looks := true }, kinds := [], alts := [], laidByText := true, laidKinds := [.data, .data, .data, .data, .sentinel, .sentinel, .pinned], laidTests := true, laidLooks := .later }
def FnExactTreesCardSaid : Prop := Claim7.holds Tryz.pinned (.plain (OpenSpec.ofChange fnExactTreesSpec)) fnExactTreesCard

/-- THE TIED CARD OF 'laws.FnUnit'. -/
def fnUnitCard : Claim7 := { stood := { row := fnUnitRow, standIns := [], harness := (true, "0cc4a4fae84ac3432dde671c5b48afefa55dd0d9ac2459099e4dc2fcacb63226"), looks := true }, kinds := [], alts := [], laidByText := true, laidKinds := [.data, .data, .data, .data, .sentinel, .sentinel, .pinned], laidTests := true, laidLooks := .later }
def FnUnitCardSaid : Prop := Claim7.holds Tryz.pinned (.plain (OpenSpec.ofChange fnUnitSpec)) fnUnitCard

/-- THE TIED CARD OF 'laws.FnLoaded'. -/
def fnLoadedCard : Claim7 := { stood := { row := fnLoadedRow, standIns := [], harness := (true, "0cc4a4fae84ac3432dde671c5b48afefa55dd0d9ac2459099e4dc2fcacb63226"), looks := true }, kinds := [], alts := [], laidByText := true, laidKinds := [.data, .data, .data, .data, .sentinel, .sentinel, .pinned], laidTests := true, laidLooks := .later }
def FnLoadedCardSaid : Prop := Claim7.holds Tryz.pinned (.plain (OpenSpec.ofChange fnLoadedSpec)) fnLoadedCard

/-- THE SECOND FORM's CARD OF 'laws.FnExactLoad'. -/
def fnExactLoadUptoCard : Claim7 := { stood := { row := fnExactLoadUptoRow, standIns := [], harness := (true, "0cc4a4fae84ac3432dde671c5b48afefa55dd0d9ac2459099e4dc2fcacb63226"), looks := true }, kinds := [], alts := [], laidByText := true, laidKinds := [.data, .data, .data, .data, .sentinel, .sentinel, .pinned], laidTests := true, laidLooks := .later }
def FnExactLoadUptoCardSaid : Prop := Claim7.holds Tryz.pinned (.plain (OpenSpec.upto fnExactLoadSpec)) fnExactLoadUptoCard

/-- THE SECOND FORM's CARD OF 'laws.FnExactTrees'. -/
def fnExactTreesUptoCard : Claim7 := { stood := { row := fnExactTreesUptoRow, standIns := [], harness := (true, "0cc4a4fae84ac3432dde671c5b48afefa55dd0d9ac2459099e4dc2fcacb63226"), looks := true }, kinds := [], alts := [], laidByText := true, laidKinds := [.data, .data, .data, .data, .sentinel, .sentinel, .pinned], laidTests := true, laidLooks := .later }
def FnExactTreesUptoCardSaid : Prop := Claim7.holds Tryz.pinned (.plain (OpenSpec.upto fnExactTreesSpec)) fnExactTreesUptoCard

/-- THE SECOND FORM's CARD OF 'laws.FnUnit'. -/
def fnUnitUptoCard : Claim7 := { stood := { row := fnUnitUptoRow, standIns := [], harness := (true, "0cc4a4fae84ac3432dde671c5b48afefa55dd0d9ac2459099e4dc2fcacb63226"), looks := true }, kinds := [], alts := [], laidByText := true, laidKinds := [.data, .data, .data, .data, .sentinel, .sentinel, .pinned], laidTests := true, laidLooks := .later }
def FnUnitUptoCardSaid : Prop := Claim7.holds Tryz.pinned (.plain (OpenSpec.upto fnUnitSpec)) fnUnitUptoCard

/-- THE SECOND FORM's CARD OF 'laws.FnLoaded'. -/
def fnLoadedUptoCard : Claim7 := { stood := { row := fnLoadedUptoRow, standIns := [], harness := (true, "0cc4a4fae84ac3432dde671c5b48afefa55dd0d9ac2459099e4dc2fcacb63226"), looks := true }, kinds := [], alts := [], laidByText := true, laidKinds := [.data, .data, .data, .data, .sentinel, .sentinel, .pinned], laidTests := true, laidLooks := .later }
def FnLoadedUptoCardSaid : Prop := Claim7.holds Tryz.pinned (.plain (OpenSpec.upto fnLoadedSpec)) fnLoadedUptoCard
end Rows
end Go.Proofs.YtadghlfkddkelaaGreatDoor
