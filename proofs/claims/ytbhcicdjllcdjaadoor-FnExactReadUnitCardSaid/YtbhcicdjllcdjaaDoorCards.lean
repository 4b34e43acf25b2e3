/-
  DERIVED. GIVEN WITH THE SEED: THE CARDS: each row of YtbhcicdjllcdjaaDoorRows.lean that lists a variable, with what it lists TIED to the program's text (the seventh form; the later family's looks); each row that meets fmt, with fmt's text TOLD by the authors' own Lean function (tested against real Go, not proved from fmt's source: count such statements apart). THE CARD IS WHAT COUNTS. Prove the row's statement (the work); the ties are given (YtbhcicdjllcdjaaDoorTie.lean); close each card by the builder's one call (the guide's Derived/Test/ToyasCard.lean, 'card_holds'). Laid BY PROGRAM, IN A SANDBOX (cutbox-door.mjs). By AI agents, Wed Nov 11 2026. No macro, syntax, notation, axiom, sorry.
-/
import Derived.Test.YtbhcicdjllcdjaaDoorRows
import GoSem.ClaimSeven
namespace Go.Proofs.YtbhcicdjllcdjaaDoor
namespace Rows

/-- THE TIED CARD OF 'laws.FnExactReadUnit'. -/
def fnExactReadUnitCard : Claim7 := { stood := { row := fnExactReadUnitRow, standIns := [], harness := (true, "79d3f6751329df306ad6aaca2c654b227f7985204a619ce61d4e5b8896d75328"), looks := true }, kinds := [], alts := [], laidByText := true, laidKinds := [.data, .data, .data, .data, .sentinel, .sentinel, .pinned], laidTests := true, laidLooks := .later }
def FnExactReadUnitCardSaid : Prop := Claim7.holds Tryd.pinned (.plain (OpenSpec.ofChange fnExactReadUnitSpec)) fnExactReadUnitCard

/-- THE SECOND FORM's CARD OF 'laws.FnExactReadUnit'. -/
def fnExactReadUnitUptoCard : Claim7 := { stood := { row := fnExactReadUnitUptoRow, standIns := [], harness := (true, "79d3f6751329df306ad6aaca2c654b227f7985204a619ce61d4e5b8896d75328"), looks := true }, kinds := [], alts := [], laidByText := true, laidKinds := [.data, .data, .data, .data, .sentinel, .sentinel, .pinned], laidTests := true, laidLooks := .later }
def FnExactReadUnitUptoCardSaid : Prop := Claim7.holds Tryd.pinned (.plain (OpenSpec.upto fnExactReadUnitSpec)) fnExactReadUnitUptoCard
end Rows
end Go.Proofs.YtbhcicdjllcdjaaDoor
