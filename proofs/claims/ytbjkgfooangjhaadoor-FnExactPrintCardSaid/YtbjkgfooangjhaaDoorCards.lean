/-
  DERIVED. GIVEN WITH THE SEED: THE CARDS: each row of YtbjkgfooangjhaaDoorRows.lean that lists a variable, with what it lists TIED to the program's text (the seventh form; the later family's looks); each row that meets fmt, with fmt's text TOLD by the authors' own Lean function (tested against real Go, not proved from fmt's source: count such statements apart). THE CARD IS WHAT COUNTS. Prove the row's statement (the work); the ties are given (YtbjkgfooangjhaaDoorTie.lean); close each card by the builder's one call (the guide's Derived/Test/ToyasCard.lean, 'card_holds'). Laid BY PROGRAM, IN A SANDBOX (cutbox-door.mjs). By AI agents, Wed Nov 11 2026. No macro, syntax, notation, axiom, sorry.
-/
import Derived.Test.YtbjkgfooangjhaaDoorRows
import GoSem.ClaimSeven
namespace Go.Proofs.YtbjkgfooangjhaaDoor
namespace Rows

/-- THE TIED CARD OF 'laws.FnExactErase'. -/
def fnExactEraseCard : Claim7 := { stood := { row := fnExactEraseRow, standIns := [], harness := (true, "6cbfcba9390685b45ffc0a9bbfbbed17d113e14ba03bf86d910c649c83e6adda"), looks := true }, kinds := [], alts := [], laidByText := true, laidKinds := [.data, .pinned], laidTests := true, laidLooks := .later }
def FnExactEraseCardSaid : Prop := Claim7.holds Tryd.pinned (.plain (OpenSpec.ofChange fnExactEraseSpec)) fnExactEraseCard

/-- THE TIED CARD OF 'laws.FnExactTreeOk'. -/
def fnExactTreeOkCard : Claim7 := { stood := { row := fnExactTreeOkRow, standIns := [], harness := (true, "6cbfcba9390685b45ffc0a9bbfbbed17d113e14ba03bf86d910c649c83e6adda"), looks := true }, kinds := [], alts := [], laidByText := true, laidKinds := [.data, .pinned], laidTests := true, laidLooks := .later }
def FnExactTreeOkCardSaid : Prop := Claim7.holds Tryd.pinned (.plain (OpenSpec.ofChange fnExactTreeOkSpec)) fnExactTreeOkCard

/-- THE TIED CARD OF 'laws.FnExactGroup'. -/
def fnExactGroupCard : Claim7 := { stood := { row := fnExactGroupRow, standIns := [], harness := (true, "6cbfcba9390685b45ffc0a9bbfbbed17d113e14ba03bf86d910c649c83e6adda"), looks := true }, kinds := [], alts := [], laidByText := true, laidKinds := [.data, .pinned], laidTests := true, laidLooks := .later }
def FnExactGroupCardSaid : Prop := Claim7.holds Tryd.pinned (.plain (OpenSpec.ofChange fnExactGroupSpec)) fnExactGroupCard

/-- THE TIED CARD OF 'laws.FnExactPrint'. -/
def fnExactPrintCard : Claim7 := { stood := { row := fnExactPrintRow, standIns := [], harness := (true, "6cbfcba9390685b45ffc0a9bbfbbed17d113e14ba03bf86d910c649c83e6adda"), looks := true }, kinds := [], alts := [], laidByText := true, laidKinds := [.data, .pinned], laidTests := true, laidLooks := .later }
def FnExactPrintCardSaid : Prop := Claim7.holds Tryd.pinned (.plain (OpenSpec.ofChange fnExactPrintSpec)) fnExactPrintCard

/-- THE SECOND FORM's CARD OF 'laws.FnExactErase'. -/
def fnExactEraseUptoCard : Claim7 := { stood := { row := fnExactEraseUptoRow, standIns := [], harness := (true, "6cbfcba9390685b45ffc0a9bbfbbed17d113e14ba03bf86d910c649c83e6adda"), looks := true }, kinds := [], alts := [], laidByText := true, laidKinds := [.data, .pinned], laidTests := true, laidLooks := .later }
def FnExactEraseUptoCardSaid : Prop := Claim7.holds Tryd.pinned (.plain (OpenSpec.upto fnExactEraseSpec)) fnExactEraseUptoCard

/-- THE SECOND FORM's CARD OF 'laws.FnExactTreeOk'. -/
def fnExactTreeOkUptoCard : Claim7 := { stood := { row := fnExactTreeOkUptoRow, standIns := [], harness := (true, "6cbfcba9390685b45ffc0a9bbfbbed17d113e14ba03bf86d910c649c83e6adda"), looks := true }, kinds := [], alts := [], laidByText := true, laidKinds := [.data, .pinned], laidTests := true, laidLooks := .later }
def FnExactTreeOkUptoCardSaid : Prop := Claim7.holds Tryd.pinned (.plain (OpenSpec.upto fnExactTreeOkSpec)) fnExactTreeOkUptoCard

/-- THE SECOND FORM's CARD OF 'laws.FnExactGroup'. -/
def fnExactGroupUptoCard : Claim7 := { stood := { row := fnExactGroupUptoRow, standIns := [], harness := (true, "6cbfcba9390685b45ffc0a9bbfbbed17d113e14ba03bf86d910c649c83e6adda"), looks := true }, kinds := [], alts := [], laidByText := true, laidKinds := [.data, .pinned], laidTests := true, laidLooks := .later }
def FnExactGroupUptoCardSaid : Prop := Claim7.holds Tryd.pinned (.plain (OpenSpec.upto fnExactGroupSpec)) fnExactGroupUptoCard

/-- THE SECOND FORM's CARD OF 'laws.FnExactPrint'. -/
def fnExactPrintUptoCard : Claim7 := { stood := { row := fnExactPrintUptoRow, standIns := [], harness := (true, "6cbfcba9390685b45ffc0a9bbfbbed17d113e14ba03bf86d910c649c83e6adda"), looks := true }, kinds := [], alts := [], laidByText := true, laidKinds := [.data, .pinned], laidTests := true, laidLooks := .later }
def FnExactPrintUptoCardSaid : Prop := Claim7.holds Tryd.pinned (.plain (OpenSpec.upto fnExactPrintSpec)) fnExactPrintUptoCard
end Rows
end Go.Proofs.YtbjkgfooangjhaaDoor
