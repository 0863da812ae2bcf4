/-
  DERIVED. GIVEN WITH THE SEED: THE CARDS: each row of YtoglfpfdhojaaaaGreatDoorRows.lean that lists a variable, with what it lists TIED to the program's text (the seventh form; the later family's looks); each row that meets fmt, with fmt's text TOLD by the authors' own Lean function (tested against real Go, not proved from fmt's source: count such statements apart). THE CARD IS WHAT COUNTS. Prove the row's statement (the work); the ties are given (YtoglfpfdhojaaaaGreatDoorTie.lean); close each card by the builder's one call (the guide's Derived/Test/ToyasCard.lean, 'card_holds'). Laid BY PROGRAM, IN A SANDBOX (cutbox-door.mjs). By AI agents, Wed Nov 11 2026. No macro, syntax, notation, axiom, sorry.
-/
import Derived.Test.YtoglfpfdhojaaaaGreatDoorRows
import GoSem.ClaimSeven
namespace Go.Proofs.YtoglfpfdhojaaaaGreatDoor
namespace Rows

/-- THE TIED CARD OF 'laws.FnExactParseClause'. -/
def fnExactParseClauseCard : Claim7 := { stood := { row := fnExactParseClauseRow, standIns := [], harness := (true, "08453c8d080b9353424e1c5ab080eb36afa02aa49b65887c94d3a6d2c0b446b8"), looks := false }, kinds := [], alts := [], laidByText := true, laidKinds := [.data, .pinned], laidTests := true, laidLooks := .later }
def FnExactParseClauseCardSaid : Prop := Claim7.holds Tryz.pinned (.plain (OpenSpec.ofChange fnExactParseClauseSpec)) fnExactParseClauseCard

/-- THE SECOND FORM's CARD OF 'laws.FnExactParseClause'. -/
def fnExactParseClauseUptoCard : Claim7 := { stood := { row := fnExactParseClauseUptoRow, standIns := [], harness := (true, "08453c8d080b9353424e1c5ab080eb36afa02aa49b65887c94d3a6d2c0b446b8"), looks := false }, kinds := [], alts := [], laidByText := true, laidKinds := [.data, .pinned], laidTests := true, laidLooks := .later }
def FnExactParseClauseUptoCardSaid : Prop := Claim7.holds Tryz.pinned (.plain (OpenSpec.upto fnExactParseClauseSpec)) fnExactParseClauseUptoCard
end Rows
end Go.Proofs.YtoglfpfdhojaaaaGreatDoor
