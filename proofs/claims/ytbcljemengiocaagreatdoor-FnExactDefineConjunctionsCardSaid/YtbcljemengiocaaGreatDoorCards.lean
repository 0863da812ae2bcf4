/-
  DERIVED. GIVEN WITH THE SEED: THE CARDS: each row of YtbcljemengiocaaGreatDoorRows.lean that lists a variable, with what it lists TIED to the program's text (the seventh form; the later family's looks); each row that meets fmt, with fmt's text TOLD by the authors' own Lean function (tested against real Go, not proved from fmt's source: count such statements apart). THE CARD IS WHAT COUNTS. Prove the row's statement (the work); the ties are given (YtbcljemengiocaaGreatDoorTie.lean); close each card by the builder's one call (the guide's Derived/Test/ToyasCard.lean, 'card_holds'). Laid BY PROGRAM, IN A SANDBOX (cutbox-door.mjs). By AI agents, Wed Nov 11 2026. No macro, syntax, notation, axiom, sorry.
-/
import Derived.Test.YtbcljemengiocaaGreatDoorRows
import GoSem.ClaimSeven
namespace Go.Proofs.YtbcljemengiocaaGreatDoor
namespace Rows

/-- THE TIED CARD OF 'laws.FnExactDefineConjunctions'. -/
def fnExactDefineConjunctionsCard : Claim7 := { stood := { row := fnExactDefineConjunctionsRow, standIns := [], harness := (true, "11b67c99575bd382b280be1b0678a8bc7610aa535f54d4ebce7aeeeeb7d1ee91"), looks := false }, kinds := [], alts := [], laidByText := true, laidKinds := [.data, .data, .data], laidTests := true, laidLooks := .later }
def FnExactDefineConjunctionsCardSaid : Prop := Claim7.holds Tryz.pinned (.plain (OpenSpec.ofChange fnExactDefineConjunctionsSpec)) fnExactDefineConjunctionsCard

/-- THE SECOND FORM's CARD OF 'laws.FnExactDefineConjunctions'. -/
def fnExactDefineConjunctionsUptoCard : Claim7 := { stood := { row := fnExactDefineConjunctionsUptoRow, standIns := [], harness := (true, "11b67c99575bd382b280be1b0678a8bc7610aa535f54d4ebce7aeeeeb7d1ee91"), looks := false }, kinds := [], alts := [], laidByText := true, laidKinds := [.data, .data, .data], laidTests := true, laidLooks := .later }
def FnExactDefineConjunctionsUptoCardSaid : Prop := Claim7.holds Tryz.pinned (.plain (OpenSpec.upto fnExactDefineConjunctionsSpec)) fnExactDefineConjunctionsUptoCard
end Rows
end Go.Proofs.YtbcljemengiocaaGreatDoor
