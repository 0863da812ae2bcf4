/-
  DERIVED. GIVEN WITH THE SEED: THE CARDS: each row of YtlglakdefklhoaaGreatDoorRows.lean that lists a variable, with what it lists TIED to the program's text (the seventh form; the later family's looks); each row that meets fmt, with fmt's text TOLD by the authors' own Lean function (tested against real Go, not proved from fmt's source: count such statements apart). THE CARD IS WHAT COUNTS. Prove the row's statement (the work); the ties are given (YtlglakdefklhoaaGreatDoorTie.lean); close each card by the builder's one call (the guide's Derived/Test/ToyasCard.lean, 'card_holds'). Laid BY PROGRAM, IN A SANDBOX (cutbox-door.mjs). By AI agents, Wed Nov 11 2026. No macro, syntax, notation, axiom, sorry.
-/
import Derived.Test.YtlglakdefklhoaaGreatDoorRows
import GoSem.ClaimSeven
namespace Go.Proofs.YtlglakdefklhoaaGreatDoor
namespace Rows

/-- THE TIED CARD OF 'laws.FnSyntax'. -/
def fnSyntaxCard : Claim7 := { stood := { row := fnSyntaxRow, standIns := [], harness := (true, "f00dec9135daa27756ede75f202ae3a1cd101b0b37f783747cdbcd81f38d00f7"), looks := true }, kinds := [], alts := [], laidByText := true, laidKinds := [.data, .data, .data, .data, .sentinel, .sentinel, .pinned], laidTests := true, laidLooks := .later }
def FnSyntaxCardSaid : Prop := Claim7.holds Tryz.pinned (.plain (OpenSpec.ofChange fnSyntaxSpec)) fnSyntaxCard

/-- THE SECOND FORM's CARD OF 'laws.FnSyntax'. -/
def fnSyntaxUptoCard : Claim7 := { stood := { row := fnSyntaxUptoRow, standIns := [], harness := (true, "f00dec9135daa27756ede75f202ae3a1cd101b0b37f783747cdbcd81f38d00f7"), looks := true }, kinds := [], alts := [], laidByText := true, laidKinds := [.data, .data, .data, .data, .sentinel, .sentinel, .pinned], laidTests := true, laidLooks := .later }
def FnSyntaxUptoCardSaid : Prop := Claim7.holds Tryz.pinned (.plain (OpenSpec.upto fnSyntaxSpec)) fnSyntaxUptoCard
end Rows
end Go.Proofs.YtlglakdefklhoaaGreatDoor
