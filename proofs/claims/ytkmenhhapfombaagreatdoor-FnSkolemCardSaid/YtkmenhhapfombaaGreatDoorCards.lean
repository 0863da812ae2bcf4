/-
  DERIVED. GIVEN WITH THE SEED: THE CARDS: each row of YtkmenhhapfombaaGreatDoorRows.lean that lists a variable, with what it lists TIED to the program's text (the seventh form; the later family's looks); each row that meets fmt, with fmt's text TOLD by the authors' own Lean function (tested against real Go, not proved from fmt's source: count such statements apart). THE CARD IS WHAT COUNTS. Prove the row's statement (the work); the ties are given (YtkmenhhapfombaaGreatDoorTie.lean); close each card by the builder's one call (the guide's Derived/Test/ToyasCard.lean, 'card_holds'). Laid BY PROGRAM, IN A SANDBOX (cutbox-door.mjs). By AI agents, Wed Nov 11 2026. No macro, syntax, notation, axiom, sorry.
-/
import Derived.Test.YtkmenhhapfombaaGreatDoorRows
import GoSem.ClaimSeven
namespace Go.Proofs.YtkmenhhapfombaaGreatDoor
namespace Rows

/-- THE TIED CARD OF 'laws.FnNormalForms'. -/
def fnNormalFormsCard : Claim7 := { stood := { row := fnNormalFormsRow, standIns := [], harness := (true, "2369d7db87b272a9907ecd511a7e8b4d2e194342b8e40f41b04a7ddb604ecb30"), looks := false }, kinds := [], alts := [], laidByText := true, laidKinds := [.data, .data, .data], laidTests := true, laidLooks := .later }
def FnNormalFormsCardSaid : Prop := Claim7.holds Tryz.pinned (.plain (OpenSpec.ofChange fnNormalFormsSpec)) fnNormalFormsCard

/-- THE TIED CARD OF 'laws.FnSkolem'. -/
def fnSkolemCard : Claim7 := { stood := { row := fnSkolemRow, standIns := [], harness := (true, "2369d7db87b272a9907ecd511a7e8b4d2e194342b8e40f41b04a7ddb604ecb30"), looks := false }, kinds := [], alts := [], laidByText := true, laidKinds := [.data, .data, .data], laidTests := true, laidLooks := .later }
def FnSkolemCardSaid : Prop := Claim7.holds Tryz.pinned (.plain (OpenSpec.ofChange fnSkolemSpec)) fnSkolemCard

/-- THE TIED CARD OF 'laws.FnClauseForm'. -/
def fnClauseFormCard : Claim7 := { stood := { row := fnClauseFormRow, standIns := [], harness := (true, "2369d7db87b272a9907ecd511a7e8b4d2e194342b8e40f41b04a7ddb604ecb30"), looks := false }, kinds := [], alts := [], laidByText := true, laidKinds := [.data, .data, .data], laidTests := true, laidLooks := .later }
def FnClauseFormCardSaid : Prop := Claim7.holds Tryz.pinned (.plain (OpenSpec.ofChange fnClauseFormSpec)) fnClauseFormCard

/-- THE SECOND FORM's CARD OF 'laws.FnNormalForms'. -/
def fnNormalFormsUptoCard : Claim7 := { stood := { row := fnNormalFormsUptoRow, standIns := [], harness := (true, "2369d7db87b272a9907ecd511a7e8b4d2e194342b8e40f41b04a7ddb604ecb30"), looks := false }, kinds := [], alts := [], laidByText := true, laidKinds := [.data, .data, .data], laidTests := true, laidLooks := .later }
def FnNormalFormsUptoCardSaid : Prop := Claim7.holds Tryz.pinned (.plain (OpenSpec.upto fnNormalFormsSpec)) fnNormalFormsUptoCard

/-- THE SECOND FORM's CARD OF 'laws.FnSkolem'. -/
def fnSkolemUptoCard : Claim7 := { stood := { row := fnSkolemUptoRow, standIns := [], harness := (true, "2369d7db87b272a9907ecd511a7e8b4d2e194342b8e40f41b04a7ddb604ecb30"), looks := false }, kinds := [], alts := [], laidByText := true, laidKinds := [.data, .data, .data], laidTests := true, laidLooks := .later }
def FnSkolemUptoCardSaid : Prop := Claim7.holds Tryz.pinned (.plain (OpenSpec.upto fnSkolemSpec)) fnSkolemUptoCard

/-- THE SECOND FORM's CARD OF 'laws.FnClauseForm'. -/
def fnClauseFormUptoCard : Claim7 := { stood := { row := fnClauseFormUptoRow, standIns := [], harness := (true, "2369d7db87b272a9907ecd511a7e8b4d2e194342b8e40f41b04a7ddb604ecb30"), looks := false }, kinds := [], alts := [], laidByText := true, laidKinds := [.data, .data, .data], laidTests := true, laidLooks := .later }
def FnClauseFormUptoCardSaid : Prop := Claim7.holds Tryz.pinned (.plain (OpenSpec.upto fnClauseFormSpec)) fnClauseFormUptoCard
end Rows
end Go.Proofs.YtkmenhhapfombaaGreatDoor
