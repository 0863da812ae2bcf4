/-
  DERIVED. GIVEN WITH THE SEED: THE CARDS: each row of YtihclcmgbkkhfaaGreatDoorRows.lean that lists a variable, with what it lists TIED to the program's text (the seventh form; the later family's looks); each row that meets fmt, with fmt's text TOLD by the authors' own Lean function (tested against real Go, not proved from fmt's source: count such statements apart). THE CARD IS WHAT COUNTS. Prove the row's statement (the work); the ties are given (YtihclcmgbkkhfaaGreatDoorTie.lean); close each card by the builder's one call (the guide's Derived/Test/ToyasCard.lean, 'card_holds'). Laid BY PROGRAM, IN A SANDBOX (cutbox-door.mjs). By AI agents, Wed Nov 11 2026. No macro, syntax, notation, axiom, sorry.
-/
import Derived.Test.YtihclcmgbkkhfaaGreatDoorRows
import GoSem.ClaimSeven
namespace Go.Proofs.YtihclcmgbkkhfaaGreatDoor
namespace Rows

/-- THE TIED CARD OF 'laws.FnExactSeparateVariables'. -/
def fnExactSeparateVariablesCard : Claim7 := { stood := { row := fnExactSeparateVariablesRow, standIns := [], harness := (true, "dcb8b4c2c4d64bc29c3294c94fa916afe819619ab2dd01c8e7185f295d8f9703"), looks := false }, kinds := [], alts := [], laidByText := true, laidKinds := [.data, .data, .data], laidTests := true, laidLooks := .later }
def FnExactSeparateVariablesCardSaid : Prop := Claim7.holds Tryz.pinned (.plain (OpenSpec.ofChange fnExactSeparateVariablesSpec)) fnExactSeparateVariablesCard

/-- THE TIED CARD OF 'laws.FnExactSkolemize'. -/
def fnExactSkolemizeCard : Claim7 := { stood := { row := fnExactSkolemizeRow, standIns := [], harness := (true, "dcb8b4c2c4d64bc29c3294c94fa916afe819619ab2dd01c8e7185f295d8f9703"), looks := false }, kinds := [], alts := [], laidByText := true, laidKinds := [.data, .data, .data], laidTests := true, laidLooks := .later }
def FnExactSkolemizeCardSaid : Prop := Claim7.holds Tryz.pinned (.plain (OpenSpec.ofChange fnExactSkolemizeSpec)) fnExactSkolemizeCard

/-- THE SECOND FORM's CARD OF 'laws.FnExactSeparateVariables'. -/
def fnExactSeparateVariablesUptoCard : Claim7 := { stood := { row := fnExactSeparateVariablesUptoRow, standIns := [], harness := (true, "dcb8b4c2c4d64bc29c3294c94fa916afe819619ab2dd01c8e7185f295d8f9703"), looks := false }, kinds := [], alts := [], laidByText := true, laidKinds := [.data, .data, .data], laidTests := true, laidLooks := .later }
def FnExactSeparateVariablesUptoCardSaid : Prop := Claim7.holds Tryz.pinned (.plain (OpenSpec.upto fnExactSeparateVariablesSpec)) fnExactSeparateVariablesUptoCard

/-- THE SECOND FORM's CARD OF 'laws.FnExactSkolemize'. -/
def fnExactSkolemizeUptoCard : Claim7 := { stood := { row := fnExactSkolemizeUptoRow, standIns := [], harness := (true, "dcb8b4c2c4d64bc29c3294c94fa916afe819619ab2dd01c8e7185f295d8f9703"), looks := false }, kinds := [], alts := [], laidByText := true, laidKinds := [.data, .data, .data], laidTests := true, laidLooks := .later }
def FnExactSkolemizeUptoCardSaid : Prop := Claim7.holds Tryz.pinned (.plain (OpenSpec.upto fnExactSkolemizeSpec)) fnExactSkolemizeUptoCard
end Rows
end Go.Proofs.YtihclcmgbkkhfaaGreatDoor
