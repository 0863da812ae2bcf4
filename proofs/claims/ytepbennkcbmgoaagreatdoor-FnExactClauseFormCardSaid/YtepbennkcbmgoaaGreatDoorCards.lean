/-
  DERIVED. GIVEN WITH THE SEED: THE CARDS: each row of YtepbennkcbmgoaaGreatDoorRows.lean that lists a variable, with what it lists TIED to the program's text (the seventh form; the later family's looks); each row that meets fmt, with fmt's text TOLD by the authors' own Lean function (tested against real Go, not proved from fmt's source: count such statements apart). THE CARD IS WHAT COUNTS. Prove the row's statement (the work); the ties are given (YtepbennkcbmgoaaGreatDoorTie.lean); close each card by the builder's one call (the guide's Derived/Test/ToyasCard.lean, 'card_holds'). Laid BY PROGRAM, IN A SANDBOX (cutbox-door.mjs). By AI agents, Wed Nov 11 2026. No macro, syntax, notation, axiom, sorry.
-/
import Derived.Test.YtepbennkcbmgoaaGreatDoorRows
import GoSem.ClaimSeven
namespace Go.Proofs.YtepbennkcbmgoaaGreatDoor
namespace Rows

/-- THE TIED CARD OF 'laws.FnExactSkolemize'. -/
def fnExactSkolemizeCard : Claim7 := { stood := { row := fnExactSkolemizeRow, standIns := [], harness := (true, "45c51c2c34bc99b5195d19cd3318e7671c5aac18abcfab4b6f61b3068b78392b"), looks := false }, kinds := [], alts := [], laidByText := true, laidKinds := [.data, .data, .data], laidTests := true, laidLooks := .later }
def FnExactSkolemizeCardSaid : Prop := Claim7.holds Tryz.pinned (.plain (OpenSpec.ofChange fnExactSkolemizeSpec)) fnExactSkolemizeCard

/-- THE TIED CARD OF 'laws.FnExactDefineConjunctions'. -/
def fnExactDefineConjunctionsCard : Claim7 := { stood := { row := fnExactDefineConjunctionsRow, standIns := [], harness := (true, "45c51c2c34bc99b5195d19cd3318e7671c5aac18abcfab4b6f61b3068b78392b"), looks := false }, kinds := [], alts := [], laidByText := true, laidKinds := [.data, .data, .data], laidTests := true, laidLooks := .later }
def FnExactDefineConjunctionsCardSaid : Prop := Claim7.holds Tryz.pinned (.plain (OpenSpec.ofChange fnExactDefineConjunctionsSpec)) fnExactDefineConjunctionsCard

/-- THE TIED CARD OF 'laws.FnExactResolvents'. -/
def fnExactResolventsCard : Claim7 := { stood := { row := fnExactResolventsRow, standIns := [], harness := (true, "45c51c2c34bc99b5195d19cd3318e7671c5aac18abcfab4b6f61b3068b78392b"), looks := false }, kinds := [], alts := [], laidByText := true, laidKinds := [.data, .data, .data], laidTests := true, laidLooks := .later }
def FnExactResolventsCardSaid : Prop := Claim7.holds Tryz.pinned (.plain (OpenSpec.ofChange fnExactResolventsSpec)) fnExactResolventsCard

/-- THE TIED CARD OF 'laws.FnExactHyperResolve'. -/
def fnExactHyperResolveCard : Claim7 := { stood := { row := fnExactHyperResolveRow, standIns := [], harness := (true, "45c51c2c34bc99b5195d19cd3318e7671c5aac18abcfab4b6f61b3068b78392b"), looks := false }, kinds := [], alts := [], laidByText := true, laidKinds := [.data, .data, .data], laidTests := true, laidLooks := .later }
def FnExactHyperResolveCardSaid : Prop := Claim7.holds Tryz.pinned (.plain (OpenSpec.ofChange fnExactHyperResolveSpec)) fnExactHyperResolveCard

/-- THE TIED CARD OF 'laws.FnExactClauseForm'. -/
def fnExactClauseFormCard : Claim7 := { stood := { row := fnExactClauseFormRow, standIns := [], harness := (true, "45c51c2c34bc99b5195d19cd3318e7671c5aac18abcfab4b6f61b3068b78392b"), looks := false }, kinds := [], alts := [], laidByText := true, laidKinds := [.data, .data, .data], laidTests := true, laidLooks := .later }
def FnExactClauseFormCardSaid : Prop := Claim7.holds Tryz.pinned (.plain (OpenSpec.ofChange fnExactClauseFormSpec)) fnExactClauseFormCard

/-- THE TIED CARD OF 'laws.FnExactClausifyProblem'. -/
def fnExactClausifyProblemCard : Claim7 := { stood := { row := fnExactClausifyProblemRow, standIns := [], harness := (true, "45c51c2c34bc99b5195d19cd3318e7671c5aac18abcfab4b6f61b3068b78392b"), looks := false }, kinds := [], alts := [], laidByText := true, laidKinds := [.data, .data, .data], laidTests := true, laidLooks := .later }
def FnExactClausifyProblemCardSaid : Prop := Claim7.holds Tryz.pinned (.plain (OpenSpec.ofChange fnExactClausifyProblemSpec)) fnExactClausifyProblemCard

/-- THE SECOND FORM's CARD OF 'laws.FnExactSkolemize'. -/
def fnExactSkolemizeUptoCard : Claim7 := { stood := { row := fnExactSkolemizeUptoRow, standIns := [], harness := (true, "45c51c2c34bc99b5195d19cd3318e7671c5aac18abcfab4b6f61b3068b78392b"), looks := false }, kinds := [], alts := [], laidByText := true, laidKinds := [.data, .data, .data], laidTests := true, laidLooks := .later }
def FnExactSkolemizeUptoCardSaid : Prop := Claim7.holds Tryz.pinned (.plain (OpenSpec.upto fnExactSkolemizeSpec)) fnExactSkolemizeUptoCard

/-- THE SECOND FORM's CARD OF 'laws.FnExactDefineConjunctions'. -/
def fnExactDefineConjunctionsUptoCard : Claim7 := { stood := { row := fnExactDefineConjunctionsUptoRow, standIns := [], harness := (true, "45c51c2c34bc99b5195d19cd3318e7671c5aac18abcfab4b6f61b3068b78392b"), looks := false }, kinds := [], alts := [], laidByText := true, laidKinds := [.data, .data, .data], laidTests := true, laidLooks := .later }
def FnExactDefineConjunctionsUptoCardSaid : Prop := Claim7.holds Tryz.pinned (.plain (OpenSpec.upto fnExactDefineConjunctionsSpec)) fnExactDefineConjunctionsUptoCard

/-- THE SECOND FORM's CARD OF 'laws.FnExactResolvents'. -/
def fnExactResolventsUptoCard : Claim7 := { stood := { row := fnExactResolventsUptoRow, standIns := [], harness := (true, "45c51c2c34bc99b5195d19cd3318e7671c5aac18abcfab4b6f61b3068b78392b"), looks := false }, kinds := [], alts := [], laidByText := true, laidKinds := [.data, .data, .data], laidTests := true, laidLooks := .later }
def FnExactResolventsUptoCardSaid : Prop := Claim7.holds Tryz.pinned (.plain (OpenSpec.upto fnExactResolventsSpec)) fnExactResolventsUptoCard

/-- THE SECOND FORM's CARD OF 'laws.FnExactHyperResolve'. -/
def fnExactHyperResolveUptoCard : Claim7 := { stood := { row := fnExactHyperResolveUptoRow, standIns := [], harness := (true, "45c51c2c34bc99b5195d19cd3318e7671c5aac18abcfab4b6f61b3068b78392b"), looks := false }, kinds := [], alts := [], laidByText := true, laidKinds := [.data, .data, .data], laidTests := true, laidLooks := .later }
def FnExactHyperResolveUptoCardSaid : Prop := Claim7.holds Tryz.pinned (.plain (OpenSpec.upto fnExactHyperResolveSpec)) fnExactHyperResolveUptoCard

/-- THE SECOND FORM's CARD OF 'laws.FnExactClauseForm'. -/
def fnExactClauseFormUptoCard : Claim7 := { stood := { row := fnExactClauseFormUptoRow, standIns := [], harness := (true, "45c51c2c34bc99b5195d19cd3318e7671c5aac18abcfab4b6f61b3068b78392b"), looks := false }, kinds := [], alts := [], laidByText := true, laidKinds := [.data, .data, .data], laidTests := true, laidLooks := .later }
def FnExactClauseFormUptoCardSaid : Prop := Claim7.holds Tryz.pinned (.plain (OpenSpec.upto fnExactClauseFormSpec)) fnExactClauseFormUptoCard

/-- THE SECOND FORM's CARD OF 'laws.FnExactClausifyProblem'. -/
def fnExactClausifyProblemUptoCard : Claim7 := { stood := { row := fnExactClausifyProblemUptoRow, standIns := [], harness := (true, "45c51c2c34bc99b5195d19cd3318e7671c5aac18abcfab4b6f61b3068b78392b"), looks := false }, kinds := [], alts := [], laidByText := true, laidKinds := [.data, .data, .data], laidTests := true, laidLooks := .later }
def FnExactClausifyProblemUptoCardSaid : Prop := Claim7.holds Tryz.pinned (.plain (OpenSpec.upto fnExactClausifyProblemSpec)) fnExactClausifyProblemUptoCard
end Rows
end Go.Proofs.YtepbennkcbmgoaaGreatDoor
