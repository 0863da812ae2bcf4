/-
  DERIVED. GIVEN WITH THE SEED: THE CARDS: each row of YtibdknkacmimgaaGreatDoorRows.lean that lists a variable, with what it lists TIED to the program's text (the seventh form; the later family's looks); each row that meets fmt, with fmt's text TOLD by the authors' own Lean function (tested against real Go, not proved from fmt's source: count such statements apart). THE CARD IS WHAT COUNTS. Prove the row's statement (the work); the ties are given (YtibdknkacmimgaaGreatDoorTie.lean); close each card by the builder's one call (the guide's Derived/Test/ToyasCard.lean, 'card_holds'). Laid BY PROGRAM, IN A SANDBOX (cutbox-door.mjs). By AI agents, Wed Nov 11 2026. No macro, syntax, notation, axiom, sorry.
-/
import Derived.Test.YtibdknkacmimgaaGreatDoorRows
import GoSem.ClaimSeven
namespace Go.Proofs.YtibdknkacmimgaaGreatDoor
namespace Rows

/-- THE TIED CARD OF 'laws.FnExactFactor'. -/
def fnExactFactorCard : Claim7 := { stood := { row := fnExactFactorRow, standIns := [], harness := (true, "0a4471872e4d7a9145f27869a69fb8f24b723f2f77fa9bc949a977a13f32ff16"), looks := false }, kinds := [], alts := [], laidByText := true, laidKinds := [.data, .data, .data], laidTests := true, laidLooks := .later }
def FnExactFactorCardSaid : Prop := Claim7.holds Tryz.pinned (.plain (OpenSpec.ofChange fnExactFactorSpec)) fnExactFactorCard

/-- THE TIED CARD OF 'laws.FnExactUnitConflict'. -/
def fnExactUnitConflictCard : Claim7 := { stood := { row := fnExactUnitConflictRow, standIns := [], harness := (true, "0a4471872e4d7a9145f27869a69fb8f24b723f2f77fa9bc949a977a13f32ff16"), looks := false }, kinds := [], alts := [], laidByText := true, laidKinds := [.data, .data, .data], laidTests := true, laidLooks := .later }
def FnExactUnitConflictCardSaid : Prop := Claim7.holds Tryz.pinned (.plain (OpenSpec.ofChange fnExactUnitConflictSpec)) fnExactUnitConflictCard

/-- THE TIED CARD OF 'laws.FnExactIsResolvent'. -/
def fnExactIsResolventCard : Claim7 := { stood := { row := fnExactIsResolventRow, standIns := [], harness := (true, "0a4471872e4d7a9145f27869a69fb8f24b723f2f77fa9bc949a977a13f32ff16"), looks := false }, kinds := [], alts := [], laidByText := true, laidKinds := [.data, .data, .data], laidTests := true, laidLooks := .later }
def FnExactIsResolventCardSaid : Prop := Claim7.holds Tryz.pinned (.plain (OpenSpec.ofChange fnExactIsResolventSpec)) fnExactIsResolventCard

/-- THE TIED CARD OF 'laws.FnExactResolve'. -/
def fnExactResolveCard : Claim7 := { stood := { row := fnExactResolveRow, standIns := [], harness := (true, "0a4471872e4d7a9145f27869a69fb8f24b723f2f77fa9bc949a977a13f32ff16"), looks := false }, kinds := [], alts := [], laidByText := true, laidKinds := [.data, .data, .data], laidTests := true, laidLooks := .later }
def FnExactResolveCardSaid : Prop := Claim7.holds Tryz.pinned (.plain (OpenSpec.ofChange fnExactResolveSpec)) fnExactResolveCard

/-- THE TIED CARD OF 'laws.FnExactFactors'. -/
def fnExactFactorsCard : Claim7 := { stood := { row := fnExactFactorsRow, standIns := [], harness := (true, "0a4471872e4d7a9145f27869a69fb8f24b723f2f77fa9bc949a977a13f32ff16"), looks := false }, kinds := [], alts := [], laidByText := true, laidKinds := [.data, .data, .data], laidTests := true, laidLooks := .later }
def FnExactFactorsCardSaid : Prop := Claim7.holds Tryz.pinned (.plain (OpenSpec.ofChange fnExactFactorsSpec)) fnExactFactorsCard

/-- THE SECOND FORM's CARD OF 'laws.FnExactFactor'. -/
def fnExactFactorUptoCard : Claim7 := { stood := { row := fnExactFactorUptoRow, standIns := [], harness := (true, "0a4471872e4d7a9145f27869a69fb8f24b723f2f77fa9bc949a977a13f32ff16"), looks := false }, kinds := [], alts := [], laidByText := true, laidKinds := [.data, .data, .data], laidTests := true, laidLooks := .later }
def FnExactFactorUptoCardSaid : Prop := Claim7.holds Tryz.pinned (.plain (OpenSpec.upto fnExactFactorSpec)) fnExactFactorUptoCard

/-- THE SECOND FORM's CARD OF 'laws.FnExactUnitConflict'. -/
def fnExactUnitConflictUptoCard : Claim7 := { stood := { row := fnExactUnitConflictUptoRow, standIns := [], harness := (true, "0a4471872e4d7a9145f27869a69fb8f24b723f2f77fa9bc949a977a13f32ff16"), looks := false }, kinds := [], alts := [], laidByText := true, laidKinds := [.data, .data, .data], laidTests := true, laidLooks := .later }
def FnExactUnitConflictUptoCardSaid : Prop := Claim7.holds Tryz.pinned (.plain (OpenSpec.upto fnExactUnitConflictSpec)) fnExactUnitConflictUptoCard

/-- THE SECOND FORM's CARD OF 'laws.FnExactIsResolvent'. -/
def fnExactIsResolventUptoCard : Claim7 := { stood := { row := fnExactIsResolventUptoRow, standIns := [], harness := (true, "0a4471872e4d7a9145f27869a69fb8f24b723f2f77fa9bc949a977a13f32ff16"), looks := false }, kinds := [], alts := [], laidByText := true, laidKinds := [.data, .data, .data], laidTests := true, laidLooks := .later }
def FnExactIsResolventUptoCardSaid : Prop := Claim7.holds Tryz.pinned (.plain (OpenSpec.upto fnExactIsResolventSpec)) fnExactIsResolventUptoCard

/-- THE SECOND FORM's CARD OF 'laws.FnExactResolve'. -/
def fnExactResolveUptoCard : Claim7 := { stood := { row := fnExactResolveUptoRow, standIns := [], harness := (true, "0a4471872e4d7a9145f27869a69fb8f24b723f2f77fa9bc949a977a13f32ff16"), looks := false }, kinds := [], alts := [], laidByText := true, laidKinds := [.data, .data, .data], laidTests := true, laidLooks := .later }
def FnExactResolveUptoCardSaid : Prop := Claim7.holds Tryz.pinned (.plain (OpenSpec.upto fnExactResolveSpec)) fnExactResolveUptoCard

/-- THE SECOND FORM's CARD OF 'laws.FnExactFactors'. -/
def fnExactFactorsUptoCard : Claim7 := { stood := { row := fnExactFactorsUptoRow, standIns := [], harness := (true, "0a4471872e4d7a9145f27869a69fb8f24b723f2f77fa9bc949a977a13f32ff16"), looks := false }, kinds := [], alts := [], laidByText := true, laidKinds := [.data, .data, .data], laidTests := true, laidLooks := .later }
def FnExactFactorsUptoCardSaid : Prop := Claim7.holds Tryz.pinned (.plain (OpenSpec.upto fnExactFactorsSpec)) fnExactFactorsUptoCard
end Rows
end Go.Proofs.YtibdknkacmimgaaGreatDoor
