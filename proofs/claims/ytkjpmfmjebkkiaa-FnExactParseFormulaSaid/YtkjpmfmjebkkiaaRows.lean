/-
  NARROWER THAN 'FOR EVERY INPUT', by the rows' own cells (each row's printed sentence says how): FnExactSignatureOf: loops.
  DERIVED. THE GIVEN ROWS OF THIS SEAT. 2 by the template 'for every input the law returns true; each argument reads behind the call as it read before'; 0 by the template 'total and deterministic' (their statements: YtkjpmfmjebkkiaaTotals.lean).
  GIVEN WITH THE SEED: the statements are not yours to turn. If you find one false, say at which input.
  Laid BY PROGRAM, IN A SANDBOX (cutbox-rows.mjs): the forced cells as the released guide's own fill.sh prints them over the translation 3d5980e336b2da99… (all of the seat's roots in one cut). By AI agents, Wed Nov 11 2026. No macro, syntax, notation, axiom, sorry.
-/
import Derived.Test.YtkjpmfmjebkkiaaChecked
import GoSem.Claim
import GoSem.ClaimJoined
import GoSem.ClaimMapViews
import Derived.JoinedTies
import Derived.KernelRfl
namespace Go.Proofs.Ytkjpmfmjebkkiaa
/- THE CELL 'sum', in the pinned program and in every row, IS THE sha256 OF THE DUMP (.gsa) THAT YtkjpmfmjebkkiaaProg.lean LOADS. Nothing in Lean hashes anything: it is a label: what it is worth is what the hold of that sum in a sandbox is worth. -/
noncomputable def Try.pinned : Pinned := { name := "ytkjpmfmjebkkiaa", sum := "3d5980e336b2da995f0d62a4df55046fb59788e9a7ed0373b9aeca654a11291c", checked := Try.checked }
namespace Rows
def none {H : Type} : Left H := { results := [], args := [] }

/-- 'laws.FnExactParseFormula': WHATEVER THE INPUT: true; the input reads as it did. -/
def fnExactParseFormulaSpec : ChangeSpec := { name := "fnExactParseFormula", fn := fun _ => fun
  | [d] => { results := [.lit (.bool true)], args := [d] }
  | _ => none }
def fnExactParseFormulaRow : OpenClaim := { program := "ytkjpmfmjebkkiaa", sum := "3d5980e336b2da995f0d62a4df55046fb59788e9a7ed0373b9aeca654a11291c", func := "loop.example/g00892/laws.FnExactParseFormula", spec := "fnExactParseFormula", inPlace := ["internal/abi.NoEscape", "internal/bytealg.MakeNoZero"], unfollowed := true, recurses := true, apart := false }
def FnExactParseFormulaSaid : Prop := fnExactParseFormulaRow.holds Try.pinned (OpenSpec.ofChange fnExactParseFormulaSpec)

/-- ITS FALSE NEIGHBOUR: 'it returns false'. Refute it at one input. -/
def fnExactParseFormulaWrong : ChangeSpec := { name := "fnExactParseFormula", fn := fun _ => fun
  | [d] => { results := [.lit (.bool false)], args := [d] }
  | _ => none }
def FnExactParseFormulaWrongFalsely : Prop := fnExactParseFormulaRow.holds Try.pinned (OpenSpec.ofChange fnExactParseFormulaWrong)

/-- 'laws.FnExactSignatureOf': WHATEVER THE INPUT: true; the input reads as it did. -/
def fnExactSignatureOfSpec : ChangeSpec := { name := "fnExactSignatureOf", fn := fun _ => fun
  | [d] => { results := [.lit (.bool true)], args := [d] }
  | _ => none }
def fnExactSignatureOfRow : OpenClaim := { program := "ytkjpmfmjebkkiaa", sum := "3d5980e336b2da995f0d62a4df55046fb59788e9a7ed0373b9aeca654a11291c", func := "loop.example/g00892/laws.FnExactSignatureOf", spec := "fnExactSignatureOf", inPlace := ["slices.overlaps[loop.example/g00892/impl.Table]"], unfollowed := true, recurses := true, loops := true, apart := false }
def FnExactSignatureOfSaid : Prop := fnExactSignatureOfRow.holds Try.pinned (OpenSpec.ofChange fnExactSignatureOfSpec)

/-- ITS FALSE NEIGHBOUR: 'it returns false'. Refute it at one input. -/
def fnExactSignatureOfWrong : ChangeSpec := { name := "fnExactSignatureOf", fn := fun _ => fun
  | [d] => { results := [.lit (.bool false)], args := [d] }
  | _ => none }
def FnExactSignatureOfWrongFalsely : Prop := fnExactSignatureOfRow.holds Try.pinned (OpenSpec.ofChange fnExactSignatureOfWrong)

/- THE SECOND FORM. 'bulk': how many values and letters a reading holds, each counted each time it is reached (what is shared counts as often as it is met; a slice's spare places count too). A statement '..UptoSaid' is the law's where the arguments, and the package variables that the reading takes, are together of bulk at most 1048576: NARROWER than '..Said'. Prove '..Said' where nothing that the law and all that it calls make is longer than what came in: it says more and counts as full. Else prove '..UptoSaid'. A law counts once. -/
mutual
def uptoBulk {H : Type} : DataW H → Nat
  | .lit (.string bytes) => bytes.length + 1
  | .lit _ => 1
  | .nil => 1
  | .ptr d => uptoBulk d + 1
  | .slice elems spare => uptoBulkAll elems + uptoBulkAll spare + 1
  | .agg parts => uptoBulkAll parts + 1
  | .iface _ d => uptoBulk d + 1
  | .map entries => uptoBulkEntries entries + 1
  | .held _ => 1
def uptoBulkAll {H : Type} : List (DataW H) → Nat
  | [] => 0
  | d :: r => uptoBulk d + uptoBulkAll r
def uptoBulkEntries {H : Type} : List (Lit × DataW H) → Nat
  | [] => 0
  | x :: r => uptoBulkEntry x + uptoBulkEntries r
def uptoBulkEntry {H : Type} : Lit × DataW H → Nat
  | (.string bytes, d) => bytes.length + uptoBulk d + 1
  | (_, d) => uptoBulk d + 1
 end
def uptoSmall : (H : Type) → List (DataW H) → Bool := fun _ ds => decide (uptoBulkAll ds ≤ 1048576)
def OpenSpec.upto (s : _root_.Go.ChangeSpec) : _root_.Go.OpenSpec := { _root_.Go.OpenSpec.ofChange s with cond := some uptoSmall }

/-- 'laws.FnExactParseFormula', WHERE WHAT IT READS IS OF BULK AT MOST 1048576: true; the input reads as it did. -/
def fnExactParseFormulaUptoRow : OpenClaim := { program := "ytkjpmfmjebkkiaa", sum := "3d5980e336b2da995f0d62a4df55046fb59788e9a7ed0373b9aeca654a11291c", func := "loop.example/g00892/laws.FnExactParseFormula", spec := "fnExactParseFormula", inPlace := ["internal/abi.NoEscape", "internal/bytealg.MakeNoZero"], unfollowed := true, recurses := true, apart := false, narrowed := true }
def FnExactParseFormulaUptoSaid : Prop := fnExactParseFormulaUptoRow.holds Try.pinned (OpenSpec.upto fnExactParseFormulaSpec)

/-- 'laws.FnExactSignatureOf', WHERE WHAT IT READS IS OF BULK AT MOST 1048576: true; the input reads as it did. -/
def fnExactSignatureOfUptoRow : OpenClaim := { program := "ytkjpmfmjebkkiaa", sum := "3d5980e336b2da995f0d62a4df55046fb59788e9a7ed0373b9aeca654a11291c", func := "loop.example/g00892/laws.FnExactSignatureOf", spec := "fnExactSignatureOf", inPlace := ["slices.overlaps[loop.example/g00892/impl.Table]"], unfollowed := true, recurses := true, loops := true, apart := false, narrowed := true }
def FnExactSignatureOfUptoSaid : Prop := fnExactSignatureOfUptoRow.holds Try.pinned (OpenSpec.upto fnExactSignatureOfSpec)

end Rows
end Go.Proofs.Ytkjpmfmjebkkiaa
