/-
  NARROWER THAN 'FOR EVERY INPUT', by the rows' own cells (each row's printed sentence says how): FnExactCloseFormula: loops · FnExactEvaluateFormula: loops · FnExactSatisfiesAll: loops · FnExactFormulaOf: loops.
  DERIVED. THE GIVEN ROWS OF THIS SEAT. 4 by the template 'for every input the law returns true; each argument reads behind the call as it read before'; 0 by the template 'total and deterministic' (their statements: YtihclcmgbkkhfaaGreatTotals.lean).
  GIVEN WITH THE SEED: the statements are not yours to turn. If you find one false, say at which input.
  Laid BY PROGRAM, IN A SANDBOX (cutbox-rows.mjs): the forced cells as the released guide's own fill.sh prints them over the translation 3e5163c4ae652a90… (all of the seat's roots in one cut). By AI agents, Wed Nov 11 2026. No macro, syntax, notation, axiom, sorry.
-/
import Derived.Test.YtihclcmgbkkhfaaGreatChecked
import GoSem.Claim
import GoSem.ClaimJoined
import GoSem.ClaimMapViews
import Derived.JoinedTies
import Derived.KernelRfl
namespace Go.Proofs.YtihclcmgbkkhfaaGreat
/- THE CELL 'sum', in the pinned program and in every row, IS THE sha256 OF THE DUMP (.gsa) THAT YtihclcmgbkkhfaaGreatProg.lean LOADS. Nothing in Lean hashes anything: it is a label: what it is worth is what the hold of that sum in a sandbox is worth. -/
noncomputable def Tryz.pinned : Pinned := { name := "ytihclcmgbkkhfaagreat", sum := "3e5163c4ae652a9079c1a6719891e851d03655a13d89567b3a776ec393cb9d05", checked := Tryz.checked }
namespace Rows
def none {H : Type} : Left H := { results := [], args := [] }

/-- 'laws.FnExactCloseFormula': WHATEVER THE INPUT: true; the input reads as it did. -/
def fnExactCloseFormulaSpec : ChangeSpec := { name := "fnExactCloseFormula", fn := fun _ => fun
  | [d] => { results := [.lit (.bool true)], args := [d] }
  | _ => none }
def fnExactCloseFormulaRow : OpenClaim := { program := "ytihclcmgbkkhfaagreat", sum := "3e5163c4ae652a9079c1a6719891e851d03655a13d89567b3a776ec393cb9d05", func := "loop.example/g00892/laws.FnExactCloseFormula", spec := "fnExactCloseFormula", unfollowed := true, recurses := true, loops := true, apart := false }
def FnExactCloseFormulaSaid : Prop := fnExactCloseFormulaRow.holds Tryz.pinned (OpenSpec.ofChange fnExactCloseFormulaSpec)

/-- ITS FALSE NEIGHBOUR: 'it returns false'. Refute it at one input. -/
def fnExactCloseFormulaWrong : ChangeSpec := { name := "fnExactCloseFormula", fn := fun _ => fun
  | [d] => { results := [.lit (.bool false)], args := [d] }
  | _ => none }
def FnExactCloseFormulaWrongFalsely : Prop := fnExactCloseFormulaRow.holds Tryz.pinned (OpenSpec.ofChange fnExactCloseFormulaWrong)

/-- 'laws.FnExactEvaluateFormula': WHATEVER THE INPUT: true; the input reads as it did. -/
def fnExactEvaluateFormulaSpec : ChangeSpec := { name := "fnExactEvaluateFormula", fn := fun _ => fun
  | [d1, d2, d3] => { results := [.lit (.bool true)], args := [d1, d2, d3] }
  | _ => none }
def fnExactEvaluateFormulaRow : OpenClaim := { program := "ytihclcmgbkkhfaagreat", sum := "3e5163c4ae652a9079c1a6719891e851d03655a13d89567b3a776ec393cb9d05", func := "loop.example/g00892/laws.FnExactEvaluateFormula", spec := "fnExactEvaluateFormula", unfollowed := true, recurses := true, loops := true, apart := false }
def FnExactEvaluateFormulaSaid : Prop := fnExactEvaluateFormulaRow.holds Tryz.pinned (OpenSpec.ofChange fnExactEvaluateFormulaSpec)

/-- ITS FALSE NEIGHBOUR: 'it returns false'. Refute it at one input. -/
def fnExactEvaluateFormulaWrong : ChangeSpec := { name := "fnExactEvaluateFormula", fn := fun _ => fun
  | [d1, d2, d3] => { results := [.lit (.bool false)], args := [d1, d2, d3] }
  | _ => none }
def FnExactEvaluateFormulaWrongFalsely : Prop := fnExactEvaluateFormulaRow.holds Tryz.pinned (OpenSpec.ofChange fnExactEvaluateFormulaWrong)

/-- 'laws.FnExactSatisfiesAll': WHATEVER THE INPUT: true; the input reads as it did. -/
def fnExactSatisfiesAllSpec : ChangeSpec := { name := "fnExactSatisfiesAll", fn := fun _ => fun
  | [d1, d2] => { results := [.lit (.bool true)], args := [d1, d2] }
  | _ => none }
def fnExactSatisfiesAllRow : OpenClaim := { program := "ytihclcmgbkkhfaagreat", sum := "3e5163c4ae652a9079c1a6719891e851d03655a13d89567b3a776ec393cb9d05", func := "loop.example/g00892/laws.FnExactSatisfiesAll", spec := "fnExactSatisfiesAll", unfollowed := true, recurses := true, loops := true, apart := false }
def FnExactSatisfiesAllSaid : Prop := fnExactSatisfiesAllRow.holds Tryz.pinned (OpenSpec.ofChange fnExactSatisfiesAllSpec)

/-- ITS FALSE NEIGHBOUR: 'it returns false'. Refute it at one input. -/
def fnExactSatisfiesAllWrong : ChangeSpec := { name := "fnExactSatisfiesAll", fn := fun _ => fun
  | [d1, d2] => { results := [.lit (.bool false)], args := [d1, d2] }
  | _ => none }
def FnExactSatisfiesAllWrongFalsely : Prop := fnExactSatisfiesAllRow.holds Tryz.pinned (OpenSpec.ofChange fnExactSatisfiesAllWrong)

/-- 'laws.FnExactFormulaOf': WHATEVER THE INPUT: true; the input reads as it did. -/
def fnExactFormulaOfSpec : ChangeSpec := { name := "fnExactFormulaOf", fn := fun _ => fun
  | [d] => { results := [.lit (.bool true)], args := [d] }
  | _ => none }
def fnExactFormulaOfRow : OpenClaim := { program := "ytihclcmgbkkhfaagreat", sum := "3e5163c4ae652a9079c1a6719891e851d03655a13d89567b3a776ec393cb9d05", func := "loop.example/g00892/laws.FnExactFormulaOf", spec := "fnExactFormulaOf", unfollowed := true, recurses := true, loops := true, apart := false }
def FnExactFormulaOfSaid : Prop := fnExactFormulaOfRow.holds Tryz.pinned (OpenSpec.ofChange fnExactFormulaOfSpec)

/-- ITS FALSE NEIGHBOUR: 'it returns false'. Refute it at one input. -/
def fnExactFormulaOfWrong : ChangeSpec := { name := "fnExactFormulaOf", fn := fun _ => fun
  | [d] => { results := [.lit (.bool false)], args := [d] }
  | _ => none }
def FnExactFormulaOfWrongFalsely : Prop := fnExactFormulaOfRow.holds Tryz.pinned (OpenSpec.ofChange fnExactFormulaOfWrong)

/- THE SECOND FORM. 'bulk': how many values and letters a reading holds, each counted each time it is reached (what is shared counts as often as it is met; a slice's spare places count too). A statement '..UptoSaid' is the law's where the arguments, and the package variables that the reading takes, are together of bulk at most 1048576: NARROWER than '..Said'. Prove '..Said' where nothing that the law and all that it calls make is longer than what came in: it says more and counts as full. Else prove '..UptoSaid'. A law counts once. -/
mutual
def uptoBulk {H : Type} : DataW H → Nat
  | .lit (.string bytes) => bytes.length + 1
  | .lit _ => 1
  | .nil => 1
  | .ptr d => uptoBulk d + 1
  | .slice elems spare => uptoBulkAll elems + uptoBulkAll spare + 1
  | .agg parts => uptoBulkAll parts + 1
  | .iface _ d => uptoBulk d + 1
  | .map entries => uptoBulkEntries entries + 1
  | .held _ => 1
def uptoBulkAll {H : Type} : List (DataW H) → Nat
  | [] => 0
  | d :: r => uptoBulk d + uptoBulkAll r
def uptoBulkEntries {H : Type} : List (Lit × DataW H) → Nat
  | [] => 0
  | x :: r => uptoBulkEntry x + uptoBulkEntries r
def uptoBulkEntry {H : Type} : Lit × DataW H → Nat
  | (.string bytes, d) => bytes.length + uptoBulk d + 1
  | (_, d) => uptoBulk d + 1
 end
def uptoSmall : (H : Type) → List (DataW H) → Bool := fun _ ds => decide (uptoBulkAll ds ≤ 1048576)
def OpenSpec.upto (s : _root_.Go.ChangeSpec) : _root_.Go.OpenSpec := { _root_.Go.OpenSpec.ofChange s with cond := some uptoSmall }

/-- 'laws.FnExactCloseFormula', WHERE WHAT IT READS IS OF BULK AT MOST 1048576: true; the input reads as it did. -/
def fnExactCloseFormulaUptoRow : OpenClaim := { program := "ytihclcmgbkkhfaagreat", sum := "3e5163c4ae652a9079c1a6719891e851d03655a13d89567b3a776ec393cb9d05", func := "loop.example/g00892/laws.FnExactCloseFormula", spec := "fnExactCloseFormula", unfollowed := true, recurses := true, loops := true, apart := false, narrowed := true }
def FnExactCloseFormulaUptoSaid : Prop := fnExactCloseFormulaUptoRow.holds Tryz.pinned (OpenSpec.upto fnExactCloseFormulaSpec)

/-- 'laws.FnExactEvaluateFormula', WHERE WHAT IT READS IS OF BULK AT MOST 1048576: true; the input reads as it did. -/
def fnExactEvaluateFormulaUptoRow : OpenClaim := { program := "ytihclcmgbkkhfaagreat", sum := "3e5163c4ae652a9079c1a6719891e851d03655a13d89567b3a776ec393cb9d05", func := "loop.example/g00892/laws.FnExactEvaluateFormula", spec := "fnExactEvaluateFormula", unfollowed := true, recurses := true, loops := true, apart := false, narrowed := true }
def FnExactEvaluateFormulaUptoSaid : Prop := fnExactEvaluateFormulaUptoRow.holds Tryz.pinned (OpenSpec.upto fnExactEvaluateFormulaSpec)

/-- 'laws.FnExactSatisfiesAll', WHERE WHAT IT READS IS OF BULK AT MOST 1048576: true; the input reads as it did. -/
def fnExactSatisfiesAllUptoRow : OpenClaim := { program := "ytihclcmgbkkhfaagreat", sum := "3e5163c4ae652a9079c1a6719891e851d03655a13d89567b3a776ec393cb9d05", func := "loop.example/g00892/laws.FnExactSatisfiesAll", spec := "fnExactSatisfiesAll", unfollowed := true, recurses := true, loops := true, apart := false, narrowed := true }
def FnExactSatisfiesAllUptoSaid : Prop := fnExactSatisfiesAllUptoRow.holds Tryz.pinned (OpenSpec.upto fnExactSatisfiesAllSpec)

/-- 'laws.FnExactFormulaOf', WHERE WHAT IT READS IS OF BULK AT MOST 1048576: true; the input reads as it did. -/
def fnExactFormulaOfUptoRow : OpenClaim := { program := "ytihclcmgbkkhfaagreat", sum := "3e5163c4ae652a9079c1a6719891e851d03655a13d89567b3a776ec393cb9d05", func := "loop.example/g00892/laws.FnExactFormulaOf", spec := "fnExactFormulaOf", unfollowed := true, recurses := true, loops := true, apart := false, narrowed := true }
def FnExactFormulaOfUptoSaid : Prop := fnExactFormulaOfUptoRow.holds Tryz.pinned (OpenSpec.upto fnExactFormulaOfSpec)

end Rows
end Go.Proofs.YtihclcmgbkkhfaaGreat
