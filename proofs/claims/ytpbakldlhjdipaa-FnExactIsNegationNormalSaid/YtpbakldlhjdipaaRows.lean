/-
  NARROWER THAN 'FOR EVERY INPUT', by the rows' own cells (each row's printed sentence says how): FnExactIsNegationNormal: loops.
  DERIVED. THE GIVEN ROWS OF THIS SEAT. 6 by the template 'for every input the law returns true; each argument reads behind the call as it read before'; 0 by the template 'total and deterministic' (their statements: YtpbakldlhjdipaaTotals.lean).
  GIVEN WITH THE SEED: the statements are not yours to turn. If you find one false, say at which input.
  Laid BY PROGRAM, IN A SANDBOX (cutbox-rows.mjs): the forced cells as the released guide's own fill.sh prints them over the translation e3b2ab44d59d308f… (all of the seat's roots in one cut). By AI agents, Wed Nov 11 2026. No macro, syntax, notation, axiom, sorry.
-/
import Derived.Test.YtpbakldlhjdipaaChecked
import GoSem.Claim
import GoSem.ClaimJoined
import GoSem.ClaimMapViews
import Derived.JoinedTies
import Derived.KernelRfl
namespace Go.Proofs.Ytpbakldlhjdipaa
/- THE CELL 'sum', in the pinned program and in every row, IS THE sha256 OF THE DUMP (.gsa) THAT YtpbakldlhjdipaaProg.lean LOADS. Nothing in Lean hashes anything: it is a label: what it is worth is what the hold of that sum in a sandbox is worth. -/
noncomputable def Try.pinned : Pinned := { name := "ytpbakldlhjdipaa", sum := "e3b2ab44d59d308fddb121ce5aa6752cb208164b1f74e666b7f264bb4595c3ee", checked := Try.checked }
namespace Rows
def none {H : Type} : Left H := { results := [], args := [] }

/-- 'laws.FnExactCountInterpretations': WHATEVER THE INPUT: true; the input reads as it did. -/
def fnExactCountInterpretationsSpec : ChangeSpec := { name := "fnExactCountInterpretations", fn := fun _ => fun
  | [d1, d2] => { results := [.lit (.bool true)], args := [d1, d2] }
  | _ => none }
def fnExactCountInterpretationsRow : OpenClaim := { program := "ytpbakldlhjdipaa", sum := "e3b2ab44d59d308fddb121ce5aa6752cb208164b1f74e666b7f264bb4595c3ee", func := "loop.example/g00892/laws.FnExactCountInterpretations", spec := "fnExactCountInterpretations", apart := false }
def FnExactCountInterpretationsSaid : Prop := fnExactCountInterpretationsRow.holds Try.pinned (OpenSpec.ofChange fnExactCountInterpretationsSpec)

/-- ITS FALSE NEIGHBOUR: 'it returns false'. Refute it at one input. -/
def fnExactCountInterpretationsWrong : ChangeSpec := { name := "fnExactCountInterpretations", fn := fun _ => fun
  | [d1, d2] => { results := [.lit (.bool false)], args := [d1, d2] }
  | _ => none }
def FnExactCountInterpretationsWrongFalsely : Prop := fnExactCountInterpretationsRow.holds Try.pinned (OpenSpec.ofChange fnExactCountInterpretationsWrong)

/-- 'laws.FnExactIsValidInterpretation': WHATEVER THE INPUT: true; the input reads as it did. -/
def fnExactIsValidInterpretationSpec : ChangeSpec := { name := "fnExactIsValidInterpretation", fn := fun _ => fun
  | [d] => { results := [.lit (.bool true)], args := [d] }
  | _ => none }
def fnExactIsValidInterpretationRow : OpenClaim := { program := "ytpbakldlhjdipaa", sum := "e3b2ab44d59d308fddb121ce5aa6752cb208164b1f74e666b7f264bb4595c3ee", func := "loop.example/g00892/laws.FnExactIsValidInterpretation", spec := "fnExactIsValidInterpretation", unfollowed := true, recurses := true, apart := false }
def FnExactIsValidInterpretationSaid : Prop := fnExactIsValidInterpretationRow.holds Try.pinned (OpenSpec.ofChange fnExactIsValidInterpretationSpec)

/-- ITS FALSE NEIGHBOUR: 'it returns false'. Refute it at one input. -/
def fnExactIsValidInterpretationWrong : ChangeSpec := { name := "fnExactIsValidInterpretation", fn := fun _ => fun
  | [d] => { results := [.lit (.bool false)], args := [d] }
  | _ => none }
def FnExactIsValidInterpretationWrongFalsely : Prop := fnExactIsValidInterpretationRow.holds Try.pinned (OpenSpec.ofChange fnExactIsValidInterpretationWrong)

/-- 'laws.FnPositions': WHATEVER THE INPUT: true; the input reads as it did. -/
def fnPositionsSpec : ChangeSpec := { name := "fnPositions", fn := fun _ => fun
  | [d] => { results := [.lit (.bool true)], args := [d] }
  | _ => none }
def fnPositionsRow : OpenClaim := { program := "ytpbakldlhjdipaa", sum := "e3b2ab44d59d308fddb121ce5aa6752cb208164b1f74e666b7f264bb4595c3ee", func := "loop.example/g00892/laws.FnPositions", spec := "fnPositions", unfollowed := true, recurses := true, apart := false }
def FnPositionsSaid : Prop := fnPositionsRow.holds Try.pinned (OpenSpec.ofChange fnPositionsSpec)

/-- ITS FALSE NEIGHBOUR: 'it returns false'. Refute it at one input. -/
def fnPositionsWrong : ChangeSpec := { name := "fnPositions", fn := fun _ => fun
  | [d] => { results := [.lit (.bool false)], args := [d] }
  | _ => none }
def FnPositionsWrongFalsely : Prop := fnPositionsRow.holds Try.pinned (OpenSpec.ofChange fnPositionsWrong)

/-- 'laws.FnExactParseTerm': WHATEVER THE INPUT: true; the input reads as it did. -/
def fnExactParseTermSpec : ChangeSpec := { name := "fnExactParseTerm", fn := fun _ => fun
  | [d] => { results := [.lit (.bool true)], args := [d] }
  | _ => none }
def fnExactParseTermRow : OpenClaim := { program := "ytpbakldlhjdipaa", sum := "e3b2ab44d59d308fddb121ce5aa6752cb208164b1f74e666b7f264bb4595c3ee", func := "loop.example/g00892/laws.FnExactParseTerm", spec := "fnExactParseTerm", inPlace := ["internal/abi.NoEscape", "internal/bytealg.MakeNoZero"], unfollowed := true, recurses := true, apart := false }
def FnExactParseTermSaid : Prop := fnExactParseTermRow.holds Try.pinned (OpenSpec.ofChange fnExactParseTermSpec)

/-- ITS FALSE NEIGHBOUR: 'it returns false'. Refute it at one input. -/
def fnExactParseTermWrong : ChangeSpec := { name := "fnExactParseTerm", fn := fun _ => fun
  | [d] => { results := [.lit (.bool false)], args := [d] }
  | _ => none }
def FnExactParseTermWrongFalsely : Prop := fnExactParseTermRow.holds Try.pinned (OpenSpec.ofChange fnExactParseTermWrong)

/-- 'laws.FnTermOrder': WHATEVER THE INPUT: true; the input reads as it did. -/
def fnTermOrderSpec : ChangeSpec := { name := "fnTermOrder", fn := fun _ => fun
  | [d] => { results := [.lit (.bool true)], args := [d] }
  | _ => none }
def fnTermOrderRow : OpenClaim := { program := "ytpbakldlhjdipaa", sum := "e3b2ab44d59d308fddb121ce5aa6752cb208164b1f74e666b7f264bb4595c3ee", func := "loop.example/g00892/laws.FnTermOrder", spec := "fnTermOrder", unfollowed := true, recurses := true, apart := false }
def FnTermOrderSaid : Prop := fnTermOrderRow.holds Try.pinned (OpenSpec.ofChange fnTermOrderSpec)

/-- ITS FALSE NEIGHBOUR: 'it returns false'. Refute it at one input. -/
def fnTermOrderWrong : ChangeSpec := { name := "fnTermOrder", fn := fun _ => fun
  | [d] => { results := [.lit (.bool false)], args := [d] }
  | _ => none }
def FnTermOrderWrongFalsely : Prop := fnTermOrderRow.holds Try.pinned (OpenSpec.ofChange fnTermOrderWrong)

/-- 'laws.FnExactIsNegationNormal': WHATEVER THE INPUT: true; the input reads as it did. -/
def fnExactIsNegationNormalSpec : ChangeSpec := { name := "fnExactIsNegationNormal", fn := fun _ => fun
  | [d] => { results := [.lit (.bool true)], args := [d] }
  | _ => none }
def fnExactIsNegationNormalRow : OpenClaim := { program := "ytpbakldlhjdipaa", sum := "e3b2ab44d59d308fddb121ce5aa6752cb208164b1f74e666b7f264bb4595c3ee", func := "loop.example/g00892/laws.FnExactIsNegationNormal", spec := "fnExactIsNegationNormal", unfollowed := true, recurses := true, loops := true, apart := false }
def FnExactIsNegationNormalSaid : Prop := fnExactIsNegationNormalRow.holds Try.pinned (OpenSpec.ofChange fnExactIsNegationNormalSpec)

/-- ITS FALSE NEIGHBOUR: 'it returns false'. Refute it at one input. -/
def fnExactIsNegationNormalWrong : ChangeSpec := { name := "fnExactIsNegationNormal", fn := fun _ => fun
  | [d] => { results := [.lit (.bool false)], args := [d] }
  | _ => none }
def FnExactIsNegationNormalWrongFalsely : Prop := fnExactIsNegationNormalRow.holds Try.pinned (OpenSpec.ofChange fnExactIsNegationNormalWrong)

/- THE SECOND FORM. 'bulk': how many values and letters a reading holds, each counted each time it is reached (what is shared counts as often as it is met; a slice's spare places count too). A statement '..UptoSaid' is the law's where the arguments, and the package variables that the reading takes, are together of bulk at most 1048576: NARROWER than '..Said'. Prove '..Said' where nothing that the law and all that it calls make is longer than what came in: it says more and counts as full. Else prove '..UptoSaid'. A law counts once. -/
mutual
def uptoBulk {H : Type} : DataW H → Nat
  | .lit (.string bytes) => bytes.length + 1
  | .lit _ => 1
  | .nil => 1
  | .ptr d => uptoBulk d + 1
  | .slice elems spare => uptoBulkAll elems + uptoBulkAll spare + 1
  | .agg parts => uptoBulkAll parts + 1
  | .iface _ d => uptoBulk d + 1
  | .map entries => uptoBulkEntries entries + 1
  | .held _ => 1
def uptoBulkAll {H : Type} : List (DataW H) → Nat
  | [] => 0
  | d :: r => uptoBulk d + uptoBulkAll r
def uptoBulkEntries {H : Type} : List (Lit × DataW H) → Nat
  | [] => 0
  | x :: r => uptoBulkEntry x + uptoBulkEntries r
def uptoBulkEntry {H : Type} : Lit × DataW H → Nat
  | (.string bytes, d) => bytes.length + uptoBulk d + 1
  | (_, d) => uptoBulk d + 1
 end
def uptoSmall : (H : Type) → List (DataW H) → Bool := fun _ ds => decide (uptoBulkAll ds ≤ 1048576)
def OpenSpec.upto (s : _root_.Go.ChangeSpec) : _root_.Go.OpenSpec := { _root_.Go.OpenSpec.ofChange s with cond := some uptoSmall }

/-- 'laws.FnExactCountInterpretations', WHERE WHAT IT READS IS OF BULK AT MOST 1048576: true; the input reads as it did. -/
def fnExactCountInterpretationsUptoRow : OpenClaim := { program := "ytpbakldlhjdipaa", sum := "e3b2ab44d59d308fddb121ce5aa6752cb208164b1f74e666b7f264bb4595c3ee", func := "loop.example/g00892/laws.FnExactCountInterpretations", spec := "fnExactCountInterpretations", apart := false, narrowed := true }
def FnExactCountInterpretationsUptoSaid : Prop := fnExactCountInterpretationsUptoRow.holds Try.pinned (OpenSpec.upto fnExactCountInterpretationsSpec)

/-- 'laws.FnExactIsValidInterpretation', WHERE WHAT IT READS IS OF BULK AT MOST 1048576: true; the input reads as it did. -/
def fnExactIsValidInterpretationUptoRow : OpenClaim := { program := "ytpbakldlhjdipaa", sum := "e3b2ab44d59d308fddb121ce5aa6752cb208164b1f74e666b7f264bb4595c3ee", func := "loop.example/g00892/laws.FnExactIsValidInterpretation", spec := "fnExactIsValidInterpretation", unfollowed := true, recurses := true, apart := false, narrowed := true }
def FnExactIsValidInterpretationUptoSaid : Prop := fnExactIsValidInterpretationUptoRow.holds Try.pinned (OpenSpec.upto fnExactIsValidInterpretationSpec)

/-- 'laws.FnPositions', WHERE WHAT IT READS IS OF BULK AT MOST 1048576: true; the input reads as it did. -/
def fnPositionsUptoRow : OpenClaim := { program := "ytpbakldlhjdipaa", sum := "e3b2ab44d59d308fddb121ce5aa6752cb208164b1f74e666b7f264bb4595c3ee", func := "loop.example/g00892/laws.FnPositions", spec := "fnPositions", unfollowed := true, recurses := true, apart := false, narrowed := true }
def FnPositionsUptoSaid : Prop := fnPositionsUptoRow.holds Try.pinned (OpenSpec.upto fnPositionsSpec)

/-- 'laws.FnExactParseTerm', WHERE WHAT IT READS IS OF BULK AT MOST 1048576: true; the input reads as it did. -/
def fnExactParseTermUptoRow : OpenClaim := { program := "ytpbakldlhjdipaa", sum := "e3b2ab44d59d308fddb121ce5aa6752cb208164b1f74e666b7f264bb4595c3ee", func := "loop.example/g00892/laws.FnExactParseTerm", spec := "fnExactParseTerm", inPlace := ["internal/abi.NoEscape", "internal/bytealg.MakeNoZero"], unfollowed := true, recurses := true, apart := false, narrowed := true }
def FnExactParseTermUptoSaid : Prop := fnExactParseTermUptoRow.holds Try.pinned (OpenSpec.upto fnExactParseTermSpec)

/-- 'laws.FnTermOrder', WHERE WHAT IT READS IS OF BULK AT MOST 1048576: true; the input reads as it did. -/
def fnTermOrderUptoRow : OpenClaim := { program := "ytpbakldlhjdipaa", sum := "e3b2ab44d59d308fddb121ce5aa6752cb208164b1f74e666b7f264bb4595c3ee", func := "loop.example/g00892/laws.FnTermOrder", spec := "fnTermOrder", unfollowed := true, recurses := true, apart := false, narrowed := true }
def FnTermOrderUptoSaid : Prop := fnTermOrderUptoRow.holds Try.pinned (OpenSpec.upto fnTermOrderSpec)

/-- 'laws.FnExactIsNegationNormal', WHERE WHAT IT READS IS OF BULK AT MOST 1048576: true; the input reads as it did. -/
def fnExactIsNegationNormalUptoRow : OpenClaim := { program := "ytpbakldlhjdipaa", sum := "e3b2ab44d59d308fddb121ce5aa6752cb208164b1f74e666b7f264bb4595c3ee", func := "loop.example/g00892/laws.FnExactIsNegationNormal", spec := "fnExactIsNegationNormal", unfollowed := true, recurses := true, loops := true, apart := false, narrowed := true }
def FnExactIsNegationNormalUptoSaid : Prop := fnExactIsNegationNormalUptoRow.holds Try.pinned (OpenSpec.upto fnExactIsNegationNormalSpec)

end Rows
end Go.Proofs.Ytpbakldlhjdipaa
