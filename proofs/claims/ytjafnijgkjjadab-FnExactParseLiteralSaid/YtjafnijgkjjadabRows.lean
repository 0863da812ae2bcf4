/-
  NARROWER THAN 'FOR EVERY INPUT', by the rows' own cells (each row's printed sentence says how): FnExactNegationNormalForm: loops · FnExactEvaluateTerm: loops.
  DERIVED. THE GIVEN ROWS OF THIS SEAT. 6 by the template 'for every input the law returns true; each argument reads behind the call as it read before'; 0 by the template 'total and deterministic' (their statements: YtjafnijgkjjadabTotals.lean).
  GIVEN WITH THE SEED: the statements are not yours to turn. If you find one false, say at which input.
  Laid BY PROGRAM, IN A SANDBOX (cutbox-rows.mjs): the forced cells as the released guide's own fill.sh prints them over the translation 8677df9e22ac322d… (all of the seat's roots in one cut). By AI agents, Wed Nov 11 2026. No macro, syntax, notation, axiom, sorry.
-/
import Derived.Test.YtjafnijgkjjadabChecked
import GoSem.Claim
import GoSem.ClaimJoined
import GoSem.ClaimMapViews
import Derived.JoinedTies
import Derived.KernelRfl
namespace Go.Proofs.Ytjafnijgkjjadab
/- THE CELL 'sum', in the pinned program and in every row, IS THE sha256 OF THE DUMP (.gsa) THAT YtjafnijgkjjadabProg.lean LOADS. Nothing in Lean hashes anything: it is a label: what it is worth is what the hold of that sum in a sandbox is worth. -/
noncomputable def Try.pinned : Pinned := { name := "ytjafnijgkjjadab", sum := "8677df9e22ac322df71f47d6c4256a94154c0e12270b3dca576cf5cf3fa8c7b5", checked := Try.checked }
namespace Rows
def none {H : Type} : Left H := { results := [], args := [] }

/-- 'laws.FnExactParseTerm': WHATEVER THE INPUT: true; the input reads as it did. -/
def fnExactParseTermSpec : ChangeSpec := { name := "fnExactParseTerm", fn := fun _ => fun
  | [d] => { results := [.lit (.bool true)], args := [d] }
  | _ => none }
def fnExactParseTermRow : OpenClaim := { program := "ytjafnijgkjjadab", sum := "8677df9e22ac322df71f47d6c4256a94154c0e12270b3dca576cf5cf3fa8c7b5", func := "loop.example/g00892/laws.FnExactParseTerm", spec := "fnExactParseTerm", inPlace := ["internal/abi.NoEscape", "internal/bytealg.MakeNoZero"], unfollowed := true, recurses := true, apart := false }
def FnExactParseTermSaid : Prop := fnExactParseTermRow.holds Try.pinned (OpenSpec.ofChange fnExactParseTermSpec)

/-- ITS FALSE NEIGHBOUR: 'it returns false'. Refute it at one input. -/
def fnExactParseTermWrong : ChangeSpec := { name := "fnExactParseTerm", fn := fun _ => fun
  | [d] => { results := [.lit (.bool false)], args := [d] }
  | _ => none }
def FnExactParseTermWrongFalsely : Prop := fnExactParseTermRow.holds Try.pinned (OpenSpec.ofChange fnExactParseTermWrong)

/-- 'laws.FnExactParseAtom': WHATEVER THE INPUT: true; the input reads as it did. -/
def fnExactParseAtomSpec : ChangeSpec := { name := "fnExactParseAtom", fn := fun _ => fun
  | [d] => { results := [.lit (.bool true)], args := [d] }
  | _ => none }
def fnExactParseAtomRow : OpenClaim := { program := "ytjafnijgkjjadab", sum := "8677df9e22ac322df71f47d6c4256a94154c0e12270b3dca576cf5cf3fa8c7b5", func := "loop.example/g00892/laws.FnExactParseAtom", spec := "fnExactParseAtom", inPlace := ["internal/abi.NoEscape", "internal/bytealg.MakeNoZero"], unfollowed := true, recurses := true, apart := false }
def FnExactParseAtomSaid : Prop := fnExactParseAtomRow.holds Try.pinned (OpenSpec.ofChange fnExactParseAtomSpec)

/-- ITS FALSE NEIGHBOUR: 'it returns false'. Refute it at one input. -/
def fnExactParseAtomWrong : ChangeSpec := { name := "fnExactParseAtom", fn := fun _ => fun
  | [d] => { results := [.lit (.bool false)], args := [d] }
  | _ => none }
def FnExactParseAtomWrongFalsely : Prop := fnExactParseAtomRow.holds Try.pinned (OpenSpec.ofChange fnExactParseAtomWrong)

/-- 'laws.FnExactParseLiteral': WHATEVER THE INPUT: true; the input reads as it did. -/
def fnExactParseLiteralSpec : ChangeSpec := { name := "fnExactParseLiteral", fn := fun _ => fun
  | [d] => { results := [.lit (.bool true)], args := [d] }
  | _ => none }
def fnExactParseLiteralRow : OpenClaim := { program := "ytjafnijgkjjadab", sum := "8677df9e22ac322df71f47d6c4256a94154c0e12270b3dca576cf5cf3fa8c7b5", func := "loop.example/g00892/laws.FnExactParseLiteral", spec := "fnExactParseLiteral", inPlace := ["internal/abi.NoEscape", "internal/bytealg.MakeNoZero"], unfollowed := true, recurses := true, apart := false }
def FnExactParseLiteralSaid : Prop := fnExactParseLiteralRow.holds Try.pinned (OpenSpec.ofChange fnExactParseLiteralSpec)

/-- ITS FALSE NEIGHBOUR: 'it returns false'. Refute it at one input. -/
def fnExactParseLiteralWrong : ChangeSpec := { name := "fnExactParseLiteral", fn := fun _ => fun
  | [d] => { results := [.lit (.bool false)], args := [d] }
  | _ => none }
def FnExactParseLiteralWrongFalsely : Prop := fnExactParseLiteralRow.holds Try.pinned (OpenSpec.ofChange fnExactParseLiteralWrong)

/-- 'laws.FnExactNegationNormalForm': WHATEVER THE INPUT: true; the input reads as it did. -/
def fnExactNegationNormalFormSpec : ChangeSpec := { name := "fnExactNegationNormalForm", fn := fun _ => fun
  | [d] => { results := [.lit (.bool true)], args := [d] }
  | _ => none }
def fnExactNegationNormalFormRow : OpenClaim := { program := "ytjafnijgkjjadab", sum := "8677df9e22ac322df71f47d6c4256a94154c0e12270b3dca576cf5cf3fa8c7b5", func := "loop.example/g00892/laws.FnExactNegationNormalForm", spec := "fnExactNegationNormalForm", unfollowed := true, recurses := true, loops := true, apart := false }
def FnExactNegationNormalFormSaid : Prop := fnExactNegationNormalFormRow.holds Try.pinned (OpenSpec.ofChange fnExactNegationNormalFormSpec)

/-- ITS FALSE NEIGHBOUR: 'it returns false'. Refute it at one input. -/
def fnExactNegationNormalFormWrong : ChangeSpec := { name := "fnExactNegationNormalForm", fn := fun _ => fun
  | [d] => { results := [.lit (.bool false)], args := [d] }
  | _ => none }
def FnExactNegationNormalFormWrongFalsely : Prop := fnExactNegationNormalFormRow.holds Try.pinned (OpenSpec.ofChange fnExactNegationNormalFormWrong)

/-- 'laws.FnExactRenameElements': WHATEVER THE INPUT: true; the input reads as it did. -/
def fnExactRenameElementsSpec : ChangeSpec := { name := "fnExactRenameElements", fn := fun _ => fun
  | [d1, d2] => { results := [.lit (.bool true)], args := [d1, d2] }
  | _ => none }
def fnExactRenameElementsRow : OpenClaim := { program := "ytjafnijgkjjadab", sum := "8677df9e22ac322df71f47d6c4256a94154c0e12270b3dca576cf5cf3fa8c7b5", func := "loop.example/g00892/laws.FnExactRenameElements", spec := "fnExactRenameElements", unfollowed := true, recurses := true, apart := false }
def FnExactRenameElementsSaid : Prop := fnExactRenameElementsRow.holds Try.pinned (OpenSpec.ofChange fnExactRenameElementsSpec)

/-- ITS FALSE NEIGHBOUR: 'it returns false'. Refute it at one input. -/
def fnExactRenameElementsWrong : ChangeSpec := { name := "fnExactRenameElements", fn := fun _ => fun
  | [d1, d2] => { results := [.lit (.bool false)], args := [d1, d2] }
  | _ => none }
def FnExactRenameElementsWrongFalsely : Prop := fnExactRenameElementsRow.holds Try.pinned (OpenSpec.ofChange fnExactRenameElementsWrong)

/-- 'laws.FnExactEvaluateTerm': WHATEVER THE INPUT: true; the input reads as it did. -/
def fnExactEvaluateTermSpec : ChangeSpec := { name := "fnExactEvaluateTerm", fn := fun _ => fun
  | [d1, d2, d3] => { results := [.lit (.bool true)], args := [d1, d2, d3] }
  | _ => none }
def fnExactEvaluateTermRow : OpenClaim := { program := "ytjafnijgkjjadab", sum := "8677df9e22ac322df71f47d6c4256a94154c0e12270b3dca576cf5cf3fa8c7b5", func := "loop.example/g00892/laws.FnExactEvaluateTerm", spec := "fnExactEvaluateTerm", unfollowed := true, recurses := true, loops := true, apart := false }
def FnExactEvaluateTermSaid : Prop := fnExactEvaluateTermRow.holds Try.pinned (OpenSpec.ofChange fnExactEvaluateTermSpec)

/-- ITS FALSE NEIGHBOUR: 'it returns false'. Refute it at one input. -/
def fnExactEvaluateTermWrong : ChangeSpec := { name := "fnExactEvaluateTerm", fn := fun _ => fun
  | [d1, d2, d3] => { results := [.lit (.bool false)], args := [d1, d2, d3] }
  | _ => none }
def FnExactEvaluateTermWrongFalsely : Prop := fnExactEvaluateTermRow.holds Try.pinned (OpenSpec.ofChange fnExactEvaluateTermWrong)

/- THE SECOND FORM. 'bulk': how many values and letters a reading holds, each counted each time it is reached (what is shared counts as often as it is met; a slice's spare places count too). A statement '..UptoSaid' is the law's where the arguments, and the package variables that the reading takes, are together of bulk at most 1048576: NARROWER than '..Said'. Prove '..Said' where nothing that the law and all that it calls make is longer than what came in: it says more and counts as full. Else prove '..UptoSaid'. A law counts once. -/
mutual
def uptoBulk {H : Type} : DataW H → Nat
  | .lit (.string bytes) => bytes.length + 1
  | .lit _ => 1
  | .nil => 1
  | .ptr d => uptoBulk d + 1
  | .slice elems spare => uptoBulkAll elems + uptoBulkAll spare + 1
  | .agg parts => uptoBulkAll parts + 1
  | .iface _ d => uptoBulk d + 1
  | .map entries => uptoBulkEntries entries + 1
  | .held _ => 1
def uptoBulkAll {H : Type} : List (DataW H) → Nat
  | [] => 0
  | d :: r => uptoBulk d + uptoBulkAll r
def uptoBulkEntries {H : Type} : List (Lit × DataW H) → Nat
  | [] => 0
  | x :: r => uptoBulkEntry x + uptoBulkEntries r
def uptoBulkEntry {H : Type} : Lit × DataW H → Nat
  | (.string bytes, d) => bytes.length + uptoBulk d + 1
  | (_, d) => uptoBulk d + 1
 end
def uptoSmall : (H : Type) → List (DataW H) → Bool := fun _ ds => decide (uptoBulkAll ds ≤ 1048576)
def OpenSpec.upto (s : _root_.Go.ChangeSpec) : _root_.Go.OpenSpec := { _root_.Go.OpenSpec.ofChange s with cond := some uptoSmall }

/-- 'laws.FnExactParseTerm', WHERE WHAT IT READS IS OF BULK AT MOST 1048576: true; the input reads as it did. -/
def fnExactParseTermUptoRow : OpenClaim := { program := "ytjafnijgkjjadab", sum := "8677df9e22ac322df71f47d6c4256a94154c0e12270b3dca576cf5cf3fa8c7b5", func := "loop.example/g00892/laws.FnExactParseTerm", spec := "fnExactParseTerm", inPlace := ["internal/abi.NoEscape", "internal/bytealg.MakeNoZero"], unfollowed := true, recurses := true, apart := false, narrowed := true }
def FnExactParseTermUptoSaid : Prop := fnExactParseTermUptoRow.holds Try.pinned (OpenSpec.upto fnExactParseTermSpec)

/-- 'laws.FnExactParseAtom', WHERE WHAT IT READS IS OF BULK AT MOST 1048576: true; the input reads as it did. -/
def fnExactParseAtomUptoRow : OpenClaim := { program := "ytjafnijgkjjadab", sum := "8677df9e22ac322df71f47d6c4256a94154c0e12270b3dca576cf5cf3fa8c7b5", func := "loop.example/g00892/laws.FnExactParseAtom", spec := "fnExactParseAtom", inPlace := ["internal/abi.NoEscape", "internal/bytealg.MakeNoZero"], unfollowed := true, recurses := true, apart := false, narrowed := true }
def FnExactParseAtomUptoSaid : Prop := fnExactParseAtomUptoRow.holds Try.pinned (OpenSpec.upto fnExactParseAtomSpec)

/-- 'laws.FnExactParseLiteral', WHERE WHAT IT READS IS OF BULK AT MOST 1048576: true; the input reads as it did. -/
def fnExactParseLiteralUptoRow : OpenClaim := { program := "ytjafnijgkjjadab", sum := "8677df9e22ac322df71f47d6c4256a94154c0e12270b3dca576cf5cf3fa8c7b5", func := "loop.example/g00892/laws.FnExactParseLiteral", spec := "fnExactParseLiteral", inPlace := ["internal/abi.NoEscape", "internal/bytealg.MakeNoZero"], unfollowed := true, recurses := true, apart := false, narrowed := true }
def FnExactParseLiteralUptoSaid : Prop := fnExactParseLiteralUptoRow.holds Try.pinned (OpenSpec.upto fnExactParseLiteralSpec)

/-- 'laws.FnExactNegationNormalForm', WHERE WHAT IT READS IS OF BULK AT MOST 1048576: true; the input reads as it did. -/
def fnExactNegationNormalFormUptoRow : OpenClaim := { program := "ytjafnijgkjjadab", sum := "8677df9e22ac322df71f47d6c4256a94154c0e12270b3dca576cf5cf3fa8c7b5", func := "loop.example/g00892/laws.FnExactNegationNormalForm", spec := "fnExactNegationNormalForm", unfollowed := true, recurses := true, loops := true, apart := false, narrowed := true }
def FnExactNegationNormalFormUptoSaid : Prop := fnExactNegationNormalFormUptoRow.holds Try.pinned (OpenSpec.upto fnExactNegationNormalFormSpec)

/-- 'laws.FnExactRenameElements', WHERE WHAT IT READS IS OF BULK AT MOST 1048576: true; the input reads as it did. -/
def fnExactRenameElementsUptoRow : OpenClaim := { program := "ytjafnijgkjjadab", sum := "8677df9e22ac322df71f47d6c4256a94154c0e12270b3dca576cf5cf3fa8c7b5", func := "loop.example/g00892/laws.FnExactRenameElements", spec := "fnExactRenameElements", unfollowed := true, recurses := true, apart := false, narrowed := true }
def FnExactRenameElementsUptoSaid : Prop := fnExactRenameElementsUptoRow.holds Try.pinned (OpenSpec.upto fnExactRenameElementsSpec)

/-- 'laws.FnExactEvaluateTerm', WHERE WHAT IT READS IS OF BULK AT MOST 1048576: true; the input reads as it did. -/
def fnExactEvaluateTermUptoRow : OpenClaim := { program := "ytjafnijgkjjadab", sum := "8677df9e22ac322df71f47d6c4256a94154c0e12270b3dca576cf5cf3fa8c7b5", func := "loop.example/g00892/laws.FnExactEvaluateTerm", spec := "fnExactEvaluateTerm", unfollowed := true, recurses := true, loops := true, apart := false, narrowed := true }
def FnExactEvaluateTermUptoSaid : Prop := fnExactEvaluateTermUptoRow.holds Try.pinned (OpenSpec.upto fnExactEvaluateTermSpec)

end Rows
end Go.Proofs.Ytjafnijgkjjadab
