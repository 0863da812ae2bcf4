/-
  NARROWER THAN 'FOR EVERY INPUT', by the rows' own cells (each row's printed sentence says how): FnExactCloseFormula: loops · FnExactSubstituteFormula: loops · FnExactFormulaOf: loops.
  DERIVED. THE GIVEN ROWS OF THIS SEAT. 3 by the template 'for every input the law returns true; each argument reads behind the call as it read before'; 0 by the template 'total and deterministic' (their statements: YtjgnhifkcgpmjaaGreatTotals.lean).
  GIVEN WITH THE SEED: the statements are not yours to turn. If you find one false, say at which input.
  Laid BY PROGRAM, IN A SANDBOX (cutbox-rows.mjs): the forced cells as the released guide's own fill.sh prints them over the translation 804c112c52fbca15… (all of the seat's roots in one cut). By AI agents, Wed Nov 11 2026. No macro, syntax, notation, axiom, sorry.
-/
import Derived.Test.YtjgnhifkcgpmjaaGreatChecked
import GoSem.Claim
import GoSem.ClaimJoined
import GoSem.ClaimMapViews
import Derived.JoinedTies
import Derived.KernelRfl
namespace Go.Proofs.YtjgnhifkcgpmjaaGreat
/- THE CELL 'sum', in the pinned program and in every row, IS THE sha256 OF THE DUMP (.gsa) THAT YtjgnhifkcgpmjaaGreatProg.lean LOADS. Nothing in Lean hashes anything: it is a label: what it is worth is what the hold of that sum in a sandbox is worth. -/
noncomputable def Tryz.pinned : Pinned := { name := "ytjgnhifkcgpmjaagreat", sum := "804c112c52fbca15e1fa4c470dffb8265238c0e5c186455a05c608a831eb1936", checked := Tryz.checked }
namespace Rows
def none {H : Type} : Left H := { results := [], args := [] }

/-- 'laws.FnExactCloseFormula': WHATEVER THE INPUT: true; the input reads as it did. -/
def fnExactCloseFormulaSpec : ChangeSpec := { name := "fnExactCloseFormula", fn := fun _ => fun
  | [d] => { results := [.lit (.bool true)], args := [d] }
  | _ => none }
def fnExactCloseFormulaRow : OpenClaim := { program := "ytjgnhifkcgpmjaagreat", sum := "804c112c52fbca15e1fa4c470dffb8265238c0e5c186455a05c608a831eb1936", func := "loop.example/g00892/laws.FnExactCloseFormula", spec := "fnExactCloseFormula", unfollowed := true, recurses := true, loops := true, apart := false }
def FnExactCloseFormulaSaid : Prop := fnExactCloseFormulaRow.holds Tryz.pinned (OpenSpec.ofChange fnExactCloseFormulaSpec)

/-- ITS FALSE NEIGHBOUR: 'it returns false'. Refute it at one input. -/
def fnExactCloseFormulaWrong : ChangeSpec := { name := "fnExactCloseFormula", fn := fun _ => fun
  | [d] => { results := [.lit (.bool false)], args := [d] }
  | _ => none }
def FnExactCloseFormulaWrongFalsely : Prop := fnExactCloseFormulaRow.holds Tryz.pinned (OpenSpec.ofChange fnExactCloseFormulaWrong)

/-- 'laws.FnExactSubstituteFormula': WHATEVER THE INPUT: true; the input reads as it did. -/
def fnExactSubstituteFormulaSpec : ChangeSpec := { name := "fnExactSubstituteFormula", fn := fun _ => fun
  | [d1, d2, d3] => { results := [.lit (.bool true)], args := [d1, d2, d3] }
  | _ => none }
def fnExactSubstituteFormulaRow : OpenClaim := { program := "ytjgnhifkcgpmjaagreat", sum := "804c112c52fbca15e1fa4c470dffb8265238c0e5c186455a05c608a831eb1936", func := "loop.example/g00892/laws.FnExactSubstituteFormula", spec := "fnExactSubstituteFormula", unfollowed := true, recurses := true, loops := true, apart := false }
def FnExactSubstituteFormulaSaid : Prop := fnExactSubstituteFormulaRow.holds Tryz.pinned (OpenSpec.ofChange fnExactSubstituteFormulaSpec)

/-- ITS FALSE NEIGHBOUR: 'it returns false'. Refute it at one input. -/
def fnExactSubstituteFormulaWrong : ChangeSpec := { name := "fnExactSubstituteFormula", fn := fun _ => fun
  | [d1, d2, d3] => { results := [.lit (.bool false)], args := [d1, d2, d3] }
  | _ => none }
def FnExactSubstituteFormulaWrongFalsely : Prop := fnExactSubstituteFormulaRow.holds Tryz.pinned (OpenSpec.ofChange fnExactSubstituteFormulaWrong)

/-- 'laws.FnExactFormulaOf': WHATEVER THE INPUT: true; the input reads as it did. -/
def fnExactFormulaOfSpec : ChangeSpec := { name := "fnExactFormulaOf", fn := fun _ => fun
  | [d] => { results := [.lit (.bool true)], args := [d] }
  | _ => none }
def fnExactFormulaOfRow : OpenClaim := { program := "ytjgnhifkcgpmjaagreat", sum := "804c112c52fbca15e1fa4c470dffb8265238c0e5c186455a05c608a831eb1936", func := "loop.example/g00892/laws.FnExactFormulaOf", spec := "fnExactFormulaOf", unfollowed := true, recurses := true, loops := true, apart := false }
def FnExactFormulaOfSaid : Prop := fnExactFormulaOfRow.holds Tryz.pinned (OpenSpec.ofChange fnExactFormulaOfSpec)

/-- ITS FALSE NEIGHBOUR: 'it returns false'. Refute it at one input. -/
def fnExactFormulaOfWrong : ChangeSpec := { name := "fnExactFormulaOf", fn := fun _ => fun
  | [d] => { results := [.lit (.bool false)], args := [d] }
  | _ => none }
def FnExactFormulaOfWrongFalsely : Prop := fnExactFormulaOfRow.holds Tryz.pinned (OpenSpec.ofChange fnExactFormulaOfWrong)

/- THE SECOND FORM. 'bulk': how many values and letters a reading holds, each counted each time it is reached (what is shared counts as often as it is met; a slice's spare places count too). A statement '..UptoSaid' is the law's where the arguments, and the package variables that the reading takes, are together of bulk at most 1048576: NARROWER than '..Said'. Prove '..Said' where nothing that the law and all that it calls make is longer than what came in: it says more and counts as full. Else prove '..UptoSaid'. A law counts once. -/
mutual
def uptoBulk {H : Type} : DataW H → Nat
  | .lit (.string bytes) => bytes.length + 1
  | .lit _ => 1
  | .nil => 1
  | .ptr d => uptoBulk d + 1
  | .slice elems spare => uptoBulkAll elems + uptoBulkAll spare + 1
  | .agg parts => uptoBulkAll parts + 1
  | .iface _ d => uptoBulk d + 1
  | .map entries => uptoBulkEntries entries + 1
  | .held _ => 1
def uptoBulkAll {H : Type} : List (DataW H) → Nat
  | [] => 0
  | d :: r => uptoBulk d + uptoBulkAll r
def uptoBulkEntries {H : Type} : List (Lit × DataW H) → Nat
  | [] => 0
  | x :: r => uptoBulkEntry x + uptoBulkEntries r
def uptoBulkEntry {H : Type} : Lit × DataW H → Nat
  | (.string bytes, d) => bytes.length + uptoBulk d + 1
  | (_, d) => uptoBulk d + 1
 end
def uptoSmall : (H : Type) → List (DataW H) → Bool := fun _ ds => decide (uptoBulkAll ds ≤ 1048576)
def OpenSpec.upto (s : _root_.Go.ChangeSpec) : _root_.Go.OpenSpec := { _root_.Go.OpenSpec.ofChange s with cond := some uptoSmall }

/-- 'laws.FnExactCloseFormula', WHERE WHAT IT READS IS OF BULK AT MOST 1048576: true; the input reads as it did. -/
def fnExactCloseFormulaUptoRow : OpenClaim := { program := "ytjgnhifkcgpmjaagreat", sum := "804c112c52fbca15e1fa4c470dffb8265238c0e5c186455a05c608a831eb1936", func := "loop.example/g00892/laws.FnExactCloseFormula", spec := "fnExactCloseFormula", unfollowed := true, recurses := true, loops := true, apart := false, narrowed := true }
def FnExactCloseFormulaUptoSaid : Prop := fnExactCloseFormulaUptoRow.holds Tryz.pinned (OpenSpec.upto fnExactCloseFormulaSpec)

/-- 'laws.FnExactSubstituteFormula', WHERE WHAT IT READS IS OF BULK AT MOST 1048576: true; the input reads as it did. -/
def fnExactSubstituteFormulaUptoRow : OpenClaim := { program := "ytjgnhifkcgpmjaagreat", sum := "804c112c52fbca15e1fa4c470dffb8265238c0e5c186455a05c608a831eb1936", func := "loop.example/g00892/laws.FnExactSubstituteFormula", spec := "fnExactSubstituteFormula", unfollowed := true, recurses := true, loops := true, apart := false, narrowed := true }
def FnExactSubstituteFormulaUptoSaid : Prop := fnExactSubstituteFormulaUptoRow.holds Tryz.pinned (OpenSpec.upto fnExactSubstituteFormulaSpec)

/-- 'laws.FnExactFormulaOf', WHERE WHAT IT READS IS OF BULK AT MOST 1048576: true; the input reads as it did. -/
def fnExactFormulaOfUptoRow : OpenClaim := { program := "ytjgnhifkcgpmjaagreat", sum := "804c112c52fbca15e1fa4c470dffb8265238c0e5c186455a05c608a831eb1936", func := "loop.example/g00892/laws.FnExactFormulaOf", spec := "fnExactFormulaOf", unfollowed := true, recurses := true, loops := true, apart := false, narrowed := true }
def FnExactFormulaOfUptoSaid : Prop := fnExactFormulaOfUptoRow.holds Tryz.pinned (OpenSpec.upto fnExactFormulaOfSpec)

end Rows
end Go.Proofs.YtjgnhifkcgpmjaaGreat
