/-
  This text holds what the kernel computes of the row of ParseFormula. No condition.
-/
import Derived.Test.YtkjpmfmjebkkiaaRows
import Derived.Test.YtkjpmfmjebkkiaaChecked
import Derived.ProofKit
set_option maxHeartbeats 16000000
set_option maxRecDepth 100000
namespace Go.Proofs.Ytkjpmfmjebkkiaa
open Go.RowKit Go.ChangeShapes Go.WideShapes Go.ChangeAt
namespace law16
theorem joined : joinedFacts Try.pinned.checked.prog 3 Try.f3 Rows.fnExactParseFormulaSpec Rows.fnExactParseFormulaRow = true := by kernel_rfl
end law16
end Go.Proofs.Ytkjpmfmjebkkiaa
