/-
  This text holds what the kernel computes of the row of EvaluateFormula. No condition.
-/
import Derived.Test.YtihclcmgbkkhfaaGreatRows
import Derived.Test.YtihclcmgbkkhfaaGreatChecked
import Derived.ProofKit
set_option maxRecDepth 100000
namespace Go.Proofs.YtihclcmgbkkhfaaGreat
open Go.RowKit Go.ChangeShapes Go.WideShapes Go.ChangeAt
namespace law37
theorem joined : joinedFacts Tryz.pinned.checked.prog 4 Tryz.f4 Rows.fnExactEvaluateFormulaSpec Rows.fnExactEvaluateFormulaRow = true := by kernel_rfl
end law37
end Go.Proofs.YtihclcmgbkkhfaaGreat
