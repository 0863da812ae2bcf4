/-
  This text holds what the kernel computes of the row of SubstituteFormula. No condition.
-/
import Derived.Test.YtjgnhifkcgpmjaaGreatRows
import Derived.Test.YtjgnhifkcgpmjaaGreatChecked
import Derived.ProofKit
set_option maxRecDepth 100000
namespace Go.Proofs.YtjgnhifkcgpmjaaGreat
open Go.RowKit Go.ChangeShapes Go.WideShapes Go.ChangeAt
namespace law30
theorem joined : joinedFacts Tryz.pinned.checked.prog 4 Tryz.f4 Rows.fnExactSubstituteFormulaSpec Rows.fnExactSubstituteFormulaRow = true := by kernel_rfl

end law30
end Go.Proofs.YtjgnhifkcgpmjaaGreat
