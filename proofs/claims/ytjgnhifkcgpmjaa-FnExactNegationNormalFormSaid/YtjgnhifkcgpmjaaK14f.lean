/-
  This text holds what the kernel computes of the row of NegationNormalForm. No condition.
-/
import Derived.Test.YtjgnhifkcgpmjaaRows
import Derived.Test.YtjgnhifkcgpmjaaChecked
import Derived.ProofKit
set_option maxRecDepth 100000
namespace Go.Proofs.Ytjgnhifkcgpmjaa
open Go.RowKit Go.ChangeShapes Go.WideShapes Go.ChangeAt
namespace law14
theorem joined : joinedFacts Try.pinned.checked.prog 3 Try.f3 Rows.fnExactNegationNormalFormSpec Rows.fnExactNegationNormalFormRow = true := by kernel_rfl

end law14
end Go.Proofs.Ytjgnhifkcgpmjaa
