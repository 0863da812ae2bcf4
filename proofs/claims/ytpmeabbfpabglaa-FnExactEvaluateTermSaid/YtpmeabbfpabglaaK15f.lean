/-
  This text holds what the kernel computes of the row of EvaluateTerm. No condition.
-/
import Derived.Test.YtpmeabbfpabglaaRows
import Derived.Test.YtpmeabbfpabglaaChecked
import Derived.ProofKit
set_option maxRecDepth 100000
namespace Go.Proofs.Ytpmeabbfpabglaa
open Go.RowKit Go.ChangeShapes Go.WideShapes Go.ChangeAt
namespace law15
theorem joined : joinedFacts Try.pinned.checked.prog 3 Try.f3 Rows.fnExactEvaluateTermSpec Rows.fnExactEvaluateTermRow = true := by kernel_rfl

end law15
end Go.Proofs.Ytpmeabbfpabglaa
