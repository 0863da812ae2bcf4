/-
  This text holds what the kernel computes of the row of SelectLiteral. No condition.
-/
import Derived.Test.YtifpfjbpfekkmaaRows
import Derived.Test.YtifpfjbpfekkmaaChecked
import Derived.ProofKit
set_option maxRecDepth 100000
namespace Go.Proofs.Ytifpfjbpfekkmaa
open Go.RowKit Go.ChangeShapes Go.WideShapes Go.ChangeAt
namespace law10
theorem joined : joinedFacts Try.pinned.checked.prog 4 Try.f4 Rows.fnExactSelectLiteralSpec Rows.fnExactSelectLiteralRow = true := by kernel_rfl

end law10
end Go.Proofs.Ytifpfjbpfekkmaa
