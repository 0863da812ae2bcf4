/-
  This text holds what the kernel computes of the row of ApplySubstitution. No condition.
-/
import Derived.Test.YtifpfjbpfekkmaaRows
import Derived.Test.YtifpfjbpfekkmaaChecked
import Derived.ProofKit
set_option maxRecDepth 100000
namespace Go.Proofs.Ytifpfjbpfekkmaa
open Go.RowKit Go.ChangeShapes Go.WideShapes Go.ChangeAt
namespace law12
theorem joined : joinedFacts Try.pinned.checked.prog 6 Try.f6 Rows.fnExactApplySubstitutionSpec Rows.fnExactApplySubstitutionRow = true := by kernel_rfl

end law12
end Go.Proofs.Ytifpfjbpfekkmaa
