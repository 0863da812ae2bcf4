/-
  This text holds what the kernel computes of the row of matching. No condition.
-/
import Derived.Test.YtjkcamgfimpggaaRows
import Derived.Test.YtjkcamgfimpggaaChecked
import Derived.ProofKit
set_option maxHeartbeats 16000000
set_option maxRecDepth 100000
namespace Go.Proofs.Ytjkcamgfimpggaa
open Go.RowKit Go.ChangeShapes Go.WideShapes Go.ChangeAt
namespace law23
theorem joined : joinedFacts Try.pinned.checked.prog 3 Try.f3 Rows.fnMatchSpec Rows.fnMatchRow = true := by kernel_rfl
end law23
end Go.Proofs.Ytjkcamgfimpggaa
