/-
  This text holds what the kernel computes of the row of the order of terms. No condition.
-/
import Derived.Test.YtgilfckaddklfaaRows
import Derived.Test.YtgilfckaddklfaaChecked
import Derived.ProofKit
set_option maxHeartbeats 16000000
set_option maxRecDepth 100000
namespace Go.Proofs.Ytgilfckaddklfaa
open Go.RowKit Go.ChangeShapes Go.WideShapes Go.ChangeAt
namespace law5
theorem joined : joinedFacts Try.pinned.checked.prog 4 Try.f4 Rows.fnTermOrderSpec Rows.fnTermOrderRow = true := by kernel_rfl
end law5
end Go.Proofs.Ytgilfckaddklfaa
