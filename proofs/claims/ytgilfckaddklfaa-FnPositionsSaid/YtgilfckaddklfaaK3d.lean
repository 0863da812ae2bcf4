/-
  This text holds what the kernel computes of the row of positions. No condition.
-/
import Derived.Test.YtgilfckaddklfaaRows
import Derived.Test.YtgilfckaddklfaaChecked
import Derived.ProofKit
set_option maxHeartbeats 16000000
set_option maxRecDepth 100000
namespace Go.Proofs.Ytgilfckaddklfaa
open Go.RowKit Go.ChangeShapes Go.WideShapes Go.ChangeAt
namespace law3
theorem joined : joinedFacts Try.pinned.checked.prog 3 Try.f3 Rows.fnPositionsSpec Rows.fnPositionsRow = true := by kernel_rfl
end law3
end Go.Proofs.Ytgilfckaddklfaa
