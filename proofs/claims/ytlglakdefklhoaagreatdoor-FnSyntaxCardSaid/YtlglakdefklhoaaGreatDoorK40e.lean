/-
  This text holds what the kernel computes of the row of the law of syntax. No condition.
-/
import Derived.Test.YtlglakdefklhoaaGreatDoorRows
import Derived.Test.YtlglakdefklhoaaGreatDoorChecked
import Derived.ProofKit
set_option maxHeartbeats 16000000
set_option maxRecDepth 100000
namespace Go.Proofs.YtlglakdefklhoaaGreatDoor
open Go.RowKit Go.ChangeShapes Go.WideShapes Go.ChangeAt
namespace law40
theorem joined : joinedFacts Tryz.pinned.checked.prog 3 Tryz.f3 Rows.fnSyntaxSpec Rows.fnSyntaxRow = true := by kernel_rfl
end law40
end Go.Proofs.YtlglakdefklhoaaGreatDoor
