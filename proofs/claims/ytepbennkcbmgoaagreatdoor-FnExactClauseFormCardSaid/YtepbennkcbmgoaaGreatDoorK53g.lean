/-
  This text holds what the kernel computes of the row of ClauseForm. No condition.
-/
import Derived.Test.YtepbennkcbmgoaaGreatDoorRows
import Derived.Test.YtepbennkcbmgoaaGreatDoorChecked
import Derived.ProofKit
set_option maxHeartbeats 16000000
set_option maxRecDepth 100000
namespace Go.Proofs.YtepbennkcbmgoaaGreatDoor
open Go.RowKit Go.ChangeShapes Go.WideShapes Go.ChangeAt
namespace law53
theorem joined : joinedFacts Tryz.pinned.checked.prog 7 Tryz.f7 Rows.fnExactClauseFormSpec Rows.fnExactClauseFormRow = true := by kernel_rfl
end law53
end Go.Proofs.YtepbennkcbmgoaaGreatDoor
