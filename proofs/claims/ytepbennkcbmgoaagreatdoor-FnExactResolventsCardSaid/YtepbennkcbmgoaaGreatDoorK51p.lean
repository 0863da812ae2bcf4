/-
  This text holds what the kernel computes of the row of Resolvents. No condition.
-/
import Derived.Test.YtepbennkcbmgoaaGreatDoorRows
import Derived.Test.YtepbennkcbmgoaaGreatDoorChecked
import Derived.ProofKit
set_option maxHeartbeats 16000000
set_option maxRecDepth 100000
namespace Go.Proofs.YtepbennkcbmgoaaGreatDoor
open Go.RowKit Go.ChangeShapes Go.WideShapes Go.ChangeAt
namespace law51
theorem joined : joinedFacts Tryz.pinned.checked.prog 5 Tryz.f5 Rows.fnExactResolventsSpec Rows.fnExactResolventsRow = true := by kernel_rfl
end law51
end Go.Proofs.YtepbennkcbmgoaaGreatDoor
