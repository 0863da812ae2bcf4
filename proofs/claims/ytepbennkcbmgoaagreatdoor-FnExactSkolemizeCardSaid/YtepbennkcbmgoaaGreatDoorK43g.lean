/-
  This text holds what the kernel computes of the row of Skolemize. No condition.
-/
import Derived.Test.YtepbennkcbmgoaaGreatDoorRows
import Derived.Test.YtepbennkcbmgoaaGreatDoorChecked
import Derived.ProofKit
set_option maxHeartbeats 16000000
set_option maxRecDepth 100000
namespace Go.Proofs.YtepbennkcbmgoaaGreatDoor
open Go.RowKit Go.ChangeShapes Go.WideShapes Go.ChangeAt
namespace law43
theorem joined : joinedFacts Tryz.pinned.checked.prog 3 Tryz.f3 Rows.fnExactSkolemizeSpec Rows.fnExactSkolemizeRow = true := by kernel_rfl
end law43
end Go.Proofs.YtepbennkcbmgoaaGreatDoor
