/-
  This text holds what the kernel computes of the row of HyperResolve. No condition.
-/
import Derived.Test.YtepbennkcbmgoaaGreatDoorRows
import Derived.Test.YtepbennkcbmgoaaGreatDoorChecked
import Derived.ProofKit
set_option maxHeartbeats 16000000
set_option maxRecDepth 100000
namespace Go.Proofs.YtepbennkcbmgoaaGreatDoor
open Go.RowKit Go.ChangeShapes Go.WideShapes Go.ChangeAt
namespace law52
theorem joined : joinedFacts Tryz.pinned.checked.prog 6 Tryz.f6 Rows.fnExactHyperResolveSpec Rows.fnExactHyperResolveRow = true := by kernel_rfl
end law52
end Go.Proofs.YtepbennkcbmgoaaGreatDoor
