/-
  This text holds what the kernel computes of the row of Resolve. No condition.
-/
import Derived.Test.YtibdknkacmimgaaGreatDoorRows
import Derived.Test.YtibdknkacmimgaaGreatDoorChecked
import Derived.ProofKit
set_option maxHeartbeats 16000000
set_option maxRecDepth 100000
namespace Go.Proofs.YtibdknkacmimgaaGreatDoor
open Go.RowKit Go.ChangeShapes Go.WideShapes Go.ChangeAt
namespace law49
theorem joined : joinedFacts Tryz.pinned.checked.prog 6 Tryz.f6 Rows.fnExactResolveSpec Rows.fnExactResolveRow = true := by kernel_rfl
end law49
end Go.Proofs.YtibdknkacmimgaaGreatDoor
