/-
  This text holds what the kernel computes of the row of Factor. No condition.
-/
import Derived.Test.YtibdknkacmimgaaGreatDoorRows
import Derived.Test.YtibdknkacmimgaaGreatDoorChecked
import Derived.ProofKit
set_option maxHeartbeats 16000000
set_option maxRecDepth 100000
namespace Go.Proofs.YtibdknkacmimgaaGreatDoor
open Go.RowKit Go.ChangeShapes Go.WideShapes Go.ChangeAt
namespace law46
theorem joined : joinedFacts Tryz.pinned.checked.prog 3 Tryz.f3 Rows.fnExactFactorSpec Rows.fnExactFactorRow = true := by kernel_rfl
end law46
end Go.Proofs.YtibdknkacmimgaaGreatDoor
