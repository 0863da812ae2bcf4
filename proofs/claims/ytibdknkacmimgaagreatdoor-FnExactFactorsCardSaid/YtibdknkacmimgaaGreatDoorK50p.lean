/-
  This text holds what the kernel computes of the row of Factors. No condition.
-/
import Derived.Test.YtibdknkacmimgaaGreatDoorRows
import Derived.Test.YtibdknkacmimgaaGreatDoorChecked
import Derived.ProofKit
set_option maxHeartbeats 16000000
set_option maxRecDepth 100000
namespace Go.Proofs.YtibdknkacmimgaaGreatDoor
open Go.RowKit Go.ChangeShapes Go.WideShapes Go.ChangeAt
namespace law50
theorem joined : joinedFacts Tryz.pinned.checked.prog 7 Tryz.f7 Rows.fnExactFactorsSpec Rows.fnExactFactorsRow = true := by kernel_rfl
end law50
end Go.Proofs.YtibdknkacmimgaaGreatDoor
