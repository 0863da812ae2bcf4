/-
  This text holds what the kernel computes of the row of IsResolvent. No condition.
-/
import Derived.Test.YtibdknkacmimgaaGreatDoorRows
import Derived.Test.YtibdknkacmimgaaGreatDoorChecked
import Derived.ProofKit
set_option maxHeartbeats 16000000
set_option maxRecDepth 100000
namespace Go.Proofs.YtibdknkacmimgaaGreatDoor
open Go.RowKit Go.ChangeShapes Go.WideShapes Go.ChangeAt
namespace law48
theorem joined : joinedFacts Tryz.pinned.checked.prog 5 Tryz.f5 Rows.fnExactIsResolventSpec Rows.fnExactIsResolventRow = true := by kernel_rfl
end law48
end Go.Proofs.YtibdknkacmimgaaGreatDoor
