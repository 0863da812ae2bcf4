/-
  This text holds what the kernel computes of the row of UnitConflict. No condition.
-/
import Derived.Test.YtibdknkacmimgaaGreatDoorRows
import Derived.Test.YtibdknkacmimgaaGreatDoorChecked
import Derived.ProofKit
set_option maxHeartbeats 16000000
set_option maxRecDepth 100000
namespace Go.Proofs.YtibdknkacmimgaaGreatDoor
open Go.RowKit Go.ChangeShapes Go.WideShapes Go.ChangeAt
namespace law47
theorem joined : joinedFacts Tryz.pinned.checked.prog 4 Tryz.f4 Rows.fnExactUnitConflictSpec Rows.fnExactUnitConflictRow = true := by kernel_rfl
end law47
end Go.Proofs.YtibdknkacmimgaaGreatDoor
