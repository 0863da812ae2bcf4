/-
  This text holds what the kernel computes of the row of the law of Skolemizing. No condition.
-/
import Derived.Test.YtkmenhhapfombaaGreatDoorRows
import Derived.Test.YtkmenhhapfombaaGreatDoorChecked
import Derived.ProofKit
set_option maxHeartbeats 16000000
set_option maxRecDepth 100000
namespace Go.Proofs.YtkmenhhapfombaaGreatDoor
open Go.RowKit Go.ChangeShapes Go.WideShapes Go.ChangeAt
namespace law45
theorem joined : joinedFacts Tryz.pinned.checked.prog 4 Tryz.f4 Rows.fnSkolemSpec Rows.fnSkolemRow = true := by kernel_rfl
end law45
end Go.Proofs.YtkmenhhapfombaaGreatDoor
