/-
  This text holds what the kernel computes of the row of the law of normal forms. No condition.
-/
import Derived.Test.YtfgkiemoglcppaaGreatDoorRows
import Derived.Test.YtfgkiemoglcppaaGreatDoorChecked
import Derived.ProofKit
set_option maxHeartbeats 16000000
set_option maxRecDepth 100000
namespace Go.Proofs.YtfgkiemoglcppaaGreatDoor
open Go.RowKit Go.ChangeShapes Go.WideShapes Go.ChangeAt
namespace law38
theorem joined : joinedFacts Tryz.pinned.checked.prog 3 Tryz.f3 Rows.fnNormalFormsSpec Rows.fnNormalFormsRow = true := by kernel_rfl
end law38
end Go.Proofs.YtfgkiemoglcppaaGreatDoor
