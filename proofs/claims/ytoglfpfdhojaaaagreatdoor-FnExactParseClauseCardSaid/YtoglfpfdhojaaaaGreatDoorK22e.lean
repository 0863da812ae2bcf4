/-
  This text holds what the kernel computes of the row of ParseClause. No condition.
-/
import Derived.Test.YtoglfpfdhojaaaaGreatDoorRows
import Derived.Test.YtoglfpfdhojaaaaGreatDoorChecked
import Derived.ProofKit
set_option maxHeartbeats 16000000
set_option maxRecDepth 100000
namespace Go.Proofs.YtoglfpfdhojaaaaGreatDoor
open Go.RowKit Go.ChangeShapes Go.WideShapes Go.ChangeAt
namespace law22
theorem joined : joinedFacts Tryz.pinned.checked.prog 3 Tryz.f3 Rows.fnExactParseClauseSpec Rows.fnExactParseClauseRow = true := by kernel_rfl
end law22
end Go.Proofs.YtoglfpfdhojaaaaGreatDoor
