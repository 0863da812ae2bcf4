/-
  This text holds what the kernel computes of the row of UnfoldDefinitions. No condition.
-/
import Derived.Test.YtmhjhclgihoaeaaGreatRows
import Derived.Test.YtmhjhclgihoaeaaGreatChecked
import Derived.ProofKit
set_option maxHeartbeats 16000000
set_option maxRecDepth 100000
namespace Go.Proofs.YtmhjhclgihoaeaaGreat
open Go.RowKit Go.ChangeShapes Go.WideShapes Go.ChangeAt
namespace law18
theorem joined : joinedFacts Tryz.pinned.checked.prog 3 Tryz.f3 Rows.fnExactUnfoldDefinitionsSpec Rows.fnExactUnfoldDefinitionsRow = true := by kernel_rfl
end law18
end Go.Proofs.YtmhjhclgihoaeaaGreat
