/-
  This text holds what the kernel computes of the row of renamed elements. No condition.
-/
import Derived.Test.YtoglfpfdhojaaaaGreatRows
import Derived.Test.YtoglfpfdhojaaaaGreatChecked
import Derived.ProofKit
set_option maxHeartbeats 16000000
set_option maxRecDepth 100000
namespace Go.Proofs.YtoglfpfdhojaaaaGreat
open Go.RowKit Go.ChangeShapes Go.WideShapes Go.ChangeAt
namespace law41
theorem joined : joinedFacts Tryz.pinned.checked.prog 4 Tryz.f4 Rows.fnIsomorphicSpec Rows.fnIsomorphicRow = true := by kernel_rfl
end law41
end Go.Proofs.YtoglfpfdhojaaaaGreat
