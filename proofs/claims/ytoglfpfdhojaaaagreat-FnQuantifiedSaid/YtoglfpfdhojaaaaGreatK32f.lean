/-
  This text holds what the kernel computes of the row of quantifiers. No condition.
-/
import Derived.Test.YtoglfpfdhojaaaaGreatRows
import Derived.Test.YtoglfpfdhojaaaaGreatChecked
import Derived.ProofKit
set_option maxHeartbeats 16000000
set_option maxRecDepth 100000
namespace Go.Proofs.YtoglfpfdhojaaaaGreat
open Go.RowKit Go.ChangeShapes Go.WideShapes Go.ChangeAt
namespace law32
theorem joined : joinedFacts Tryz.pinned.checked.prog 3 Tryz.f3 Rows.fnQuantifiedSpec Rows.fnQuantifiedRow = true := by kernel_rfl
end law32
end Go.Proofs.YtoglfpfdhojaaaaGreat
