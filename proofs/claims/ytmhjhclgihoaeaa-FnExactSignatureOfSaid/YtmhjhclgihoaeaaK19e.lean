/-
  This text holds what the kernel computes of the row of SignatureOf. No condition.
-/
import Derived.Test.YtmhjhclgihoaeaaRows
import Derived.Test.YtmhjhclgihoaeaaChecked
import Derived.ProofKit
set_option maxHeartbeats 16000000
set_option maxRecDepth 100000
namespace Go.Proofs.Ytmhjhclgihoaeaa
open Go.RowKit Go.ChangeShapes Go.WideShapes Go.ChangeAt
namespace law19
theorem joined : joinedFacts Try.pinned.checked.prog 3 Try.f3 Rows.fnExactSignatureOfSpec Rows.fnExactSignatureOfRow = true := by kernel_rfl
end law19
end Go.Proofs.Ytmhjhclgihoaeaa
