/-
  This text holds what the kernel computes of the row of composing. No condition.
-/
import Derived.Test.YtalflgegedmmkaaGreatRows
import Derived.Test.YtalflgegedmmkaaGreatChecked
import Derived.ProofKit
set_option maxHeartbeats 16000000
set_option maxRecDepth 100000
namespace Go.Proofs.YtalflgegedmmkaaGreat
open Go.RowKit Go.ChangeShapes Go.WideShapes Go.ChangeAt
namespace law33
theorem joined : joinedFacts Tryz.pinned.checked.prog 3 Tryz.f3 Rows.fnComposeSpec Rows.fnComposeRow = true := by kernel_rfl
end law33
end Go.Proofs.YtalflgegedmmkaaGreat
