/-
  This text holds what the kernel computes of the row of replacing a variable. No condition.
-/
import Derived.Test.YtkmenhhapfombaaGreatRows
import Derived.Test.YtkmenhhapfombaaGreatChecked
import Derived.ProofKit
set_option maxHeartbeats 16000000
set_option maxRecDepth 100000
namespace Go.Proofs.YtkmenhhapfombaaGreat
open Go.RowKit Go.ChangeShapes Go.WideShapes Go.ChangeAt
namespace law29
theorem joined : joinedFacts Tryz.pinned.checked.prog 3 Tryz.f3 Rows.fnSubstitutedSpec Rows.fnSubstitutedRow = true := by kernel_rfl
end law29
end Go.Proofs.YtkmenhhapfombaaGreat
