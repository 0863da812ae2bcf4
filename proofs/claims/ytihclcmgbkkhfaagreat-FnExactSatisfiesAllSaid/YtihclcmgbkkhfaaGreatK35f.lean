/-
  This text holds what the kernel computes of the row of SatisfiesAll. No condition.
-/
import Derived.Test.YtihclcmgbkkhfaaGreatRows
import Derived.Test.YtihclcmgbkkhfaaGreatChecked
import Derived.ProofKit
set_option maxRecDepth 100000
namespace Go.Proofs.YtihclcmgbkkhfaaGreat
open Go.RowKit Go.ChangeShapes Go.WideShapes Go.ChangeAt
namespace law35
theorem joined : joinedFacts Tryz.pinned.checked.prog 5 Tryz.f5 Rows.fnExactSatisfiesAllSpec Rows.fnExactSatisfiesAllRow = true := by kernel_rfl
end law35
end Go.Proofs.YtihclcmgbkkhfaaGreat
