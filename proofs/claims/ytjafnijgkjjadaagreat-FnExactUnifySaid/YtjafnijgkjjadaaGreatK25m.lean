/-
  This text holds what the kernel computes of the row of Unify. No condition.
-/
import Derived.Test.YtjafnijgkjjadaaGreatRows
import Derived.Test.YtjafnijgkjjadaaGreatChecked
import Derived.ProofKit
set_option maxRecDepth 100000
namespace Go.Proofs.YtjafnijgkjjadaaGreat
open Go.RowKit Go.ChangeShapes Go.WideShapes Go.ChangeAt
namespace law25
theorem joined : joinedFacts Tryz.pinned.checked.prog 3 Tryz.f3 Rows.fnExactUnifySpec Rows.fnExactUnifyRow = true := by kernel_rfl

end law25
end Go.Proofs.YtjafnijgkjjadaaGreat
