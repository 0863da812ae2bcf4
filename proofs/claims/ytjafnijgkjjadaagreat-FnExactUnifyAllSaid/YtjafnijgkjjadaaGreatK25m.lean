/-
  This text holds what the kernel computes of the row of UnifyAll. No condition.
-/
import Derived.Test.YtjafnijgkjjadaaGreatRows
import Derived.Test.YtjafnijgkjjadaaGreatChecked
import Derived.ProofKit
set_option maxRecDepth 100000
namespace Go.Proofs.YtjafnijgkjjadaaGreat
open Go.RowKit Go.ChangeShapes Go.WideShapes Go.ChangeAt
namespace law26
theorem joined : joinedFacts Tryz.pinned.checked.prog 4 Tryz.f4 Rows.fnExactUnifyAllSpec Rows.fnExactUnifyAllRow = true := by kernel_rfl

end law26
end Go.Proofs.YtjafnijgkjjadaaGreat
