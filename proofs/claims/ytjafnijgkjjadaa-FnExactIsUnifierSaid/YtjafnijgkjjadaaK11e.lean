/-
  This text holds what the kernel computes of the row of IsUnifier. No condition.
-/
import Derived.Test.YtjafnijgkjjadaaRows
import Derived.Test.YtjafnijgkjjadaaChecked
import Derived.ProofKit
set_option maxRecDepth 100000
namespace Go.Proofs.Ytjafnijgkjjadaa
open Go.RowKit Go.ChangeShapes Go.WideShapes Go.ChangeAt
namespace law11
theorem joined : joinedFacts Try.pinned.checked.prog 3 Try.f3 Rows.fnExactIsUnifierSpec Rows.fnExactIsUnifierRow = true := by kernel_rfl

end law11
end Go.Proofs.Ytjafnijgkjjadaa
