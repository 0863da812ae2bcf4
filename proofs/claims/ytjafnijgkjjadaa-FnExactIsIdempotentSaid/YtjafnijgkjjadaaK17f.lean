/-
  This text holds what the kernel computes of the row of IsIdempotent. No condition.
-/
import Derived.Test.YtjafnijgkjjadaaRows
import Derived.Test.YtjafnijgkjjadaaChecked
import Derived.ProofKit
set_option maxRecDepth 100000
namespace Go.Proofs.Ytjafnijgkjjadaa
open Go.RowKit Go.ChangeShapes Go.WideShapes Go.ChangeAt
namespace law17
theorem joined : joinedFacts Try.pinned.checked.prog 4 Try.f4 Rows.fnExactIsIdempotentSpec Rows.fnExactIsIdempotentRow = true := by kernel_rfl

end law17
end Go.Proofs.Ytjafnijgkjjadaa
