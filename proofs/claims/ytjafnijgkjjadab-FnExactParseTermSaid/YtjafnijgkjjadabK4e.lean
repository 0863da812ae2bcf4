/-
  This text holds what the kernel computes of the row of ParseTerm. No condition.
-/
import Derived.Test.YtjafnijgkjjadabRows
import Derived.Test.YtjafnijgkjjadabChecked
import Derived.ProofKit
set_option maxRecDepth 100000
namespace Go.Proofs.Ytjafnijgkjjadab
open Go.RowKit Go.ChangeShapes Go.WideShapes Go.ChangeAt
namespace law4
theorem joined : joinedFacts Try.pinned.checked.prog 3 Try.f3 Rows.fnExactParseTermSpec Rows.fnExactParseTermRow = true := by kernel_rfl

end law4
end Go.Proofs.Ytjafnijgkjjadab
