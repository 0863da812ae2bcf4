/-
  This text holds what the kernel computes of the row of ParseLiteral. No condition.
-/
import Derived.Test.YtjafnijgkjjadabRows
import Derived.Test.YtjafnijgkjjadabChecked
import Derived.ProofKit
set_option maxRecDepth 100000
namespace Go.Proofs.Ytjafnijgkjjadab
open Go.RowKit Go.ChangeShapes Go.WideShapes Go.ChangeAt
namespace law13
theorem joined : joinedFacts Try.pinned.checked.prog 5 Try.f5 Rows.fnExactParseLiteralSpec Rows.fnExactParseLiteralRow = true := by kernel_rfl

end law13
end Go.Proofs.Ytjafnijgkjjadab
