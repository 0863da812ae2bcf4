/-
  This text holds what the kernel computes of the row of ParseAtom. No condition.
-/
import Derived.Test.YtjafnijgkjjadabRows
import Derived.Test.YtjafnijgkjjadabChecked
import Derived.ProofKit
set_option maxRecDepth 100000
namespace Go.Proofs.Ytjafnijgkjjadab
open Go.RowKit Go.ChangeShapes Go.WideShapes Go.ChangeAt
namespace law8
theorem joined : joinedFacts Try.pinned.checked.prog 4 Try.f4 Rows.fnExactParseAtomSpec Rows.fnExactParseAtomRow = true := by kernel_rfl

end law8
end Go.Proofs.Ytjafnijgkjjadab
