/-
  This text holds what the kernel computes of the row of ComposeSubstitutions. No condition.
-/
import Derived.Test.YtjafnijgkjjadaaRows
import Derived.Test.YtjafnijgkjjadaaChecked
import Derived.ProofKit
set_option maxRecDepth 100000
namespace Go.Proofs.Ytjafnijgkjjadaa
open Go.RowKit Go.ChangeShapes Go.WideShapes Go.ChangeAt
namespace law20
theorem joined : joinedFacts Try.pinned.checked.prog 5 Try.f5 Rows.fnExactComposeSubstitutionsSpec Rows.fnExactComposeSubstitutionsRow = true := by kernel_rfl

end law20
end Go.Proofs.Ytjafnijgkjjadaa
