/-
  This text holds what the kernel computes of the row of StandardOrder. No condition.
-/
import Derived.Test.YthbkkiogbikbcaaRows
import Derived.Test.YthbkkiogbikbcaaChecked
import Derived.ProofKit
set_option maxRecDepth 100000
namespace Go.Proofs.Ythbkkiogbikbcaa
open Go.RowKit Go.ChangeShapes Go.WideShapes Go.ChangeAt
namespace law21
theorem joined : joinedFacts Try.pinned.checked.prog 3 Try.f3 Rows.fnExactStandardOrderSpec Rows.fnExactStandardOrderRow = true := by kernel_rfl

end law21
end Go.Proofs.Ythbkkiogbikbcaa
