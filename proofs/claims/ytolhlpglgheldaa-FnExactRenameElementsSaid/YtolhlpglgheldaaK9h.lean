/-
  This text holds what the kernel computes of the row of RenameElements. No condition.
-/
import Derived.Test.YtolhlpglgheldaaRows
import Derived.Test.YtolhlpglgheldaaChecked
import Derived.ProofKit
set_option maxRecDepth 100000
namespace Go.Proofs.Ytolhlpglgheldaa
open Go.RowKit Go.ChangeShapes Go.WideShapes Go.ChangeAt
namespace law9
theorem joined : joinedFacts Try.pinned.checked.prog 4 Try.f4 Rows.fnExactRenameElementsSpec Rows.fnExactRenameElementsRow = true := by kernel_rfl
end law9
end Go.Proofs.Ytolhlpglgheldaa
