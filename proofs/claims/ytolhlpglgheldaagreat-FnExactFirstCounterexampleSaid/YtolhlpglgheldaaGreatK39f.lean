/-
  This text holds what the kernel computes of the row of FirstCounterexample. No condition.
-/
import Derived.Test.YtolhlpglgheldaaGreatRows
import Derived.Test.YtolhlpglgheldaaGreatChecked
import Derived.ProofKit
set_option maxRecDepth 100000
namespace Go.Proofs.YtolhlpglgheldaaGreat
open Go.RowKit Go.ChangeShapes Go.WideShapes Go.ChangeAt
namespace law39
theorem joined : joinedFacts Tryz.pinned.checked.prog 3 Tryz.f3 Rows.fnExactFirstCounterexampleSpec Rows.fnExactFirstCounterexampleRow = true := by kernel_rfl
end law39
end Go.Proofs.YtolhlpglgheldaaGreat
