/-
  This text holds what the kernel computes of the row of ApplyToClause. No condition.
-/
import Derived.Test.YtibdknkacmimgaaGreatRows
import Derived.Test.YtibdknkacmimgaaGreatChecked
import Derived.ProofKit
set_option maxRecDepth 100000
namespace Go.Proofs.YtibdknkacmimgaaGreat
open Go.RowKit Go.ChangeShapes Go.WideShapes Go.ChangeAt
namespace law31
theorem joined : joinedFacts Tryz.pinned.checked.prog 3 Tryz.f3 Rows.fnExactApplyToClauseSpec Rows.fnExactApplyToClauseRow = true := by kernel_rfl
end law31
end Go.Proofs.YtibdknkacmimgaaGreat
