/-
  This text holds what the kernel computes of the row of the law of formula texts. No condition.
-/
import Derived.Test.YtfgkiemoglcppaaGreatRows
import Derived.Test.YtfgkiemoglcppaaGreatChecked
import Derived.ProofKit
set_option maxHeartbeats 16000000
set_option maxRecDepth 100000
namespace Go.Proofs.YtfgkiemoglcppaaGreat
open Go.RowKit Go.ChangeShapes Go.WideShapes Go.ChangeAt
namespace law28
theorem joined : joinedFacts Tryz.pinned.checked.prog 5 Tryz.f5 Rows.fnFormulaTextSpec Rows.fnFormulaTextRow = true := by kernel_rfl
end law28
end Go.Proofs.YtfgkiemoglcppaaGreat
