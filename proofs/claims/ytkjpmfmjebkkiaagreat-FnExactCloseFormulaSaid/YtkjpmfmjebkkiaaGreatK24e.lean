/-
  This text holds what the kernel computes of the row of CloseFormula. No condition.
-/
import Derived.Test.YtkjpmfmjebkkiaaGreatRows
import Derived.Test.YtkjpmfmjebkkiaaGreatChecked
import Derived.ProofKit
set_option maxHeartbeats 16000000
set_option maxRecDepth 100000
namespace Go.Proofs.YtkjpmfmjebkkiaaGreat
open Go.RowKit Go.ChangeShapes Go.WideShapes Go.ChangeAt
namespace law24
theorem joined : joinedFacts Tryz.pinned.checked.prog 3 Tryz.f3 Rows.fnExactCloseFormulaSpec Rows.fnExactCloseFormulaRow = true := by kernel_rfl
end law24
end Go.Proofs.YtkjpmfmjebkkiaaGreat
