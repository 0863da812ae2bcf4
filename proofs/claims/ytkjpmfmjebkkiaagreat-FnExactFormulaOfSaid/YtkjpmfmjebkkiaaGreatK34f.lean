/-
  This text holds what the kernel computes of the row of FormulaOf. No condition.
-/
import Derived.Test.YtkjpmfmjebkkiaaGreatRows
import Derived.Test.YtkjpmfmjebkkiaaGreatChecked
import Derived.ProofKit
set_option maxHeartbeats 16000000
set_option maxRecDepth 100000
namespace Go.Proofs.YtkjpmfmjebkkiaaGreat
open Go.RowKit Go.ChangeShapes Go.WideShapes Go.ChangeAt
namespace law34
theorem joined : joinedFacts Tryz.pinned.checked.prog 4 Tryz.f4 Rows.fnExactFormulaOfSpec Rows.fnExactFormulaOfRow = true := by kernel_rfl
end law34
end Go.Proofs.YtkjpmfmjebkkiaaGreat
