/-
  This text holds what the kernel computes of the row of SeparateVariables. No condition.
-/
import Derived.Test.YtihclcmgbkkhfaaGreatDoorRows
import Derived.Test.YtihclcmgbkkhfaaGreatDoorChecked
import Derived.ProofKit
set_option maxRecDepth 100000
namespace Go.Proofs.YtihclcmgbkkhfaaGreatDoor
open Go.RowKit Go.ChangeShapes Go.WideShapes Go.ChangeAt
namespace law36
theorem joined : joinedFacts Tryz.pinned.checked.prog 3 Tryz.f3 Rows.fnExactSeparateVariablesSpec Rows.fnExactSeparateVariablesRow = true := by kernel_rfl
end law36
end Go.Proofs.YtihclcmgbkkhfaaGreatDoor
