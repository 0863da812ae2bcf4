/-
  This text holds what the kernel computes of the row of DefineConjunctions. No condition.
-/
import Derived.Test.YtbcljemengiocaaGreatDoorRows
import Derived.Test.YtbcljemengiocaaGreatDoorChecked
import Derived.ProofKit
set_option maxHeartbeats 16000000
set_option maxRecDepth 100000
namespace Go.Proofs.YtbcljemengiocaaGreatDoor
open Go.RowKit Go.ChangeShapes Go.WideShapes Go.ChangeAt
namespace law42
theorem joined : joinedFacts Tryz.pinned.checked.prog 3 Tryz.f3 Rows.fnExactDefineConjunctionsSpec Rows.fnExactDefineConjunctionsRow = true := by kernel_rfl
end law42
end Go.Proofs.YtbcljemengiocaaGreatDoor
