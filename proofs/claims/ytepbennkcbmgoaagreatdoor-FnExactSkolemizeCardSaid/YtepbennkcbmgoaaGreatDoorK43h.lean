/-
  This text holds what the kernel computes of the card of Skolemize. No condition.
-/
import Derived.Test.YtepbennkcbmgoaaGreatDoorRows
import Derived.Test.YtepbennkcbmgoaaGreatDoorChecked
import Derived.ProofKit
import Derived.SevenTiedAt
set_option maxHeartbeats 16000000
set_option maxRecDepth 100000
namespace Go.Proofs.YtepbennkcbmgoaaGreatDoor
open Go.RowKit Go.ChangeShapes Go.WideShapes Go.ChangeAt
namespace law43
theorem cwf:Rows.fnExactSkolemizeRow.wfByText (OpenSpec.ofChange Rows.fnExactSkolemizeSpec)=true:=by kernel_rfl
theorem Qcv:Tryz.pinned.checked.prog.mainIs=some (true,("45c51c2c34bc99b5195d19cd3318e7671c5aac18abcfab4b6f61b3068b78392b":String).toList):=by kernel_rfl
theorem QbU:false=Tryz.pinned.checked.prog.looks []:=by kernel_rfl
theorem Qcw:false=Rows.fnExactSkolemizeRow.goesBy Tryz.pinned.checked.prog:=by kernel_rfl
theorem QbV:Tryz.prog.funcNamed "loop.example/g00892/laws.FnExactSkolemize"=some 3:=by kernel_rfl
theorem QbW:([27,28].all fun u=>!Tryz.prog.wantsStandIn u)=true:=by kernel_rfl
end law43
end Go.Proofs.YtepbennkcbmgoaaGreatDoor
