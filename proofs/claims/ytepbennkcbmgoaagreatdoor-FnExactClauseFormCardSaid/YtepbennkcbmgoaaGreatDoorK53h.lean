/-
  This text holds what the kernel computes of the card of ClauseForm. No condition.
-/
import Derived.Test.YtepbennkcbmgoaaGreatDoorRows
import Derived.Test.YtepbennkcbmgoaaGreatDoorChecked
import Derived.ProofKit
import Derived.SevenTiedAt
set_option maxHeartbeats 16000000
set_option maxRecDepth 100000
namespace Go.Proofs.YtepbennkcbmgoaaGreatDoor
open Go.RowKit Go.ChangeShapes Go.WideShapes Go.ChangeAt
namespace law53
theorem cwf:Rows.fnExactClauseFormRow.wfByText (OpenSpec.ofChange Rows.fnExactClauseFormSpec)=true:=by kernel_rfl
theorem Qf7:Tryz.pinned.checked.prog.mainIs=some (true,("45c51c2c34bc99b5195d19cd3318e7671c5aac18abcfab4b6f61b3068b78392b":String).toList):=by kernel_rfl
theorem Qfj:false=Tryz.pinned.checked.prog.looks []:=by kernel_rfl
theorem Qf8:false=Rows.fnExactClauseFormRow.goesBy Tryz.pinned.checked.prog:=by kernel_rfl
theorem Qfk:Tryz.prog.funcNamed "loop.example/g00892/laws.FnExactClauseForm"=some 7:=by kernel_rfl
theorem Qfl:([27].all fun u=>!Tryz.prog.wantsStandIn u)=true:=by kernel_rfl
end law53
end Go.Proofs.YtepbennkcbmgoaaGreatDoor
