/-
  This text holds what the kernel computes of the card of Resolvents. No condition.
-/
import Derived.Test.YtepbennkcbmgoaaGreatDoorRows
import Derived.Test.YtepbennkcbmgoaaGreatDoorChecked
import Derived.ProofKit
import Derived.SevenTiedAt
set_option maxHeartbeats 16000000
set_option maxRecDepth 100000
namespace Go.Proofs.YtepbennkcbmgoaaGreatDoor
open Go.RowKit Go.ChangeShapes Go.WideShapes Go.ChangeAt
namespace law51
theorem cwf:Rows.fnExactResolventsRow.wfByText (OpenSpec.ofChange Rows.fnExactResolventsSpec)=true:=by kernel_rfl
theorem Qg6:Tryz.pinned.checked.prog.mainIs=some (true,("45c51c2c34bc99b5195d19cd3318e7671c5aac18abcfab4b6f61b3068b78392b":String).toList):=by kernel_rfl
theorem Qgl:false=Tryz.pinned.checked.prog.looks []:=by kernel_rfl
theorem Qg7:false=Rows.fnExactResolventsRow.goesBy Tryz.pinned.checked.prog:=by kernel_rfl
theorem Qgm:Tryz.prog.funcNamed "loop.example/g00892/laws.FnExactResolvents"=some 5:=by kernel_rfl
theorem Qgn:([53,53].all fun u=>!Tryz.prog.wantsStandIn u)=true:=by kernel_rfl
end law51
end Go.Proofs.YtepbennkcbmgoaaGreatDoor
