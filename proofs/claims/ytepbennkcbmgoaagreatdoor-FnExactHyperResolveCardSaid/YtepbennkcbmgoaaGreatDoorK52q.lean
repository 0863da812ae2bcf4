/-
  This text holds what the kernel computes of the card of HyperResolve. No condition.
-/
import Derived.Test.YtepbennkcbmgoaaGreatDoorRows
import Derived.Test.YtepbennkcbmgoaaGreatDoorChecked
import Derived.ProofKit
import Derived.SevenTiedAt
set_option maxHeartbeats 16000000
set_option maxRecDepth 100000
namespace Go.Proofs.YtepbennkcbmgoaaGreatDoor
open Go.RowKit Go.ChangeShapes Go.WideShapes Go.ChangeAt
namespace law52
theorem cwf:Rows.fnExactHyperResolveRow.wfByText (OpenSpec.ofChange Rows.fnExactHyperResolveSpec)=true:=by kernel_rfl
theorem Qgs:Tryz.pinned.checked.prog.mainIs=some (true,("45c51c2c34bc99b5195d19cd3318e7671c5aac18abcfab4b6f61b3068b78392b":String).toList):=by kernel_rfl
theorem Qgb:false=Tryz.pinned.checked.prog.looks []:=by kernel_rfl
theorem Qgt:false=Rows.fnExactHyperResolveRow.goesBy Tryz.pinned.checked.prog:=by kernel_rfl
theorem Qgc:Tryz.prog.funcNamed "loop.example/g00892/laws.FnExactHyperResolve"=some 6:=by kernel_rfl
theorem Qgd:([53,67].all fun u=>!Tryz.prog.wantsStandIn u)=true:=by kernel_rfl
end law52
end Go.Proofs.YtepbennkcbmgoaaGreatDoor
