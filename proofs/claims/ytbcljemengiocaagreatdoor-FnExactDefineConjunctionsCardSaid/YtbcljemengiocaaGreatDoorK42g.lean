/-
  This text holds what the kernel computes of the card of DefineConjunctions. No condition.
-/
import Derived.Test.YtbcljemengiocaaGreatDoorRows
import Derived.Test.YtbcljemengiocaaGreatDoorChecked
import Derived.ProofKit
import Derived.SevenTiedAt
set_option maxHeartbeats 16000000
set_option maxRecDepth 100000
namespace Go.Proofs.YtbcljemengiocaaGreatDoor
open Go.RowKit Go.ChangeShapes Go.WideShapes Go.ChangeAt
namespace law42
theorem cwf:Rows.fnExactDefineConjunctionsRow.wfByText (OpenSpec.ofChange Rows.fnExactDefineConjunctionsSpec)=true:=by kernel_rfl
theorem Qan:Tryz.pinned.checked.prog.mainIs=some (true,("11b67c99575bd382b280be1b0678a8bc7610aa535f54d4ebce7aeeeeb7d1ee91":String).toList):=by kernel_rfl
theorem ZI:false=Tryz.pinned.checked.prog.looks []:=by kernel_rfl
theorem Qao:false=Rows.fnExactDefineConjunctionsRow.goesBy Tryz.pinned.checked.prog:=by kernel_rfl
theorem ZJ:Tryz.prog.funcNamed "loop.example/g00892/laws.FnExactDefineConjunctions"=some 3:=by kernel_rfl
theorem ZK:([27].all fun u=>!Tryz.prog.wantsStandIn u)=true:=by kernel_rfl
end law42
end Go.Proofs.YtbcljemengiocaaGreatDoor
