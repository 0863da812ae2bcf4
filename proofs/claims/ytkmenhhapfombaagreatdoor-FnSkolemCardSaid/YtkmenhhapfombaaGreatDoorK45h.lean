/-
  This text holds what the kernel computes of the card of the law of Skolemizing. No condition.
-/
import Derived.Test.YtkmenhhapfombaaGreatDoorRows
import Derived.Test.YtkmenhhapfombaaGreatDoorChecked
import Derived.ProofKit
import Derived.SevenTiedAt
set_option maxHeartbeats 16000000
set_option maxRecDepth 100000
namespace Go.Proofs.YtkmenhhapfombaaGreatDoor
open Go.RowKit Go.ChangeShapes Go.WideShapes Go.ChangeAt
namespace law45
theorem cwf:Rows.fnSkolemRow.wfByText (OpenSpec.ofChange Rows.fnSkolemSpec)=true:=by kernel_rfl
theorem Qcp:Tryz.pinned.checked.prog.mainIs=some (true,("2369d7db87b272a9907ecd511a7e8b4d2e194342b8e40f41b04a7ddb604ecb30":String).toList):=by kernel_rfl
theorem QbI:false=Tryz.pinned.checked.prog.looks []:=by kernel_rfl
theorem Qcq:false=Rows.fnSkolemRow.goesBy Tryz.pinned.checked.prog:=by kernel_rfl
theorem QbJ:Tryz.prog.funcNamed "loop.example/g00892/laws.FnSkolem"=some 4:=by kernel_rfl
theorem QbK:([22].all fun u=>!Tryz.prog.wantsStandIn u)=true:=by kernel_rfl
end law45
end Go.Proofs.YtkmenhhapfombaaGreatDoor
