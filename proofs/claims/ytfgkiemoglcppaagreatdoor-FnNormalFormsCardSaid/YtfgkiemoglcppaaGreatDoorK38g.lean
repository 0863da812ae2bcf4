/-
  This text holds what the kernel computes of the card of the law of normal forms. No condition.
-/
import Derived.Test.YtfgkiemoglcppaaGreatDoorRows
import Derived.Test.YtfgkiemoglcppaaGreatDoorChecked
import Derived.ProofKit
import Derived.SevenTiedAt
set_option maxHeartbeats 16000000
set_option maxRecDepth 100000
namespace Go.Proofs.YtfgkiemoglcppaaGreatDoor
open Go.RowKit Go.ChangeShapes Go.WideShapes Go.ChangeAt
namespace law38
theorem cwf:Rows.fnNormalFormsRow.wfByText (OpenSpec.ofChange Rows.fnNormalFormsSpec)=true:=by kernel_rfl
theorem Zv:Tryz.pinned.checked.prog.mainIs=some (true,("0017686f9403acf8fc1931d35fe1eb2a287d03955b534880a7d263bd9ad89c55":String).toList):=by kernel_rfl
theorem YT:false=Tryz.pinned.checked.prog.looks []:=by kernel_rfl
theorem Zw:false=Rows.fnNormalFormsRow.goesBy Tryz.pinned.checked.prog:=by kernel_rfl
theorem YU:Tryz.prog.funcNamed "loop.example/g00892/laws.FnNormalForms"=some 3:=by kernel_rfl
theorem YV:([22].all fun u=>!Tryz.prog.wantsStandIn u)=true:=by kernel_rfl
end law38
end Go.Proofs.YtfgkiemoglcppaaGreatDoor
