/-
  This text holds what the kernel computes of the card of the law of syntax. No condition.
-/
import Derived.Test.YtlglakdefklhoaaGreatDoorRows
import Derived.Test.YtlglakdefklhoaaGreatDoorChecked
import Derived.ProofKit
import Derived.SevenTiedAt
set_option maxHeartbeats 16000000
set_option maxRecDepth 100000
namespace Go.Proofs.YtlglakdefklhoaaGreatDoor
open Go.RowKit Go.ChangeShapes Go.WideShapes Go.ChangeAt
namespace law40
theorem cwf:Rows.fnSyntaxRow.wfByText (OpenSpec.ofChange Rows.fnSyntaxSpec)=true:=by kernel_rfl
theorem Wd:Tryz.pinned.checked.prog.mainIs=some (true,("f00dec9135daa27756ede75f202ae3a1cd101b0b37f783747cdbcd81f38d00f7":String).toList):=by kernel_rfl
theorem VG:true=Tryz.pinned.checked.prog.looks []:=by kernel_rfl
theorem We:false=Rows.fnSyntaxRow.goesBy Tryz.pinned.checked.prog:=by kernel_rfl
theorem VH:Tryz.prog.funcNamed "loop.example/g00892/laws.FnSyntax"=some 3:=by kernel_rfl
theorem VI:([22].all fun u=>!Tryz.prog.wantsStandIn u)=true:=by kernel_rfl
end law40
end Go.Proofs.YtlglakdefklhoaaGreatDoor
