/-
  Texts of this claim, one behind the other, each built on those ahead of it. No condition.
-/
import Derived.Test.YtoglfpfdhojaaaaGreatK32b
import Derived.Test.YtoglfpfdhojaaaaGreatK32c
import Derived.Test.YtoglfpfdhojaaaaGreatK32d
import Derived.ProofKit
import Derived.Deep.Slices
import Derived.Deep.Fields
import Derived.ChangeSame
import Derived.OpenShut
import Derived.ShutString
import Derived.ChangeOld
set_option maxHeartbeats 16000000
open Option renaming isSome_some → zA, isSome_none → zB, getD_some → zC, getD_none → zD, map_some → zE, map_none → zF
open List renaming drop_eq_getElem_cons → zG, drop_eq_nil_of_le → zH, getElem?_eq_getElem → zI, append_assoc → zJ, take_succ_eq_append_getElem → zK, map_nil → zL, range → zM, map_append → zN, filter_cons → zQ, map_cons → zV
open Bool renaming false_eq_true → zO, and_eq_true → zR, not_false → zT
open Int renaming tdiv_eq_ediv_of_nonneg → zP
open Nat renaming lt_or_ge → zS, zero_le → zU
open Option.some renaming injEq → zW
set_option maxRecDepth 100000
set_option linter.unusedSimpArgs false
set_option linter.unusedVariables false
set_option linter.unusedSectionVars false
namespace Go.Proofs.YtoglfpfdhojaaaaGreat
open Go.RowKit
def I8:SC:=(.seq (.reg [⟨some 6,none,.mv (.c .nil)⟩]) (.seq (.reg [⟨(some 9),none,(.mkrow 76 2 [(.str ⟨#[]⟩),(.int .i64 0)] 0 [])⟩,⟨some 7,none,.mv (.t 9)⟩]) (.seq (.reg [⟨some 8,none,.mv (.c (.int .i64 0))⟩]) (.seq (.block 0 (.loop [1,1,1,0,0,0,0,1,1,0,0,0,0,0,0,0,0,0,0,0,0,0,0,0,0,0,0,0,0,0,0,0,0,0,0,0,0,0,0,0,0,0,0,0,0,0,0,0,0,0,0,0,0,0,0,0,0,0,0] (.seq (.seq (.reg [⟨some 10,none,.mv (.t 8)⟩,⟨some 11,none,.mv (.t 0)⟩,⟨some 12,none,.len false (.t 11)⟩,⟨some 13,none,.bin .lss false (.t 10) (.t 12)⟩,⟨some 14,none,.mv (.t 13)⟩,⟨(some 15),(some (14,true)),(.mv (.t 0))⟩,⟨(some 16),(some (14,true)),(.mv (.t 8))⟩,⟨(some 17),(some (14,true)),(.iaddr 2 (.t 15) (.t 16))⟩,⟨(some 18),(some (14,true)),(.faddr 0 (.t 17))⟩,⟨(some 19),(some (14,true)),(.load false 1 (.t 18))⟩,⟨(some 20),(some (14,true)),(.mv (.t 1))⟩,⟨(some 21),(some (14,true)),(.bin .lss false (.t 19) (.t 20))⟩,⟨some 22,none,.pick (.t 14) (.t 21) (.c (.bool false))⟩]) (.cond (.t 22) .skip (.exit 0))) (.block 1 (.seq (.reg [⟨some 23,none,.mv (.t 7)⟩,⟨some 24,none,.mv (.t 0)⟩,⟨some 25,none,.mv (.t 8)⟩,⟨some 26,none,.iaddr 2 (.t 24) (.t 25)⟩,⟨some 27,none,.load true 2 (.t 26)⟩,⟨(some 28),none,(.mkrow 76 2 [(.str ⟨#[]⟩),(.int .i64 0)] 1 [(0,(.t 27))])⟩,⟨(some 29),none,(.append 76 2 24 [(.str ⟨#[]⟩),(.int .i64 0)] (.t 23) (.t 28))⟩,⟨some 7,none,.mv (.t 29)⟩]) (.reg [⟨some 30,none,.mv (.t 8)⟩,⟨some 31,none,.bin .add false (.t 30) (.c (.int .i64 1))⟩,⟨some 8,none,.mv (.t 31)⟩])))))) (.seq (.reg [⟨some 32,none,.mv (.t 7)⟩,⟨some 33,none,.mv (.t 1)⟩,⟨some 34,none,.mv (.t 2)⟩,⟨(some 35),none,(.build [(.str ⟨#[]⟩),(.int .i64 0)] [(0,(1,(.t 33))),(1,(1,(.t 34)))])⟩,⟨(some 36),none,(.mkrow 76 2 [(.str ⟨#[]⟩),(.int .i64 0)] 1 [(0,(.t 35))])⟩,⟨(some 37),none,(.append 76 2 24 [(.str ⟨#[]⟩),(.int .i64 0)] (.t 32) (.t 36))⟩,⟨some 7,none,.mv (.t 37)⟩]) (.seq (.block 2 (.loop [1,1,0,0,0,0,0,1,1,0,0,0,0,0,0,0,0,0,0,0,0,0,0,0,0,0,0,0,0,0,0,0,0,0,0,0,0,0,0,0,0,0,0,0,0,0,0,0,0,0,0,0,0,0,0,0,0,0,0] (.seq (.seq (.reg [⟨some 38,none,.mv (.t 8)⟩,⟨some 39,none,.mv (.t 0)⟩,⟨some 40,none,.len false (.t 39)⟩,⟨some 41,none,.bin .lss false (.t 38) (.t 40)⟩]) (.cond (.t 41) .skip (.exit 2))) (.seq (.block 3 (.seq (.reg [⟨some 44,none,.mv (.t 0)⟩,⟨some 45,none,.mv (.t 8)⟩,⟨some 46,none,.iaddr 2 (.t 44) (.t 45)⟩,⟨some 47,none,.faddr 0 (.t 46)⟩,⟨some 48,none,.load false 1 (.t 47)⟩,⟨some 49,none,.mv (.t 1)⟩,⟨some 50,none,.bin .neq false (.t 48) (.t 49)⟩]) (.cond (.t 50) (.reg [⟨some 51,none,.mv (.t 7)⟩,⟨some 52,none,.mv (.t 0)⟩,⟨some 53,none,.mv (.t 8)⟩,⟨some 54,none,.iaddr 2 (.t 52) (.t 53)⟩,⟨some 55,none,.load true 2 (.t 54)⟩,⟨(some 56),none,(.mkrow 76 2 [(.str ⟨#[]⟩),(.int .i64 0)] 1 [(0,(.t 55))])⟩,⟨(some 57),none,(.append 76 2 24 [(.str ⟨#[]⟩),(.int .i64 0)] (.t 51) (.t 56))⟩,⟨some 7,none,.mv (.t 57)⟩]) .skip))) (.reg [⟨some 42,none,.mv (.t 8)⟩,⟨some 43,none,.bin .add false (.t 42) (.c (.int .i64 1))⟩,⟨some 8,none,.mv (.t 43)⟩]))))) (.seq (.reg [⟨some 58,none,.mv (.t 7)⟩,⟨some 6,none,.mv (.t 58)⟩]) .ret)))))))
theorem Nj:As Tryz.prog 99=some ⟨59,I8,[(.tmp 6)]⟩:=by kernel_rfl
theorem Gr:modes 99=⟨[],.frz,none,false⟩:=by unfold modes; rfl
def AA:SC:=(.seq (.reg [⟨some 3,none,.boxv 26 2 (.t 0)⟩,⟨some 5,none,.boxv 33 5 (.t 2)⟩,⟨some 6,none,.mv (.c (.bool false))⟩,⟨some 7,none,.mv (.c (.bool false))⟩]) (.seq (.seq (.reg [⟨some 14,none,.faddr 0 (.t 5)⟩,⟨some 15,none,.load false 1 (.t 14)⟩]) (.block 0 (.seq (.seq (.reg [⟨some 17,none,.bin .eql false (.t 15) (.c (.int .i64 1))⟩,⟨some 16,none,.mv (.t 17)⟩]) (.cond (.t 16) .skip (.reg [⟨some 18,none,.bin .eql false (.t 15) (.c (.int .i64 2))⟩,⟨some 16,none,.mv (.t 18)⟩]))) (.cond (.t 16) (.seq (.reg [⟨some 19,none,.faddr 0 (.t 5)⟩,⟨some 20,none,.load false 1 (.t 19)⟩,⟨some 21,none,.bin .eql false (.t 20) (.c (.int .i64 1))⟩,⟨some 6,none,.mv (.t 21)⟩,⟨some 7,none,.mv (.c (.bool true))⟩]) .ret) (.seq (.reg [⟨some 23,none,.bin .eql false (.t 15) (.c (.int .i64 3))⟩,⟨some 22,none,.mv (.t 23)⟩]) (.cond (.t 22) (.seq (.reg [⟨some 25,none,.load true 2 (.t 3)⟩,⟨some 26,none,.mv (.t 1)⟩,⟨some 27,none,.faddr 1 (.t 5)⟩,⟨some 28,none,.load true 2 (.t 27)⟩,⟨some 29,none,.call 65 [(.t 25),(.t 26),(.t 28),(.c (.bool true))]⟩,⟨some 24,none,.mv (.t 29)⟩,⟨some 30,none,.ext (.t 24) 0⟩,⟨some 31,none,.ext (.t 24) 1⟩,⟨some 8,none,.mv (.t 30)⟩,⟨some 9,none,.mv (.t 31)⟩]) (.seq (.reg [⟨some 32,none,.mv (.t 9)⟩,⟨some 33,none,.mv (.t 32)⟩,⟨(some 34),(some (33,true)),(.mv (.t 8))⟩,⟨(some 35),(some (33,true)),(.bin .eql false (.t 34) (.c (.int .i64 1)))⟩,⟨some 36,none,.pick (.t 33) (.t 35) (.c (.bool false))⟩,⟨some 37,none,.mv (.t 9)⟩,⟨some 6,none,.mv (.t 36)⟩,⟨some 7,none,.mv (.t 37)⟩]) .ret)) (.seq (.seq (.reg [⟨some 39,none,.bin .eql false (.t 15) (.c (.int .i64 8))⟩,⟨some 38,none,.mv (.t 39)⟩]) (.cond (.t 38) .skip (.reg [⟨some 40,none,.bin .eql false (.t 15) (.c (.int .i64 9))⟩,⟨some 38,none,.mv (.t 40)⟩]))) (.cond (.t 38) (.seq (.reg [⟨some 41,none,.load true 2 (.t 3)⟩,⟨some 42,none,.mv (.t 1)⟩,⟨some 43,none,.load true 5 (.t 5)⟩,⟨some 44,none,.call 66 [(.t 41),(.t 42),(.t 43)]⟩,⟨some 45,none,.ext (.t 44) 0⟩,⟨some 46,none,.ext (.t 44) 1⟩,⟨some 6,none,.mv (.t 45)⟩,⟨some 7,none,.mv (.t 46)⟩]) .ret) .skip)))))))) (.seq (.dreg [[],[],[],[2],[3,2],[4,3,2],[0,1,5,4,3,2],[6,0,1,5,4,3,2],[7,6,0,1,5,4,3,2],[7,6,0,1,5,4,3,2],[8,7,6,0,1,5,4,3,2],[9,7,6,0,1,5,4,3,2,10,8]] [⟨some 48,none,.load true 2 (.t 3)⟩,⟨some 49,none,.mv (.t 1)⟩,⟨some 50,none,.faddr 4 (.t 5)⟩,⟨some 51,none,.load false 1 (.t 50)⟩,⟨some 52,none,.iaddr 5 (.t 51) (.c (.int .i64 0))⟩,⟨some 53,none,.load true 5 (.t 52)⟩,⟨some 54,none,.call 27 [(.t 48),(.t 49),(.t 53)]⟩,⟨some 47,none,.mv (.t 54)⟩,⟨some 55,none,.ext (.t 47) 0⟩,⟨some 56,none,.ext (.t 47) 1⟩,⟨some 10,none,.mv (.t 55)⟩,⟨some 11,none,.mv (.t 56)⟩]) (.seq (.seq (.reg [⟨some 57,none,.mv (.t 11)⟩,⟨some 58,none,.un .not (.t 57)⟩]) (.cond (.t 58) (.seq (.reg [⟨some 6,none,.mv (.c (.bool false))⟩,⟨some 7,none,.mv (.c (.bool false))⟩]) .ret) .skip)) (.seq (.seq (.reg [⟨some 59,none,.faddr 0 (.t 5)⟩,⟨some 60,none,.load false 1 (.t 59)⟩,⟨some 61,none,.bin .eql false (.t 60) (.c (.int .i64 4))⟩]) (.cond (.t 61) (.seq (.reg [⟨some 62,none,.mv (.t 10)⟩,⟨some 63,none,.un .not (.t 62)⟩,⟨some 6,none,.mv (.t 63)⟩,⟨some 7,none,.mv (.c (.bool true))⟩]) .ret) .skip)) (.seq (.dreg [[],[],[],[2],[3,2],[4,3,2],[0,1,5,4,3,2],[6,0,1,5,4,3,2],[7,6,0,1,5,4,3,2],[7,6,0,1,5,4,3,2],[8,7,6,0,1,5,4,3,2],[9,7,6,0,1,5,4,3,2,10,8]] [⟨some 65,none,.load true 2 (.t 3)⟩,⟨some 66,none,.mv (.t 1)⟩,⟨some 67,none,.faddr 4 (.t 5)⟩,⟨some 68,none,.load false 1 (.t 67)⟩,⟨some 69,none,.iaddr 5 (.t 68) (.c (.int .i64 1))⟩,⟨some 70,none,.load true 5 (.t 69)⟩,⟨some 71,none,.call 27 [(.t 65),(.t 66),(.t 70)]⟩,⟨some 64,none,.mv (.t 71)⟩,⟨some 72,none,.ext (.t 64) 0⟩,⟨some 73,none,.ext (.t 64) 1⟩,⟨some 12,none,.mv (.t 72)⟩,⟨some 13,none,.mv (.t 73)⟩]) (.seq (.seq (.reg [⟨some 74,none,.mv (.t 13)⟩,⟨some 75,none,.un .not (.t 74)⟩]) (.cond (.t 75) (.seq (.reg [⟨some 6,none,.mv (.c (.bool false))⟩,⟨some 7,none,.mv (.c (.bool false))⟩]) .ret) .skip)) (.seq (.seq (.reg [⟨some 76,none,.faddr 0 (.t 5)⟩,⟨some 77,none,.load false 1 (.t 76)⟩]) (.block 1 (.seq (.reg [⟨some 79,none,.bin .eql false (.t 77) (.c (.int .i64 5))⟩,⟨some 78,none,.mv (.t 79)⟩]) (.cond (.t 78) (.seq (.reg [⟨some 80,none,.mv (.t 10)⟩,⟨some 81,none,.mv (.t 80)⟩,⟨(some 82),(some (81,true)),(.mv (.t 12))⟩,⟨some 83,none,.pick (.t 81) (.t 82) (.c (.bool false))⟩,⟨some 6,none,.mv (.t 83)⟩,⟨some 7,none,.mv (.c (.bool true))⟩]) .ret) (.seq (.reg [⟨some 85,none,.bin .eql false (.t 77) (.c (.int .i64 6))⟩,⟨some 84,none,.mv (.t 85)⟩]) (.cond (.t 84) (.seq (.reg [⟨some 86,none,.mv (.t 10)⟩,⟨some 87,none,.mv (.t 86)⟩,⟨(some 88),(some (87,false)),(.mv (.t 12))⟩,⟨some 89,none,.pick (.t 87) (.c (.bool true)) (.t 88)⟩,⟨some 6,none,.mv (.t 89)⟩,⟨some 7,none,.mv (.c (.bool true))⟩]) .ret) .skip)))))) (.seq (.reg [⟨some 90,none,.mv (.t 10)⟩,⟨some 91,none,.un .not (.t 90)⟩,⟨some 92,none,.mv (.t 91)⟩,⟨(some 93),(some (92,false)),(.mv (.t 12))⟩,⟨some 94,none,.pick (.t 92) (.c (.bool true)) (.t 93)⟩,⟨some 6,none,.mv (.t 94)⟩,⟨some 7,none,.mv (.c (.bool true))⟩]) .ret)))))))))
theorem AC:As Tryz.prog 27=some ⟨95,AA,[(.tmp 6),(.tmp 7)]⟩:=by kernel_rfl
theorem Ak:modes 27=⟨[],.asis,none,false⟩:=by unfold modes; rfl
def F1:SC:=(.seq (.reg [⟨some 3,none,.boxv 26 2 (.t 0)⟩,⟨some 5,none,.boxv 33 5 (.t 2)⟩,⟨some 6,none,.mv (.c (.bool false))⟩,⟨some 7,none,.mv (.c (.bool false))⟩]) (.seq (.reg [⟨some 8,none,.mv (.c (.bool true))⟩,⟨some 9,none,.mv (.c (.bool false))⟩]) (.seq (.seq (.reg [⟨some 10,none,.mv (.c (.int .i64 0))⟩]) (.block 0 (.loop [0,1,0,1,0,1,0,0,1,1,1,0,0,0,0,0,0,0,0,0,0,0,0,0,0,0,0,0,0,0,0,0,0,0,0,0,0,0,0,0,0,0,0,0,0,0,0,0] (.seq (.seq (.reg [⟨some 13,none,.mv (.t 10)⟩,⟨some 14,none,.faddr 0 (.t 3)⟩,⟨some 15,none,.load false 1 (.t 14)⟩,⟨some 16,none,.bin .lss false (.t 13) (.t 15)⟩]) (.cond (.t 16) .skip (.exit 0))) (.seq (.block 1 (.seq (.dreg [[],[],[],[2],[],[1,3,2,4],[],[6],[7,6],[8,7,6],[0,5,1,3,2,4,9,8,7,6],[10,0,5,1,3,2,4,9,8,7,6],[11,10,0,5,1,3,2,4,9,8,7,6],[11,10,0,5,1,3,2,4,9,8,7,6],[12,11,10,0,5,1,3,2,4,9,8,7,6],[13,11,10,0,5,1,3,2,4,9,8,7,6,14,12]] [⟨some 20,none,.load true 2 (.t 3)⟩,⟨some 21,none,.mv (.t 1)⟩,⟨some 22,none,.faddr 3 (.t 5)⟩,⟨some 23,none,.load false 1 (.t 22)⟩,⟨some 24,none,.mv (.t 10)⟩,⟨some 25,none,.call 99 [(.t 21),(.t 23),(.t 24)]⟩,⟨some 26,none,.faddr 4 (.t 5)⟩,⟨some 27,none,.load false 1 (.t 26)⟩,⟨some 28,none,.iaddr 5 (.t 27) (.c (.int .i64 0))⟩,⟨some 29,none,.load true 5 (.t 28)⟩,⟨some 30,none,.call 27 [(.t 20),(.t 25),(.t 29)]⟩,⟨some 19,none,.mv (.t 30)⟩,⟨some 31,none,.ext (.t 19) 0⟩,⟨some 32,none,.ext (.t 19) 1⟩,⟨some 11,none,.mv (.t 31)⟩,⟨some 12,none,.mv (.t 32)⟩]) (.seq (.seq (.reg [⟨some 33,none,.mv (.t 12)⟩,⟨some 34,none,.un .not (.t 33)⟩]) (.cond (.t 34) (.seq (.reg [⟨some 6,none,.mv (.c (.bool false))⟩,⟨some 7,none,.mv (.c (.bool false))⟩]) .ret) .skip)) (.seq (.reg [⟨some 35,none,.mv (.t 8)⟩,⟨some 36,none,.mv (.t 35)⟩,⟨(some 37),(some (36,true)),(.mv (.t 11))⟩,⟨some 38,none,.pick (.t 36) (.t 37) (.c (.bool false))⟩,⟨some 8,none,.mv (.t 38)⟩]) (.reg [⟨some 39,none,.mv (.t 9)⟩,⟨some 40,none,.mv (.t 39)⟩,⟨(some 41),(some (40,false)),(.mv (.t 11))⟩,⟨some 42,none,.pick (.t 40) (.c (.bool true)) (.t 41)⟩,⟨some 9,none,.mv (.t 42)⟩]))))) (.reg [⟨some 17,none,.mv (.t 10)⟩,⟨some 18,none,.bin .add false (.t 17) (.c (.int .i64 1))⟩,⟨some 10,none,.mv (.t 18)⟩])))))) (.seq (.seq (.reg [⟨some 43,none,.faddr 0 (.t 5)⟩,⟨some 44,none,.load false 1 (.t 43)⟩,⟨some 45,none,.bin .eql false (.t 44) (.c (.int .i64 8))⟩]) (.cond (.t 45) (.seq (.reg [⟨some 46,none,.mv (.t 8)⟩,⟨some 6,none,.mv (.t 46)⟩,⟨some 7,none,.mv (.c (.bool true))⟩]) .ret) .skip)) (.seq (.reg [⟨some 47,none,.mv (.t 9)⟩,⟨some 6,none,.mv (.t 47)⟩,⟨some 7,none,.mv (.c (.bool true))⟩]) .ret)))))
theorem I9:As Tryz.prog 66=some ⟨48,F1,[(.tmp 6),(.tmp 7)]⟩:=by kernel_rfl
theorem Bw:modes 66=⟨[],.asis,none,false⟩:=by unfold modes; rfl
noncomputable def ES:List Ag→ByteArray→Int→List Ag
 | [],n,z=>[⟨n,z⟩]
 | x :: r,n,z=>bif strLt x.var n then x :: ES r n z else ⟨n,z⟩ :: (x :: r).filter fun y=>!dec (y.var=n)
theorem KS (n:ByteArray) (z:Int):∀ a:List Ag,(ES a n z).length≤a.length+1
 | []=>by rw [ES]; exact Nat.le_refl _
 | x :: r=>by
  rw [ES]
  cases strLt x.var n with
  | true=>have:=KS n z r; simp only [cond_true,List.length_cons]; omega
  | false=>have:=List.length_filter_le (fun y:Ag=>!dec (y.var=n)) (x :: r); simp only [cond_false,List.length_cons] at *; omega
theorem Nk (n s:ByteArray) (h:s≠n):∀ a:List Ag,asg (a.filter fun y=>!dec (y.var=n)) s=asg a s
 | []=>rfl
 | x :: r=>by
  have ih:=Nk n s h r
  rw [zQ,asg]
  by_cases hx:x.var=n
  ·have hs:¬ x.var=s:=fun e=>h (e.symm.trans hx)
   rw [A1 hx,Aj hs,cond_false]
   exact ih
  ·rw [Aj hx]
   simp only [zT,if_true]
   rw [asg,ih]
theorem Ku (n:ByteArray) (z:Int):∀ a:List Ag,asg (ES a n z)=Cx (asg a) n z
 | []=>by
  funext s
  rw [ES,asg,Cx]
  have e:(n=s)=(s=n):=propext ⟨Eq.symm,Eq.symm⟩
  rw [e]
 | x :: r=>by
  have ih:=Ku n z r
  funext s
  rw [ES]
  cases hx:strLt x.var n with
  | true =>
   rw [cond_true,asg,ih,Cx,Cx,asg]
   by_cases hs:s=n
   ·have hn:¬ x.var=s:=fun e=>Iu hx (e.trans hs)
    rw [A1 hs,Aj hn]; rfl
   ·rw [Aj hs]; rfl
  | false =>
   rw [cond_false,asg,Cx]
   have e:(n=s)=(s=n):=propext ⟨Eq.symm,Eq.symm⟩
   simp only [e]
   by_cases hs:s=n
   ·rw [A1 hs]; rfl
   ·rw [Aj hs,cond_false,cond_false]
    exact Nk n s hs _
theorem T4 (a:List Ag) (hl:a.length≤2097152) (n:ByteArray) (z:Int):E 99 [.arr (a.map Ag.d),.str n,.int .i64 z] []=some (.arr ((ES a n z).map Ag.d),[]):=by
 refine Al Nj Gr (of_decide_eq_true rfl) ?_
 simp (disch:=omega) only [I8,go_sem,Ab]
 refine go_loop (α:=Int) (fun i=>⟨slots 59 0 [(0,.arr (a.map Ag.d)),(1,.str n),(2,.int .i64 z),(7,.ref 0),(8,.int .i64 i)],[.row 76 2 ((a.take i.toNat).map Ag.o)]⟩) (fun i=>∃ k:Nat,i=k∧k≤a.length∧ES a n z=a.take k++ES (a.drop k) n z) (fun i=>a.length-i.toNat) 0 ⟨0,rfl,zU _,by simp⟩ (by simp (disch:=omega) only [go_sem,Ab,Int.toNat_zero]) ?_
 rintro i ⟨k,hi,hk,hR⟩
 have hni:i.toNat=k:=by omega
 have hni1:(i+1).toNat=k+1:=by omega
 have key:∀ rest,ES a n z=a.take k++(⟨n,z⟩ :: rest)→rest=(a.drop k).filter (fun y=>!dec (y.var=n))→ES a n z=(a.take k++[⟨n,z⟩])++(a.drop k).filter (fun y=>!dec (y.var=n)):=fun rest h1 h2=>by rw [h1,h2,zJ]; rfl
 have hap:∀ l:List Ag,l.map Ag.o++[[OT.str n,OT.int z]]=(l++[(⟨n,z⟩:Ag)]).map Ag.o:=fun l=>by rw [zN]; rfl
 have hle:((a.take k).map Ag.o).length=k:=by rw [List.length_map,List.length_take]; omega
 rcases zS k a.length with hlt | hge
 ·have hg:=get_at Ag.d hlt
  rw [Ag.d_eq] at hg
  have hap2:(a.take k).map Ag.o++[[OT.str a[k].var,OT.int a[k].elem]]=(a.take (k+1)).map Ag.o:=by rw [zK hlt,zN]; rfl
  cases hs:strLt a[k].var n with
  | true =>
   rw [zG hlt,ES,hs,cond_true] at hR
   simp (disch:=omega) only [go_sem,Ab,hni,hg,hs,hle,hap2]
   refine ⟨i+1,⟨k+1,by omega,hlt,?_⟩,by omega,?_⟩
   ·rw [hR,zK hlt,zJ]; rfl
   ·simp (disch:=omega) only [go_sem,Ab,hni1]
  | false =>
   have hR0:=hR
   rw [zG hlt,ES,hs,cond_false,← zG hlt] at hR0
   have hW:=key _ hR0 rfl
   simp (disch:=omega) only [go_sem,Ab,hni,hg,hs,hle,hap]
   refine go_loop (α:=Int × List Ag) (fun b=>⟨slots 59 0 [(0,.arr (a.map Ag.d)),(1,.str n),(7,.ref 0),(8,.int .i64 b.1)],[.row 76 2 (b.2.map Ag.o)]⟩) (fun b=>∃ j:Nat,b.1=j∧j≤a.length∧b.2.length≤j+1∧ES a n z=b.2++(a.drop j).filter (fun y=>!dec (y.var=n))) (fun b=>a.length-b.1.toNat) (i,a.take k++[⟨n,z⟩]) ⟨k,hi,hk,by simp; omega,hW⟩ (by simp (disch:=omega) only [go_sem,Ab]) ?_
   rintro ⟨i2,dn⟩ ⟨j,hj,hjl,hdl,hD⟩
   dsimp only at hj hdl hD
   have hnj:i2.toNat=j:=by omega
   rcases zS j a.length with hlt2 | hge2
   ·have hg2:=get_at Ag.d hlt2
    rw [Ag.d_eq] at hg2
    rw [zG hlt2,zQ] at hD
    have hap3:dn.map Ag.o++[[OT.str a[j].var,OT.int a[j].elem]]=(dn++[a[j]]).map Ag.o:=by rw [zN]; rfl
    cases hd:dec (a[j].var=n) with
    | true =>
     rw [hd] at hD
     simp only [Bool.not_true,zO,if_false] at hD
     simp (disch:=omega) only [go_sem,Ab,hnj,hg2,hd,hap3]
     refine ⟨(i2+1,dn),⟨j+1,by dsimp only; omega,hlt2,by dsimp only; omega,hD⟩,by dsimp only; omega,?_⟩
     first | trivial | rfl | (simp only [and_self])
    | false =>
     rw [hd] at hD
     simp only [zT,if_true] at hD
     simp (disch:=omega) only [go_sem,Ab,hnj,hg2,hd,hap3]
     refine ⟨(i2+1,dn++[a[j]]),⟨j+1,by dsimp only; omega,hlt2,by simp; omega,by rw [hD,zJ]; rfl⟩,by dsimp only; omega,?_⟩
     first | trivial | rfl | (simp only [and_self])
   ·rw [zH hge2,List.filter_nil,List.append_nil] at hD
    rw [hD]
    simp (disch:=omega) only [go_sem,Ab,hnj,Ag.erss,Ag.noss]
 ·have hR0:=hR
  rw [zH hge,ES] at hR0
  have hW:=key [] hR0 (by rw [zH hge]; rfl)
  simp (disch:=omega) only [go_sem,Ab,hni,hle,hap]
  refine go_loop (α:=Int × List Ag) (fun b=>⟨slots 59 0 [(0,.arr (a.map Ag.d)),(1,.str n),(7,.ref 0),(8,.int .i64 b.1)],[.row 76 2 (b.2.map Ag.o)]⟩) (fun b=>∃ j:Nat,b.1=j∧j≤a.length∧b.2.length≤j+1∧ES a n z=b.2++(a.drop j).filter (fun y=>!dec (y.var=n))) (fun b=>a.length-b.1.toNat) (i,a.take k++[⟨n,z⟩]) ⟨k,hi,hk,by simp; omega,hW⟩ (by simp (disch:=omega) only [go_sem,Ab]) ?_
  rintro ⟨i2,dn⟩ ⟨j,hj,hjl,hdl,hD⟩
  dsimp only at hj hdl hD
  have hnj:i2.toNat=j:=by omega
  rcases zS j a.length with hlt2 | hge2
  ·have hg2:=get_at Ag.d hlt2
   rw [Ag.d_eq] at hg2
   rw [zG hlt2,zQ] at hD
   have hap3:dn.map Ag.o++[[OT.str a[j].var,OT.int a[j].elem]]=(dn++[a[j]]).map Ag.o:=by rw [zN]; rfl
   cases hd:dec (a[j].var=n) with
   | true =>
    rw [hd] at hD
    simp only [Bool.not_true,zO,if_false] at hD
    simp (disch:=omega) only [go_sem,Ab,hnj,hg2,hd,hap3]
    refine ⟨(i2+1,dn),⟨j+1,by dsimp only; omega,hlt2,by dsimp only; omega,hD⟩,by dsimp only; omega,?_⟩
    first | trivial | rfl | (simp only [and_self])
   | false =>
    rw [hd] at hD
    simp only [zT,if_true] at hD
    simp (disch:=omega) only [go_sem,Ab,hnj,hg2,hd,hap3]
    refine ⟨(i2+1,dn++[a[j]]),⟨j+1,by dsimp only; omega,hlt2,by simp; omega,by rw [hD,zJ]; rfl⟩,by dsimp only; omega,?_⟩
    first | trivial | rfl | (simp only [and_self])
  ·rw [zH hge2,List.filter_nil,List.append_nil] at hD
   rw [hD]
   simp (disch:=omega) only [go_sem,Ab,hnj,Ag.erss,Ag.noss]
theorem T5 (m:Ip) (hm:m.ok=true) (ht:m.tame) (as_:List Ag) (hal:as_.length≤1099511627776) (he:InE m.size (asg as_)) (x:Tm) (hx:x.atom=true):E 65 [m.sv,.arr (as_.map Ag.d),x.sv,.bool true] []=some (W9 (x.tru m (asg as_)),[]):=by
 have hnn:=Tm.H9 hx
 have hnq:=Tm.nodes_eq x
 have hxl:x.args.length≤29:=by have:=Tm.length_le x.args; omega
 have ih:∀ y∈x.args,LvC m as_ y:=fun y hy=>MW m hm ht.1 (fun t h=>ht.2 t h) as_ hal he y (by have:=Tm.nodes_mem hy; omega)
 have hml:=ht.1
 have hvl:=ht.2
 have hnv:Cj x.name=false:=by
  cases hv:Cj x.name with
  | false=>rfl
  | true =>
   have ha:=hx
   unfold Tm.atom at ha
   cases hq:x.eqn with
   | true=>exact absurd hv (by rw [Tm.Si hq]; decide)
   | false =>
    rw [hq,if_neg (by simp),zR] at ha
    rw [Ov hv] at ha; cases ha.1
 have h1:=FG x.name
 rw [hnv] at h1
 obtain ⟨⟨s1,s3⟩,hT,_⟩:=Ip.D4 hm
 have hf:=Ou m.tables hml x.name x.args.length
 refine Al F6 Bg (of_decide_eq_true rfl) ?_
 simp (disch:=omega) only [Es,go_sem,Ab,h1,An]
 refine go_loop (α:=Int × (Int)) (fun a=>⟨slots 108 0 [(1,.arr (as_.map Ag.d)),(3,.bool true),(4,.ptr 0 0),(6,.ptr 1 0),(11,.int .i64 (a.2)),(12,.int .i64 (a.1))],[.box 26 [.int .i64 m.size,.arr (m.tables.map Tl.d)],.box 30 [.str x.name,.arr (x.args.map Tm.d)]]⟩) (fun a=>∃ k:Nat,a.1=k∧k≤(x.args).length∧0≤(a.2)∧(a.2)<pw m.size k∧Tm.De m (asg as_) (x.args.drop k) (a.2)=Tm.De m (asg as_) x.args 0) (fun a=>(x.args).length-(a.1).toNat) (0,0) ⟨0,rfl,zU _,⟨Int.le_refl 0,by rw [pw]; omega,by rw [List.drop_zero]⟩⟩ (by simp (disch:=omega) only [go_sem,Ab]) ?_
 rintro ⟨i,at_⟩ ⟨k,hi,hk,hR⟩
 dsimp only at hi hR
 have hni:i.toNat=k:=by omega
 have hni1:(i+1).toNat=k+1:=by omega
 rcases zS k (x.args).length with hlt | hge
 ·have hg:=get_at Tm.d hlt
  rw [Tm.d_eq] at hg
  obtain ⟨r0,r1,r2⟩:=hR
  have hc:=ih x.args[k] (List.getElem_mem hlt)
  rw [zG hlt,Tm.De] at r2
  have hps:=Rq s1 s3 (k:=k+1) (by omega)
  cases hv:x.args[k].val m (asg as_) with
  | none =>
   rw [hv] at r2
   unfold LvC at hc
   rw [hv] at hc
   have hrn:x.tru m (asg as_)=none:=by
    unfold Tm.tru
    rw [←r2]
    cases x.eqn with
    | true=>rfl
    | false =>
     simp only [zO,if_false]
     unfold Dk
     split <;> first | rfl | (rename_i h; cases h)
   rw [hrn]
   simp (disch:=omega) only [go_sem,Ab,hni,hg,hc,zD,zB,zC,zA,Bg]
   try first | rfl | exact ⟨rfl,rfl⟩
  | some v =>
   rw [hv] at r2
   unfold LvC at hc
   rw [hv] at hc
   obtain ⟨v0,v1⟩:=Tm.KF hm he _ v hv
   obtain ⟨q0,q1,q2,q3⟩:=at_next s1 r0 r1 v0 v1
   rw [pw] at hps
   simp (disch:=omega) only [go_sem,Ab,hni,hg,hc,zD,zB,zC,zA,Bg]
   refine ⟨(i+1,at_*m.size+v),⟨k+1,by dsimp only; omega,hlt,q0,(by rw [pw]; exact q1),r2⟩,by dsimp only; omega,?_⟩
   first | trivial | rfl | exact ⟨rfl,rfl⟩
 ·obtain rfl:k=x.args.length:=by omega
  obtain ⟨r0,r1,r2⟩:=hR
  rw [zH hge,Tm.De] at r2
  have hps:=Rq s1 s3 (k:=x.args.length) (by omega)
  have hdv0:0≤at_.tdiv m.size:=by rw [zP r0]; exact Int.ediv_nonneg r0 (by omega)
  have hdv1:at_.tdiv m.size≤at_:=by rw [zP r0]; exact Int.ediv_le_self _ r0
  cases hq:x.eqn with
  | true =>
   have hrn:x.tru m (asg as_)=some (bif dec (at_.tmod m.size=at_.tdiv m.size) then 1 else 0):=by unfold Tm.tru; rw [hq,if_pos rfl,← r2]
   rw [hrn]
   unfold Tm.eqn at hq
   cases hd:dec (at_.tmod m.size=at_.tdiv m.size) with
   | true =>
    simp (disch:=omega) only [go_sem,Ab,hni,hq,hd,zC,zA]
    try first | rfl | exact ⟨rfl,rfl⟩
   | false =>
    simp (disch:=omega) only [go_sem,Ab,hni,hq,hd,zC,zA]
    try first | rfl | exact ⟨rfl,rfl⟩
  | false =>
   have hrn0:x.tru m (asg as_)=Dk m.tables x.name x.args.length true (some at_):=by unfold Tm.tru; rw [hq,if_neg (by simp),← r2]
   rw [hrn0]
   unfold Tm.eqn at hq
   have hTF:=JB (n:=x.name) (z:=x.args.length) (p:=true) (Or hT)
   rcases IP (fun t:Tl=>dec (t.name=x.name)&&dec (t.arity=(x.args.length:Int))) m.tables 0 with ⟨h2,h3⟩ | ⟨j,t,hj,h2,h3,h4⟩
   ·rw [h2] at hTF
    rw [h3] at hf
    have hrn:Dk m.tables x.name x.args.length true (some at_)=none:=by unfold Dk; rw [hTF]
    rw [hrn]
    simp (disch:=omega) only [go_sem,Ab,hni,hq,hf,CN]
    try first | rfl | exact ⟨rfl,rfl⟩
   ·rw [h2] at hTF
    rw [h3,Int.zero_add] at hf
    have hg:=get_at Tl.d hj
    rw [h4,Tl.d_eq] at hg
    obtain ⟨jj,hjj⟩:∃ jj:Int,jj=(j:Int):=⟨_,rfl⟩
    rw [←hjj] at hf
    have hnj:jj.toNat=j:=by omega
    simp only at hTF
    have hbt:(false == true)=false:=rfl
    have hbf:(true == true)=true:=rfl
    cases hpr:t.pred with
    | false =>
     rw [hpr] at hTF
     have hrn:Dk m.tables x.name x.args.length true (some at_)=none:=by unfold Dk; rw [hTF]; rfl
     rw [hrn]
     simp (disch:=omega) only [go_sem,Ab,hni,hq,hf,hnj,hg,hpr,hbt,CN]
     try first | rfl | exact ⟨rfl,rfl⟩
    | true =>
     rw [hpr] at hTF
     have hTF:Kl m.tables x.name x.args.length true=some t:=hTF
     have hrn:Dk m.tables x.name x.args.length true (some at_)=some (t.vals.getD at_.toNat 0):=by unfold Dk; rw [hTF]
     obtain ⟨g1,g2,_,_⟩:=LI hm hTF r0 r1
     have hgv:=get_at (fun n=>[D.int n]) g1
     have hvt:=hvl t (Hi hTF).1
     rw [hrn,g2]
     simp (disch:=omega) only [go_sem,Ab,hni,hq,hf,hnj,hg,hgv,hpr,hbf,zC,zA,CN]
     try first | rfl | exact ⟨rfl,rfl⟩
theorem RB {p:Int→Option Bool} {k:Nat} {a s v:Bool} (h:CA p k=some (a,s)) (hv:p k=some v):CA p (k+1)=some (a&&v,s || v):=by rw [CA,h,hv]
abbrev Vn (o:Option Bool):SV:=.tup [.bool (o.getD false),.bool o.isSome]
abbrev TrC (m:Ip) (a:List Ag) (x:Fm):Prop:=E 27 [m.sv,.arr (a.map Ag.d),x.sv] []=some (Vn (x.tr m (asg a)),[])
theorem Ht (m:Ip) (hm:m.ok=true) (x p:Fm) (ho:x.op=8∨x.op=9) (hp:x.parts=[p]) (a:List Ag) (hal:a.length≤2097151) (he:InE m.size (asg a)) (ih:∀ k:Int,0≤k→k<m.size→TrC m (ES a x.var k) p):E 66 [m.sv,.arr (a.map Ag.d),x.sv] []=some (Vn (x.tr m (asg a)),[]):=by
 obtain ⟨⟨s1,s3⟩,_,_⟩:=Ip.D4 hm
 have hpl1:0<x.parts.length:=by rw [hp]; simp
 have hpe:x.parts[0]=p:=by simp [hp]
 have hgp:=get_at Fm.d hpl1
 rw [Fm.d_eq,hpe] at hgp
 have hms:(m.size.toNat:Int)=m.size:=by omega
 rw [Fm.Qx ho hp]
 generalize hT:(fun k:Int=>p.tr m (Cx (asg a) x.var k))=T
 have hTk:∀ k:Int,p.tr m (Cx (asg a) x.var k)=T k:=fun k=>by rw [←hT]
 have hxs:x.sv=.agg [.int .i64 x.op,.str x.atom.name,.arr (x.atom.args.map Tm.d),.str x.var,.arr (x.parts.map Fm.d)]:=rfl
 refine Al I9 Bw (of_decide_eq_true rfl) ?_
 simp (disch:=omega) only [F1,go_sem,Ab]
 refine go_loop (α:=Int × Bool × Bool) (fun b=>⟨slots 48 0 [(1,.arr (a.map Ag.d)),(3,.ptr 0 0),(5,.ptr 1 0),(8,.bool b.2.1),(9,.bool b.2.2),(10,.int .i64 b.1)],[.box 26 [.int .i64 m.size,.arr (m.tables.map Tl.d)],.box 33 [.int .i64 x.op,.str x.atom.name,.arr (x.atom.args.map Tm.d),.str x.var,.arr (x.parts.map Fm.d)]]⟩) (fun b=>∃ k:Nat,b.1=k∧k≤m.size.toNat∧CA T k=some (b.2.1,b.2.2)) (fun b=>m.size.toNat-b.1.toNat) (0,true,false) ⟨0,rfl,zU _,rfl⟩ (by simp (disch:=omega) only [go_sem,Ab]) ?_
 rintro ⟨i,al,so⟩ ⟨k,hi,hk,hR⟩
 dsimp only at hi hR
 rcases Int.lt_or_le i m.size with hlt | hge
 ·have hwi:=T4 a (by omega) x.var i
  have hc:=ih i (by omega) hlt
  unfold TrC at hc
  rw [Ku,hTk] at hc
  rw [hi] at hc
  cases hv:T k with
  | none =>
   rw [hv] at hc
   rw [←hi] at hc
   have hno:CA T m.size.toNat=none:=by
    cases h:CA T m.size.toNat with
    | none=>rfl
    | some q =>
     have:=Gp.1 (by rw [h]; rfl:(CA T m.size.toNat).isSome=true) k (by omega)
     rw [hv] at this; cases this
   rw [hno]
   simp (disch:=omega) only [go_sem,Ab,hgp,hwi,hc,Gr,Ak,zD,zB,zC,zA]
   try first | rfl | exact ⟨rfl,rfl⟩
  | some v =>
   rw [hv] at hc
   rw [←hi] at hc
   have hRs:=RB hR hv
   cases al <;> cases so
   all_goals
    simp (disch:=omega) only [go_sem,Ab,hgp,hwi,hc,Gr,Ak,zD,zB,zC,zA]
    refine ⟨(i+1,_,_),⟨k+1,?_,by omega,hRs⟩,?_,?_⟩
    ·dsimp only; omega
    ·dsimp only; omega
    dsimp only
    first | trivial | rfl | (cases v <;> first | trivial | rfl | exact ⟨rfl,rfl⟩)
 ·obtain rfl:k=m.size.toNat:=by omega
  rw [hR]
  rcases ho with ho | ho
  ·have d8:dec (x.op=8)=true:=A1 ho
   unfold Qw
   rw [d8]
   simp (disch:=omega) only [go_sem,Ab,d8,zC,zA]
   try first | rfl | exact ⟨rfl,rfl⟩
  ·have d8:dec (x.op=8)=false:=Aj (by omega)
   unfold Qw
   rw [d8]
   simp (disch:=omega) only [go_sem,Ab,d8,zC,zA]
   try first | rfl | exact ⟨rfl,rfl⟩
abbrev Vo (m:Ip) (x:Fm):Prop:=∀ a:List Ag,a.length+x.nodes≤2097152→InE m.size (asg a)→TrC m a x
theorem Q3 (m:Ip) (hm:m.ok=true) (ht:m.tame) (x:Fm) (hx:x.forms=true) (ih:∀ y∈x.parts,Vo m y):Vo m x:=by
 intro a hal he
 have hfo:=Fm.DT hx
 obtain ⟨⟨s1,s3⟩,_,_⟩:=Ip.D4 hm
 have hxs:x.sv=.agg [.int .i64 x.op,.str x.atom.name,.arr (x.atom.args.map Tm.d),.str x.var,.arr (x.parts.map Fm.d)]:=rfl
 have has:x.atom.sv=.agg [.str x.atom.name,.arr (x.atom.args.map Tm.d)]:=rfl
 have hpl:=Fm.length_le x.parts
 have hnq:=Fm.nodes_eq x
 have hps:=Fm.nodes_pos x
 unfold TrC
 rcases Fm.I5 hfo with ho | ho | ho | ho | ho | ho | ho | ho | ho
 ·have d1:dec (x.op=1)=true:=A1 (by omega)
  have d2:dec (x.op=2)=false:=Aj (by omega)
  have d3:dec (x.op=3)=false:=Aj (by omega)
  have d4:dec (x.op=4)=false:=Aj (by omega)
  have d5:dec (x.op=5)=false:=Aj (by omega)
  have d6:dec (x.op=6)=false:=Aj (by omega)
  have d7:dec (x.op=7)=false:=Aj (by omega)
  have d8:dec (x.op=8)=false:=Aj (by omega)
  have d9:dec (x.op=9)=false:=Aj (by omega)
  rw [Fm.R5 ho]
  refine Al AC Ak (of_decide_eq_true rfl) ?_
  simp (disch:=omega) only [AA,go_sem,d1,d2,d3,d4,d5,d6,d7,d8,d9,zD,zB,zC,zA,zE,zF]
  repeat ((first | (refine At ?_ ?_; (focus (simp (disch:=omega) only [go_sem,d1,d2,d3,d4,d5,d6,d7,d8,d9,zD,zB,zC,zA,zE,zF]; done))) | (refine Au ?_ ?_; (focus (simp (disch:=omega) only [go_sem,d1,d2,d3,d4,d5,d6,d7,d8,d9,zD,zB,zC,zA,zE,zF]; done)))); (try simp (disch:=omega) only [go_sem,d1,d2,d3,d4,d5,d6,d7,d8,d9,zD,zB,zC,zA,zE,zF]))
  try first | rfl | exact ⟨rfl,rfl⟩
 ·have d1:dec (x.op=1)=false:=Aj (by omega)
  have d2:dec (x.op=2)=true:=A1 (by omega)
  have d3:dec (x.op=3)=false:=Aj (by omega)
  have d4:dec (x.op=4)=false:=Aj (by omega)
  have d5:dec (x.op=5)=false:=Aj (by omega)
  have d6:dec (x.op=6)=false:=Aj (by omega)
  have d7:dec (x.op=7)=false:=Aj (by omega)
  have d8:dec (x.op=8)=false:=Aj (by omega)
  have d9:dec (x.op=9)=false:=Aj (by omega)
  rw [Fm.R6 ho]
  refine Al AC Ak (of_decide_eq_true rfl) ?_
  simp (disch:=omega) only [AA,go_sem,d1,d2,d3,d4,d5,d6,d7,d8,d9,zD,zB,zC,zA,zE,zF]
  repeat ((first | (refine At ?_ ?_; (focus (simp (disch:=omega) only [go_sem,d1,d2,d3,d4,d5,d6,d7,d8,d9,zD,zB,zC,zA,zE,zF]; done))) | (refine Au ?_ ?_; (focus (simp (disch:=omega) only [go_sem,d1,d2,d3,d4,d5,d6,d7,d8,d9,zD,zB,zC,zA,zE,zF]; done)))); (try simp (disch:=omega) only [go_sem,d1,d2,d3,d4,d5,d6,d7,d8,d9,zD,zB,zC,zA,zE,zF]))
  try first | rfl | exact ⟨rfl,rfl⟩
 ·have d1:dec (x.op=1)=false:=Aj (by omega)
  have d2:dec (x.op=2)=false:=Aj (by omega)
  have d3:dec (x.op=3)=true:=A1 (by omega)
  have d4:dec (x.op=4)=false:=Aj (by omega)
  have d5:dec (x.op=5)=false:=Aj (by omega)
  have d6:dec (x.op=6)=false:=Aj (by omega)
  have d7:dec (x.op=7)=false:=Aj (by omega)
  have d8:dec (x.op=8)=false:=Aj (by omega)
  have d9:dec (x.op=9)=false:=Aj (by omega)
  rw [Fm.HE ho]
  have hct:=T5 m hm ht a (by omega) he x.atom (Fm.FO hfo ho).2.1
  cases hv:x.atom.tru m (asg a) with
  | none =>
   rw [hv] at hct
   refine Al AC Ak (of_decide_eq_true rfl) ?_
   simp (disch:=omega) only [AA,go_sem,d1,d2,d3,d4,d5,d6,d7,d8,d9,zD,zB,zC,zA,zE,zF,hct,Bg]
   repeat ((first | (refine At ?_ ?_; (focus (simp (disch:=omega) only [go_sem,d1,d2,d3,d4,d5,d6,d7,d8,d9,zD,zB,zC,zA,zE,zF,hct,Bg]; done))) | (refine Au ?_ ?_; (focus (simp (disch:=omega) only [go_sem,d1,d2,d3,d4,d5,d6,d7,d8,d9,zD,zB,zC,zA,zE,zF,hct,Bg]; done)))); (try simp (disch:=omega) only [go_sem,d1,d2,d3,d4,d5,d6,d7,d8,d9,zD,zB,zC,zA,zE,zF,hct,Bg]))
   try first | rfl | exact ⟨rfl,rfl⟩
  | some n =>
   rw [hv] at hct
   refine Al AC Ak (of_decide_eq_true rfl) ?_
   simp (disch:=omega) only [AA,go_sem,d1,d2,d3,d4,d5,d6,d7,d8,d9,zD,zB,zC,zA,zE,zF,hct,Bg]
   repeat ((first | (refine At ?_ ?_; (focus (simp (disch:=omega) only [go_sem,d1,d2,d3,d4,d5,d6,d7,d8,d9,zD,zB,zC,zA,zE,zF,hct,Bg]; done))) | (refine Au ?_ ?_; (focus (simp (disch:=omega) only [go_sem,d1,d2,d3,d4,d5,d6,d7,d8,d9,zD,zB,zC,zA,zE,zF,hct,Bg]; done)))); (try simp (disch:=omega) only [go_sem,d1,d2,d3,d4,d5,d6,d7,d8,d9,zD,zB,zC,zA,zE,zF,hct,Bg]))
   try first | rfl | exact ⟨rfl,rfl⟩
 ·have d1:dec (x.op=1)=false:=Aj (by omega)
  have d2:dec (x.op=2)=false:=Aj (by omega)
  have d3:dec (x.op=3)=false:=Aj (by omega)
  have d4:dec (x.op=4)=true:=A1 (by omega)
  have d5:dec (x.op=5)=false:=Aj (by omega)
  have d6:dec (x.op=6)=false:=Aj (by omega)
  have d7:dec (x.op=7)=false:=Aj (by omega)
  have d8:dec (x.op=8)=false:=Aj (by omega)
  have d9:dec (x.op=9)=false:=Aj (by omega)
  obtain ⟨p,hp⟩:=Fm.I4 hfo ho
  have hp:x.parts=[p]:=by rw [hp]; rfl
  have hpl1:0<x.parts.length:=by rw [hp]; simp
  have hpe:x.parts[0]=p:=by simp [hp]
  have hgp:=get_at Fm.d hpl1
  rw [Fm.d_eq,hpe] at hgp
  have hpn:=Fm.nodes_mem (y:=p) (xs:=x.parts) (by rw [hp]; simp)
  have hc:=ih p (by rw [hp]; simp) a (by omega) he
  unfold TrC at hc
  rw [Fm.JD ho hp]
  cases hv:p.tr m (asg a) with
  | none =>
   rw [hv] at hc
   refine Al AC Ak (of_decide_eq_true rfl) ?_
   simp (disch:=omega) only [AA,go_sem,d1,d2,d3,d4,d5,d6,d7,d8,d9,zD,zB,zC,zA,zE,zF,hgp,hc,Ak]
   repeat ((first | (refine At ?_ ?_; (focus (simp (disch:=omega) only [go_sem,d1,d2,d3,d4,d5,d6,d7,d8,d9,zD,zB,zC,zA,zE,zF,hgp,hc,Ak]; done))) | (refine Au ?_ ?_; (focus (simp (disch:=omega) only [go_sem,d1,d2,d3,d4,d5,d6,d7,d8,d9,zD,zB,zC,zA,zE,zF,hgp,hc,Ak]; done)))); (try simp (disch:=omega) only [go_sem,d1,d2,d3,d4,d5,d6,d7,d8,d9,zD,zB,zC,zA,zE,zF,hgp,hc,Ak]))
   try first | rfl | exact ⟨rfl,rfl⟩
  | some n =>
   rw [hv] at hc
   refine Al AC Ak (of_decide_eq_true rfl) ?_
   simp (disch:=omega) only [AA,go_sem,d1,d2,d3,d4,d5,d6,d7,d8,d9,zD,zB,zC,zA,zE,zF,hgp,hc,Ak]
   repeat ((first | (refine At ?_ ?_; (focus (simp (disch:=omega) only [go_sem,d1,d2,d3,d4,d5,d6,d7,d8,d9,zD,zB,zC,zA,zE,zF,hgp,hc,Ak]; done))) | (refine Au ?_ ?_; (focus (simp (disch:=omega) only [go_sem,d1,d2,d3,d4,d5,d6,d7,d8,d9,zD,zB,zC,zA,zE,zF,hgp,hc,Ak]; done)))); (try simp (disch:=omega) only [go_sem,d1,d2,d3,d4,d5,d6,d7,d8,d9,zD,zB,zC,zA,zE,zF,hgp,hc,Ak]))
   try first | rfl | exact ⟨rfl,rfl⟩
 ·have d1:dec (x.op=1)=false:=Aj (by omega)
  have d2:dec (x.op=2)=false:=Aj (by omega)
  have d3:dec (x.op=3)=false:=Aj (by omega)
  have d4:dec (x.op=4)=false:=Aj (by omega)
  have d5:dec (x.op=5)=true:=A1 (by omega)
  have d6:dec (x.op=6)=false:=Aj (by omega)
  have d7:dec (x.op=7)=false:=Aj (by omega)
  have d8:dec (x.op=8)=false:=Aj (by omega)
  have d9:dec (x.op=9)=false:=Aj (by omega)
  obtain ⟨p,q,hp⟩:=Fm.EK hfo (by omega)
  have hp:x.parts=[p,q]:=by rw [hp]; rfl
  have hpl2:1<x.parts.length:=by rw [hp]; simp
  have hpl1:0<x.parts.length:=by omega
  have hpe:x.parts[0]=p:=by simp [hp]
  have hqe:x.parts[1]=q:=by simp [hp]
  have hgp:=get_at Fm.d hpl1
  have hgq:=get_at Fm.d hpl2
  rw [Fm.d_eq,hpe] at hgp
  rw [Fm.d_eq,hqe] at hgq
  have hpn:=Fm.nodes_mem (y:=p) (xs:=x.parts) (by rw [hp]; simp)
  have hqn:=Fm.nodes_mem (y:=q) (xs:=x.parts) (by rw [hp]; simp)
  have hc1:=ih p (by rw [hp]; simp) a (by omega) he
  have hc2:=ih q (by rw [hp]; simp) a (by omega) he
  unfold TrC at hc1 hc2
  rw [Fm.Gn (by omega) hp]
  cases hv1:p.tr m (asg a) with
  | none =>
   rw [hv1] at hc1
   refine Al AC Ak (of_decide_eq_true rfl) ?_
   simp (disch:=omega) only [AA,go_sem,d1,d2,d3,d4,d5,d6,d7,d8,d9,zD,zB,zC,zA,zE,zF,hgp,hgq,hc1,hc2,Ak]
   repeat ((first | (refine At ?_ ?_; (focus (simp (disch:=omega) only [go_sem,d1,d2,d3,d4,d5,d6,d7,d8,d9,zD,zB,zC,zA,zE,zF,hgp,hgq,hc1,hc2,Ak]; done))) | (refine Au ?_ ?_; (focus (simp (disch:=omega) only [go_sem,d1,d2,d3,d4,d5,d6,d7,d8,d9,zD,zB,zC,zA,zE,zF,hgp,hgq,hc1,hc2,Ak]; done)))); (try simp (disch:=omega) only [go_sem,d1,d2,d3,d4,d5,d6,d7,d8,d9,zD,zB,zC,zA,zE,zF,hgp,hgq,hc1,hc2,Ak]))
   try first | rfl | exact ⟨rfl,rfl⟩
  | some u =>
   rw [hv1] at hc1
   cases hv2:q.tr m (asg a) with
   | none =>
    rw [hv2] at hc2
    refine Al AC Ak (of_decide_eq_true rfl) ?_
    simp (disch:=omega) only [AA,go_sem,d1,d2,d3,d4,d5,d6,d7,d8,d9,zD,zB,zC,zA,zE,zF,hgp,hgq,hc1,hc2,Ak]
    repeat ((first | (refine At ?_ ?_; (focus (simp (disch:=omega) only [go_sem,d1,d2,d3,d4,d5,d6,d7,d8,d9,zD,zB,zC,zA,zE,zF,hgp,hgq,hc1,hc2,Ak]; done))) | (refine Au ?_ ?_; (focus (simp (disch:=omega) only [go_sem,d1,d2,d3,d4,d5,d6,d7,d8,d9,zD,zB,zC,zA,zE,zF,hgp,hgq,hc1,hc2,Ak]; done)))); (try simp (disch:=omega) only [go_sem,d1,d2,d3,d4,d5,d6,d7,d8,d9,zD,zB,zC,zA,zE,zF,hgp,hgq,hc1,hc2,Ak]))
    try first | rfl | exact ⟨rfl,rfl⟩
   | some v =>
    rw [hv2] at hc2
    unfold two conn
    rw [d5,d6]
    cases u
    ·refine Al AC Ak (of_decide_eq_true rfl) ?_
     simp (disch:=omega) only [AA,go_sem,d1,d2,d3,d4,d5,d6,d7,d8,d9,zD,zB,zC,zA,zE,zF,hgp,hgq,hc1,hc2,Ak]
     repeat ((first | (refine At ?_ ?_; (focus (simp (disch:=omega) only [go_sem,d1,d2,d3,d4,d5,d6,d7,d8,d9,zD,zB,zC,zA,zE,zF,hgp,hgq,hc1,hc2,Ak]; done))) | (refine Au ?_ ?_; (focus (simp (disch:=omega) only [go_sem,d1,d2,d3,d4,d5,d6,d7,d8,d9,zD,zB,zC,zA,zE,zF,hgp,hgq,hc1,hc2,Ak]; done)))); (try simp (disch:=omega) only [go_sem,d1,d2,d3,d4,d5,d6,d7,d8,d9,zD,zB,zC,zA,zE,zF,hgp,hgq,hc1,hc2,Ak]))
     try first | rfl | exact ⟨rfl,rfl⟩
    ·refine Al AC Ak (of_decide_eq_true rfl) ?_
     simp (disch:=omega) only [AA,go_sem,d1,d2,d3,d4,d5,d6,d7,d8,d9,zD,zB,zC,zA,zE,zF,hgp,hgq,hc1,hc2,Ak]
     repeat ((first | (refine At ?_ ?_; (focus (simp (disch:=omega) only [go_sem,d1,d2,d3,d4,d5,d6,d7,d8,d9,zD,zB,zC,zA,zE,zF,hgp,hgq,hc1,hc2,Ak]; done))) | (refine Au ?_ ?_; (focus (simp (disch:=omega) only [go_sem,d1,d2,d3,d4,d5,d6,d7,d8,d9,zD,zB,zC,zA,zE,zF,hgp,hgq,hc1,hc2,Ak]; done)))); (try simp (disch:=omega) only [go_sem,d1,d2,d3,d4,d5,d6,d7,d8,d9,zD,zB,zC,zA,zE,zF,hgp,hgq,hc1,hc2,Ak]))
     try first | rfl | exact ⟨rfl,rfl⟩
 ·have d1:dec (x.op=1)=false:=Aj (by omega)
  have d2:dec (x.op=2)=false:=Aj (by omega)
  have d3:dec (x.op=3)=false:=Aj (by omega)
  have d4:dec (x.op=4)=false:=Aj (by omega)
  have d5:dec (x.op=5)=false:=Aj (by omega)
  have d6:dec (x.op=6)=true:=A1 (by omega)
  have d7:dec (x.op=7)=false:=Aj (by omega)
  have d8:dec (x.op=8)=false:=Aj (by omega)
  have d9:dec (x.op=9)=false:=Aj (by omega)
  obtain ⟨p,q,hp⟩:=Fm.EK hfo (by omega)
  have hp:x.parts=[p,q]:=by rw [hp]; rfl
  have hpl2:1<x.parts.length:=by rw [hp]; simp
  have hpl1:0<x.parts.length:=by omega
  have hpe:x.parts[0]=p:=by simp [hp]
  have hqe:x.parts[1]=q:=by simp [hp]
  have hgp:=get_at Fm.d hpl1
  have hgq:=get_at Fm.d hpl2
  rw [Fm.d_eq,hpe] at hgp
  rw [Fm.d_eq,hqe] at hgq
  have hpn:=Fm.nodes_mem (y:=p) (xs:=x.parts) (by rw [hp]; simp)
  have hqn:=Fm.nodes_mem (y:=q) (xs:=x.parts) (by rw [hp]; simp)
  have hc1:=ih p (by rw [hp]; simp) a (by omega) he
  have hc2:=ih q (by rw [hp]; simp) a (by omega) he
  unfold TrC at hc1 hc2
  rw [Fm.Gn (by omega) hp]
  cases hv1:p.tr m (asg a) with
  | none =>
   rw [hv1] at hc1
   refine Al AC Ak (of_decide_eq_true rfl) ?_
   simp (disch:=omega) only [AA,go_sem,d1,d2,d3,d4,d5,d6,d7,d8,d9,zD,zB,zC,zA,zE,zF,hgp,hgq,hc1,hc2,Ak]
   repeat ((first | (refine At ?_ ?_; (focus (simp (disch:=omega) only [go_sem,d1,d2,d3,d4,d5,d6,d7,d8,d9,zD,zB,zC,zA,zE,zF,hgp,hgq,hc1,hc2,Ak]; done))) | (refine Au ?_ ?_; (focus (simp (disch:=omega) only [go_sem,d1,d2,d3,d4,d5,d6,d7,d8,d9,zD,zB,zC,zA,zE,zF,hgp,hgq,hc1,hc2,Ak]; done)))); (try simp (disch:=omega) only [go_sem,d1,d2,d3,d4,d5,d6,d7,d8,d9,zD,zB,zC,zA,zE,zF,hgp,hgq,hc1,hc2,Ak]))
   try first | rfl | exact ⟨rfl,rfl⟩
  | some u =>
   rw [hv1] at hc1
   cases hv2:q.tr m (asg a) with
   | none =>
    rw [hv2] at hc2
    refine Al AC Ak (of_decide_eq_true rfl) ?_
    simp (disch:=omega) only [AA,go_sem,d1,d2,d3,d4,d5,d6,d7,d8,d9,zD,zB,zC,zA,zE,zF,hgp,hgq,hc1,hc2,Ak]
    repeat ((first | (refine At ?_ ?_; (focus (simp (disch:=omega) only [go_sem,d1,d2,d3,d4,d5,d6,d7,d8,d9,zD,zB,zC,zA,zE,zF,hgp,hgq,hc1,hc2,Ak]; done))) | (refine Au ?_ ?_; (focus (simp (disch:=omega) only [go_sem,d1,d2,d3,d4,d5,d6,d7,d8,d9,zD,zB,zC,zA,zE,zF,hgp,hgq,hc1,hc2,Ak]; done)))); (try simp (disch:=omega) only [go_sem,d1,d2,d3,d4,d5,d6,d7,d8,d9,zD,zB,zC,zA,zE,zF,hgp,hgq,hc1,hc2,Ak]))
    try first | rfl | exact ⟨rfl,rfl⟩
   | some v =>
    rw [hv2] at hc2
    unfold two conn
    rw [d5,d6]
    cases u
    ·refine Al AC Ak (of_decide_eq_true rfl) ?_
     simp (disch:=omega) only [AA,go_sem,d1,d2,d3,d4,d5,d6,d7,d8,d9,zD,zB,zC,zA,zE,zF,hgp,hgq,hc1,hc2,Ak]
     repeat ((first | (refine At ?_ ?_; (focus (simp (disch:=omega) only [go_sem,d1,d2,d3,d4,d5,d6,d7,d8,d9,zD,zB,zC,zA,zE,zF,hgp,hgq,hc1,hc2,Ak]; done))) | (refine Au ?_ ?_; (focus (simp (disch:=omega) only [go_sem,d1,d2,d3,d4,d5,d6,d7,d8,d9,zD,zB,zC,zA,zE,zF,hgp,hgq,hc1,hc2,Ak]; done)))); (try simp (disch:=omega) only [go_sem,d1,d2,d3,d4,d5,d6,d7,d8,d9,zD,zB,zC,zA,zE,zF,hgp,hgq,hc1,hc2,Ak]))
     try first | rfl | exact ⟨rfl,rfl⟩
    ·refine Al AC Ak (of_decide_eq_true rfl) ?_
     simp (disch:=omega) only [AA,go_sem,d1,d2,d3,d4,d5,d6,d7,d8,d9,zD,zB,zC,zA,zE,zF,hgp,hgq,hc1,hc2,Ak]
     repeat ((first | (refine At ?_ ?_; (focus (simp (disch:=omega) only [go_sem,d1,d2,d3,d4,d5,d6,d7,d8,d9,zD,zB,zC,zA,zE,zF,hgp,hgq,hc1,hc2,Ak]; done))) | (refine Au ?_ ?_; (focus (simp (disch:=omega) only [go_sem,d1,d2,d3,d4,d5,d6,d7,d8,d9,zD,zB,zC,zA,zE,zF,hgp,hgq,hc1,hc2,Ak]; done)))); (try simp (disch:=omega) only [go_sem,d1,d2,d3,d4,d5,d6,d7,d8,d9,zD,zB,zC,zA,zE,zF,hgp,hgq,hc1,hc2,Ak]))
     try first | rfl | exact ⟨rfl,rfl⟩
 ·have d1:dec (x.op=1)=false:=Aj (by omega)
  have d2:dec (x.op=2)=false:=Aj (by omega)
  have d3:dec (x.op=3)=false:=Aj (by omega)
  have d4:dec (x.op=4)=false:=Aj (by omega)
  have d5:dec (x.op=5)=false:=Aj (by omega)
  have d6:dec (x.op=6)=false:=Aj (by omega)
  have d7:dec (x.op=7)=true:=A1 (by omega)
  have d8:dec (x.op=8)=false:=Aj (by omega)
  have d9:dec (x.op=9)=false:=Aj (by omega)
  obtain ⟨p,q,hp⟩:=Fm.EK hfo (by omega)
  have hp:x.parts=[p,q]:=by rw [hp]; rfl
  have hpl2:1<x.parts.length:=by rw [hp]; simp
  have hpl1:0<x.parts.length:=by omega
  have hpe:x.parts[0]=p:=by simp [hp]
  have hqe:x.parts[1]=q:=by simp [hp]
  have hgp:=get_at Fm.d hpl1
  have hgq:=get_at Fm.d hpl2
  rw [Fm.d_eq,hpe] at hgp
  rw [Fm.d_eq,hqe] at hgq
  have hpn:=Fm.nodes_mem (y:=p) (xs:=x.parts) (by rw [hp]; simp)
  have hqn:=Fm.nodes_mem (y:=q) (xs:=x.parts) (by rw [hp]; simp)
  have hc1:=ih p (by rw [hp]; simp) a (by omega) he
  have hc2:=ih q (by rw [hp]; simp) a (by omega) he
  unfold TrC at hc1 hc2
  rw [Fm.Gn (by omega) hp]
  cases hv1:p.tr m (asg a) with
  | none =>
   rw [hv1] at hc1
   refine Al AC Ak (of_decide_eq_true rfl) ?_
   simp (disch:=omega) only [AA,go_sem,d1,d2,d3,d4,d5,d6,d7,d8,d9,zD,zB,zC,zA,zE,zF,hgp,hgq,hc1,hc2,Ak]
   repeat ((first | (refine At ?_ ?_; (focus (simp (disch:=omega) only [go_sem,d1,d2,d3,d4,d5,d6,d7,d8,d9,zD,zB,zC,zA,zE,zF,hgp,hgq,hc1,hc2,Ak]; done))) | (refine Au ?_ ?_; (focus (simp (disch:=omega) only [go_sem,d1,d2,d3,d4,d5,d6,d7,d8,d9,zD,zB,zC,zA,zE,zF,hgp,hgq,hc1,hc2,Ak]; done)))); (try simp (disch:=omega) only [go_sem,d1,d2,d3,d4,d5,d6,d7,d8,d9,zD,zB,zC,zA,zE,zF,hgp,hgq,hc1,hc2,Ak]))
   try first | rfl | exact ⟨rfl,rfl⟩
  | some u =>
   rw [hv1] at hc1
   cases hv2:q.tr m (asg a) with
   | none =>
    rw [hv2] at hc2
    refine Al AC Ak (of_decide_eq_true rfl) ?_
    simp (disch:=omega) only [AA,go_sem,d1,d2,d3,d4,d5,d6,d7,d8,d9,zD,zB,zC,zA,zE,zF,hgp,hgq,hc1,hc2,Ak]
    repeat ((first | (refine At ?_ ?_; (focus (simp (disch:=omega) only [go_sem,d1,d2,d3,d4,d5,d6,d7,d8,d9,zD,zB,zC,zA,zE,zF,hgp,hgq,hc1,hc2,Ak]; done))) | (refine Au ?_ ?_; (focus (simp (disch:=omega) only [go_sem,d1,d2,d3,d4,d5,d6,d7,d8,d9,zD,zB,zC,zA,zE,zF,hgp,hgq,hc1,hc2,Ak]; done)))); (try simp (disch:=omega) only [go_sem,d1,d2,d3,d4,d5,d6,d7,d8,d9,zD,zB,zC,zA,zE,zF,hgp,hgq,hc1,hc2,Ak]))
    try first | rfl | exact ⟨rfl,rfl⟩
   | some v =>
    rw [hv2] at hc2
    unfold two conn
    rw [d5,d6]
    cases u
    ·refine Al AC Ak (of_decide_eq_true rfl) ?_
     simp (disch:=omega) only [AA,go_sem,d1,d2,d3,d4,d5,d6,d7,d8,d9,zD,zB,zC,zA,zE,zF,hgp,hgq,hc1,hc2,Ak]
     repeat ((first | (refine At ?_ ?_; (focus (simp (disch:=omega) only [go_sem,d1,d2,d3,d4,d5,d6,d7,d8,d9,zD,zB,zC,zA,zE,zF,hgp,hgq,hc1,hc2,Ak]; done))) | (refine Au ?_ ?_; (focus (simp (disch:=omega) only [go_sem,d1,d2,d3,d4,d5,d6,d7,d8,d9,zD,zB,zC,zA,zE,zF,hgp,hgq,hc1,hc2,Ak]; done)))); (try simp (disch:=omega) only [go_sem,d1,d2,d3,d4,d5,d6,d7,d8,d9,zD,zB,zC,zA,zE,zF,hgp,hgq,hc1,hc2,Ak]))
     try first | rfl | exact ⟨rfl,rfl⟩
    ·refine Al AC Ak (of_decide_eq_true rfl) ?_
     simp (disch:=omega) only [AA,go_sem,d1,d2,d3,d4,d5,d6,d7,d8,d9,zD,zB,zC,zA,zE,zF,hgp,hgq,hc1,hc2,Ak]
     repeat ((first | (refine At ?_ ?_; (focus (simp (disch:=omega) only [go_sem,d1,d2,d3,d4,d5,d6,d7,d8,d9,zD,zB,zC,zA,zE,zF,hgp,hgq,hc1,hc2,Ak]; done))) | (refine Au ?_ ?_; (focus (simp (disch:=omega) only [go_sem,d1,d2,d3,d4,d5,d6,d7,d8,d9,zD,zB,zC,zA,zE,zF,hgp,hgq,hc1,hc2,Ak]; done)))); (try simp (disch:=omega) only [go_sem,d1,d2,d3,d4,d5,d6,d7,d8,d9,zD,zB,zC,zA,zE,zF,hgp,hgq,hc1,hc2,Ak]))
     try first | rfl | exact ⟨rfl,rfl⟩
 ·have d1:dec (x.op=1)=false:=Aj (by omega)
  have d2:dec (x.op=2)=false:=Aj (by omega)
  have d3:dec (x.op=3)=false:=Aj (by omega)
  have d4:dec (x.op=4)=false:=Aj (by omega)
  have d5:dec (x.op=5)=false:=Aj (by omega)
  have d6:dec (x.op=6)=false:=Aj (by omega)
  have d7:dec (x.op=7)=false:=Aj (by omega)
  have d8:dec (x.op=8)=true:=A1 (by omega)
  have d9:dec (x.op=9)=false:=Aj (by omega)
  obtain ⟨p,hp⟩:=Fm.JC hfo (by omega)
  have hp:x.parts=[p]:=by rw [hp]; rfl
  have hpn:=Fm.nodes_mem (y:=p) (xs:=x.parts) (by rw [hp]; simp)
  have hc:=Ht m hm x p (by omega) hp a (by omega) he fun k k0 k1=>ih p (by rw [hp]; simp) _ (by have:=KS x.var k a; omega) (by rw [Ku]; exact Kj he k0 k1 _)
  generalize x.tr m (asg a)=r at *
  refine Al AC Ak (of_decide_eq_true rfl) ?_
  simp (disch:=omega) only [AA,go_sem,d1,d2,d3,d4,d5,d6,d7,d8,d9,zD,zB,zC,zA,zE,zF,hc,Bw]
  repeat ((first | (refine At ?_ ?_; (focus (simp (disch:=omega) only [go_sem,d1,d2,d3,d4,d5,d6,d7,d8,d9,zD,zB,zC,zA,zE,zF,hc,Bw]; done))) | (refine Au ?_ ?_; (focus (simp (disch:=omega) only [go_sem,d1,d2,d3,d4,d5,d6,d7,d8,d9,zD,zB,zC,zA,zE,zF,hc,Bw]; done)))); (try simp (disch:=omega) only [go_sem,d1,d2,d3,d4,d5,d6,d7,d8,d9,zD,zB,zC,zA,zE,zF,hc,Bw]))
  try first | rfl | exact ⟨rfl,rfl⟩
 ·have d1:dec (x.op=1)=false:=Aj (by omega)
  have d2:dec (x.op=2)=false:=Aj (by omega)
  have d3:dec (x.op=3)=false:=Aj (by omega)
  have d4:dec (x.op=4)=false:=Aj (by omega)
  have d5:dec (x.op=5)=false:=Aj (by omega)
  have d6:dec (x.op=6)=false:=Aj (by omega)
  have d7:dec (x.op=7)=false:=Aj (by omega)
  have d8:dec (x.op=8)=false:=Aj (by omega)
  have d9:dec (x.op=9)=true:=A1 (by omega)
  obtain ⟨p,hp⟩:=Fm.JC hfo (by omega)
  have hp:x.parts=[p]:=by rw [hp]; rfl
  have hpn:=Fm.nodes_mem (y:=p) (xs:=x.parts) (by rw [hp]; simp)
  have hc:=Ht m hm x p (by omega) hp a (by omega) he fun k k0 k1=>ih p (by rw [hp]; simp) _ (by have:=KS x.var k a; omega) (by rw [Ku]; exact Kj he k0 k1 _)
  generalize x.tr m (asg a)=r at *
  refine Al AC Ak (of_decide_eq_true rfl) ?_
  simp (disch:=omega) only [AA,go_sem,d1,d2,d3,d4,d5,d6,d7,d8,d9,zD,zB,zC,zA,zE,zF,hc,Bw]
  repeat ((first | (refine At ?_ ?_; (focus (simp (disch:=omega) only [go_sem,d1,d2,d3,d4,d5,d6,d7,d8,d9,zD,zB,zC,zA,zE,zF,hc,Bw]; done))) | (refine Au ?_ ?_; (focus (simp (disch:=omega) only [go_sem,d1,d2,d3,d4,d5,d6,d7,d8,d9,zD,zB,zC,zA,zE,zF,hc,Bw]; done)))); (try simp (disch:=omega) only [go_sem,d1,d2,d3,d4,d5,d6,d7,d8,d9,zD,zB,zC,zA,zE,zF,hc,Bw]))
  try first | rfl | exact ⟨rfl,rfl⟩
theorem Nl (m:Ip) (hm:m.ok=true) (ht:m.tame) (x:Fm) (hx:x.forms=true):Vo m x :=
 Q3 m hm ht x hx fun y hy=>Nl m hm ht y (Fm.CY hx hy)
termination_by SizeOf.sizeOf x
decreasing_by exact Fm.lt_of_mem hy
def BN:SC:=(.seq (.reg [⟨some 3,none,.boxv 26 2 (.t 0)⟩,⟨some 5,none,.boxv 33 5 (.t 2)⟩,⟨some 6,none,.mv (.c (.bool false))⟩,⟨some 7,none,.mv (.c (.bool false))⟩]) (.seq (.reg [⟨some 11,none,.load true 2 (.t 3)⟩,⟨some 12,none,.mv (.t 1)⟩,⟨some 13,none,.call 19 [(.t 11),(.t 12)]⟩,⟨some 10,none,.mv (.t 13)⟩,⟨some 14,none,.ext (.t 10) 0⟩,⟨some 15,none,.ext (.t 10) 1⟩,⟨some 8,none,.mv (.t 14)⟩,⟨some 9,none,.mv (.t 15)⟩]) (.seq (.seq (.reg [⟨some 16,none,.load true 2 (.t 3)⟩,⟨some 17,none,.call 20 [(.t 16)]⟩,⟨some 18,none,.un .not (.t 17)⟩,⟨some 19,none,.mv (.t 18)⟩,⟨(some 20),(some (19,false)),(.mv (.t 9))⟩,⟨(some 21),(some (19,false)),(.un .not (.t 20))⟩,⟨some 22,none,.pick (.t 19) (.c (.bool true)) (.t 21)⟩,⟨some 23,none,.mv (.t 22)⟩,⟨(some 24),(some (23,false)),(.load true 5 (.t 5))⟩,⟨(some 25),(some (23,false)),(.call 21 [(.t 24)])⟩,⟨(some 26),(some (23,false)),(.un .not (.t 25))⟩,⟨some 27,none,.pick (.t 23) (.c (.bool true)) (.t 26)⟩,⟨some 28,none,.mv (.t 27)⟩,⟨(some 29),(some (28,false)),(.load true 2 (.t 3))⟩,⟨(some 30),(some (28,false)),(.load true 5 (.t 5))⟩,⟨(some 31),(some (28,false)),(.mv (.t 8))⟩,⟨(some 32),(some (28,false)),(.call 22 [(.t 29),(.t 30),(.t 31)])⟩,⟨(some 33),(some (28,false)),(.un .not (.t 32))⟩,⟨some 34,none,.pick (.t 28) (.c (.bool true)) (.t 33)⟩]) (.cond (.t 34) (.seq (.reg [⟨some 6,none,.mv (.c (.bool false))⟩,⟨some 7,none,.mv (.c (.bool false))⟩]) .ret) .skip)) (.seq (.reg [⟨some 35,none,.load true 2 (.t 3)⟩,⟨some 36,none,.load true 5 (.t 5)⟩,⟨some 37,none,.mv (.t 8)⟩,⟨some 38,none,.call 23 [(.t 35),(.t 36),(.t 37)]⟩,⟨some 6,none,.mv (.t 38)⟩,⟨some 7,none,.mv (.c (.bool true))⟩]) .ret))))
theorem Co:As Tryz.prog 7=some ⟨39,BN,[(.tmp 6),(.tmp 7)]⟩:=by kernel_rfl
theorem AK:modes 7=⟨[],.asis,none,false⟩:=by unfold modes; rfl
def Cp:SC:=(.seq (.reg [⟨some 3,none,.boxv 26 2 (.t 0)⟩,⟨some 5,none,.boxv 33 5 (.t 2)⟩,⟨some 6,none,.mv (.c (.bool false))⟩,⟨some 7,none,.mv (.c (.bool false))⟩]) (.seq (.seq (.reg [⟨some 8,none,.load true 2 (.t 3)⟩,⟨some 9,none,.call 24 [(.t 8)]⟩,⟨some 10,none,.un .not (.t 9)⟩,⟨some 11,none,.mv (.t 10)⟩,⟨(some 12),(some (11,false)),(.load true 2 (.t 3))⟩,⟨(some 13),(some (11,false)),(.mv (.t 1))⟩,⟨(some 14),(some (11,false)),(.call 25 [(.t 12),(.t 13)])⟩,⟨(some 15),(some (11,false)),(.un .not (.t 14))⟩,⟨some 16,none,.pick (.t 11) (.c (.bool true)) (.t 15)⟩,⟨some 17,none,.mv (.t 16)⟩,⟨(some 18),(some (17,false)),(.load true 5 (.t 5))⟩,⟨(some 19),(some (17,false)),(.call 26 [(.t 18)])⟩,⟨(some 20),(some (17,false)),(.un .not (.t 19))⟩,⟨some 21,none,.pick (.t 17) (.c (.bool true)) (.t 20)⟩]) (.cond (.t 21) (.seq (.reg [⟨some 6,none,.mv (.c (.bool false))⟩,⟨some 7,none,.mv (.c (.bool false))⟩]) .ret) .skip)) (.seq (.reg [⟨some 22,none,.load true 2 (.t 3)⟩,⟨some 23,none,.mv (.t 1)⟩,⟨some 24,none,.load true 5 (.t 5)⟩,⟨some 25,none,.call 27 [(.t 22),(.t 23),(.t 24)]⟩,⟨some 26,none,.ext (.t 25) 0⟩,⟨some 27,none,.ext (.t 25) 1⟩,⟨some 6,none,.mv (.t 26)⟩,⟨some 7,none,.mv (.t 27)⟩]) .ret)))
theorem CH:As Tryz.prog 8=some ⟨28,Cp,[(.tmp 6),(.tmp 7)]⟩:=by kernel_rfl
theorem AU:modes 8=⟨[],.asis,none,false⟩:=by unfold modes; rfl
noncomputable def evF (m:Ip) (xs:List Ag) (x:Fm):Option Bool:=bif m.ok&&(Kk m.size xs&&x.valid) then x.tr m (asg xs) else none
theorem Fm.Lu {x:Fm} (h:x.valid=true):x.nodes≤40∧x.forms=true:=by
 unfold Fm.valid at h
 rw [zR,decide_eq_true_eq] at h
 exact h
theorem G9 (m:Ip) (hm:m.tame) (xs:List Ag) (hl:xs.length≤1048576) (x:Fm) (hta:x.tame) (hn:x.nodes≤1099511627776):E 7 [m.sv,.arr (xs.map Ag.d),x.sv] []=some (Vn (evF m xs x),[]):=by
 have v:=Hm m hm
 have vt:=KR x hta hn
 have hxs:x.sv=.agg [.int .i64 x.op,.str x.atom.name,.arr (x.atom.args.map Tm.d),.str x.var,.arr (x.parts.map Fm.d)]:=rfl
 unfold evF
 cases hk:m.ok with
 | false =>
  rw [hk] at v
  obtain ⟨f,b,ha⟩:=L6 m xs (by omega)
  refine Al Co AK (of_decide_eq_true rfl) ?_
  simp (disch:=omega) only [BN,go_sem,Ab,v,vt,ha,AN,AV,BC]
  try first | rfl | exact ⟨rfl,rfl⟩
 | true =>
  rw [hk] at v
  have ha:=N2 m (Ip.D4 hk).1 xs (by omega)
  cases hg:Kk m.size xs with
  | false =>
   rw [hg] at ha
   refine Al Co AK (of_decide_eq_true rfl) ?_
   simp (disch:=omega) only [BN,go_sem,Ab,v,vt,ha,AN,AV,BC]
   try first | rfl | exact ⟨rfl,rfl⟩
  | true =>
   rw [hg] at ha
   cases ht:x.valid with
   | false =>
    rw [ht] at vt
    refine Al Co AK (of_decide_eq_true rfl) ?_
    simp (disch:=omega) only [BN,go_sem,Ab,v,vt,ha,AN,AV,BC]
    try first | rfl | exact ⟨rfl,rfl⟩
   | true =>
    rw [ht] at vt
    obtain ⟨hn40,hfo⟩:=Fm.Lu ht
    have he:=Rt (OY hg).2
    have hc:=Jn m hk hm x hfo (by omega) (asg xs) he (FinE.asg xs)
    have hh:=S4 m hk hm x hfo (by omega) (asg xs) he (FinE.asg xs)
    unfold CaC at hc
    unfold HoC at hh
    cases hv:x.tr m (asg xs) with
    | none =>
     rw [hv] at hc
     refine Al Co AK (of_decide_eq_true rfl) ?_
     simp (disch:=omega) only [BN,go_sem,Ab,v,vt,ha,AN,AV,BC,hc,AW,zB,zA,zC,zD]
     try first | rfl | exact ⟨rfl,rfl⟩
    | some b =>
     rw [hv] at hc
     have hh:=hh b hv
     refine Al Co AK (of_decide_eq_true rfl) ?_
     simp (disch:=omega) only [BN,go_sem,Ab,v,vt,ha,AN,AV,BC,hc,hh,AW,Ah,zB,zA,zC,zD]
     try first | rfl | exact ⟨rfl,rfl⟩
theorem F2 (m:Ip) (hm:m.tame) (xs:List Ag) (hl:xs.length≤1048576) (x:Fm) (hta:x.tame) (hn:x.nodes≤1099511627776):E 8 [m.sv,.arr (xs.map Ag.d),x.sv] []=some (Vn (evF m xs x),[]):=by
 have v:=Tv m hm
 have vt:=Vi x hta hn
 have hxs:x.sv=.agg [.int .i64 x.op,.str x.atom.name,.arr (x.atom.args.map Tm.d),.str x.var,.arr (x.parts.map Fm.d)]:=rfl
 unfold evF
 cases hk:m.ok with
 | false =>
  rw [hk] at v
  refine Al CH AU (of_decide_eq_true rfl) ?_
  simp (disch:=omega) only [Cp,go_sem,Ab,v,vt,CL,C6,DB]
  try first | rfl | exact ⟨rfl,rfl⟩
 | true =>
  rw [hk] at v
  have ha:=L5 m (Ip.D4 hk).1 xs (by omega)
  cases hg:Kk m.size xs with
  | false =>
   rw [hg] at ha
   refine Al CH AU (of_decide_eq_true rfl) ?_
   simp (disch:=omega) only [Cp,go_sem,Ab,v,vt,ha,CL,C6,DB]
   try first | rfl | exact ⟨rfl,rfl⟩
  | true =>
   rw [hg] at ha
   cases ht:x.valid with
   | false =>
    rw [ht] at vt
    refine Al CH AU (of_decide_eq_true rfl) ?_
    simp (disch:=omega) only [Cp,go_sem,Ab,v,vt,ha,CL,C6,DB]
    try first | rfl | exact ⟨rfl,rfl⟩
   | true =>
    rw [ht] at vt
    obtain ⟨hn40,hfo⟩:=Fm.Lu ht
    have hc:=Nl m hk hm x hfo xs (by omega) (Rt (OY hg).2)
    unfold TrC at hc
    generalize x.tr m (asg xs)=r at *
    refine Al CH AU (of_decide_eq_true rfl) ?_
    simp (disch:=omega) only [Cp,go_sem,Ab,v,vt,ha,CL,C6,DB,hc,Ak]
    try first | rfl | exact ⟨rfl,rfl⟩
def Lv:SC:=(.seq (.reg [⟨some 2,none,.mv (.c (.bool false))⟩]) (.seq (.reg [⟨some 3,none,.mv (.t 0)⟩,⟨some 4,none,.len false (.t 3)⟩,⟨some 5,none,.bin .gtr false (.t 4) (.c (.int .i64 65536))⟩,⟨some 2,none,.mv (.t 5)⟩]) .ret))
theorem Q4:As Tryz.prog 5=some ⟨6,Lv,[(.tmp 2)]⟩:=by kernel_rfl
theorem DV:modes 5=⟨[],.asis,none,false⟩:=by unfold modes; rfl
def DW:SC:=(.seq (.reg [⟨some 2,none,.alloc 26 [(.int .i64 0),.nil]⟩,⟨some 3,none,.mv (.c .nil)⟩,⟨(some 4),none,(.alloc 33 [(.int .i64 0),(.str ⟨#[]⟩),.nil,(.str ⟨#[]⟩),.nil])⟩]) (.seq (.reg [⟨some 8,none,.mv (.t 0)⟩,⟨some 9,none,.build [.nil,(.int .i64 0),(.int .u64 0)] [(0,(1,(.t 8)))]⟩,⟨some 10,none,.boxv 53 3 (.t 9)⟩,⟨some 5,none,.mv (.t 10)⟩]) (.seq (.reg [⟨some 11,none,.mv (.t 5)⟩,⟨some 12,none,.call 16 [(.t 11)]⟩,⟨some 6,none,.alloc 26 [(.int .i64 0),.nil]⟩,⟨none,none,(.store 2 (.t 6) (.t 12))⟩]) (.seq (.reg [⟨some 13,none,.mv (.t 5)⟩,⟨some 14,none,.faddr 0 (.t 6)⟩,⟨some 15,none,.load false 1 (.t 14)⟩,⟨some 16,none,.call 17 [(.t 13),(.t 15)]⟩,⟨some 7,none,.mv (.t 16)⟩]) (.seq (.dreg [[],[],[],[2],[0,3,2],[1,4,0,3,2],[3,2,5,1,4,0]] [⟨some 17,none,.load true 2 (.t 6)⟩,⟨some 18,none,.mv (.t 7)⟩,⟨some 19,none,.mv (.t 5)⟩,⟨some 20,none,.call 18 [(.t 19)]⟩,⟨none,none,(.store 2 (.t 2) (.t 17))⟩,⟨some 3,none,.mv (.t 18)⟩,⟨none,none,(.store 5 (.t 4) (.t 20))⟩]) .ret)))))
theorem Gs:As Tryz.prog 6=some ⟨21,DW,[(.cell 2 true 2),(.tmp 3),(.cell 4 true 5)]⟩:=by kernel_rfl
theorem Bm:modes 6=⟨[],.frz,none,false⟩:=by unfold modes; rfl
def BO:SC:=(.seq (.reg [⟨some 2,none,.mv (.c (.bool false))⟩]) (.seq (.seq (.reg [⟨some 17,none,.mv (.t 0)⟩,⟨some 18,none,.call 5 [(.t 17)]⟩]) (.cond (.t 18) (.seq (.reg [⟨some 2,none,.mv (.c (.bool true))⟩]) .ret) .skip)) (.seq (.reg [⟨some 20,none,.mv (.t 0)⟩,⟨some 21,none,.call 6 [(.t 20)]⟩,⟨some 19,none,.mv (.t 21)⟩,⟨some 22,none,.ext (.t 19) 0⟩,⟨some 23,none,.ext (.t 19) 1⟩,⟨some 24,none,.ext (.t 19) 2⟩,⟨some 3,none,.alloc 26 [(.int .i64 0),.nil]⟩,⟨(some 5),none,(.alloc 33 [(.int .i64 0),(.str ⟨#[]⟩),.nil,(.str ⟨#[]⟩),.nil])⟩,⟨none,none,(.store 2 (.t 3) (.t 22))⟩,⟨some 4,none,.mv (.t 23)⟩,⟨none,none,(.store 5 (.t 5) (.t 24))⟩]) (.seq (.reg [⟨some 25,none,.load true 5 (.t 5)⟩,⟨(some 26),none,(.mkrow 33 5 [(.int .i64 0),(.str ⟨#[]⟩),.nil,(.str ⟨#[]⟩),.nil] 1 [(0,(.t 25))])⟩,⟨(some 27),none,(.build [(.int .i64 0),(.str ⟨#[]⟩),.nil,(.str ⟨#[]⟩),.nil] [(0,(1,(.c (.int .i64 4)))),(4,(1,(.t 26)))])⟩,⟨(some 6),none,(.alloc 33 [(.int .i64 0),(.str ⟨#[]⟩),.nil,(.str ⟨#[]⟩),.nil])⟩,⟨none,none,(.store 5 (.t 6) (.t 27))⟩]) (.seq (.reg [⟨some 28,none,.load true 5 (.t 5)⟩,⟨(some 29),none,(.mkrow 33 5 [(.int .i64 0),(.str ⟨#[]⟩),.nil,(.str ⟨#[]⟩),.nil] 1 [(0,(.t 28))])⟩,⟨(some 30),none,(.build [(.int .i64 0),(.str ⟨#[]⟩),.nil,(.str ⟨#[]⟩),.nil] [(0,(1,(.c (.int .i64 8)))),(3,(1,(.c (.str ⟨#[88]⟩)))),(4,(1,(.t 29)))])⟩,⟨(some 7),none,(.alloc 33 [(.int .i64 0),(.str ⟨#[]⟩),.nil,(.str ⟨#[]⟩),.nil])⟩,⟨none,none,(.store 5 (.t 7) (.t 30))⟩]) (.seq (.reg [⟨some 31,none,.load true 5 (.t 6)⟩,⟨(some 32),none,(.mkrow 33 5 [(.int .i64 0),(.str ⟨#[]⟩),.nil,(.str ⟨#[]⟩),.nil] 1 [(0,(.t 31))])⟩,⟨(some 33),none,(.build [(.int .i64 0),(.str ⟨#[]⟩),.nil,(.str ⟨#[]⟩),.nil] [(0,(1,(.c (.int .i64 9)))),(3,(1,(.c (.str ⟨#[88]⟩)))),(4,(1,(.t 32)))])⟩,⟨(some 8),none,(.alloc 33 [(.int .i64 0),(.str ⟨#[]⟩),.nil,(.str ⟨#[]⟩),.nil])⟩,⟨none,none,(.store 5 (.t 8) (.t 33))⟩]) (.seq (.reg [⟨some 35,none,.load true 2 (.t 3)⟩,⟨some 36,none,.mv (.t 4)⟩,⟨some 37,none,.load true 5 (.t 7)⟩,⟨some 38,none,.call 7 [(.t 35),(.t 36),(.t 37)]⟩,⟨some 34,none,.mv (.t 38)⟩,⟨some 39,none,.ext (.t 34) 0⟩,⟨some 40,none,.ext (.t 34) 1⟩,⟨some 9,none,.mv (.t 39)⟩,⟨some 10,none,.mv (.t 40)⟩]) (.seq (.reg [⟨some 42,none,.load true 2 (.t 3)⟩,⟨some 43,none,.mv (.t 4)⟩,⟨some 44,none,.load true 5 (.t 8)⟩,⟨some 45,none,.call 7 [(.t 42),(.t 43),(.t 44)]⟩,⟨some 41,none,.mv (.t 45)⟩,⟨some 46,none,.ext (.t 41) 0⟩,⟨some 47,none,.ext (.t 41) 1⟩,⟨some 11,none,.mv (.t 46)⟩,⟨some 12,none,.mv (.t 47)⟩]) (.seq (.reg [⟨some 49,none,.load true 2 (.t 3)⟩,⟨some 50,none,.mv (.t 4)⟩,⟨some 51,none,.load true 5 (.t 7)⟩,⟨some 52,none,.call 8 [(.t 49),(.t 50),(.t 51)]⟩,⟨some 48,none,.mv (.t 52)⟩,⟨some 53,none,.ext (.t 48) 0⟩,⟨some 54,none,.ext (.t 48) 1⟩,⟨some 13,none,.mv (.t 53)⟩,⟨some 14,none,.mv (.t 54)⟩]) (.seq (.reg [⟨some 56,none,.load true 2 (.t 3)⟩,⟨some 57,none,.mv (.t 4)⟩,⟨some 58,none,.load true 5 (.t 8)⟩,⟨some 59,none,.call 8 [(.t 56),(.t 57),(.t 58)]⟩,⟨some 55,none,.mv (.t 59)⟩,⟨some 60,none,.ext (.t 55) 0⟩,⟨some 61,none,.ext (.t 55) 1⟩,⟨some 15,none,.mv (.t 60)⟩,⟨some 16,none,.mv (.t 61)⟩]) (.seq (.seq (.reg [⟨some 62,none,.mv (.t 9)⟩,⟨some 63,none,.mv (.t 13)⟩,⟨some 64,none,.bin .neq true (.t 62) (.t 63)⟩,⟨some 65,none,.mv (.t 64)⟩,⟨(some 66),(some (65,false)),(.mv (.t 10))⟩,⟨(some 67),(some (65,false)),(.mv (.t 14))⟩,⟨(some 68),(some (65,false)),(.bin .neq true (.t 66) (.t 67))⟩,⟨some 69,none,.pick (.t 65) (.c (.bool true)) (.t 68)⟩,⟨some 70,none,.mv (.t 69)⟩,⟨(some 71),(some (70,false)),(.mv (.t 12))⟩,⟨(some 72),(some (70,false)),(.mv (.t 16))⟩,⟨(some 73),(some (70,false)),(.bin .neq true (.t 71) (.t 72))⟩,⟨some 74,none,.pick (.t 70) (.c (.bool true)) (.t 73)⟩]) (.cond (.t 74) (.seq (.reg [⟨some 2,none,.mv (.c (.bool false))⟩]) .ret) .skip)) (.seq (.reg [⟨some 75,none,.mv (.t 10)⟩,⟨some 76,none,.un .not (.t 75)⟩,⟨some 77,none,.mv (.t 76)⟩,⟨(some 78),(some (77,false)),(.mv (.t 12))⟩,⟨(some 79),(some (77,false)),(.un .not (.t 78))⟩,⟨some 80,none,.pick (.t 77) (.c (.bool true)) (.t 79)⟩,⟨some 81,none,.mv (.t 80)⟩,⟨(some 82),(some (81,false)),(.mv (.t 9))⟩,⟨(some 83),(some (81,false)),(.mv (.t 11))⟩,⟨(some 84),(some (81,false)),(.un .not (.t 83))⟩,⟨(some 85),(some (81,false)),(.bin .eql true (.t 82) (.t 84))⟩,⟨some 86,none,.pick (.t 81) (.c (.bool true)) (.t 85)⟩,⟨some 2,none,.mv (.t 86)⟩]) .ret))))))))))))
theorem Cq:As Tryz.prog 3=some ⟨87,BO,[(.tmp 2)]⟩:=by kernel_rfl
theorem Cr:modes 3=⟨[],.asis,none,false⟩:=by unfold modes; rfl
theorem WC (l:List Int):E 5 [.arr (l.map by_)] []=some (.bool (dec (65536<(l.length:Int))),[]):=by
 refine Al Q4 DV (of_decide_eq_true rfl) ?_
 simp (disch:=omega) only [Lv,go_sem,Ab]
def N5 (f:Fm):Fm:=.mk 4 Tm.zero ⟨#[]⟩ [f]
def Pj (s:ByteArray) (f:Fm):Fm:=.mk 8 Tm.zero s [f]
def exF (s:ByteArray) (f:Fm):Fm:=.mk 9 Tm.zero s [N5 f]
theorem O6 {p:Int→Option Bool}:∀ (k:Nat) {a b c d:Bool},CA p k=some (a,b)→CA (fun x=>(p x).map (fun b=>!b)) k=some (c,d)→d=!a
 | 0,a,b,c,d,h1,h2=>by
  simp only [CA,zW,Prod.mk.injEq] at h1 h2
  rw [←h1.1,← h2.2]; rfl
 | k+1,a,b,c,d,h1,h2=>by
  simp only [CA] at h1 h2
  cases ho:CA p k with
  | none=>rw [ho] at h1; cases h1
  | some q =>
   obtain ⟨a',b'⟩:=q
   cases ho2:CA (fun x=>(p x).map (fun b=>!b)) k with
   | none=>rw [ho2] at h2; cases h2
   | some q2 =>
    obtain ⟨c',d'⟩:=q2
    have ih:=O6 k ho ho2
    rw [ho] at h1
    rw [ho2] at h2
    cases hp:p k with
    | none=>rw [hp] at h1; cases h1
    | some v =>
     rw [hp] at h1 h2
     simp only [zE,zW,Prod.mk.injEq] at h1 h2
     rw [←h1.1,← h2.2,ih]
     cases a' <;> cases v <;> rfl
theorem T6 {m:Ip} {xs:List Ag} {s:ByteArray} {f:Fm} {v w:Bool} (h1:evF m xs (Pj s f)=some v) (h2:evF m xs (exF s f)=some w):v=!w:=by
 unfold evF at h1 h2
 obtain ⟨_,h1⟩:=Az h1
 obtain ⟨_,h2⟩:=Az h2
 rw [Fm.Lr] at h1 h2
 have e1:(Pj s f).op=8:=rfl
 have e2:(exF s f).op=9:=rfl
 have e3:(Pj s f).parts.map (Fm.tr m)=[f.tr m]:=rfl
 have e4:(exF s f).parts.map (Fm.tr m)=[(N5 f).tr m]:=rfl
 have e5:∀ e,(N5 f).tr m e=(f.tr m e).map fun b=>!b:=fun e=>by
  rw [Fm.Lr]
  have e6:(N5 f).op=4:=rfl
  have e7:(N5 f).parts.map (Fm.tr m)=[f.tr m]:=rfl
  rw [e6,e7]
  unfold trF qB
  rw [Aj (by omega),Aj (by omega),Aj (by omega),Aj (by omega),Aj (by omega),A1 rfl]
  rfl
 rw [e1,e3] at h1
 rw [e2,e4] at h2
 have h1:Qw 8 (CA (fun x=>f.tr m (Cx (asg xs) s x)) m.size.toNat)=some v:=by
  rw [←h1]
  unfold trF qB
  rw [Aj (by omega),Aj (by omega),Aj (by omega),A1 (by omega)]
  rfl
 have h2:Qw 9 (CA (fun x=>(f.tr m (Cx (asg xs) s x)).map fun b=>!b) m.size.toNat)=some w:=by
  rw [←h2]
  unfold trF qB
  rw [Aj (by omega),Aj (by omega),Aj (by omega),Aj (by omega),A1 rfl]
  show _=Qw 9 (CA (fun x=>(N5 f).tr m (Cx (asg xs) s x)) m.size.toNat)
  simp only [e5]
 cases ho:CA (fun x=>f.tr m (Cx (asg xs) s x)) m.size.toNat with
 | none=>rw [ho] at h1; cases h1
 | some q =>
  obtain ⟨a,b⟩:=q
  cases ho2:CA (fun x=>(f.tr m (Cx (asg xs) s x)).map fun b=>!b) m.size.toNat with
  | none=>rw [ho2] at h2; cases h2
  | some q2 =>
   obtain ⟨c,d⟩:=q2
   have hk:=O6 _ ho ho2
   rw [ho] at h1
   rw [ho2] at h2
   have h1:some (bif dec ((8:Int)=8) then a else b)=some v:=h1
   have h2:some (bif dec ((9:Int)=8) then c else d)=some w:=h2
   rw [A1 rfl,cond_true] at h1
   rw [Aj (by omega),cond_false] at h2
   rw [←Option.some.inj h1,← Option.some.inj h2,hk]
   cases a <;> rfl
theorem HR (l:List Int) (hl:Bytes l) (hn:l.length≤1099511627776):∃ (m:Ip) (xs:List Ag) (x:Fm),E 6 [.arr (l.map by_)] []=some (.tup [m.sv,.arr (xs.map Ag.d),x.sv],[])∧m.tame∧xs.length≤4∧x.tame∧x.nodes≤100:=by
 obtain ⟨m,p1,s1,hm,⟨g1,g2⟩,hd⟩:=IS l hl hn 0 0 (by omega) (by omega)
 obtain ⟨xs,p2,s2,ha,⟨g3,g4⟩,hx4⟩:=Pb l hl hn m.size hd.s4 p1 s1 (by omega) (by omega)
 obtain ⟨x,p3,s3,hx,_,g5,g6⟩:=Pd l hl hn p2 s2 (by omega) (by omega)
 refine ⟨m,xs,x,?_,hd.tame,hx4,g6,g5⟩
 have hms:m.sv=.agg [.int .i64 m.size,.arr (m.tables.map Tl.d)]:=rfl
 rw [hms]
 refine Al Gs Bm (of_decide_eq_true rfl) ?_
 simp (disch:=omega) only [DW,go_sem,Ab,hm,ha,hx,AZ,AG,E2]
theorem WD (l:List Int) (hl:Bytes l):E 3 [.arr (l.map by_)] []=some (.bool true,[]):=by
 have hbig:=WC l
 by_cases hb:65536<(l.length:Int)
 ·rw [A1 hb] at hbig
  refine Al Cq Cr (of_decide_eq_true rfl) ?_
  simp (disch:=omega) only [BO,go_sem,Ab,hbig,DV,Bm,AK,AU]
 ·rw [Aj hb] at hbig
  obtain ⟨m,xs,x,hd,hmt,hx4,hta,hxn⟩:=HR l hl (by omega)
  have tz1:Tm.zero.nodes=1:=by
   rw [Tm.nodes_eq]; show 1+Tm.nodeS []=1; rw [Tm.nodeS]
  have ta:(Pj ⟨#[88]⟩ x).tame:=Fm.Cv (by rw [tz1]; omega) (Fm.Iy hta)
  have tn:(N5 x).tame:=Fm.Cv (by rw [tz1]; omega) (Fm.Iy hta)
  have te:(exF ⟨#[88]⟩ x).tame:=Fm.Cv (by rw [tz1]; omega) (Fm.Iy tn)
  have na:(Pj ⟨#[88]⟩ x).nodes≤1099511627776:=by
   rw [Fm.nodes_eq]; show 1+Fm.nodeS [x]≤_; rw [Fm.nodeS,Fm.nodeS]; omega
  have ne:(exF ⟨#[88]⟩ x).nodes≤1099511627776:=by
   rw [Fm.nodes_eq]; show 1+Fm.nodeS [N5 x]≤_; rw [Fm.nodeS,Fm.nodeS,Fm.nodes_eq (N5 x)]; show 1+(1+Fm.nodeS [x]+0)≤_; rw [Fm.nodeS,Fm.nodeS]; omega
  have a1:=G9 m hmt xs (by omega) (Pj ⟨#[88]⟩ x) ta na
  have a2:=G9 m hmt xs (by omega) (exF ⟨#[88]⟩ x) te ne
  have b1:=F2 m hmt xs (by omega) (Pj ⟨#[88]⟩ x) ta na
  have b2:=F2 m hmt xs (by omega) (exF ⟨#[88]⟩ x) te ne
  have ea:(Pj ⟨#[88]⟩ x).sv=.agg [.int .i64 8,.str ⟨#[]⟩,.arr [],.str ⟨#[88]⟩,.arr [[.int x.op,.str x.atom.name,.arr (x.atom.args.map Tm.d),.str x.var,.arr (x.parts.map Fm.d)]]]:=by
   show SV.agg [.int .i64 8,.str ⟨#[]⟩,.arr (([]:List Tm).map Tm.d),.str ⟨#[88]⟩,.arr ([x].map Fm.d)]=_
   rw [zV,zL,zL,Fm.d_eq]
  have ee:(exF ⟨#[88]⟩ x).sv=.agg [.int .i64 9,.str ⟨#[]⟩,.arr [],.str ⟨#[88]⟩,.arr [[.int 4,.str ⟨#[]⟩,.arr [],.str ⟨#[]⟩,.arr [[.int x.op,.str x.atom.name,.arr (x.atom.args.map Tm.d),.str x.var,.arr (x.parts.map Fm.d)]]]]]:=by
   show SV.agg [.int .i64 9,.str ⟨#[]⟩,.arr (([]:List Tm).map Tm.d),.str ⟨#[88]⟩,.arr ([N5 x].map Fm.d)]=_
   rw [zV,zL,zL,Fm.d_eq]
   show SV.agg [.int .i64 9,.str ⟨#[]⟩,.arr [],.str ⟨#[88]⟩,.arr [[.int 4,.str ⟨#[]⟩,.arr (([]:List Tm).map Tm.d),.str ⟨#[]⟩,.arr ([x].map Fm.d)]]]=_
   rw [zV,zL,zL,Fm.d_eq]
  have hms:m.sv=.agg [.int .i64 m.size,.arr (m.tables.map Tl.d)]:=rfl
  have hxs:x.sv=.agg [.int .i64 x.op,.str x.atom.name,.arr (x.atom.args.map Tm.d),.str x.var,.arr (x.parts.map Fm.d)]:=rfl
  rw [hms,ea] at a1 b1
  rw [hms,ee] at a2 b2
  rw [hms,hxs] at hd
  have hlaw:=fun v w=>T6 (m:=m) (xs:=xs) (s:=⟨#[88]⟩) (f:=x) (v:=v) (w:=w)
  generalize evF m xs (Pj ⟨#[88]⟩ x)=u at *
  generalize evF m xs (exF ⟨#[88]⟩ x)=v at *
  unfold Vn at a1 a2 b1 b2
  rcases u with _ | u <;> rcases v with _ | v
  ·refine Al Cq Cr (of_decide_eq_true rfl) ?_
   simp (disch:=omega) only [BO,go_sem,Ab,hbig,hd,a1,a2,b1,b2,zC,zD,zA,zB,DV,Bm,AK,AU]
  ·refine Al Cq Cr (of_decide_eq_true rfl) ?_
   simp (disch:=omega) only [BO,go_sem,Ab,hbig,hd,a1,a2,b1,b2,zC,zD,zA,zB,DV,Bm,AK,AU]
  ·refine Al Cq Cr (of_decide_eq_true rfl) ?_
   simp (disch:=omega) only [BO,go_sem,Ab,hbig,hd,a1,a2,b1,b2,zC,zD,zA,zB,DV,Bm,AK,AU]
  ·obtain rfl:=hlaw u v rfl rfl
   cases v
   ·refine Al Cq Cr (of_decide_eq_true rfl) ?_
    simp (disch:=omega) only [BO,go_sem,Ab,hbig,hd,a1,a2,b1,b2,zC,zD,zA,zB,DV,Bm,AK,AU]
   ·refine Al Cq Cr (of_decide_eq_true rfl) ?_
    simp (disch:=omega) only [BO,go_sem,Ab,hbig,hd,a1,a2,b1,b2,zC,zD,zA,zB,DV,Bm,AK,AU]
end Go.Proofs.YtoglfpfdhojaaaaGreat
set_option maxRecDepth 100000
set_option linter.unusedSimpArgs false
set_option linter.unusedVariables false
set_option linter.unusedSectionVars false
namespace Go.Proofs.YtoglfpfdhojaaaaGreat
open Go.RowKit Go.ChangeShapes Go.WideShapes Go.ChangeAt Go.Deep
section
variable {H:Type} {enc:TypeId × Value→H} {P:Program} {w:World} {base:Nat} {spare:Nat→Bool} {held:Bool}
theorem IA {b o k:Nat}:(⟨b,o,none⟩:Addr).add k=⟨b,o+k,none⟩:=by
 unfold Addr.add; split
 ·subst_vars; rfl
 ·rfl
theorem WE {a:Addr} {v:Value} (h:w.cell? a=some v):a.block<w.heap.size:=by
 unfold World.cell? at h
 cases hb:w.heap[a.block]? with
 | none=>rw [hb] at h; cases h
 | some o=>exact (Array.getElem?_eq_some_iff.1 hb).1
end
section
variable {H:Type} {enc:TypeId × Value→H} {w:World} {base:Nat} {spare:Nat→Bool} {held:Bool}
end
end Go.Proofs.YtoglfpfdhojaaaaGreat
set_option maxRecDepth 100000
set_option linter.unusedSimpArgs false
set_option linter.unusedVariables false
set_option linter.unusedSectionVars false
namespace Go.Proofs.YtoglfpfdhojaaaaGreat
open Go.RowKit Go.ChangeShapes Go.WideShapes Go.ChangeAt Go.Deep
section
variable {H:Type} {enc:TypeId × Value→H} {P:Program} {w:World} {base:Nat} {spare:Nat→Bool} {held:Bool}
theorem Vp {t e:TypeId} {fuel:Nat} {v:Value} {x:DataW H × List MemPlace} (sz:Nat) (hsz:P.cellsOf e=sz) (h0:0<sz) (ht:P.underlying t=some (.slice e)) (h:DataW.trod enc P w base spare held fuel t [v]=some x) :
  ∃ (a:Option Addr) (len cap:Nat) (f:Nat→Nat→Value),v=.slice a len cap∧len≤cap∧cap≤9223372036854775807∧SlA w 0 sz len f a ∧
   ∀ i,i<len→∃ n x',n<fuel∧DataW.trod enc P w base spare held n e ((zM sz).map (f i))=some x':=by
 rcases DataW.trod_slice ht h with ⟨hcs,_⟩ | ⟨a,len,cap,elems,rest,n,hf,hcs,hx,hb,hl,hm,hlen,hel,_,_⟩
 ·simp only [List.cons.injEq,and_true] at hcs
  exact ⟨none,0,0,fun _ _=>undef,hcs,Nat.le_refl _,by omega,.inl rfl,fun i hi=>absurd hi (by omega)⟩
 ·have hi:∀ i,i<len→∃ cs' x',w.cells? base (a.add (i*sz)) sz=some cs'∧DataW.trod enc P w base spare held n e cs'=some x':=by
   intro i hi
   have h1:=hel i hi
   rw [hsz,zI (by omega)] at h1
   obtain ⟨cs',h2,h3⟩:=Option.bind_eq_some_iff.1 h1
   exact ⟨cs',_,h2,h3⟩
  have hcell:∀ i j,i<len→j<sz→∃ v,w.cell? (a.add (i*sz+j))=some v:=by
   intro i j hil hj
   obtain ⟨cs',x',hc,_⟩:=hi i hil
   obtain ⟨_,hcl,hat⟩:=World.cells?_some hc
   have h1:=hat j hj
   rw [Go.Deep.add_add,zI (by omega)] at h1
   exact ⟨_,h1⟩
  simp only [List.cons.injEq,and_true] at hcs
  refine ⟨some a,len,cap,fun i j=>(w.cell? (a.add (i*sz+j))).getD undef,hcs,hl,hm,?_,?_⟩
  ·rcases Nat.eq_zero_or_pos len with h | h
   ·exact .inl h
   ·obtain ⟨v,hv⟩:=hcell 0 0 h h0
    rw [Nat.zero_mul,Nat.zero_add] at hv
    have hsp:a.spot=none:=by simpa [Addr.add] using World.cell?_spot hv
    have hlt:=WE hv
    obtain ⟨b,off,spot⟩:=a
    simp only at hsp
    subst hsp
    refine .inr ⟨b,off,rfl,zU _,by simpa [Addr.add] using hlt,fun i j hil hj=>?_⟩
    obtain ⟨v',hv'⟩:=hcell i j hil hj
    rw [IA] at hv'
    show _=some ((w.cell? ((⟨b,off,none⟩:Addr).add (i*sz+j))).getD undef)
    rw [IA,Nat.add_assoc,hv']
    rfl
  ·intro i hil
   obtain ⟨cs',x',hc,ht'⟩:=hi i hil
   obtain ⟨_,hcl,hat⟩:=World.cells?_some hc
   refine ⟨n,x',by omega,?_⟩
   have hcs':(zM sz).map (fun j=>(w.cell? (a.add (i*sz+j))).getD undef)=cs':=by
    apply List.ext_getElem?
    intro j
    by_cases hj:j<sz
    ·rw [List.getElem?_map,List.getElem?_range hj]
     have h1:=hat j hj
     rw [Go.Deep.add_add] at h1
     rw [zI (by omega:j<cs'.length)] at h1 ⊢
     simp [h1]
    ·rw [List.getElem?_eq_none (by simp; omega),List.getElem?_eq_none (by omega)]
   rw [hcs']
   exact ht'
end
inductive Lvs (w:World):List D→List Value→Prop
 |nil:Lvs w [] []
 |cons {d:D} {v:Value} {ds:List D} {vs:List Value} (h:DAt w d v) (hs:Lvs w ds vs):Lvs w (d :: ds) (v :: vs)
theorem Lvs.len {w:World} {ds:List D} {vs:List Value} (h:Lvs w ds vs):ds.length=vs.length:=by
 induction h with
 | nil=>rfl
 | cons h hs ih=>simp [ih]
theorem Lvs.get {w:World} {ds:List D} {vs:List Value} (h:Lvs w ds vs):∀ j (h1:j<ds.length) (h2:j<vs.length),DAt w ds[j] vs[j]:=by
 induction h with
 | nil=>intro j h1; simp at h1
 | cons h hs ih =>
  intro j h1 h2
  cases j with
  | zero=>exact h
  | succ j=>exact ih j (by simpa using h1) (by simpa using h2)
theorem Vq {α:Type} [Inhabited α] (dd:α→List D) {w:World} {m len cap:Nat} {f:Nat→Nat→Value} {a:Option Addr} (hl:len≤cap) (hm:cap≤9223372036854775807) (hS:SlA w 0 m len f a)
  (hel:∀ i,i<len→∃ X:α,Lvs w (dd X) ((zM m).map (f i))):∃ xs:List α,DAt w (.arr (xs.map dd)) (.slice a len cap):=by
 obtain ⟨g,hg⟩:∃ g:Nat→α,∀ i,i<len→Lvs w (dd (g i)) ((zM m).map (f i)) :=
  ⟨fun i=>if h:i<len then (hel i h).choose else default,fun i hi=>by simp only [hi,dif_pos]; exact (hel i hi).choose_spec⟩
 refine ⟨(zM len).map g,?_⟩
 have hlen:(((zM len).map g).map dd).length=len:=by simp
 have:=DAt.WK (w:=w) (es:=((zM len).map g).map dd) (sz:=m) (cap:=cap) (a:=a) (f:=f) (by rw [hlen]; exact hl) hm (by rw [hlen]; exact hS) (fun i hi=>by
  rw [hlen] at hi
  have:=(hg i hi).len
  simpa using this) (fun i j hi hj=>by
  rw [hlen] at hi
  have h1:=hg i hi
  have h2:=h1.len
  simp only [List.length_map,List.length_range] at h2
  simp only [List.getElem_map,List.getElem_range] at hj ⊢
  have:=h1.get j hj (by simp; omega)
  simpa using this)
 rw [hlen] at this
 exact this
instance:Inhabited Tm:=⟨Tm.zero⟩
instance:Inhabited Fm:=⟨Fm.zero⟩
section
variable {H:Type} {enc:TypeId × Value→H} {w:World} {base:Nat} {spare:Nat→Bool} {held:Bool}
end
end Go.Proofs.YtoglfpfdhojaaaaGreat
set_option maxRecDepth 100000
set_option linter.unusedSimpArgs false
set_option linter.unusedVariables false
set_option linter.unusedSectionVars false
namespace Go.Proofs.YtoglfpfdhojaaaaGreat
open Go.RowKit
theorem DRep.lt_ {own:Bool} {w:World} {S:Nat→Prop} {d:D} {v:Value} (h:DRep own w S d v):DRep own w (fun b=>S b∧b<w.heap.size) d v:=by
 induction h with
 | int S n=>exact .int _ n
 | byte S n=>exact .byte _ n
 | nl S=>exact .nl _
 | bool S b=>exact .bool _ b
 | str S s h=>exact .str _ s h
 | arr S sz es a cap f Sub h1 h2 h3 h4 h5 h6 h7 ih =>
  refine .arr _ sz es a cap f (fun i j x=>Sub i j x∧x<w.heap.size) h1 h2 ?_ h4 (fun i j x h=>⟨h5 i j x h.1,h.2⟩) (fun ho i j i' j' x h h'=>h6 ho i j i' j' x h.1 h'.1) ih
  rcases h3 with h3 | ⟨b,off,ha,hS,hl,hc,ho⟩
  ·exact .inl h3
  ·exact .inr ⟨b,off,ha,⟨hS,hl⟩,hl,hc,fun h=>⟨fun i j hx=>(ho h).1 i j hx.1,(ho h).2⟩⟩
theorem DAt.rep {w:World} {es:List (List D)} {v:Value} (h:DAt w (.arr es) v):RepV w (fun b=>b<w.heap.size) (fun _=>none) (.arr es) v:=by
 simp only [RepV]
 exact (DRep.lt_ h).up fun b hb=>hb.2
theorem Fun.yes {f:FuncId} {args:List SV} (h:Fun Tryz.prog f args [] (.bool true) []) {w:World} {vs:List Value} (hgl:GL w fun b=>b<w.heap.size) (hvs:RepVs w (fun b=>b<w.heap.size) (fun _=>none) args vs):Calls Tryz.prog f vs.toArray w (Ret w (.bool true)):=by
 have nl:∀ g,¬ (Ar [] g).live:=fun g hg=>by simp [Ar,Ob.live] at hg
 refine (h w (fun b=>b<w.heap.size) (fun _=>none) (fun _ _=>False) vs ⟨fun b hb=>hb,fun g hg=>absurd hg (nl g),fun g b hg=>absurd hg (nl g),fun g b hg=>absurd hg (nl g),fun g g' b hg=>absurd hg (nl g),fun g _=>rfl,hgl⟩ hvs).mono ?_
 rintro e w' ⟨v,I',V',B',rfl,hr,hp⟩
 simp only [RepV] at hr
 subst hr
 exact ⟨rfl,hp.fr.os,hp.fr.tape.1,hp.fr.output,hp.fr.size,fun b hb=>hp.fr.block b hb fun ⟨g,hg,_⟩=>absurd hg (nl g)⟩
theorem Vr {w:World} {I:Nat→Prop} {V:Nat→Option Value}:RepVs w I V [] []:=by simp [RepVs]
theorem T7 {w:World} {I:Nat→Prop} {V:Nat→Option Value} {x:SV} {xs:List SV} {v:Value} {vs:List Value} (h:RepV w I V x v) (hs:RepVs w I V xs vs):RepVs w I V (x :: xs) (v :: vs):=by
 simp only [RepVs]; exact ⟨v,vs,rfl,h,hs⟩
section
variable {H:Type} {enc:TypeId × Value→H} {w:World} {base:Nat} {spare:Nat→Bool} {held:Bool}
end
end Go.Proofs.YtoglfpfdhojaaaaGreat
set_option maxRecDepth 100000
set_option linter.unusedSimpArgs false
set_option linter.unusedVariables false
set_option linter.unusedSectionVars false
namespace Go.Proofs.YtoglfpfdhojaaaaGreat
open Go.RowKit Go.ChangeShapes Go.WideShapes Go.ChangeAt Go.Deep
section
variable {H:Type} {enc:TypeId × Value→H} {w:World} {base:Nat} {spare:Nat→Bool} {held:Bool}
abbrev ByteZ:={ b:Int // 0≤b∧b≤255 }
instance:Inhabited ByteZ:=⟨⟨0,by omega⟩⟩
theorem T8 {fuel:Nat} {v:Value} {x:DataW H × List MemPlace} (h:DataW.trod enc Tryz.prog w base spare held fuel 22 [v]=some x):∃ l:List Int,Bytes l∧DAt w (.arr (l.map by_)) v:=by
 obtain ⟨a,len,cap,f,rfl,hl,hm,hS,hr⟩:=Vp (P:=Tryz.prog) 1 (by kernel_rfl) (by omega) Tryz.underlying22 h
 obtain ⟨xs,hx⟩:=Vq (fun s:ByteZ=>[D.byte s.1]) hl hm hS fun i hi=>by
  obtain ⟨n,x',hn,h1⟩:=hr i hi
  obtain ⟨z,q,_,hw⟩:=DataW.trod_int Tryz.underlying5 h1
  have h2:(decide (IntKind.u8.min≤z)&&decide (z≤IntKind.u8.max))=true:=hw
  rw [zR,decide_eq_true_eq,decide_eq_true_eq] at h2
  rw [q]
  exact ⟨⟨z,h2.1,h2.2⟩,.cons (.byte _ z) .nil⟩
 refine ⟨xs.map (·.1),fun b hb=>?_,?_⟩
 ·obtain ⟨s,_,rfl⟩:=List.mem_map.1 hb
  exact s.2
 ·rw [List.map_map]
  exact hx
end
end Go.Proofs.YtoglfpfdhojaaaaGreat
