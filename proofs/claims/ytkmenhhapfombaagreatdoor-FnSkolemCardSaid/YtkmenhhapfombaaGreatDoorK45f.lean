/-
  Texts of this claim, one behind the other, each built on those ahead of it. No condition.
-/
import Derived.Test.YtkmenhhapfombaaGreatDoorK45b
import Derived.Test.YtkmenhhapfombaaGreatDoorK45c
import Derived.Test.YtkmenhhapfombaaGreatDoorK45d
import Derived.Test.YtkmenhhapfombaaGreatDoorK45e
import Derived.ProofKit
import Derived.Deep.Slices
import Derived.Deep.Fields
import Derived.ChangeSame
import Derived.OpenShut
import Derived.ShutString
import Derived.ChangeOld
set_option maxHeartbeats 16000000
open List renaming map_cons → zA, map_nil → zB, getElem?_eq_getElem → zD, range → zE, headD_cons → zF, any_cons → zG
open Bool renaming and_eq_true → zC, false_or → zH
set_option maxRecDepth 100000
set_option linter.unusedSimpArgs false
set_option linter.unusedVariables false
set_option linter.unusedSectionVars false
namespace Go.Proofs.YtkmenhhapfombaaGreatDoor
open Go.RowKit
def LU:SC:=(.seq (.reg [⟨some 1,none,.boxv 29 5 (.t 0)⟩,⟨(some 2),none,(.alloc 29 [(.int .i64 0),(.str ⟨#[]⟩),.nil,(.str ⟨#[]⟩),.nil])⟩]) (.seq (.reg [⟨some 3,none,.load true 5 (.t 1)⟩,⟨(some 4),none,(.mkrow 29 5 [(.int .i64 0),(.str ⟨#[]⟩),.nil,(.str ⟨#[]⟩),.nil] 1 [(0,(.t 3))])⟩,⟨(some 5),none,(.build [(.int .i64 0),(.str ⟨#[]⟩),.nil,(.str ⟨#[]⟩),.nil] [(0,(1,(.c (.int .i64 4)))),(4,(1,(.t 4)))])⟩,⟨none,none,(.store 5 (.t 2) (.t 5))⟩]) .ret))
theorem Sl:At Tryz.prog 68=some ⟨6,LU,[(.cell 2 true 5)]⟩:=by kernel_rfl
theorem Ap:modes 68=⟨[],.frz,none,false⟩:=by unfold modes; rfl
def K5:SC:=(.seq (.reg [⟨some 4,none,.boxv 29 5 (.t 1)⟩,⟨some 5,none,.boxv 29 5 (.t 2)⟩,⟨(some 6),none,(.alloc 29 [(.int .i64 0),(.str ⟨#[]⟩),.nil,(.str ⟨#[]⟩),.nil])⟩]) (.seq (.reg [⟨some 7,none,.mv (.t 0)⟩,⟨some 8,none,.load true 5 (.t 4)⟩,⟨some 9,none,.load true 5 (.t 5)⟩,⟨(some 10),none,(.mkrow 29 5 [(.int .i64 0),(.str ⟨#[]⟩),.nil,(.str ⟨#[]⟩),.nil] 2 [(0,(.t 8)),(1,(.t 9))])⟩,⟨(some 11),none,(.build [(.int .i64 0),(.str ⟨#[]⟩),.nil,(.str ⟨#[]⟩),.nil] [(0,(1,(.t 7))),(4,(1,(.t 10)))])⟩,⟨none,none,(.store 5 (.t 6) (.t 11))⟩]) .ret))
theorem PV:At Tryz.prog 69=some ⟨12,K5,[(.cell 6 true 5)]⟩:=by kernel_rfl
theorem Am:modes 69=⟨[],.frz,none,false⟩:=by unfold modes; rfl
def AY:SC:=(.seq (.reg [⟨some 2,none,.boxv 29 5 (.t 0)⟩,⟨(some 4),none,(.alloc 29 [(.int .i64 0),(.str ⟨#[]⟩),.nil,(.str ⟨#[]⟩),.nil])⟩]) (.seq (.seq (.reg [⟨some 7,none,.faddr 0 (.t 2)⟩,⟨some 8,none,.load false 1 (.t 7)⟩]) (.block 0 (.seq (.seq (.reg [⟨some 10,none,.bin .eql false (.t 8) (.c (.int .i64 1))⟩,⟨some 9,none,.mv (.t 10)⟩]) (.cond (.t 9) .skip (.reg [⟨some 11,none,.bin .eql false (.t 8) (.c (.int .i64 2))⟩,⟨some 9,none,.mv (.t 11)⟩]))) (.cond (.t 9) (.seq (.seq (.reg [⟨some 12,none,.faddr 0 (.t 2)⟩,⟨some 13,none,.load false 1 (.t 12)⟩,⟨some 14,none,.bin .eql false (.t 13) (.c (.int .i64 1))⟩,⟨some 15,none,.mv (.t 1)⟩,⟨some 16,none,.bin .eql true (.t 14) (.t 15)⟩]) (.cond (.t 16) (.seq (.reg [⟨(some 17),none,(.build [(.int .i64 0),(.str ⟨#[]⟩),.nil,(.str ⟨#[]⟩),.nil] [(0,(1,(.c (.int .i64 1))))])⟩,⟨none,none,(.store 5 (.t 4) (.t 17))⟩]) .ret) .skip)) (.seq (.reg [⟨(some 18),none,(.build [(.int .i64 0),(.str ⟨#[]⟩),.nil,(.str ⟨#[]⟩),.nil] [(0,(1,(.c (.int .i64 2))))])⟩,⟨none,none,(.store 5 (.t 4) (.t 18))⟩]) .ret)) (.seq (.reg [⟨some 20,none,.bin .eql false (.t 8) (.c (.int .i64 3))⟩,⟨some 19,none,.mv (.t 20)⟩]) (.cond (.t 19) (.seq (.seq (.reg [⟨some 21,none,.mv (.t 1)⟩]) (.cond (.t 21) (.seq (.reg [⟨some 22,none,.load true 5 (.t 2)⟩,⟨some 23,none,.call 67 [(.t 22)]⟩,⟨none,none,(.store 5 (.t 4) (.t 23))⟩]) .ret) .skip)) (.seq (.reg [⟨some 24,none,.load true 5 (.t 2)⟩,⟨some 25,none,.call 67 [(.t 24)]⟩,⟨some 26,none,.call 68 [(.t 25)]⟩,⟨none,none,(.store 5 (.t 4) (.t 26))⟩]) .ret)) (.seq (.reg [⟨some 28,none,.bin .eql false (.t 8) (.c (.int .i64 4))⟩,⟨some 27,none,.mv (.t 28)⟩]) (.cond (.t 27) (.seq (.reg [⟨some 29,none,.faddr 4 (.t 2)⟩,⟨some 30,none,.load false 1 (.t 29)⟩,⟨some 31,none,.iaddr 5 (.t 30) (.c (.int .i64 0))⟩,⟨some 32,none,.load true 5 (.t 31)⟩,⟨some 33,none,.mv (.t 1)⟩,⟨some 34,none,.un .not (.t 33)⟩,⟨some 35,none,.call 33 [(.t 32),(.t 34)]⟩,⟨none,none,(.store 5 (.t 4) (.t 35))⟩]) .ret) (.seq (.reg [⟨some 37,none,.bin .eql false (.t 8) (.c (.int .i64 7))⟩,⟨some 36,none,.mv (.t 37)⟩]) (.cond (.t 36) (.seq (.seq (.reg [⟨some 38,none,.mv (.t 1)⟩]) (.cond (.t 38) (.seq (.dreg [[],[0],[1,0],[2,1,0],[3,2,1,0],[],[5],[6,5],[7,6,5],[8,7,6,5,4,3,2,1,0],[4,3,2,1,0,9,8,7,6,5],[10,4,3,2,1,0,9,8,7,6,5]] [⟨some 39,none,.faddr 4 (.t 2)⟩,⟨some 40,none,.load false 1 (.t 39)⟩,⟨some 41,none,.iaddr 5 (.t 40) (.c (.int .i64 0))⟩,⟨some 42,none,.load true 5 (.t 41)⟩,⟨some 43,none,.call 33 [(.t 42),(.c (.bool false))]⟩,⟨some 44,none,.faddr 4 (.t 2)⟩,⟨some 45,none,.load false 1 (.t 44)⟩,⟨some 46,none,.iaddr 5 (.t 45) (.c (.int .i64 1))⟩,⟨some 47,none,.load true 5 (.t 46)⟩,⟨some 48,none,.call 33 [(.t 47),(.c (.bool true))]⟩,⟨some 49,none,.call 69 [(.c (.int .i64 6)),(.t 43),(.t 48)]⟩,⟨none,none,(.store 5 (.t 4) (.t 49))⟩]) .ret) .skip)) (.seq (.dreg [[],[0],[1,0],[2,1,0],[3,2,1,0],[],[5],[6,5],[7,6,5],[8,7,6,5,4,3,2,1,0],[4,3,2,1,0,9,8,7,6,5],[10,4,3,2,1,0,9,8,7,6,5]] [⟨some 50,none,.faddr 4 (.t 2)⟩,⟨some 51,none,.load false 1 (.t 50)⟩,⟨some 52,none,.iaddr 5 (.t 51) (.c (.int .i64 0))⟩,⟨some 53,none,.load true 5 (.t 52)⟩,⟨some 54,none,.call 33 [(.t 53),(.c (.bool true))]⟩,⟨some 55,none,.faddr 4 (.t 2)⟩,⟨some 56,none,.load false 1 (.t 55)⟩,⟨some 57,none,.iaddr 5 (.t 56) (.c (.int .i64 1))⟩,⟨some 58,none,.load true 5 (.t 57)⟩,⟨some 59,none,.call 33 [(.t 58),(.c (.bool false))]⟩,⟨some 60,none,.call 69 [(.c (.int .i64 5)),(.t 54),(.t 59)]⟩,⟨none,none,(.store 5 (.t 4) (.t 60))⟩]) .ret)) (.seq (.seq (.reg [⟨some 62,none,.bin .eql false (.t 8) (.c (.int .i64 5))⟩,⟨some 61,none,.mv (.t 62)⟩]) (.cond (.t 61) .skip (.reg [⟨some 63,none,.bin .eql false (.t 8) (.c (.int .i64 6))⟩,⟨some 61,none,.mv (.t 63)⟩]))) (.cond (.t 61) (.seq (.reg [⟨some 64,none,.faddr 0 (.t 2)⟩,⟨some 65,none,.load false 1 (.t 64)⟩,⟨some 5,none,.mv (.t 65)⟩]) (.seq (.seq (.reg [⟨some 66,none,.mv (.t 1)⟩,⟨some 67,none,.un .not (.t 66)⟩]) (.cond (.t 67) (.reg [⟨some 68,none,.faddr 0 (.t 2)⟩,⟨some 69,none,.load false 1 (.t 68)⟩,⟨some 70,none,.bin .sub false (.c (.int .i64 11)) (.t 69)⟩,⟨some 5,none,.mv (.t 70)⟩]) .skip)) (.seq (.dreg [[],[],[1],[2,1],[3,2,1],[],[4,3,2,1,5],[],[7],[8,7],[9,8,7],[],[10,9,8,7,11,6,4,3,2,1,5],[0,6,4,3,2,1,5,12,10,9,8,7,11],[13,0,6,4,3,2,1,5,12,10,9,8,7,11]] [⟨some 71,none,.mv (.t 5)⟩,⟨some 72,none,.faddr 4 (.t 2)⟩,⟨some 73,none,.load false 1 (.t 72)⟩,⟨some 74,none,.iaddr 5 (.t 73) (.c (.int .i64 0))⟩,⟨some 75,none,.load true 5 (.t 74)⟩,⟨some 76,none,.mv (.t 1)⟩,⟨some 77,none,.call 33 [(.t 75),(.t 76)]⟩,⟨some 78,none,.faddr 4 (.t 2)⟩,⟨some 79,none,.load false 1 (.t 78)⟩,⟨some 80,none,.iaddr 5 (.t 79) (.c (.int .i64 1))⟩,⟨some 81,none,.load true 5 (.t 80)⟩,⟨some 82,none,.mv (.t 1)⟩,⟨some 83,none,.call 33 [(.t 81),(.t 82)]⟩,⟨some 84,none,.call 69 [(.t 71),(.t 77),(.t 83)]⟩,⟨none,none,(.store 5 (.t 4) (.t 84))⟩]) .ret))) .skip)))))))))))) (.seq (.reg [⟨some 85,none,.faddr 0 (.t 2)⟩,⟨some 86,none,.load false 1 (.t 85)⟩,⟨some 6,none,.mv (.t 86)⟩]) (.seq (.seq (.reg [⟨some 87,none,.mv (.t 1)⟩,⟨some 88,none,.un .not (.t 87)⟩]) (.cond (.t 88) (.reg [⟨some 89,none,.faddr 0 (.t 2)⟩,⟨some 90,none,.load false 1 (.t 89)⟩,⟨some 91,none,.bin .sub false (.c (.int .i64 17)) (.t 90)⟩,⟨some 6,none,.mv (.t 91)⟩]) .skip)) (.seq (.dreg [[],[],[1],[],[3],[4,3],[5,4,3],[],[6,5,4,3,7],[8,6,5,4,3,7],[0,2,1,9,8,6,5,4,3,7],[10,0,2,1,9,8,6,5,4,3,7]] [⟨some 92,none,.mv (.t 6)⟩,⟨some 93,none,.faddr 3 (.t 2)⟩,⟨some 94,none,.load false 1 (.t 93)⟩,⟨some 95,none,.faddr 4 (.t 2)⟩,⟨some 96,none,.load false 1 (.t 95)⟩,⟨some 97,none,.iaddr 5 (.t 96) (.c (.int .i64 0))⟩,⟨some 98,none,.load true 5 (.t 97)⟩,⟨some 99,none,.mv (.t 1)⟩,⟨some 100,none,.call 33 [(.t 98),(.t 99)]⟩,⟨(some 101),none,(.mkrow 29 5 [(.int .i64 0),(.str ⟨#[]⟩),.nil,(.str ⟨#[]⟩),.nil] 1 [(0,(.t 100))])⟩,⟨(some 102),none,(.build [(.int .i64 0),(.str ⟨#[]⟩),.nil,(.str ⟨#[]⟩),.nil] [(0,(1,(.t 92))),(3,(1,(.t 94))),(4,(1,(.t 101)))])⟩,⟨none,none,(.store 5 (.t 4) (.t 102))⟩]) .ret)))))
theorem Bl:At Tryz.prog 33=some ⟨103,AY,[(.cell 4 true 5)]⟩:=by kernel_rfl
theorem Ak:modes 33=⟨[],.frz,none,false⟩:=by unfold modes; rfl
theorem QaH (y:Fm):E 68 [y.sv] []=some ((Fm.Qax y).sv,[]):=by
 have ho:=Fm.d_eq y
 have h1:(Fm.Qax y).sv=.agg [.int .i64 4,.str ⟨#[]⟩,.arr [],.str ⟨#[]⟩,.arr [Fm.d y]]:=rfl
 rw [h1,ho]
 refine Ai Sl Ap (of_decide_eq_true rfl) ?_
 simp (disch:=omega) only [LU,go_sem,Ab]
theorem LV (op:Int) (y z:Fm):E 69 [.int .i64 op,y.sv,z.sv] []=some ((Fm.QO op y z).sv,[]):=by
 have ho:=Fm.d_eq y
 have ho2:=Fm.d_eq z
 have h1:(Fm.QO op y z).sv=.agg [.int .i64 op,.str ⟨#[]⟩,.arr [],.str ⟨#[]⟩,.arr [Fm.d y,Fm.d z]]:=rfl
 rw [h1,ho,ho2]
 refine Ai PV Am (of_decide_eq_true rfl) ?_
 simp (disch:=omega) only [K5,go_sem,Ab]
abbrev SnC (b:Bool) (x:Fm):Prop:=E 33 [x.sv,.bool b] []=some ((x.nnf b).sv,[])
theorem ZB (x:Fm) (hx:x.forms=true) (hsz:x.nodes≤40) (b:Bool) (ih:∀ y∈x.parts,∀ b,SnC b y):SnC b x:=by
 have hf:=Fm.Bo hx
 have hta:=Fm.KS x hx
 have hcp:=W9 x hta (by omega)
 have hnt:=QaH x
 have hN:=Fm.Za x b
 unfold Fm.Qay at hN
 unfold SnC
 have hs3:∀ (h:x.op=3),Fm.mk x.op x.atom x.var x.parts=x:=fun _=>by obtain ⟨_,_,_,_⟩:=x; rfl
 rcases Fm.T6 hf with h1 | h1 | h1 | h1 | h1 | h1 | h1 | h1 | h1
 case inr.inr.inl =>
  rw [Ar h1,hs3 h1,cond_true] at hN
  rw [hN]
  cases b with
  | true =>
   rw [cond_true]
   refine Ai Bl Ak (of_decide_eq_true rfl) ?_
   simp (disch:=omega) only [AY,go_sem,hcp,hnt,Ao,Ap,Am,Ak]
   repeat ((first | (refine A2 ?_ ?_; (focus (simp (disch:=omega) only [go_sem,hcp,hnt,Ao,Ap,Am,Ak]; done))) | (refine A3 ?_ ?_; (focus (simp (disch:=omega) only [go_sem,hcp,hnt,Ao,Ap,Am,Ak]; done)))); (try simp (disch:=omega) only [go_sem,hcp,hnt,Ao,Ap,Am,Ak]))
  | false =>
   rw [cond_false]
   refine Ai Bl Ak (of_decide_eq_true rfl) ?_
   simp (disch:=omega) only [AY,go_sem,hcp,hnt,Ao,Ap,Am,Ak]
   repeat ((first | (refine A2 ?_ ?_; (focus (simp (disch:=omega) only [go_sem,hcp,hnt,Ao,Ap,Am,Ak]; done))) | (refine A3 ?_ ?_; (focus (simp (disch:=omega) only [go_sem,hcp,hnt,Ao,Ap,Am,Ak]; done)))); (try simp (disch:=omega) only [go_sem,hcp,hnt,Ao,Ap,Am,Ak]))
 case inr.inr.inr.inl =>
  rw [Aj (p:=x.op=3) (by omega),Ar h1,cond_false,cond_true] at hN
  obtain ⟨p,e⟩:=Fm.LB hf h1
  have hp:x.parts=[p]:=by rw [e]; rfl
  rw [hp,zA,zF] at hN
  have hg0:(x.parts.map Fm.d)[0]?=some (Fm.d p):=by rw [hp]; rfl
  rw [Fm.d_eq] at hg0
  have hi:=ih p (by rw [hp]; simp) (!b)
  unfold SnC at hi
  rw [hN]
  refine Ai Bl Ak (of_decide_eq_true rfl) ?_
  simp (disch:=omega) only [AY,go_sem,hg0,hi,Ao,Ap,Am,Ak]
  repeat ((first | (refine A2 ?_ ?_; (focus (simp (disch:=omega) only [go_sem,hg0,hi,Ao,Ap,Am,Ak]; done))) | (refine A3 ?_ ?_; (focus (simp (disch:=omega) only [go_sem,hg0,hi,Ao,Ap,Am,Ak]; done)))); (try simp (disch:=omega) only [go_sem,hg0,hi,Ao,Ap,Am,Ak]))
 case inr.inr.inr.inr.inr.inr.inl =>
  rw [Aj (p:=x.op=3) (by omega),Aj (p:=x.op=4) (by omega),Ar h1,cond_false,cond_false,cond_true] at hN
  obtain ⟨p,q,e⟩:=Fm.Ih hf (by omega)
  have hp:x.parts=[p,q]:=by rw [e]; rfl
  rw [hp,zA,zF,zA,zA,zB,List.drop_succ_cons,List.drop_zero,zF] at hN
  have hg0:(x.parts.map Fm.d)[0]?=some (Fm.d p):=by rw [hp]; rfl
  rw [Fm.d_eq] at hg0
  have hg1:(x.parts.map Fm.d)[1]?=some (Fm.d q):=by rw [hp]; rfl
  rw [Fm.d_eq] at hg1
  have hi:=ih p (by rw [hp]; simp) (!b)
  have hj:=ih q (by rw [hp]; simp) b
  unfold SnC at hi hj
  rw [hN]
  clear hcp hnt
  cases b with
  | true =>
   have hb:=LV 6 (p.nnf false) (q.nnf true)
   rw [cond_true,Bool.not_true]
   rw [Bool.not_true] at hi
   generalize p.nnf false=y at *
   generalize q.nnf true=z at *
   refine Ai Bl Ak (of_decide_eq_true rfl) ?_
   simp (disch:=omega) only [AY,go_sem,hg0,hg1,hi,hj,hb,Ao,Ap,Am,Ak]
   repeat ((first | (refine A2 ?_ ?_; (focus (simp (disch:=omega) only [go_sem,hg0,hg1,hi,hj,hb,Ao,Ap,Am,Ak]; done))) | (refine A3 ?_ ?_; (focus (simp (disch:=omega) only [go_sem,hg0,hg1,hi,hj,hb,Ao,Ap,Am,Ak]; done)))); (try simp (disch:=omega) only [go_sem,hg0,hg1,hi,hj,hb,Ao,Ap,Am,Ak]))
  | false =>
   have hb:=LV 5 (p.nnf true) (q.nnf false)
   rw [cond_false,Bool.not_false]
   rw [Bool.not_false] at hi
   generalize p.nnf true=y at *
   generalize q.nnf false=z at *
   refine Ai Bl Ak (of_decide_eq_true rfl) ?_
   simp (disch:=omega) only [AY,go_sem,hg0,hg1,hi,hj,hb,Ao,Ap,Am,Ak]
   repeat ((first | (refine A2 ?_ ?_; (focus (simp (disch:=omega) only [go_sem,hg0,hg1,hi,hj,hb,Ao,Ap,Am,Ak]; done))) | (refine A3 ?_ ?_; (focus (simp (disch:=omega) only [go_sem,hg0,hg1,hi,hj,hb,Ao,Ap,Am,Ak]; done)))); (try simp (disch:=omega) only [go_sem,hg0,hg1,hi,hj,hb,Ao,Ap,Am,Ak]))
 case inl =>
  rw [Aj (p:=x.op=3) (by omega),Aj (p:=x.op=4) (by omega),Aj (p:=x.op=7) (by omega),cond_false,cond_false,cond_false] at hN
  have e:=Fm.JV hf (.inl h1)
  have hp:x.parts=[]:=by rw [e]; rfl
  have ha:x.atom=Tm.zero:=by rw [e]; rfl
  have hv:x.var=⟨#[]⟩:=by rw [e]; rfl
  rw [hp,ha,hv,zB] at hN
  rw [hN]
  have hb1:(true == false)=false:=rfl
  have hb2:(false == true)=false:=rfl
  have hz:∀ k:Int,(Fm.mk k Tm.zero ⟨#[]⟩ []).sv=.agg [.int .i64 k,.str ⟨#[]⟩,.arr [],.str ⟨#[]⟩,.arr []]:=fun _=>rfl
  cases b with
  | true =>
   rw [cond_true,hz,h1]
   refine Ai Bl Ak (of_decide_eq_true rfl) ?_
   simp (disch:=omega) only [AY,go_sem,hb1,hb2,Ao,Ap,Am,Ak]
   repeat ((first | (refine A2 ?_ ?_; (focus (simp (disch:=omega) only [go_sem,hb1,hb2,Ao,Ap,Am,Ak]; done))) | (refine A3 ?_ ?_; (focus (simp (disch:=omega) only [go_sem,hb1,hb2,Ao,Ap,Am,Ak]; done)))); (try simp (disch:=omega) only [go_sem,hb1,hb2,Ao,Ap,Am,Ak]))
  | false =>
   rw [cond_false,Pe,Ar h1,cond_true,hz]
   refine Ai Bl Ak (of_decide_eq_true rfl) ?_
   simp (disch:=omega) only [AY,go_sem,hb1,hb2,Ao,Ap,Am,Ak]
   repeat ((first | (refine A2 ?_ ?_; (focus (simp (disch:=omega) only [go_sem,hb1,hb2,Ao,Ap,Am,Ak]; done))) | (refine A3 ?_ ?_; (focus (simp (disch:=omega) only [go_sem,hb1,hb2,Ao,Ap,Am,Ak]; done)))); (try simp (disch:=omega) only [go_sem,hb1,hb2,Ao,Ap,Am,Ak]))
 case inr.inl =>
  rw [Aj (p:=x.op=3) (by omega),Aj (p:=x.op=4) (by omega),Aj (p:=x.op=7) (by omega),cond_false,cond_false,cond_false] at hN
  have e:=Fm.JV hf (.inr h1)
  have hp:x.parts=[]:=by rw [e]; rfl
  have ha:x.atom=Tm.zero:=by rw [e]; rfl
  have hv:x.var=⟨#[]⟩:=by rw [e]; rfl
  rw [hp,ha,hv,zB] at hN
  rw [hN]
  have hb1:(true == false)=false:=rfl
  have hb2:(false == true)=false:=rfl
  have hz:∀ k:Int,(Fm.mk k Tm.zero ⟨#[]⟩ []).sv=.agg [.int .i64 k,.str ⟨#[]⟩,.arr [],.str ⟨#[]⟩,.arr []]:=fun _=>rfl
  cases b with
  | true =>
   rw [cond_true,hz,h1]
   refine Ai Bl Ak (of_decide_eq_true rfl) ?_
   simp (disch:=omega) only [AY,go_sem,hb1,hb2,Ao,Ap,Am,Ak]
   repeat ((first | (refine A2 ?_ ?_; (focus (simp (disch:=omega) only [go_sem,hb1,hb2,Ao,Ap,Am,Ak]; done))) | (refine A3 ?_ ?_; (focus (simp (disch:=omega) only [go_sem,hb1,hb2,Ao,Ap,Am,Ak]; done)))); (try simp (disch:=omega) only [go_sem,hb1,hb2,Ao,Ap,Am,Ak]))
  | false =>
   rw [cond_false,Pe,Aj (p:=x.op=1) (by omega),Ar h1,cond_true,cond_false,hz]
   refine Ai Bl Ak (of_decide_eq_true rfl) ?_
   simp (disch:=omega) only [AY,go_sem,hb1,hb2,Ao,Ap,Am,Ak]
   repeat ((first | (refine A2 ?_ ?_; (focus (simp (disch:=omega) only [go_sem,hb1,hb2,Ao,Ap,Am,Ak]; done))) | (refine A3 ?_ ?_; (focus (simp (disch:=omega) only [go_sem,hb1,hb2,Ao,Ap,Am,Ak]; done)))); (try simp (disch:=omega) only [go_sem,hb1,hb2,Ao,Ap,Am,Ak]))
 case inr.inr.inr.inr.inl =>
  rw [Aj (p:=x.op=3) (by omega),Aj (p:=x.op=4) (by omega),Aj (p:=x.op=7) (by omega),cond_false,cond_false,cond_false] at hN
  obtain ⟨p,q,e⟩:=Fm.Ih hf (by omega)
  have hp:x.parts=[p,q]:=by rw [e]; rfl
  have ha:x.atom=Tm.zero:=by rw [e]; rfl
  have hv:x.var=⟨#[]⟩:=by rw [e]; rfl
  have hg0:(x.parts.map Fm.d)[0]?=some (Fm.d p):=by rw [hp]; rfl
  rw [Fm.d_eq] at hg0
  have hg1:(x.parts.map Fm.d)[1]?=some (Fm.d q):=by rw [hp]; rfl
  rw [Fm.d_eq] at hg1
  have hi:=ih p (by rw [hp]; simp) b
  have hj:=ih q (by rw [hp]; simp) b
  unfold SnC at hi hj
  have hT:(bif b then x.op else Pe x.op)=bif b then x.op else 11-x.op:=by
   unfold Pe
   cases b
   ·rw [Aj (p:=x.op=1) (by omega),Aj (p:=x.op=2) (by omega),Ar h1]; simp only [cond_true,cond_false]; omega
   ·rfl
  rw [hT,hp,ha,hv,zA,zA,zB] at hN
  have hN:x.nnf b=Fm.QO (bif b then x.op else 11-x.op) (p.nnf b) (q.nnf b):=hN
  rw [hN]
  clear hcp hnt
  have hb:=LV (bif b then x.op else 11-x.op) (p.nnf b) (q.nnf b)
  generalize p.nnf b=y at *
  generalize q.nnf b=z at *
  cases b with
  | true =>
   simp only [cond_true] at hb ⊢
   refine Ai Bl Ak (of_decide_eq_true rfl) ?_
   simp (disch:=omega) only [AY,go_sem,hg0,hg1,hi,hj,hb,Ao,Ap,Am,Ak]
   repeat ((first | (refine A2 ?_ ?_; (focus (simp (disch:=omega) only [go_sem,hg0,hg1,hi,hj,hb,Ao,Ap,Am,Ak]; done))) | (refine A3 ?_ ?_; (focus (simp (disch:=omega) only [go_sem,hg0,hg1,hi,hj,hb,Ao,Ap,Am,Ak]; done)))); (try simp (disch:=omega) only [go_sem,hg0,hg1,hi,hj,hb,Ao,Ap,Am,Ak]))
  | false =>
   simp only [cond_false] at hb ⊢
   refine Ai Bl Ak (of_decide_eq_true rfl) ?_
   simp (disch:=omega) only [AY,go_sem,hg0,hg1,hi,hj,hb,Ao,Ap,Am,Ak]
   repeat ((first | (refine A2 ?_ ?_; (focus (simp (disch:=omega) only [go_sem,hg0,hg1,hi,hj,hb,Ao,Ap,Am,Ak]; done))) | (refine A3 ?_ ?_; (focus (simp (disch:=omega) only [go_sem,hg0,hg1,hi,hj,hb,Ao,Ap,Am,Ak]; done)))); (try simp (disch:=omega) only [go_sem,hg0,hg1,hi,hj,hb,Ao,Ap,Am,Ak]))
 case inr.inr.inr.inr.inr.inl =>
  rw [Aj (p:=x.op=3) (by omega),Aj (p:=x.op=4) (by omega),Aj (p:=x.op=7) (by omega),cond_false,cond_false,cond_false] at hN
  obtain ⟨p,q,e⟩:=Fm.Ih hf (by omega)
  have hp:x.parts=[p,q]:=by rw [e]; rfl
  have ha:x.atom=Tm.zero:=by rw [e]; rfl
  have hv:x.var=⟨#[]⟩:=by rw [e]; rfl
  have hg0:(x.parts.map Fm.d)[0]?=some (Fm.d p):=by rw [hp]; rfl
  rw [Fm.d_eq] at hg0
  have hg1:(x.parts.map Fm.d)[1]?=some (Fm.d q):=by rw [hp]; rfl
  rw [Fm.d_eq] at hg1
  have hi:=ih p (by rw [hp]; simp) b
  have hj:=ih q (by rw [hp]; simp) b
  unfold SnC at hi hj
  have hT:(bif b then x.op else Pe x.op)=bif b then x.op else 11-x.op:=by
   unfold Pe
   cases b
   ·rw [Aj (p:=x.op=1) (by omega),Aj (p:=x.op=2) (by omega),Aj (p:=x.op=5) (by omega),Ar h1]; simp only [cond_true,cond_false]; omega
   ·rfl
  rw [hT,hp,ha,hv,zA,zA,zB] at hN
  have hN:x.nnf b=Fm.QO (bif b then x.op else 11-x.op) (p.nnf b) (q.nnf b):=hN
  rw [hN]
  clear hcp hnt
  have hb:=LV (bif b then x.op else 11-x.op) (p.nnf b) (q.nnf b)
  generalize p.nnf b=y at *
  generalize q.nnf b=z at *
  cases b with
  | true =>
   simp only [cond_true] at hb ⊢
   refine Ai Bl Ak (of_decide_eq_true rfl) ?_
   simp (disch:=omega) only [AY,go_sem,hg0,hg1,hi,hj,hb,Ao,Ap,Am,Ak]
   repeat ((first | (refine A2 ?_ ?_; (focus (simp (disch:=omega) only [go_sem,hg0,hg1,hi,hj,hb,Ao,Ap,Am,Ak]; done))) | (refine A3 ?_ ?_; (focus (simp (disch:=omega) only [go_sem,hg0,hg1,hi,hj,hb,Ao,Ap,Am,Ak]; done)))); (try simp (disch:=omega) only [go_sem,hg0,hg1,hi,hj,hb,Ao,Ap,Am,Ak]))
  | false =>
   simp only [cond_false] at hb ⊢
   refine Ai Bl Ak (of_decide_eq_true rfl) ?_
   simp (disch:=omega) only [AY,go_sem,hg0,hg1,hi,hj,hb,Ao,Ap,Am,Ak]
   repeat ((first | (refine A2 ?_ ?_; (focus (simp (disch:=omega) only [go_sem,hg0,hg1,hi,hj,hb,Ao,Ap,Am,Ak]; done))) | (refine A3 ?_ ?_; (focus (simp (disch:=omega) only [go_sem,hg0,hg1,hi,hj,hb,Ao,Ap,Am,Ak]; done)))); (try simp (disch:=omega) only [go_sem,hg0,hg1,hi,hj,hb,Ao,Ap,Am,Ak]))
 case inr.inr.inr.inr.inr.inr.inr.inl =>
  rw [Aj (p:=x.op=3) (by omega),Aj (p:=x.op=4) (by omega),Aj (p:=x.op=7) (by omega),cond_false,cond_false,cond_false] at hN
  obtain ⟨p,e⟩:=Fm.Vt hf (by omega)
  have hp:x.parts=[p]:=by rw [e]; rfl
  have ha:x.atom=Tm.zero:=by rw [e]; rfl
  have hg0:(x.parts.map Fm.d)[0]?=some (Fm.d p):=by rw [hp]; rfl
  rw [Fm.d_eq] at hg0
  have hi:=ih p (by rw [hp]; simp) b
  unfold SnC at hi
  have hT:(bif b then x.op else Pe x.op)=bif b then x.op else 17-x.op:=by
   unfold Pe
   cases b
   ·rw [Aj (p:=x.op=1) (by omega),Aj (p:=x.op=2) (by omega),Aj (p:=x.op=5) (by omega),Aj (p:=x.op=6) (by omega),Ar h1]; simp only [cond_true,cond_false]; omega
   ·rfl
  rw [hT,hp,ha,zA,zB] at hN
  rw [hN]
  clear hcp hnt
  generalize p.nnf b=y at *
  have ho:=Fm.d_eq y
  have hb1:(true == false)=false:=rfl
  have hb2:(false == true)=false:=rfl
  have hz:∀ k:Int,(Fm.mk k Tm.zero x.var [y]).sv=.agg [.int .i64 k,.str ⟨#[]⟩,.arr [],.str x.var,.arr [Fm.d y]]:=fun _=>rfl
  cases b with
  | true =>
   rw [cond_true,hz,ho]
   refine Ai Bl Ak (of_decide_eq_true rfl) ?_
   simp (disch:=omega) only [AY,go_sem,hg0,hi,Ao,Ap,Am,Ak]
   repeat ((first | (refine A2 ?_ ?_; (focus (simp (disch:=omega) only [go_sem,hg0,hi,Ao,Ap,Am,Ak]; done))) | (refine A3 ?_ ?_; (focus (simp (disch:=omega) only [go_sem,hg0,hi,Ao,Ap,Am,Ak]; done)))); (try simp (disch:=omega) only [go_sem,hg0,hi,Ao,Ap,Am,Ak]))
  | false =>
   rw [cond_false,hz,ho]
   refine Ai Bl Ak (of_decide_eq_true rfl) ?_
   simp (disch:=omega) only [AY,go_sem,hg0,hi,Ao,Ap,Am,Ak]
   repeat ((first | (refine A2 ?_ ?_; (focus (simp (disch:=omega) only [go_sem,hg0,hi,Ao,Ap,Am,Ak]; done))) | (refine A3 ?_ ?_; (focus (simp (disch:=omega) only [go_sem,hg0,hi,Ao,Ap,Am,Ak]; done)))); (try simp (disch:=omega) only [go_sem,hg0,hi,Ao,Ap,Am,Ak]))
 case inr.inr.inr.inr.inr.inr.inr.inr =>
  rw [Aj (p:=x.op=3) (by omega),Aj (p:=x.op=4) (by omega),Aj (p:=x.op=7) (by omega),cond_false,cond_false,cond_false] at hN
  obtain ⟨p,e⟩:=Fm.Vt hf (by omega)
  have hp:x.parts=[p]:=by rw [e]; rfl
  have ha:x.atom=Tm.zero:=by rw [e]; rfl
  have hg0:(x.parts.map Fm.d)[0]?=some (Fm.d p):=by rw [hp]; rfl
  rw [Fm.d_eq] at hg0
  have hi:=ih p (by rw [hp]; simp) b
  unfold SnC at hi
  have hT:(bif b then x.op else Pe x.op)=bif b then x.op else 17-x.op:=by
   unfold Pe
   cases b
   ·rw [Aj (p:=x.op=1) (by omega),Aj (p:=x.op=2) (by omega),Aj (p:=x.op=5) (by omega),Aj (p:=x.op=6) (by omega),Aj (p:=x.op=8) (by omega),Ar h1]; simp only [cond_true,cond_false]; omega
   ·rfl
  rw [hT,hp,ha,zA,zB] at hN
  rw [hN]
  clear hcp hnt
  generalize p.nnf b=y at *
  have ho:=Fm.d_eq y
  have hb1:(true == false)=false:=rfl
  have hb2:(false == true)=false:=rfl
  have hz:∀ k:Int,(Fm.mk k Tm.zero x.var [y]).sv=.agg [.int .i64 k,.str ⟨#[]⟩,.arr [],.str x.var,.arr [Fm.d y]]:=fun _=>rfl
  cases b with
  | true =>
   rw [cond_true,hz,ho]
   refine Ai Bl Ak (of_decide_eq_true rfl) ?_
   simp (disch:=omega) only [AY,go_sem,hg0,hi,Ao,Ap,Am,Ak]
   repeat ((first | (refine A2 ?_ ?_; (focus (simp (disch:=omega) only [go_sem,hg0,hi,Ao,Ap,Am,Ak]; done))) | (refine A3 ?_ ?_; (focus (simp (disch:=omega) only [go_sem,hg0,hi,Ao,Ap,Am,Ak]; done)))); (try simp (disch:=omega) only [go_sem,hg0,hi,Ao,Ap,Am,Ak]))
  | false =>
   rw [cond_false,hz,ho]
   refine Ai Bl Ak (of_decide_eq_true rfl) ?_
   simp (disch:=omega) only [AY,go_sem,hg0,hi,Ao,Ap,Am,Ak]
   repeat ((first | (refine A2 ?_ ?_; (focus (simp (disch:=omega) only [go_sem,hg0,hi,Ao,Ap,Am,Ak]; done))) | (refine A3 ?_ ?_; (focus (simp (disch:=omega) only [go_sem,hg0,hi,Ao,Ap,Am,Ak]; done)))); (try simp (disch:=omega) only [go_sem,hg0,hi,Ao,Ap,Am,Ak]))
theorem WK (x:Fm) (hx:x.forms=true) (hsz:x.nodes≤40) (b:Bool):SnC b x :=
 ZB x hx hsz b fun y hy b=>WK y (Fm.AQ hx hy) (by have:=Fm.nodes_mem hy; have:=Fm.nodes_eq x; omega) b
termination_by SizeOf.sizeOf x
decreasing_by exact Fm.lt_of_mem hy
mutual
noncomputable def Fm.ex:Fm→Bool
 | .mk op _ _ parts=>dec (op=9) || Fm.exL parts
noncomputable def Fm.exL:List Fm→Bool
 | []=>false
 | x :: xs=>Fm.ex x || Fm.exL xs
end
theorem Fm.WL:∀ xs:List Fm,Fm.exL xs=xs.any Fm.ex
 | []=>by rw [Fm.exL]; rfl
 | x :: xs=>by rw [Fm.exL,Fm.WL xs]; rfl
theorem Fm.WM (x:Fm):x.ex=(dec (x.op=9) || x.parts.any Fm.ex):=by
 obtain ⟨op,atom,var,parts⟩:=x
 rw [Fm.ex,Fm.WL]; rfl
theorem Fm.QaY (tk fr:List ByteArray) (x:Fm) (hx:x.forms=true):∀ (ou:List ByteArray) (e:TEnv) (c:Int),(x.sk tk fr ou e c).1.ex=false:=by
 have ih:∀ y∈x.parts,∀ (ou:List ByteArray) (e:TEnv) (c:Int),(y.sk tk fr ou e c).1.ex=false:=fun y hy=>Fm.QaY tk fr y (Fm.AQ hx hy)
 intro ou e c
 have hfo:=Fm.Bo hx
 by_cases h3:x.op=3
 ·rw [Fm.F7 tk fr h3,Fm.WM]
  show (dec ((3:Int)=9) || ([]:List Fm).any Fm.ex)=false
  rw [Aj (by omega)]; rfl
 by_cases h8:x.op=8
 ·obtain ⟨p,hp⟩:=(Fm.Bu hfo (by unfold qB; rw [Ar h8]; rfl)).2
  rw [Fm.IG tk fr h8 hp,Fm.WM]
  show (dec ((8:Int)=9) || [_].any Fm.ex)=false
  rw [Aj (by omega),zG,List.any_nil,ih p (by rw [hp]; simp)]; rfl
 by_cases h9:x.op=9
 ·obtain ⟨p,hp⟩:=(Fm.Bu hfo (by unfold qB; rw [Ar h9]; simp)).2
  rw [Fm.Gw tk fr h9 hp]
  exact ih p (by rw [hp]; simp) _ _ _
 ·rw [Fm.DL tk fr h3 h8 h9,Fm.WM]
  have key:∀ (xs:List Fm),(∀ y∈xs,y∈x.parts)→∀ c:Int,((A4 (fun y c=>Fm.sk tk fr y ou e c) xs c).1.any Fm.ex)=false:=by
   intro xs
   induction xs with
   | nil=>intro _ c; rfl
   | cons y ys ihy =>
    intro hm c
    rw [A4]
    show (List.any (_ :: _) Fm.ex)=false
    rw [zG,ih y (hm y (by simp)),zH]
    exact ihy (fun z hz=>hm z (by simp [hz])) _
  show (dec (x.op=9) || (A4 (fun y c=>Fm.sk tk fr y ou e c) x.parts c).1.any Fm.ex)=false
  rw [Aj h9,zH]
  exact key x.parts (fun y hy=>hy) c
termination_by SizeOf.sizeOf x
decreasing_by exact Fm.lt_of_mem hy
def Hg:SC:=(.seq (.reg [⟨some 1,none,.boxv 29 5 (.t 0)⟩,⟨some 2,none,.mv (.c (.bool false))⟩]) (.seq (.seq (.reg [⟨some 4,none,.faddr 0 (.t 1)⟩,⟨some 5,none,.load false 1 (.t 4)⟩,⟨some 6,none,.bin .eql false (.t 5) (.c (.int .i64 9))⟩]) (.cond (.t 6) (.seq (.reg [⟨some 2,none,.mv (.c (.bool true))⟩]) .ret) .skip)) (.seq (.seq (.reg [⟨some 3,none,.mv (.c (.int .i64 0))⟩]) (.block 0 (.loop [0,1,0,1,0,0,0,0,0,0,0,0,0,0,0,0,0,0,0,0] (.seq (.seq (.reg [⟨some 7,none,.mv (.t 3)⟩,⟨some 8,none,.faddr 4 (.t 1)⟩,⟨some 9,none,.load false 1 (.t 8)⟩,⟨some 10,none,.len false (.t 9)⟩,⟨some 11,none,.bin .lss false (.t 7) (.t 10)⟩]) (.cond (.t 11) .skip (.exit 0))) (.seq (.block 1 (.seq (.reg [⟨some 14,none,.faddr 4 (.t 1)⟩,⟨some 15,none,.load false 1 (.t 14)⟩,⟨some 16,none,.mv (.t 3)⟩,⟨some 17,none,.iaddr 5 (.t 15) (.t 16)⟩,⟨some 18,none,.load true 5 (.t 17)⟩,⟨some 19,none,.call 20 [(.t 18)]⟩]) (.cond (.t 19) (.seq (.reg [⟨some 2,none,.mv (.c (.bool true))⟩]) .ret) .skip))) (.reg [⟨some 12,none,.mv (.t 3)⟩,⟨some 13,none,.bin .add false (.t 12) (.c (.int .i64 1))⟩,⟨some 3,none,.mv (.t 13)⟩])))))) (.seq (.reg [⟨some 2,none,.mv (.c (.bool false))⟩]) .ret))))
theorem J9:At Tryz.prog 20=some ⟨20,Hg,[(.tmp 2)]⟩:=by kernel_rfl
theorem BM:modes 20=⟨[],.asis,none,false⟩:=by unfold modes; rfl
theorem VG (x:Fm) (hn:x.nodes≤1099511627776) (ih:∀ y∈x.parts,E 20 [y.sv] []=some (.bool y.ex,[])):E 20 [x.sv] []=some (.bool x.ex,[]):=by
 have hl:=Fm.length_le x.parts
 have hne:=Fm.nodes_eq x
 rw [Fm.WM]
 by_cases h9:x.op=9
 ·have q1:(x.op=9)=True:=eq_true h9
  rw [Ar h9,Bool.true_or]
  refine Ai J9 BM (of_decide_eq_true rfl) ?_
  simp (disch:=omega) only [Hg,go_sem,Ab,q1]
 ·have q1:(x.op=9)=False:=eq_false h9
  rw [Aj h9,zH]
  refine Ai J9 BM (of_decide_eq_true rfl) ?_
  simp (disch:=omega) only [Hg,go_sem,Ab,q1]
  refine go_loop (α:=Int) (fun a=>⟨slots 20 0 [(1,.ptr 0 0),(3,.int .i64 a)],[.box 29 [.int .i64 x.op,.str x.atom.name,.arr (x.atom.args.map Tm.d),.str x.var,.arr (x.parts.map Fm.d)]]⟩) (fun a=>∃ k:Nat,a=k∧k≤(x.parts).length∧(x.parts.drop k).any Fm.ex=x.parts.any Fm.ex) (fun a=>(x.parts).length-(a).toNat) 0 ⟨0,rfl,Nat.zero_le _,by rw [List.drop_zero]⟩ (by simp (disch:=omega) only [go_sem,Ab]) ?_
  rintro i ⟨k,hi,hk,hR⟩
  have hni:i.toNat=k:=by omega
  have hni1:(i+1).toNat=k+1:=by omega
  rcases Nat.lt_or_ge k (x.parts).length with hlt | hge
  ·have hg:=get_at Fm.d hlt
   rw [Fm.d_eq] at hg
   have hc:=ih x.parts[k] (List.getElem_mem hlt)
   rw [List.drop_eq_getElem_cons hlt,zG] at hR
   cases hb:x.parts[k].ex with
   | true =>
    rw [hb] at hc hR
    simp (disch:=omega) only [go_sem,Ab,hni,hg,hc,BM]
    exact hR
   | false =>
    rw [hb] at hc hR
    simp (disch:=omega) only [go_sem,Ab,hni,hg,hc,BM]
    exact ⟨i+1,⟨k+1,by omega,hlt,hR⟩,by omega,by first | trivial | rfl | exact ⟨rfl,rfl⟩⟩
  ·rw [List.drop_eq_nil_of_le hge] at hR
   simp (disch:=omega) only [go_sem,Ab,hni]
   exact hR
theorem Rj (x:Fm) (hn:x.nodes≤1099511627776):E 20 [x.sv] []=some (.bool x.ex,[]) :=
 VG x hn fun y hy=>Rj y (by have:=Fm.nodes_mem hy; have:=Fm.nodes_eq x; omega)
termination_by SizeOf.sizeOf x
decreasing_by exact Fm.lt_of_mem hy
def DW:SC:=(.seq (.reg [⟨(some 2),none,(.alloc 29 [(.int .i64 0),(.str ⟨#[]⟩),.nil,(.str ⟨#[]⟩),.nil])⟩]) (.seq (.reg [⟨some 4,none,.mv (.t 0)⟩,⟨some 5,none,.call 56 [(.t 4)]⟩,⟨(some 3),none,(.alloc 29 [(.int .i64 0),(.str ⟨#[]⟩),.nil,(.str ⟨#[]⟩),.nil])⟩,⟨none,none,(.store 5 (.t 3) (.t 5))⟩]) (.seq (.seq (.reg [⟨some 6,none,.load true 5 (.t 3)⟩,⟨some 7,none,.call 32 [(.t 6)]⟩,⟨some 8,none,.un .not (.t 7)⟩,⟨some 9,none,.mv (.t 8)⟩,⟨(some 10),(some (9,false)),(.mv (.t 0))⟩,⟨(some 11),(some (9,false)),(.call 40 [(.t 10),(.c (.int .i64 10))])⟩,⟨some 12,none,.pick (.t 9) (.c (.bool true)) (.t 11)⟩]) (.cond (.t 12) (.seq (.reg [⟨some 13,none,.load true 5 (.t 3)⟩,⟨none,none,(.store 5 (.t 2) (.t 13))⟩]) .ret) .skip)) (.seq (.dreg [[],[],[1],[0,2,1],[3,0,2,1]] [⟨some 14,none,.load true 5 (.t 3)⟩,⟨some 15,none,.mv (.t 0)⟩,⟨some 16,none,.call 40 [(.t 15),(.c (.int .i64 2))]⟩,⟨some 17,none,.call 33 [(.t 14),(.t 16)]⟩,⟨none,none,(.store 5 (.t 2) (.t 17))⟩]) .ret))))
theorem F0:At Tryz.prog 37=some ⟨18,DW,[(.cell 2 true 5)]⟩:=by kernel_rfl
theorem DX:modes 37=⟨[],.frz,none,false⟩:=by unfold modes; rfl
theorem QbH (l:List Int) (hl:Bytes l) (hn:l.length≤1099511627776) (p s:Int) (h0:0≤p) (h1:p≤1050000000000):∃ x p' s',E 37 [.ptr 0 0] [cur l p s]=some (Fm.sv x,[cur l p' s'])∧(p≤p'∧p'≤p+6000)∧x.nodes≤100∧x.tame:=by
 obtain ⟨Q,hQ⟩:∃ Q:SV × List Ob→Prop,Q=fun out=>∃ x p' s',out=(Fm.sv x,[cur l p' s'])∧(p≤p'∧p'≤p+6000)∧x.nodes≤100∧x.tame:=⟨_,rfl⟩
 suffices hq0:∃ out,E 37 [.ptr 0 0] [cur l p s]=some out∧Q out by
  obtain ⟨out,hq1,hq2⟩:=hq0
  rw [hQ] at hq2
  obtain ⟨x,p',s',rfl,hq3⟩:=hq2
  exact ⟨x,p',s',hq1,hq3⟩
 obtain ⟨x,p1,s1,hf,⟨g1,g2⟩,g3,hta⟩:=Sk l hl hn p s h0 (by omega)
 have hgd:=LG x hta (by omega)
 have hxs:x.sv=.agg [.int .i64 x.op,.str x.atom.name,.arr (x.atom.args.map Tm.d),.str x.var,.arr (x.parts.map Fm.d)]:=rfl
 cases hv:x.valid with
 | false =>
  rw [hv] at hgd
  refine AL F0 DX (of_decide_eq_true rfl) ?_
  simp (disch:=omega) only [DW,go_sem,Ab,hf,hgd,AI,Az,Bb,Ak]
  rw [hQ]
  exact ⟨x,p1,s1,rfl,by omega,by omega,hta⟩
 | true =>
  rw [hv] at hgd
  obtain ⟨b1,p2,s2,hb1,g4,g5⟩:=LK l hl hn 10 (by omega) (by omega) p1 s1 (by omega) (by omega)
  cases b1 with
  | true =>
   refine AL F0 DX (of_decide_eq_true rfl) ?_
   simp (disch:=omega) only [DW,go_sem,Ab,hf,hgd,hb1,AI,Az,Bb,Ak]
   rw [hQ]
   exact ⟨x,p2,s2,rfl,by omega,by omega,hta⟩
  | false =>
   obtain ⟨b2,p3,s3,hb2,g6,g7⟩:=LK l hl hn 2 (by omega) (by omega) p2 s2 (by omega) (by omega)
   obtain ⟨hva1,hva2⟩:=E8 hv
   have hs:=WK x hva2 hva1 b2
   unfold SnC at hs
   obtain ⟨hs1,hs2⟩:=Fm.QP x hva2 b2
   refine AL F0 DX (of_decide_eq_true rfl) ?_
   simp (disch:=omega) only [DW,go_sem,Ab,hf,hgd,hb1,hb2,hs,AI,Az,Bb,Ak]
   rw [hQ]
   exact ⟨x.nnf b2,p3,s3,rfl,by omega,by omega,hs1⟩
def FV:SC:=(.seq (.reg [⟨(some 2),none,(.alloc 29 [(.int .i64 0),(.str ⟨#[]⟩),.nil,(.str ⟨#[]⟩),.nil])⟩,⟨some 3,none,.mv (.c .nil)⟩]) (.seq (.reg [⟨some 8,none,.mv (.t 0)⟩,⟨some 9,none,.build [.nil,(.int .i64 0),(.int .u64 0)] [(0,(1,(.t 8)))]⟩,⟨some 10,none,.boxv 62 3 (.t 9)⟩,⟨some 4,none,.mv (.t 10)⟩]) (.seq (.reg [⟨some 11,none,.mv (.t 4)⟩,⟨some 12,none,.call 37 [(.t 11)]⟩,⟨(some 5),none,(.alloc 29 [(.int .i64 0),(.str ⟨#[]⟩),.nil,(.str ⟨#[]⟩),.nil])⟩,⟨none,none,(.store 5 (.t 5) (.t 12))⟩]) (.seq (.reg [⟨(some 13),none,(.mkrow 9 1 [(.str ⟨#[]⟩)] 0 [])⟩,⟨some 6,none,.mv (.t 13)⟩]) (.seq (.seq (.reg [⟨some 14,none,.mv (.t 4)⟩,⟨some 15,none,.call 38 [(.t 14),(.c (.int .i64 3))]⟩,⟨some 7,none,.mv (.t 15)⟩]) (.block 0 (.loop [0,0,1,0,1,1,1,1,0,0,0,0,0,0,0,0,0,0,0,0,0,0,0,0,0,0,0,0,0,0,0,0,0,0,0,0,0] (.seq (.seq (.reg [⟨some 16,none,.mv (.t 7)⟩,⟨some 17,none,.bin .gtr false (.t 16) (.c (.int .i64 0))⟩]) (.cond (.t 17) .skip (.exit 0))) (.seq (.block 1 (.reg [⟨some 20,none,.mv (.t 6)⟩,⟨some 21,none,.mv (.t 4)⟩,⟨(some 22),none,(.mkrow 9 1 [(.str ⟨#[]⟩)] 4 [(0,(.c (.str ⟨#[115,107,49]⟩))),(1,(.c (.str ⟨#[115,107,50]⟩))),(2,(.c (.str ⟨#[97]⟩))),(3,(.c (.str ⟨#[115,107,51]⟩)))])⟩,⟨some 23,none,.call 39 [(.t 21),(.t 22)]⟩,⟨(some 24),none,(.mkrow 9 1 [(.str ⟨#[]⟩)] 1 [(0,(.t 23))])⟩,⟨(some 25),none,(.append 9 1 16 [(.str ⟨#[]⟩)] (.t 20) (.t 24))⟩,⟨some 6,none,.mv (.t 25)⟩])) (.reg [⟨some 18,none,.mv (.t 7)⟩,⟨some 19,none,.bin .sub false (.t 18) (.c (.int .i64 1))⟩,⟨some 7,none,.mv (.t 19)⟩])))))) (.seq (.seq (.reg [⟨some 26,none,.load true 5 (.t 5)⟩,⟨some 27,none,.call 32 [(.t 26)]⟩,⟨some 28,none,.mv (.t 27)⟩,⟨(some 29),(some (28,true)),(.mv (.t 4))⟩,⟨(some 30),(some (28,true)),(.call 40 [(.t 29),(.c (.int .i64 8))])⟩,⟨(some 31),(some (28,true)),(.un .not (.t 30))⟩,⟨some 32,none,.pick (.t 28) (.t 31) (.c (.bool false))⟩]) (.cond (.t 32) (.reg [⟨some 33,none,.load true 5 (.t 5)⟩,⟨some 34,none,.call 41 [(.t 33)]⟩,⟨none,none,(.store 5 (.t 5) (.t 34))⟩]) .skip)) (.seq (.reg [⟨some 35,none,.load true 5 (.t 5)⟩,⟨some 36,none,.mv (.t 6)⟩,⟨none,none,(.store 5 (.t 2) (.t 35))⟩,⟨some 3,none,.mv (.t 36)⟩]) .ret)))))))
theorem JA:At Tryz.prog 17=some ⟨37,FV,[(.cell 2 true 5),(.tmp 3)]⟩:=by kernel_rfl
theorem BG:modes 17=⟨[],.frz,none,false⟩:=by unfold modes; rfl
theorem QaI (us:List ByteArray):OT.erss (us.map fun s=>[OT.str s])=us.map fun s=>[D.str s]:=by
 induction us with
 | nil=>rfl
 | cons x xs ih=>simp only [zA,OT.erss,OT.ers,OT.er,ih]
theorem XI (us:List ByteArray):OT.AA (us.map fun s=>[OT.str s])=true:=by
 induction us with
 | nil=>rfl
 | cons x xs ih=>simp only [zA,OT.AA,OT.C1,OT.full,ih,Bool.and_self]
theorem LW (us:List ByteArray):((us.map fun s=>[OT.str s]).all fun e=>e.length == 1)=true:=by rw [List.all_map,List.all_eq_true]; intro x _; rfl
theorem ND (l:List Int) (hl:Bytes l) (hn:l.length≤1099511627776):∃ (x:Fm) (us:List ByteArray),E 17 [.arr (l.map by_)] []=some (.tup [x.sv,.arr (us.map fun s=>[D.str s])],[])∧x.tame∧x.nodes≤100∧us.length≤3:=by
 obtain ⟨Q,hQ⟩:∃ Q:SV × List Ob→Prop,Q=fun out=>∃ x us,out=(.tup [Fm.sv x,.arr (List.map (fun s:ByteArray=>[D.str s]) us)],[])∧x.tame∧x.nodes≤100∧List.length us≤3:=⟨_,rfl⟩
 suffices hq0:∃ out,E 17 [.arr (l.map by_)] []=some out∧Q out by
  obtain ⟨out,hq1,hq2⟩:=hq0
  rw [hQ] at hq2
  obtain ⟨x,us,rfl,hq3⟩:=hq2
  exact ⟨x,us,hq1,hq3⟩
 obtain ⟨x,p1,s1,hx,⟨g1,g2⟩,g3,hta⟩:=QbH l hl hn 0 0 (by omega) (by omega)
 obtain ⟨v,p2,s2,hv,⟨v0,v1⟩,g4,g5⟩:=ER l hl hn 3 (by omega) (by omega) p1 s1 (by omega) (by omega)
 have hxs:x.sv=.agg [.int .i64 x.op,.str x.atom.name,.arr (x.atom.args.map Tm.d),.str x.var,.arr (x.parts.map Fm.d)]:=rfl
 refine AL JA BG (of_decide_eq_true rfl) ?_
 simp (disch:=omega) only [FV,go_sem,Ab,hx,hv,DX,As]
 refine go_loop (α:=Int × Int × Int × List ByteArray) (fun a=>⟨slots 37 0 [(2,.ptr 0 0),(4,.ptr 1 0),(5,.ptr 2 0),(6,.ref 3),(7,.int .i64 a.1)],[.box 29 [.int .i64 0,.str ⟨#[]⟩,.nil,.str ⟨#[]⟩,.nil],cur l a.2.1 a.2.2.1,.box 29 [.int .i64 x.op,.str x.atom.name,.arr (x.atom.args.map Tm.d),.str x.var,.arr (x.parts.map Fm.d)],.row 9 1 (a.2.2.2.map fun s=>[OT.str s])]⟩) (fun a=>0≤a.1∧a.1≤2∧0≤a.2.1∧a.2.1≤10000-a.1∧a.2.2.2.length+a.1≤2) (fun a=>a.1.toNat) (v,p2,s2,[]) ⟨by dsimp only; omega,by dsimp only; omega,by dsimp only; omega,by dsimp only; omega,by show 0+v≤2; omega⟩ (by simp (disch:=omega) only [go_sem,Ab]) ?_
 rintro ⟨i,p,s,us⟩ ⟨hi0,hi2,hp0,hp1,hul⟩
 dsimp only at hi0 hi2 hp0 hp1 hul
 by_cases hlt:0<i
 ·have q1:(0<i)=True:=eq_true hlt
  obtain ⟨u,p3,s3,ho,_,g6,g7⟩:=TO l hl hn [⟨#[115,107,49]⟩,⟨#[115,107,50]⟩,⟨#[97]⟩,⟨#[115,107,51]⟩] (by decide) (by decide) p s hp0 (by omega)
  simp only [zA,zB] at ho
  have hi:dec (inK .i64 (i-1))=true:=B9 (by omega) (by omega)
  simp (disch:=omega) only [go_sem,Ab,q1,ho,hi,LW,A1]
  refine ⟨(i-1,p3,s3,us++[u]),⟨by dsimp only; omega,by dsimp only; omega,by dsimp only; omega,by dsimp only; omega,by dsimp only; rw [List.length_append,List.length_singleton]; omega⟩,by dsimp only; omega,?_⟩
  simp (disch:=omega) only [go_sem,Ab,List.map_append]
 ·have q1:(0<i)=False:=eq_false hlt
  have hgd:=LG x hta (by omega)
  have e1:=QaI us
  have e2:=XI us
  cases hv:x.valid with
  | false =>
   rw [hv] at hgd
   simp (disch:=omega) only [go_sem,Ab,q1,hgd,e1,e2,LW,Bb,Az]
   rw [hQ]
   exact ⟨x,us,rfl,hta,g3,by omega⟩
  | true =>
   rw [hv] at hgd
   obtain ⟨b1,p4,s4,hb1,g8,g9⟩:=LK l hl hn 8 (by omega) (by omega) p s hp0 (by omega)
   obtain ⟨hva1,hva2⟩:=E8 hv
   cases b1 with
   | true =>
    simp (disch:=omega) only [go_sem,Ab,q1,hgd,hb1,e1,e2,LW,Bb,Az]
    rw [hQ]
    exact ⟨x,us,rfl,hta,g3,by omega⟩
   | false =>
    have hap:=XH x hva2 hva1
    obtain ⟨hp1,hp2⟩:=Fm.QQ x.free x hva2 (fun _=>none) 0
    have e0:(x.sep x.free (fun _=>none) 0).1=Qaz x:=rfl
    rw [e0] at hp1 hp2
    simp (disch:=omega) only [go_sem,Ab,q1,hgd,hb1,hap,e1,e2,LW,Bb,J8,Az]
    rw [hQ]
    exact ⟨Qaz x,us,rfl,hp1,by omega,by omega⟩
def Nv:SC:=(.seq (.reg [⟨some 2,none,.mv (.c (.bool false))⟩]) (.seq (.reg [⟨some 3,none,.mv (.t 0)⟩,⟨some 4,none,.len false (.t 3)⟩,⟨some 5,none,.bin .gtr false (.t 4) (.c (.int .i64 65536))⟩,⟨some 2,none,.mv (.t 5)⟩]) .ret))
theorem Uf:At Tryz.prog 6=some ⟨6,Nv,[(.tmp 2)]⟩:=by kernel_rfl
theorem DQ:modes 6=⟨[],.asis,none,false⟩:=by unfold modes; rfl
def Eu:SC:=(.seq (.reg [⟨some 2,none,.mv (.c (.bool false))⟩]) (.seq (.seq (.reg [⟨some 11,none,.mv (.t 0)⟩,⟨some 12,none,.call 6 [(.t 11)]⟩]) (.cond (.t 12) (.seq (.reg [⟨some 2,none,.mv (.c (.bool true))⟩]) .ret) .skip)) (.seq (.reg [⟨some 14,none,.mv (.t 0)⟩,⟨some 15,none,.call 17 [(.t 14)]⟩,⟨some 13,none,.mv (.t 15)⟩,⟨some 16,none,.ext (.t 13) 0⟩,⟨some 17,none,.ext (.t 13) 1⟩,⟨(some 3),none,(.alloc 29 [(.int .i64 0),(.str ⟨#[]⟩),.nil,(.str ⟨#[]⟩),.nil])⟩,⟨none,none,(.store 5 (.t 3) (.t 16))⟩,⟨some 4,none,.mv (.t 17)⟩]) (.seq (.reg [⟨some 19,none,.load true 5 (.t 3)⟩,⟨some 20,none,.mv (.t 4)⟩,⟨some 21,none,.call 18 [(.t 19),(.t 20)]⟩,⟨some 18,none,.mv (.t 21)⟩,⟨some 22,none,.ext (.t 18) 0⟩,⟨some 23,none,.ext (.t 18) 1⟩,⟨(some 5),none,(.alloc 29 [(.int .i64 0),(.str ⟨#[]⟩),.nil,(.str ⟨#[]⟩),.nil])⟩,⟨none,none,(.store 5 (.t 5) (.t 22))⟩,⟨some 6,none,.mv (.t 23)⟩]) (.seq (.seq (.reg [⟨some 25,none,.load true 5 (.t 3)⟩,⟨some 26,none,.mv (.t 4)⟩,⟨some 27,none,.call 19 [(.t 25),(.t 26)]⟩,⟨some 24,none,.mv (.t 27)⟩,⟨some 28,none,.ext (.t 24) 0⟩,⟨some 29,none,.ext (.t 24) 1⟩,⟨(some 7),none,(.alloc 29 [(.int .i64 0),(.str ⟨#[]⟩),.nil,(.str ⟨#[]⟩),.nil])⟩,⟨none,none,(.store 5 (.t 7) (.t 28))⟩,⟨some 8,none,.mv (.t 29)⟩]) (.seq (.reg [⟨some 30,none,.mv (.t 6)⟩,⟨some 31,none,.mv (.t 8)⟩,⟨some 32,none,.bin .neq true (.t 30) (.t 31)⟩]) (.cond (.t 32) (.seq (.reg [⟨some 2,none,.mv (.c (.bool false))⟩]) .ret) .skip))) (.seq (.seq (.reg [⟨some 33,none,.mv (.t 6)⟩,⟨some 34,none,.un .not (.t 33)⟩]) (.cond (.t 34) (.seq (.reg [⟨some 35,none,.faddr 0 (.t 5)⟩,⟨some 36,none,.load false 1 (.t 35)⟩,⟨some 37,none,.bin .eql false (.t 36) (.c (.int .i64 0))⟩,⟨some 2,none,.mv (.t 37)⟩]) .ret) .skip)) (.seq (.seq (.reg [⟨some 9,none,.mv (.c (.int .i64 1))⟩]) (.block 0 (.loop [1,0,0,1,0,1,0,0,0,1,0,0,0,0,0,0,0,0,0,0,0,0,0,0,0,0,0,0,0,0,0,0,0,0,0,0,0,0,0,0,0,0,0,0,0,0,0,0,0,0,0,0,0,0,0,0,0,0,0,0,0,0,0,0,0,0,0,0,0,0,0,0,0,0] (.seq (.seq (.reg [⟨some 38,none,.mv (.t 9)⟩,⟨some 39,none,.bin .lss false (.t 38) (.c (.int .i64 3))⟩]) (.cond (.t 39) .skip (.exit 0))) (.seq (.block 1 (.seq (.reg [⟨some 42,none,.build [.nil,.nil] []⟩,⟨some 43,none,.mv (.t 0)⟩,⟨some 44,none,.call 14 [(.t 43),(.c (.int .i64 1))]⟩,⟨some 45,none,.mv (.t 9)⟩,⟨some 46,none,.bin .rem false (.t 44) (.t 45)⟩,⟨(some 47),none,(.call 13 [(.t 42),(.c (.str ⟨#[88]⟩)),(.t 46)])⟩,⟨some 48,none,.mv (.t 0)⟩,⟨some 49,none,.call 14 [(.t 48),(.c (.int .i64 2))]⟩,⟨some 50,none,.mv (.t 9)⟩,⟨some 51,none,.bin .rem false (.t 49) (.t 50)⟩,⟨(some 52),none,(.call 13 [(.t 47),(.c (.str ⟨#[89]⟩)),(.t 51)])⟩,⟨some 53,none,.mv (.t 0)⟩,⟨some 54,none,.call 14 [(.t 53),(.c (.int .i64 3))]⟩,⟨some 55,none,.mv (.t 9)⟩,⟨some 56,none,.bin .rem false (.t 54) (.t 55)⟩,⟨(some 57),none,(.call 13 [(.t 52),(.c (.str ⟨#[90]⟩)),(.t 56)])⟩,⟨some 10,none,.alloc 39 [.nil,.nil]⟩,⟨none,none,(.store 2 (.t 10) (.t 57))⟩]) (.seq (.reg [⟨some 58,none,.mv (.t 0)⟩,⟨some 59,none,.mv (.t 9)⟩,⟨some 60,none,.load true 2 (.t 10)⟩,⟨some 61,none,.load true 5 (.t 5)⟩,⟨some 62,none,.call 15 [(.t 58),(.t 59),(.t 60),(.t 61)]⟩,⟨some 63,none,.mv (.t 62)⟩,⟨(some 64),(some (63,true)),(.mv (.t 0))⟩,⟨(some 65),(some (63,true)),(.mv (.t 9))⟩,⟨(some 66),(some (63,true)),(.load true 2 (.t 10))⟩,⟨(some 67),(some (63,true)),(.load true 5 (.t 3))⟩,⟨(some 68),(some (63,true)),(.call 15 [(.t 64),(.t 65),(.t 66),(.t 67)])⟩,⟨(some 69),(some (63,true)),(.un .not (.t 68))⟩,⟨some 70,none,.pick (.t 63) (.t 69) (.c (.bool false))⟩]) (.cond (.t 70) (.seq (.reg [⟨some 2,none,.mv (.c (.bool false))⟩]) .ret) .skip)))) (.reg [⟨some 40,none,.mv (.t 9)⟩,⟨some 41,none,.bin .add false (.t 40) (.c (.int .i64 1))⟩,⟨some 9,none,.mv (.t 41)⟩])))))) (.seq (.reg [⟨some 71,none,.load true 5 (.t 5)⟩,⟨some 72,none,.call 20 [(.t 71)]⟩,⟨some 73,none,.un .not (.t 72)⟩,⟨some 2,none,.mv (.t 73)⟩]) .ret))))))))
theorem Gg:At Tryz.prog 4=some ⟨74,Eu,[(.tmp 2)]⟩:=by kernel_rfl
theorem Gh:modes 4=⟨[],.asis,none,false⟩:=by unfold modes; rfl
theorem QaJ (l:List Int):E 6 [.arr (l.map by_)] []=some (.bool (dec (65536<(l.length:Int))),[]):=by
 refine Ai Uf DQ (of_decide_eq_true rfl) ?_
 simp (disch:=omega) only [Nv,go_sem,Ab]
theorem QaK {us:List ByteArray} {x:Fm} (h:He x us=false):Is x us=Fm.zero:=by unfold Is; rw [h]; rfl
theorem ZC {us:List ByteArray} {x:Fm} (h:He x us=true):x.forms=true∧x.nodes≤40∧(Is x us).forms=true∧(Is x us).nodes≤40∧(Is x us).ex=false∧∀ (l:List Int),Bytes l→∀ (n:Int),0<n→n≤65535→∀ E:ByteArray→Int,RngE E→(Is x us).vt l n E=true→x.vt l n E=true:=by
 have e1:Is x us=skF x us:=by unfold Is; rw [h]; rfl
 unfold He skP skB at h
 rw [zC,zC,zC,zC] at h
 obtain ⟨⟨h1,h2,h3⟩,h4,h5⟩:=h
 obtain ⟨hx1,hx2⟩:=E8 h1
 obtain ⟨hg1,hg2⟩:=E8 h5
 rw [e1]
 refine ⟨hx2,hx1,hg2,hg1,Fm.QaY _ _ x hx2 _ _ _,fun l hl n hn hn2 E hE hv=>?_⟩
 have hs1:=WG h2
 unfold Fm.sepd at h2
 have hs:=List.nodup_append.1 (Aw.1 h2)
 have:=Fm.QaT (l:=l) (n:=n) (J4 x us) x.free hn hn2 (fun E t hE ht=>by
  have hb:=Tm.LO hl (show 1≤n∧n≤65535 by omega) hE t
  refine ⟨hb.1,?_⟩
  rw [Tm.ID,ht,cond_false]
  have hz:=TR hl t.name (vs:=t.args.map (Tm.val l n E)) fun v hv=>by
   obtain ⟨y,hy,rfl⟩:=List.mem_map.1 hv
   exact Tm.LO hl (show 1≤n∧n≤65535 by omega) hE y
  exact (Gc hz.1 hn).2) (fun c=>Re _) x hx2 h3 hs1 [] (fun _=>none) 0 E hE (fun m t hm=>by cases hm) (fun v hv hq=>by rw [List.append_nil] at hv; exact hs.2.2 v hq v hv rfl) hv
 exact this
theorem QaL (l:List Int) (hl:Bytes l):E 4 [.arr (l.map by_)] []=some (.bool true,[]):=by
 have hbig:=QaJ l
 by_cases hb:65536<(l.length:Int)
 ·rw [Ar hb] at hbig
  refine Ai Gg Gh (of_decide_eq_true rfl) ?_
  simp (disch:=omega) only [Eu,go_sem,Ab,hbig,DQ,Do,Av,Bv,BM,BG,Bg,Bh,Fm.osv,Fm.obs]
 ·rw [Aj hb] at hbig
  obtain ⟨x,us,hd,hta,hxn,hul⟩:=ND l hl (by omega)
  have h1:=NA x us hta (by omega) (by omega)
  have h2:=NC x us hta (by omega) (by omega)
  cases hok:He x us with
  | false =>
   have hz:=QaK hok
   rw [hok,hz] at h1 h2
   have hz1:Fm.zero.osv=.agg [.int .i64 0,.str ⟨#[]⟩,.ref 0,.str ⟨#[]⟩,.ref 1]:=rfl
   have hz2:Fm.zero.obs=[.row 26 2 [],.row 29 5 []]:=rfl
   have hz3:Fm.zero.sv=.agg [.int .i64 0,.str ⟨#[]⟩,.arr [],.str ⟨#[]⟩,.arr []]:=rfl
   rw [hz1,hz2] at h1
   rw [hz3] at h2
   refine Ai Gg Gh (of_decide_eq_true rfl) ?_
   simp (disch:=omega) only [Eu,go_sem,Ab,hbig,hd,h1,h2,DQ,Do,Av,Bv,BM,BG,Bg,Bh,Fm.osv,Fm.obs]
  | true =>
   obtain ⟨hxf,hx40,hgf,hg40,hgx,hvt⟩:=ZC hok
   rw [hok] at h1 h2
   obtain ⟨g,hg⟩:∃ g,g=Is x us:=⟨_,rfl⟩
   rw [←hg] at h1 h2 hgf hg40 hgx hvt
   refine Ai Gg Gh (of_decide_eq_true rfl) ?_
   simp (disch:=omega) only [Eu,go_sem,Ab,hbig,hd,h1,h2,DQ,Do,Av,Bv,BM,BG,Bg,Bh,Fm.osv,Fm.obs]
   refine go_loop (α:=Int) (fun i=>⟨slots 74 0 [(0,.arr (l.map by_)),(3,.ptr 0 0),(5,.ptr 1 0),(9,.int .i64 i)],[.box 29 [.int .i64 x.op,.str x.atom.name,.arr (x.atom.args.map Tm.d),.str x.var,.arr (x.parts.map Fm.d)],.box 29 [.int .i64 g.op,.str g.atom.name,.ref 2,.str g.var,.ref 3],.row 26 2 (g.atom.args.map Tm.o),.row 29 5 (g.parts.map Fm.o)]⟩) (fun i=>1≤i∧i≤3) (fun i=>(3-i).toNat) 1 (by omega) (by simp (disch:=omega) only [go_sem,Ab]) ?_
   rintro i ⟨hi1,hi3⟩
   by_cases hlt:i<3
   ·have q1:(i<3)=True:=eq_true hlt
    have q2:(i=0)=False:=eq_false (by omega)
    have v1:=Ha hl (show (0:Int)≤1 by omega)
    have v2:=Ha hl (show (0:Int)≤2 by omega)
    have v3:=Ha hl (show (0:Int)≤3 by omega)
    have r1:=Gc v1.1 (show 0<i by omega)
    have r2:=Gc v2.1 (show 0<i by omega)
    have r3:=Gc v3.1 (show 0<i by omega)
    have a1:=TT l hl (by omega) 1 (by omega) (by omega)
    have a2:=TT l hl (by omega) 2 (by omega) (by omega)
    have a3:=TT l hl (by omega) 3 (by omega) (by omega)
    obtain ⟨e,hee⟩:∃ e:Ev,e=[(⟨#[88]⟩,(D6 l 1).tmod i),(⟨#[89]⟩,(D6 l 2).tmod i),(⟨#[90]⟩,(D6 l 3).tmod i)]:=⟨_,rfl⟩
    have hE:EnvOk e:=by
     rw [hee]
     intro p hp
     simp only [List.mem_cons,List.not_mem_nil,or_false] at hp
     rcases hp with rfl | rfl | rfl
     ·dsimp only; omega
     ·dsimp only; omega
     ·dsimp only; omega
    have hel:e.length=3:=by rw [hee]; rfl
    have w1:E 13 [.agg [.arr [],.arr []],.str ⟨#[88]⟩,.int .i64 ((D6 l 1).tmod i)] []=some (.agg [.arr [[D.str ⟨#[88]⟩]],.arr [[D.int ((D6 l 1).tmod i)]]],[]):=Px [] (by simp) _ _
    have w2:E 13 [.agg [.arr [[D.str ⟨#[88]⟩]],.arr [[D.int ((D6 l 1).tmod i)]]],.str ⟨#[89]⟩,.int .i64 ((D6 l 2).tmod i)] []=some (.agg [.arr [[D.str ⟨#[88]⟩],[D.str ⟨#[89]⟩]],.arr [[D.int ((D6 l 1).tmod i)],[D.int ((D6 l 2).tmod i)]]],[]):=Px [(⟨#[88]⟩,(D6 l 1).tmod i)] (by simp) _ _
    have w3:E 13 [.agg [.arr [[D.str ⟨#[88]⟩],[D.str ⟨#[89]⟩]],.arr [[D.int ((D6 l 1).tmod i)],[D.int ((D6 l 2).tmod i)]]],.str ⟨#[90]⟩,.int .i64 ((D6 l 3).tmod i)] []=some (.agg [.arr (e.map nmD),.arr (e.map viD)],[]):=by
     rw [hee]
     exact Px [(⟨#[88]⟩,(D6 l 1).tmod i),(⟨#[89]⟩,(D6 l 2).tmod i)] (by simp) _ _
    have c1:=Sc l hl (by omega) i (by omega) g hgf e (by omega) hE
    have c3:=Sc l hl (by omega) i (by omega) x hxf e (by omega) hE
    have himp:=hvt l hl i (by omega) (by omega) (C0 e) (Pv e hE)
    cases hb:g.vt l i (C0 e) with
    | true =>
     rw [himp hb] at c3
     rw [hb] at c1
     simp (disch:=omega) only [go_sem,Ab,q1,q2,a1,a2,a3,w1,w2,w3,c1,c3,DQ,Do,Av,Bv,BM,BG,Bg,Bh,Fm.osv,Fm.obs]
     exact ⟨i+1,by omega,by omega,by first | trivial | rfl | exact ⟨rfl,rfl⟩⟩
    | false =>
     rw [hb] at c1
     simp (disch:=omega) only [go_sem,Ab,q1,q2,a1,a2,a3,w1,w2,w3,c1,c3,DQ,Do,Av,Bv,BM,BG,Bg,Bh,Fm.osv,Fm.obs]
     exact ⟨i+1,by omega,by omega,by first | trivial | rfl | exact ⟨rfl,rfl⟩⟩
   ·have q1:(i<3)=False:=eq_false hlt
    have h4:=Rj g (by omega)
    rw [hgx] at h4
    simp (disch:=omega) only [go_sem,Ab,q1,h4,DQ,Do,Av,Bv,BM,BG,Bg,Bh,Fm.osv,Fm.obs]
end Go.Proofs.YtkmenhhapfombaaGreatDoor
set_option maxRecDepth 100000
set_option linter.unusedSimpArgs false
set_option linter.unusedVariables false
set_option linter.unusedSectionVars false
namespace Go.Proofs.YtkmenhhapfombaaGreatDoor
open Go.RowKit Go.ChangeShapes Go.WideShapes Go.ChangeAt Go.Deep
section
variable {H:Type} {enc:TypeId × Value→H} {P:Program} {w:World} {base:Nat} {spare:Nat→Bool} {held:Bool}
theorem JB {b o k:Nat}:(⟨b,o,none⟩:Addr).add k=⟨b,o+k,none⟩:=by
 unfold Addr.add; split
 ·subst_vars; rfl
 ·rfl
theorem QaM {a:Addr} {v:Value} (h:w.cell? a=some v):a.block<w.heap.size:=by
 unfold World.cell? at h
 cases hb:w.heap[a.block]? with
 | none=>rw [hb] at h; cases h
 | some o=>exact (Array.getElem?_eq_some_iff.1 hb).1
end
section
variable {H:Type} {enc:TypeId × Value→H} {w:World} {base:Nat} {spare:Nat→Bool} {held:Bool}
end
end Go.Proofs.YtkmenhhapfombaaGreatDoor
set_option maxRecDepth 100000
set_option linter.unusedSimpArgs false
set_option linter.unusedVariables false
set_option linter.unusedSectionVars false
namespace Go.Proofs.YtkmenhhapfombaaGreatDoor
open Go.RowKit Go.ChangeShapes Go.WideShapes Go.ChangeAt Go.Deep
section
variable {H:Type} {enc:TypeId × Value→H} {P:Program} {w:World} {base:Nat} {spare:Nat→Bool} {held:Bool}
theorem ZD {t e:TypeId} {fuel:Nat} {v:Value} {x:DataW H × List MemPlace} (sz:Nat) (hsz:P.cellsOf e=sz) (h0:0<sz) (ht:P.underlying t=some (.slice e)) (h:DataW.trod enc P w base spare held fuel t [v]=some x) :
  ∃ (a:Option Addr) (len cap:Nat) (f:Nat→Nat→Value),v=.slice a len cap∧len≤cap∧cap≤9223372036854775807∧SlA w 0 sz len f a ∧
   ∀ i,i<len→∃ n x',n<fuel∧DataW.trod enc P w base spare held n e ((zE sz).map (f i))=some x':=by
 rcases DataW.trod_slice ht h with ⟨hcs,_⟩ | ⟨a,len,cap,elems,rest,n,hf,hcs,hx,hb,hl,hm,hlen,hel,_,_⟩
 ·simp only [List.cons.injEq,and_true] at hcs
  exact ⟨none,0,0,fun _ _=>undef,hcs,Nat.le_refl _,by omega,.inl rfl,fun i hi=>absurd hi (by omega)⟩
 ·have hi:∀ i,i<len→∃ cs' x',w.cells? base (a.add (i*sz)) sz=some cs'∧DataW.trod enc P w base spare held n e cs'=some x':=by
   intro i hi
   have h1:=hel i hi
   rw [hsz,zD (by omega)] at h1
   obtain ⟨cs',h2,h3⟩:=Option.bind_eq_some_iff.1 h1
   exact ⟨cs',_,h2,h3⟩
  have hcell:∀ i j,i<len→j<sz→∃ v,w.cell? (a.add (i*sz+j))=some v:=by
   intro i j hil hj
   obtain ⟨cs',x',hc,_⟩:=hi i hil
   obtain ⟨_,hcl,hat⟩:=World.cells?_some hc
   have h1:=hat j hj
   rw [Go.Deep.add_add,zD (by omega)] at h1
   exact ⟨_,h1⟩
  simp only [List.cons.injEq,and_true] at hcs
  refine ⟨some a,len,cap,fun i j=>(w.cell? (a.add (i*sz+j))).getD undef,hcs,hl,hm,?_,?_⟩
  ·rcases Nat.eq_zero_or_pos len with h | h
   ·exact .inl h
   ·obtain ⟨v,hv⟩:=hcell 0 0 h h0
    rw [Nat.zero_mul,Nat.zero_add] at hv
    have hsp:a.spot=none:=by simpa [Addr.add] using World.cell?_spot hv
    have hlt:=QaM hv
    obtain ⟨b,off,spot⟩:=a
    simp only at hsp
    subst hsp
    refine .inr ⟨b,off,rfl,Nat.zero_le _,by simpa [Addr.add] using hlt,fun i j hil hj=>?_⟩
    obtain ⟨v',hv'⟩:=hcell i j hil hj
    rw [JB] at hv'
    show _=some ((w.cell? ((⟨b,off,none⟩:Addr).add (i*sz+j))).getD undef)
    rw [JB,Nat.add_assoc,hv']
    rfl
  ·intro i hil
   obtain ⟨cs',x',hc,ht'⟩:=hi i hil
   obtain ⟨_,hcl,hat⟩:=World.cells?_some hc
   refine ⟨n,x',by omega,?_⟩
   have hcs':(zE sz).map (fun j=>(w.cell? (a.add (i*sz+j))).getD undef)=cs':=by
    apply List.ext_getElem?
    intro j
    by_cases hj:j<sz
    ·rw [List.getElem?_map,List.getElem?_range hj]
     have h1:=hat j hj
     rw [Go.Deep.add_add] at h1
     rw [zD (by omega:j<cs'.length)] at h1 ⊢
     simp [h1]
    ·rw [List.getElem?_eq_none (by simp; omega),List.getElem?_eq_none (by omega)]
   rw [hcs']
   exact ht'
end
inductive Lvs (w:World):List D→List Value→Prop
 |nil:Lvs w [] []
 |cons {d:D} {v:Value} {ds:List D} {vs:List Value} (h:DAt w d v) (hs:Lvs w ds vs):Lvs w (d :: ds) (v :: vs)
theorem Lvs.len {w:World} {ds:List D} {vs:List Value} (h:Lvs w ds vs):ds.length=vs.length:=by
 induction h with
 | nil=>rfl
 | cons h hs ih=>simp [ih]
theorem Lvs.get {w:World} {ds:List D} {vs:List Value} (h:Lvs w ds vs):∀ j (h1:j<ds.length) (h2:j<vs.length),DAt w ds[j] vs[j]:=by
 induction h with
 | nil=>intro j h1; simp at h1
 | cons h hs ih =>
  intro j h1 h2
  cases j with
  | zero=>exact h
  | succ j=>exact ih j (by simpa using h1) (by simpa using h2)
theorem ZE {α:Type} [Inhabited α] (dd:α→List D) {w:World} {m len cap:Nat} {f:Nat→Nat→Value} {a:Option Addr} (hl:len≤cap) (hm:cap≤9223372036854775807) (hS:SlA w 0 m len f a)
  (hel:∀ i,i<len→∃ X:α,Lvs w (dd X) ((zE m).map (f i))):∃ xs:List α,DAt w (.arr (xs.map dd)) (.slice a len cap):=by
 obtain ⟨g,hg⟩:∃ g:Nat→α,∀ i,i<len→Lvs w (dd (g i)) ((zE m).map (f i)) :=
  ⟨fun i=>if h:i<len then (hel i h).choose else default,fun i hi=>by simp only [hi,dif_pos]; exact (hel i hi).choose_spec⟩
 refine ⟨(zE len).map g,?_⟩
 have hlen:(((zE len).map g).map dd).length=len:=by simp
 have:=DAt.QaZ (w:=w) (es:=((zE len).map g).map dd) (sz:=m) (cap:=cap) (a:=a) (f:=f) (by rw [hlen]; exact hl) hm (by rw [hlen]; exact hS) (fun i hi=>by
  rw [hlen] at hi
  have:=(hg i hi).len
  simpa using this) (fun i j hi hj=>by
  rw [hlen] at hi
  have h1:=hg i hi
  have h2:=h1.len
  simp only [List.length_map,List.length_range] at h2
  simp only [List.getElem_map,List.getElem_range] at hj ⊢
  have:=h1.get j hj (by simp; omega)
  simpa using this)
 rw [hlen] at this
 exact this
instance:Inhabited Tm:=⟨Tm.zero⟩
instance:Inhabited Fm:=⟨Fm.zero⟩
section
variable {H:Type} {enc:TypeId × Value→H} {w:World} {base:Nat} {spare:Nat→Bool} {held:Bool}
end
end Go.Proofs.YtkmenhhapfombaaGreatDoor
set_option maxRecDepth 100000
set_option linter.unusedSimpArgs false
set_option linter.unusedVariables false
set_option linter.unusedSectionVars false
namespace Go.Proofs.YtkmenhhapfombaaGreatDoor
open Go.RowKit
theorem DRep.lt_ {own:Bool} {w:World} {S:Nat→Prop} {d:D} {v:Value} (h:DRep own w S d v):DRep own w (fun b=>S b∧b<w.heap.size) d v:=by
 induction h with
 | int S n=>exact .int _ n
 | byte S n=>exact .byte _ n
 | bool S b=>exact .bool _ b
 | str S s h=>exact .str _ s h
 | arr S sz es a cap f Sub h1 h2 h3 h4 h5 h6 h7 ih =>
  refine .arr _ sz es a cap f (fun i j x=>Sub i j x∧x<w.heap.size) h1 h2 ?_ h4 (fun i j x h=>⟨h5 i j x h.1,h.2⟩) (fun ho i j i' j' x h h'=>h6 ho i j i' j' x h.1 h'.1) ih
  rcases h3 with h3 | ⟨b,off,ha,hS,hl,hc,ho⟩
  ·exact .inl h3
  ·exact .inr ⟨b,off,ha,⟨hS,hl⟩,hl,hc,fun h=>⟨fun i j hx=>(ho h).1 i j hx.1,(ho h).2⟩⟩
theorem DAt.rep {w:World} {es:List (List D)} {v:Value} (h:DAt w (.arr es) v):RepV w (fun b=>b<w.heap.size) (fun _=>none) (.arr es) v:=by
 simp only [RepV]
 exact (DRep.lt_ h).up fun b hb=>hb.2
theorem Fun.yes {f:FuncId} {args:List SV} (h:Fun Tryz.prog f args [] (.bool true) []) {w:World} {vs:List Value} (hgl:GL w fun b=>b<w.heap.size) (hvs:RepVs w (fun b=>b<w.heap.size) (fun _=>none) args vs):Calls Tryz.prog f vs.toArray w (Ret w (.bool true)):=by
 have nl:∀ g,¬ (Au [] g).live:=fun g hg=>by simp [Au,Ob.live] at hg
 refine (h w (fun b=>b<w.heap.size) (fun _=>none) (fun _ _=>False) vs ⟨fun b hb=>hb,fun g hg=>absurd hg (nl g),fun g b hg=>absurd hg (nl g),fun g b hg=>absurd hg (nl g),fun g g' b hg=>absurd hg (nl g),fun g _=>rfl,hgl⟩ hvs).mono ?_
 rintro e w' ⟨v,I',V',B',rfl,hr,hp⟩
 simp only [RepV] at hr
 subst hr
 exact ⟨rfl,hp.fr.os,hp.fr.tape.1,hp.fr.output,hp.fr.size,fun b hb=>hp.fr.block b hb fun ⟨g,hg,_⟩=>absurd hg (nl g)⟩
theorem ZF {w:World} {I:Nat→Prop} {V:Nat→Option Value}:RepVs w I V [] []:=by simp [RepVs]
theorem XJ {w:World} {I:Nat→Prop} {V:Nat→Option Value} {x:SV} {xs:List SV} {v:Value} {vs:List Value} (h:RepV w I V x v) (hs:RepVs w I V xs vs):RepVs w I V (x :: xs) (v :: vs):=by
 simp only [RepVs]; exact ⟨v,vs,rfl,h,hs⟩
section
variable {H:Type} {enc:TypeId × Value→H} {w:World} {base:Nat} {spare:Nat→Bool} {held:Bool}
end
end Go.Proofs.YtkmenhhapfombaaGreatDoor
set_option maxRecDepth 100000
set_option linter.unusedSimpArgs false
set_option linter.unusedVariables false
set_option linter.unusedSectionVars false
namespace Go.Proofs.YtkmenhhapfombaaGreatDoor
open Go.RowKit Go.ChangeShapes Go.WideShapes Go.ChangeAt Go.Deep
section
variable {H:Type} {enc:TypeId × Value→H} {w:World} {base:Nat} {spare:Nat→Bool} {held:Bool}
abbrev ByteZ:={ b:Int // 0≤b∧b≤255 }
instance:Inhabited ByteZ:=⟨⟨0,by omega⟩⟩
theorem XK {fuel:Nat} {v:Value} {x:DataW H × List MemPlace} (h:DataW.trod enc Tryz.prog w base spare held fuel 22 [v]=some x):∃ l:List Int,Bytes l∧DAt w (.arr (l.map by_)) v:=by
 obtain ⟨a,len,cap,f,rfl,hl,hm,hS,hr⟩:=ZD (P:=Tryz.prog) 1 (by kernel_rfl) (by omega) Tryz.underlying22 h
 obtain ⟨xs,hx⟩:=ZE (fun s:ByteZ=>[D.byte s.1]) hl hm hS fun i hi=>by
  obtain ⟨n,x',hn,h1⟩:=hr i hi
  obtain ⟨z,q,_,hw⟩:=DataW.trod_int Tryz.underlying5 h1
  have h2:(decide (IntKind.u8.min≤z)&&decide (z≤IntKind.u8.max))=true:=hw
  rw [zC,decide_eq_true_eq,decide_eq_true_eq] at h2
  rw [q]
  exact ⟨⟨z,h2.1,h2.2⟩,.cons (.byte _ z) .nil⟩
 refine ⟨xs.map (·.1),fun b hb=>?_,?_⟩
 ·obtain ⟨s,_,rfl⟩:=List.mem_map.1 hb
  exact s.2
 ·rw [List.map_map]
  exact hx
end
end Go.Proofs.YtkmenhhapfombaaGreatDoor
