/-
  Texts of this claim, one behind the other, each built on those ahead of it. No condition.
-/
import Derived.Test.YtepbennkcbmgoaaGreatDoorK52b
import Derived.Test.YtepbennkcbmgoaaGreatDoorK52c
import Derived.Test.YtepbennkcbmgoaaGreatDoorK52d
import Derived.Test.YtepbennkcbmgoaaGreatDoorK52e
import Derived.Test.YtepbennkcbmgoaaGreatDoorK52j
import Derived.Test.YtepbennkcbmgoaaGreatDoorK52k
import Derived.Test.YtepbennkcbmgoaaGreatDoorK52l
import Derived.Test.YtepbennkcbmgoaaGreatDoorK52m
import Derived.Test.YtepbennkcbmgoaaGreatDoorK52n
import Derived.ProofKit
import Derived.Deep.Slices
import Derived.Deep.Fields
import Derived.ChangeSame
import Derived.OpenShut
import Derived.ShutString
import Derived.ChangeOld
set_option maxHeartbeats 16000000
open Option renaming isSome_some → zA, isSome_none → zB
open List renaming drop_eq_getElem_cons → zC, drop_eq_nil_of_le → zD, getElem_mem → zG, drop_zero → zI, getElem?_eq_getElem → zJ, map_nil → zK, range → zM, length_map → zN, getElem_of_mem → zO, map_append → zT
open Bool renaming and_eq_true → zE, false_and → zU, and_false → zV, true_and → zW
open Nat renaming lt_or_ge → zF, zero_le → zH, eq_zero_or_pos → zL
open Int renaming lt_or_le → zP, toNat_natCast → zR
open Array renaming getElem?_eq_some_iff → zQ
open Option.some renaming inj → zS
set_option maxRecDepth 100000
set_option linter.unusedSimpArgs false
set_option linter.unusedVariables false
set_option linter.unusedSectionVars false
namespace Go.Proofs.YtepbennkcbmgoaaGreatDoor
open Go.RowKit
theorem QcA (a b:Tm) (ha:a.expr=true) (hb:b.expr=true) (n:Nat) (total:Option Sb) (hr:BL n ⟨[]⟩ [(a,b)]=some total):E 199 [a.sv,b.sv] []=some (.tup [(uTo total).sv,.bool (uOk total)],[]):=by
 have hres:∀ t:Sb,t.sv=.agg [.arr (t.binds.map Bd.d)]:=fun t=>rfl
 rw [hres]
 refine Ad TQ Ie (of_decide_eq_true rfl) ?_
 simp (disch:=omega) only [LV,go_sem,Aa]
 refine go_loop (α:=Nat × Bool × Bool × Sb × List (Tm × Tm)) u5H (u5R total) (fun a=>a.1) (n,true,true,⟨[]⟩,[(a,b)]) ⟨uInv.start ha hb,hr,fun _=>rfl⟩ (by simp (disch:=omega) only [go_sem,Aa,u5H]; rfl) ?_
 clear hr ha hb
 rintro ⟨n,sn,lo,s,l⟩ ⟨hinv,hrun,hsn⟩
 dsimp only at hinv hrun hsn
 have hs:=hinv.ok
 have hst:=Fl hs
 cases n with
 | zero=>rw [BL] at hrun; cases hrun
 | succ n =>
 cases l with
 | nil =>
  rw [BL] at hrun
  obtain rfl:=zS hrun
  have hk:uTo (some s)=s:=rfl
  rw [hk]
  cases sn with
  | true =>
   obtain rfl:s=⟨[]⟩:=by obtain ⟨bs⟩:=s; have:=hsn rfl; rw [show bs=[] from this]
   cases lo with
   | true =>
    simp (disch:=omega) only [go_sem,Aa,u5H,u5b,u5r,uOk,zA,zK]
    try rfl
   | false =>
    simp (disch:=omega) only [go_sem,Aa,u5H,u5b,u5r,uOk,zA,zK]
    try rfl
  | false =>
   cases lo with
   | true =>
    simp (disch:=omega) only [go_sem,Aa,u5H,u5b,u5r,uOk,zA,zK]
    try rfl
   | false =>
    simp (disch:=omega) only [go_sem,Aa,u5H,u5b,u5r,uOk,zA,zK]
    try rfl
 | cons p l =>
  have hcmb:(sn=true∧lo=true)∨(sn=true∧lo=false)∨(sn=false∧lo=true)∨(sn=false∧lo=false):=by cases sn <;> cases lo <;> simp
  rcases hcmb with ⟨rfl,rfl⟩ | ⟨rfl,rfl⟩ | ⟨rfl,rfl⟩ | ⟨rfl,rfl⟩
  ·exact QfX total n s p l hinv hrun hsn
  ·exact QfY total n s p l hinv hrun hsn
  ·exact QfZ total n s p l hinv hrun hsn
  ·exact Qga total n s p l hinv hrun hsn
def IJ:SC:=(.seq (.reg [⟨some 4,none,.mv (.c .nil)⟩]) (.seq (.dreg [[],[],[],[1,2],[0,3,1,2],[],[],[6],[5,7,6],[4,0,3,1,2,8,5,7,6],[9,4,0,3,1,2,8,5,7,6]] [⟨(some 5),none,(.mkrow 122 3 [(.bool false),(.str ⟨#[]⟩),.nil] 0 [])⟩,⟨some 6,none,.mv (.t 0)⟩,⟨some 7,none,.mv (.t 1)⟩,⟨some 8,none,.slice false 3 (.t 6) none (some (.t 7))⟩,⟨(some 9),none,(.append 122 3 48 [(.bool false),(.str ⟨#[]⟩),.nil] (.t 5) (.t 8))⟩,⟨some 10,none,.mv (.t 0)⟩,⟨some 11,none,.mv (.t 1)⟩,⟨some 12,none,.bin .add false (.t 11) (.c (.int .i64 1))⟩,⟨some 13,none,.slice false 3 (.t 10) (some (.t 12)) none⟩,⟨(some 14),none,(.append 122 3 48 [(.bool false),(.str ⟨#[]⟩),.nil] (.t 9) (.t 13))⟩,⟨some 4,none,.mv (.t 14)⟩]) .ret))
theorem Pe:codeOf Tryz.prog 201=some ⟨15,IJ,[(.tmp 4)]⟩:=by kernel_rfl
theorem IK:modes 201=⟨[],.asis,none,false⟩:=by unfold modes; rfl
theorem Pf (l:List Lt) (hl:l.length≤1048575) (p:Nat) (h1:p<l.length):E 201 [.arr (l.map Lt.d),.int .i64 (p:Int)] []=some (.ref 0,[.row 122 3 ((l.eraseIdx p).map (fun b:Lt=>b.d.map D.ot))]):=by
 have tp:=zR p
 have tp1:((p:Int)+1).toNat=p+1:=by omega
 have e1:=Lt.ot_take l p
 have e2:=Lt.ot_drop l (p+1)
 have e6:=Lt.ald3 l
 have e7:(l.map Lt.d).take l.length=l.map Lt.d:=List.take_of_length_le (by rw [zN]; exact Nat.le_refl _)
 have e8:((l.map Lt.d).drop (p+1)).length=l.length-(p+1):=by rw [List.length_drop,zN]
 have e3:=Lt.al3 (l.take p)
 have e4:=Lt.al3 (l.drop (p+1))
 have hlt:(l.take p).length=p:=by rw [List.length_take]; omega
 have hld:(l.drop (p+1)).length=l.length-(p+1):=List.length_drop
 have e5:(l.take p).map (fun b:Lt=>b.d.map D.ot)++(l.drop (p+1)).map (fun b:Lt=>b.d.map D.ot)=(l.eraseIdx p).map (fun b:Lt=>b.d.map D.ot):=by rw [←zT,List.eraseIdx_eq_take_drop_succ]
 refine Ad Pe IK (of_decide_eq_true rfl) ?_
 simp (disch:=omega) only [IJ,go_sem,Aa,tp,tp1,e1,e2,e3,e4,e5,e6,e7,e8,hlt,hld]
def EJ:SC:=(.seq (.reg [⟨some 2,none,.boxv 142 1 (.t 0)⟩,⟨some 4,none,.alloc 60 [.nil]⟩,⟨some 5,none,.mv (.c (.bool false))⟩]) (.seq (.reg [⟨some 11,none,.load true 1 (.t 2)⟩,⟨some 12,none,.mv (.t 1)⟩,⟨some 13,none,.call 271 [(.t 11),(.t 12)]⟩,⟨some 10,none,.mv (.t 13)⟩,⟨some 14,none,.ext (.t 10) 0⟩,⟨some 15,none,.ext (.t 10) 1⟩,⟨some 6,none,.alloc 60 [.nil]⟩,⟨none,none,(.store 1 (.t 6) (.t 14))⟩,⟨some 7,none,.mv (.t 15)⟩]) (.seq (.seq (.reg [⟨some 16,none,.mv (.t 7)⟩,⟨some 17,none,.un .not (.t 16)⟩]) (.cond (.t 17) (.seq (.reg [⟨some 18,none,.build [.nil] []⟩,⟨none,none,(.store 1 (.t 4) (.t 18))⟩,⟨some 5,none,.mv (.c (.bool false))⟩]) .ret) .skip)) (.seq (.reg [⟨some 20,none,.load true 1 (.t 6)⟩,⟨some 21,none,.call 161 [(.t 20)]⟩,⟨some 19,none,.mv (.t 21)⟩,⟨some 22,none,.ext (.t 19) 0⟩,⟨some 23,none,.ext (.t 19) 1⟩,⟨some 8,none,.alloc 60 [.nil]⟩,⟨none,none,(.store 1 (.t 8) (.t 22))⟩,⟨some 9,none,.mv (.t 23)⟩]) (.seq (.seq (.reg [⟨some 24,none,.mv (.t 9)⟩,⟨some 25,none,.un .not (.t 24)⟩,⟨some 26,none,.mv (.t 25)⟩,⟨(some 27),(some (26,false)),(.load true 1 (.t 8))⟩,⟨(some 28),(some (26,false)),(.call 144 [(.t 27)])⟩,⟨(some 29),(some (26,false)),(.un .not (.t 28))⟩,⟨some 30,none,.pick (.t 26) (.c (.bool true)) (.t 29)⟩]) (.cond (.t 30) (.seq (.reg [⟨some 31,none,.build [.nil] []⟩,⟨none,none,(.store 1 (.t 4) (.t 31))⟩,⟨some 5,none,.mv (.c (.bool false))⟩]) .ret) .skip)) (.seq (.reg [⟨some 32,none,.load true 1 (.t 8)⟩,⟨none,none,(.store 1 (.t 4) (.t 32))⟩,⟨some 5,none,.mv (.c (.bool true))⟩]) .ret))))))
theorem Gu:codeOf Tryz.prog 200=some ⟨33,EJ,[(.cell 4 true 1),(.tmp 5)]⟩:=by kernel_rfl
theorem EK:modes 200=⟨[],.frz,none,false⟩:=by unfold modes; rfl
theorem Zx (s:Sb) (hs:s.ok=true) (ht:s.tame) (l:List Lt) (hl:l.length≤1048576) (hal:∀ x∈l,x.atom.atom=true):E 200 [s.sv,.arr (l.map Lt.d)] []=some (.tup [(U0 s l).sv,.bool (FZ s l)],[]):=by
 have h1:=Qcx s hs ht l hl hal
 have hsv:∀ d:Cl,d.sv=.agg [.arr (d.lits.map Lt.d)]:=fun d=>rfl
 have hss:s.sv=.agg [.arr (s.binds.map Bd.d)]:=rfl
 rw [hss,hsv] at h1
 rw [hss,hsv]
 cases hok:EO s l with
 | false =>
  have ho:FZ s l=false:=by unfold FZ; rw [hok]; rfl
  have hz:(Cl.mk []).lits=[]:=rfl
  rw [PL hok,hok] at h1
  rw [RD ho,ho]
  refine Ad Gu EK (of_decide_eq_true rfl) ?_
  simp (disch:=omega) only [EJ,go_sem,Aa,h1,FH]
 | true =>
  have hc:=Qa9 hok
  obtain ⟨c,hcc⟩:∃ c,c=apC s l:=⟨_,rfl⟩
  rw [←hcc] at hc h1
  have h2:=QaC c hc
  have hn:=Qb5 10 hc
  have h3:=Kt (nz 10 c) hn
  rw [hok] at h1
  rw [hsv,hsv] at h2
  rw [hsv] at h3
  have hio:FZ s l=(nz 10 c).norm:=by unfold FZ; rw [hok,zW,hcc]
  cases hm:(nz 10 c).norm with
  | false =>
   rw [hm] at h3 hio
   rw [RD hio,hio]
   refine Ad Gu EK (of_decide_eq_true rfl) ?_
   simp (disch:=omega) only [EJ,go_sem,Aa,h1,h2,h3,Hf,BW,FH]
  | true =>
   rw [hm] at h3 hio
   rw [TI hio,hio,← hcc]
   refine Ad Gu EK (of_decide_eq_true rfl) ?_
   simp (disch:=omega) only [EJ,go_sem,Aa,h1,h2,h3,Hf,BW,FH]
theorem QaD (a b:Tm) (ha:a.atom=true) (hb:b.atom=true):E 199 [a.sv,b.sv] []=some (.tup [(uTo (unR a b)).sv,.bool (uOk (unR a b))],[]):=by
 obtain ⟨n,hn⟩:=TH (Tm.Ct ha) (Tm.Ct hb)
 exact QcA a b (Tm.Ct ha) (Tm.Ct hb) n _ hn
def CA:SC:=(.seq (.reg [⟨some 4,none,.boxv 60 1 (.t 0)⟩,⟨some 6,none,.boxv 60 1 (.t 2)⟩,⟨some 8,none,.alloc 60 [.nil]⟩,⟨some 9,none,.mv (.c (.bool false))⟩]) (.seq (.reg [⟨some 13,none,.load true 1 (.t 6)⟩,⟨some 14,none,.call 197 [(.t 13)]⟩,⟨some 10,none,.alloc 60 [.nil]⟩,⟨none,none,(.store 1 (.t 10) (.t 14))⟩]) (.seq (.seq (.dreg [[],[],[1],[2,1],[3,2,1],[0,4,3,2,1],[5,0,4,3,2,1],[6,5,0,4,3,2,1],[7,6,5,0,4,3,2,1],[7,6,5,0,4,3,2,1],[9,7,6,5,0,4,3,2,1],[10,9,7,6,5,0,4,3,2,1],[11,10,9,7,6,5,0,4,3,2,1],[8,7,6,5,0,4,3,2,1,12,11,10,9],[13,8,7,6,5,0,4,3,2,1,12,11,10,9],[7,6,5,0,4,3,2,1,14,13,8,12,11,10,9],[15,7,6,5,0,4,3,2,1,14,13,8,12,11,10,9],[16,15,7,6,5,0,4,3,2,1,14,13,8,12,11,10,9],[17,16,15,7,6,5,0,4,3,2,1,14,13,8,12,11,10,9],[16,15,7,6,5,0,4,3,2,1,14,13,8,12,11,10,9],[18,17,16,15,7,6,5,0,4,3,2,1,14,13,8,12,11,10,9,19],[20,18,17,16,15,7,6,5,0,4,3,2,1,14,13,8,12,11,10,9,19],[21,20,18,17,16,15,7,6,5,0,4,3,2,1,14,13,8,12,11,10,9,19],[16,15,7,6,5,0,4,3,2,1,14,13,8,12,11,10,9],[23,16,15,7,6,5,0,4,3,2,1,14,13,8,12,11,10,9],[16,15,7,6,5,0,4,3,2,1,14,13,8,12,11,10,9],[24,23,16,15,7,6,5,0,4,3,2,1,14,13,8,12,11,10,9,25],[26,24,23,16,15,7,6,5,0,4,3,2,1,14,13,8,12,11,10,9,25],[27,26,24,23,16,15,7,6,5,0,4,3,2,1,14,13,8,12,11,10,9,25],[22,21,20,18,17,16,15,7,6,5,0,4,3,2,1,14,13,8,12,11,10,9,19,28,27,26,24,23,25],[16,15,7,6,5,0,4,3,2,1,14,13,8,12,11,10,9,29,22,21,20,18,17,19,28,27,26,24,23,25]] [⟨some 15,none,.mv (.t 1)⟩,⟨some 16,none,.faddr 0 (.t 4)⟩,⟨some 17,none,.load false 1 (.t 16)⟩,⟨some 18,none,.len false (.t 17)⟩,⟨some 19,none,.bin .sub false (.t 18) (.c (.int .i64 1))⟩,⟨some 20,none,.call 198 [(.t 15),(.c (.int .i64 0)),(.t 19)]⟩,⟨some 21,none,.un .not (.t 20)⟩,⟨some 22,none,.mv (.t 21)⟩,⟨(some 23),(some (22,false)),(.mv (.t 3))⟩,⟨(some 24),(some (22,false)),(.faddr 0 (.t 10))⟩,⟨(some 25),(some (22,false)),(.load false 1 (.t 24))⟩,⟨(some 26),(some (22,false)),(.len false (.t 25))⟩,⟨(some 27),(some (22,false)),(.bin .sub false (.t 26) (.c (.int .i64 1)))⟩,⟨(some 28),(some (22,false)),(.call 198 [(.t 23),(.c (.int .i64 0)),(.t 27)])⟩,⟨(some 29),(some (22,false)),(.un .not (.t 28))⟩,⟨some 30,none,.pick (.t 22) (.c (.bool true)) (.t 29)⟩,⟨some 31,none,.mv (.t 30)⟩,⟨(some 32),(some (31,false)),(.faddr 0 (.t 4))⟩,⟨(some 33),(some (31,false)),(.load false 1 (.t 32))⟩,⟨(some 34),(some (31,false)),(.mv (.t 1))⟩,⟨(some 35),(some (31,false)),(.iaddr 3 (.t 33) (.t 34))⟩,⟨(some 36),(some (31,false)),(.faddr 0 (.t 35))⟩,⟨(some 37),(some (31,false)),(.load false 1 (.t 36))⟩,⟨(some 38),(some (31,false)),(.faddr 0 (.t 10))⟩,⟨(some 39),(some (31,false)),(.load false 1 (.t 38))⟩,⟨(some 40),(some (31,false)),(.mv (.t 3))⟩,⟨(some 41),(some (31,false)),(.iaddr 3 (.t 39) (.t 40))⟩,⟨(some 42),(some (31,false)),(.faddr 0 (.t 41))⟩,⟨(some 43),(some (31,false)),(.load false 1 (.t 42))⟩,⟨(some 44),(some (31,false)),(.bin .eql true (.t 37) (.t 43))⟩,⟨some 45,none,.pick (.t 31) (.c (.bool true)) (.t 44)⟩]) (.cond (.t 45) (.seq (.reg [⟨some 46,none,.build [.nil] []⟩,⟨none,none,(.store 1 (.t 8) (.t 46))⟩,⟨some 9,none,.mv (.c (.bool false))⟩]) .ret) .skip)) (.seq (.dreg [[],[0],[],[1,0,2],[3,1,0,2],[4,3,1,0,2],[],[6],[],[7,6,8],[9,7,6,8],[10,9,7,6,8],[5,4,3,1,0,2,11,10,9,7,6,8],[12,5,4,3,1,0,2,11,10,9,7,6,8],[13,12,5,4,3,1,0,2,11,10,9,7,6,8],[13,12,5,4,3,1,0,2,11,10,9,7,6,8],[],[16,14,13,12,5,4,3,1,0,2,11,10,9,7,6,8],[15,13,12,5,4,3,1,0,2,11,10,9,7,6,8,17,16,14]] [⟨some 48,none,.faddr 0 (.t 4)⟩,⟨some 49,none,.load false 1 (.t 48)⟩,⟨some 50,none,.mv (.t 1)⟩,⟨some 51,none,.iaddr 3 (.t 49) (.t 50)⟩,⟨some 52,none,.faddr 1 (.t 51)⟩,⟨some 53,none,.load true 2 (.t 52)⟩,⟨some 54,none,.faddr 0 (.t 10)⟩,⟨some 55,none,.load false 1 (.t 54)⟩,⟨some 56,none,.mv (.t 3)⟩,⟨some 57,none,.iaddr 3 (.t 55) (.t 56)⟩,⟨some 58,none,.faddr 1 (.t 57)⟩,⟨some 59,none,.load true 2 (.t 58)⟩,⟨some 60,none,.call 199 [(.t 53),(.t 59)]⟩,⟨some 47,none,.mv (.t 60)⟩,⟨some 61,none,.ext (.t 47) 0⟩,⟨some 62,none,.ext (.t 47) 1⟩,⟨some 11,none,.alloc 142 [.nil]⟩,⟨none,none,(.store 1 (.t 11) (.t 61))⟩,⟨some 12,none,.mv (.t 62)⟩]) (.seq (.seq (.reg [⟨some 63,none,.mv (.t 12)⟩,⟨some 64,none,.un .not (.t 63)⟩]) (.cond (.t 64) (.seq (.reg [⟨some 65,none,.build [.nil] []⟩,⟨none,none,(.store 1 (.t 8) (.t 65))⟩,⟨some 9,none,.mv (.c (.bool false))⟩]) .ret) .skip)) (.seq (.dreg [[],[],[1],[],[2,1,3],[],[5],[],[6,5,7,4,2,1,3],[4,2,1,3,8,6,5,7],[0,9,4,2,1,3,8,6,5,7],[10,0,9,4,2,1,3,8,6,5,7],[10,0,9,4,2,1,3,8,6,5,7],[11,10,0,9,4,2,1,3,8,6,5,7,12],[12,10,0,9,4,2,1,3,8,6,5,7,13,11]] [⟨some 66,none,.load true 1 (.t 11)⟩,⟨some 67,none,.faddr 0 (.t 4)⟩,⟨some 68,none,.load false 1 (.t 67)⟩,⟨some 69,none,.mv (.t 1)⟩,⟨some 70,none,.call 201 [(.t 68),(.t 69)]⟩,⟨some 71,none,.faddr 0 (.t 10)⟩,⟨some 72,none,.load false 1 (.t 71)⟩,⟨some 73,none,.mv (.t 3)⟩,⟨some 74,none,.call 201 [(.t 72),(.t 73)]⟩,⟨(some 75),none,(.append 122 3 48 [(.bool false),(.str ⟨#[]⟩),.nil] (.t 70) (.t 74))⟩,⟨some 76,none,.call 200 [(.t 66),(.t 75)]⟩,⟨some 77,none,.ext (.t 76) 0⟩,⟨some 78,none,.ext (.t 76) 1⟩,⟨none,none,(.store 1 (.t 8) (.t 77))⟩,⟨some 9,none,.mv (.t 78)⟩]) .ret))))))
theorem Dq:codeOf Tryz.prog 145=some ⟨79,CA,[(.cell 8 true 1),(.tmp 9)]⟩:=by kernel_rfl
theorem BX:modes 145=⟨[],.frz,none,false⟩:=by unfold modes; rfl
theorem Xu (c:Cl) (hc:c.ok=true) (i:Int) (d:Cl) (hd:d.ok=true) (hdn:d.norm=true) (k:Int):E 145 [c.sv,.int .i64 i,d.sv,.int .i64 k] []=some (.tup [(Kp c i d k).sv,.bool (IF c i d k)],[]):=by
 have hl:=Cl.ok_len hc
 have hld:=Cl.ok_len hd
 have hsv:∀ d:Cl,d.sv=.agg [.arr (d.lits.map Lt.d)]:=fun d=>rfl
 have h0:=Qc9 d hd
 have ho:=Cl.QbE hd
 have hal:=Cl.Xr hd hdn
 have hahb:=Cl.Qff hd hdn k
 have hapo:∀ q:Nat,q<d.lits.length→(MC d.ap q).pos=(MC d q).pos:=fun q hq=>Cl.QfR hd hdn hq
 obtain ⟨e,hee⟩:∃ e,e=d.ap:=⟨_,rfl⟩
 rw [show d.rn (D9 GH d.ns)=e from hee.symm] at h0
 rw [←hee] at ho hal hahb hapo
 have hle:=Cl.ok_len ho
 have h1:=QbG i 0 ((c.lits.length:Int)-1)
 have h2:=QbG k 0 ((e.lits.length:Int)-1)
 rw [show (dec (0≤i)&&dec (i≤(c.lits.length:Int)-1))=hasB c i from rfl] at h1
 rw [show (dec (0≤k)&&dec (k≤(e.lits.length:Int)-1))=hasB e k from rfl,hahb] at h2
 rw [hsv,hsv] at h0
 rw [hsv,hsv,hsv]
 cases hi:hasB c i with
 | false =>
  obtain ⟨e1,e2⟩:=Kq (Kr (show JK c i d k=false by unfold JK; rw [hi]; rfl))
  rw [hi] at h1
  rw [e1,e2]
  refine Ad Dq BX (of_decide_eq_true rfl) ?_
  simp (disch:=omega) only [CA,go_sem,Aa,h0,h1,h2,Dp,DE]
 | true =>
 rw [hi] at h1
 cases hk:hasB d k with
 | false =>
  obtain ⟨e1,e2⟩:=Kq (Kr (show JK c i d k=false by unfold JK; rw [hk,zU,zV]))
  rw [hk] at h2
  rw [e1,e2]
  refine Ad Dq BX (of_decide_eq_true rfl) ?_
  simp (disch:=omega) only [CA,go_sem,Aa,h0,h1,h2,Dp,DE]
 | true =>
 rw [hk] at h2
 obtain ⟨p,rfl,hp⟩:=RE hi
 obtain ⟨q,rfl,hq⟩:=RE hk
 have hqe:q<e.lits.length:=by omega
 have hgp:=get_at Lt.d hp
 have hgq:=get_at Lt.d hqe
 rw [Lt.d_eq] at hgp hgq
 have tp:=zR p
 have tq:=zR q
 have ap:=Cl.C3 hc _ (zG hp)
 have aq:=Cl.C3 ho _ (zG hqe)
 have lp:=Ko hp
 have lq:=Ko hqe
 have hpe:=hapo q hq
 rw [lq] at hpe
 cases hpp:c.lits[p].pos == e.lits[q].pos with
 | true =>
  obtain ⟨e1,e2⟩:=Kq (Kr (show JK c p d q=false by unfold JK; rw [lp,← hpe,hpp]; simp))
  rw [e1,e2]
  refine Ad Dq BX (of_decide_eq_true rfl) ?_
  simp (disch:=omega) only [CA,go_sem,Aa,h0,h1,h2,Dp,DE,hgp,hgq,tp,tq,hpp]
 | false =>
  have hT:=Zu (show JK c p d q=true by unfold JK; rw [hi,hk,lp,← hpe,hpp]; rfl)
  have hrl:TJ c p d q=c.lits.eraseIdx p++e.lits.eraseIdx q:=by unfold TJ; rw [tp,tq,hee]
  have hla:=TK hc hd p q
  have hll:=Zv hc hd p q
  rw [hrl] at hla hll
  rw [←hee,lp,lq] at hT
  have h3:=QaD _ _ ap aq
  have hsp:c.lits[p].atom.sv=.agg [.str c.lits[p].atom.name,.arr (c.lits[p].atom.args.map Tm.d)]:=rfl
  have hsq:e.lits[q].atom.sv=.agg [.str e.lits[q].atom.name,.arr (e.lits[q].atom.args.map Tm.d)]:=rfl
  rw [hsp,hsq] at h3
  cases hu:unR c.lits[p].atom e.lits[q].atom with
  | none =>
   rw [hu] at hT h3
   have hus:uTo none=⟨[]⟩:=rfl
   have huo:uOk none=false:=rfl
   have hso:(Sb.mk []).sv=.agg [.arr []]:=rfl
   rw [hus,huo,hso] at h3
   obtain ⟨e1,e2⟩:=Kq hT
   rw [e1,e2]
   refine Ad Dq BX (of_decide_eq_true rfl) ?_
   simp (disch:=omega) only [CA,go_sem,Aa,h0,h1,h2,Dp,DE,hgp,hgq,tp,tq,hpp,h3,Ie]
  | some s =>
   have hs:=Qeb (Tm.Ct ap) (Tm.Ct aq) hu
   rw [hu] at hT h3
   obtain ⟨e1,e2⟩:=Zt hT
   rw [hrl] at e1 e2
   rw [e1,e2]
   have h4:=Pf c.lits (by omega) p hp
   have h6:=Pf e.lits (by omega) q hqe
   have h5:=Zx s hs (Fl hs) (c.lits.eraseIdx p++e.lits.eraseIdx q) (by omega) hla
   have her:=Lt.der (c.lits.eraseIdx p++e.lits.eraseIdx q)
   have hfu:=Lt.dfu (c.lits.eraseIdx p++e.lits.eraseIdx q)
   have hap:(c.lits.eraseIdx p).map (fun b:Lt=>b.d.map D.ot)++(e.lits.eraseIdx q).map (fun b:Lt=>b.d.map D.ot)=(c.lits.eraseIdx p++e.lits.eraseIdx q).map (fun b:Lt=>b.d.map D.ot):=by rw [zT]
   have hl3:=Lt.al3 (e.lits.eraseIdx q)
   have hc1:(c.lits.eraseIdx p).length=c.lits.length-1:=by rw [List.length_eraseIdx]; simp [hp]
   have hc2:(e.lits.eraseIdx q).length=e.lits.length-1:=by rw [List.length_eraseIdx]; simp [hqe]
   have hus:uTo (some s)=s:=rfl
   have huo:uOk (some s)=true:=rfl
   have hss:s.sv=.agg [.arr (s.binds.map Bd.d)]:=rfl
   rw [hus,huo,hss] at h3
   rw [hss,hsv] at h5
   refine Ad Dq BX (of_decide_eq_true rfl) ?_
   simp (disch:=omega) only [CA,go_sem,Aa,h0,h1,h2,Dp,DE,hgp,hgq,tp,tq,hpp,h3,h4,h6,h5,her,hfu,hap,hl3,hc1,hc2,Ie,IK,EK]
theorem Cl.Zy (x:Cl) (h:x.bulk≤1048576):x.tame:=by
 rw [Cl.bulk_eq] at h
 refine ⟨by omega,fun y hy=>?_⟩
 obtain ⟨k,hk,rfl⟩:=zO hy
 have h1:=Lt.bulk_le x.lits k hk
 have h2:=Tm.Ti x.lits[k].atom
 rw [Lt.bulk_eq] at h1
 omega
theorem Tm.QcB {x:Tm} (h:x.atom=true):x.bulk≤300:=by
 have hx:=Tm.Ct h
 have hn:=Tm.As hx
 have h1:=Tm.N4 x.args fun y hy=>Tm.Tj y (Tm.J3 hx hy)
 have h2:x.name.size≤6:=by
  rcases Tm.Kf hx with h3 | ⟨h3,_⟩
  ·rw [Tm.EZ] at h3
   split at h3
   ·rename_i hv; exact Vv hv
   ·rw [zE,zE] at h3; exact Vw h3.1.1
  ·unfold Tm.eqn at h3
   rw [Ar.1 h3]; decide
 rw [Tm.An] at hn
 rw [Tm.bulk_eq]
 omega
theorem Lt.TR:∀ xs:List Lt,(∀ x∈xs,x.atom.atom=true)→Lt.sumB xs≤300*xs.length
 | [],_=>by simp [Lt.sumB]
 | x :: xs,h=>by
  have h1:=Tm.QcB (h x (by simp))
  have h2:=Lt.TR xs fun y hy=>h y (by simp [hy])
  rw [Lt.sumB,Lt.bulk_eq,List.length_cons]; omega
theorem Cl.Qfh {x:Cl} (h:x.ok=true):x.bulk≤2408:=by
 have h1:=Cl.ok_len h
 have h2:=Lt.TR x.lits (Cl.C3 h)
 rw [Cl.bulk_eq]; omega
theorem Cl.QcC:(Cl.mk []).bulk≤2408:=by
 rw [Cl.bulk_eq]
 show 0+Lt.sumB []≤2408
 simp [Lt.sumB]
def BY:SC:=(.seq (.reg [⟨some 4,none,.mv (.c (.int .i64 0))⟩]) (.seq (.seq (.reg [⟨some 6,none,.mv (.t 0)⟩,⟨some 7,none,.len false (.t 6)⟩,⟨some 8,none,.mv (.c (.int .i64 0))⟩]) (.block 0 (.loop [1,1,0,0,0,0,0,1,1,0,0,0,0,0,0,0,0,0,0] (.seq (.reg [⟨some 9,none,.bin .lss false (.t 8) (.t 7)⟩]) (.seq (.cond (.t 9) .skip (.exit 0)) (.seq (.block 1 (.seq (.reg [⟨some 10,none,.mv (.t 8)⟩,⟨some 5,none,.mv (.t 10)⟩]) (.seq (.reg [⟨some 11,none,.mv (.t 1)⟩,⟨some 12,none,.mv (.t 0)⟩,⟨some 13,none,.mv (.t 5)⟩,⟨some 14,none,.iaddr 1 (.t 12) (.t 13)⟩,⟨some 15,none,.load true 1 (.t 14)⟩,⟨some 16,none,.callv (.t 11) [(.t 15)]⟩]) (.cond (.t 16) (.seq (.reg [⟨some 17,none,.mv (.t 5)⟩,⟨some 4,none,.mv (.t 17)⟩]) .ret) .skip)))) (.reg [⟨some 18,none,.bin .add false (.t 8) (.c (.int .i64 1))⟩,⟨some 8,none,.mv (.t 18)⟩]))))))) (.seq (.reg [⟨some 4,none,.mv (.c (.int .i64 (-(0+1))))⟩]) .ret)))
theorem DO:codeOf Tryz.prog 158=some ⟨19,BY,[(.tmp 4)]⟩:=by kernel_rfl
theorem BZ:modes 158=⟨[],.asis,none,false⟩:=by unfold modes; rfl
def BD:SC:=(.seq (.reg [⟨some 4,none,.mv (.c (.bool false))⟩]) (.seq (.reg [⟨some 5,none,.mv (.t 0)⟩,⟨some 6,none,.mv (.t 1)⟩,⟨some 7,none,.call 158 [(.t 5),(.t 6)]⟩,⟨some 8,none,.bin .geq false (.t 7) (.c (.int .i64 0))⟩,⟨some 4,none,.mv (.t 8)⟩]) .ret))
theorem Dz:codeOf Tryz.prog 89=some ⟨9,BD,[(.tmp 4)]⟩:=by kernel_rfl
theorem AH:modes 89=⟨[],.asis,none,false⟩:=by unfold modes; rfl
theorem Qf (fid:Nat) (p:Cl→Bool) (xs:List Cl) (hl:xs.length≤1099511627776) (hg:Ih Tryz.prog fid=true) (hm:(modes fid).hand=[]) (hE:∀ x∈xs,E fid [x.sv] []=some (.bool (p x),[])):E 158 [.arr (xs.map Cl.d),.fn fid []] []=some (.int .i64 (Dd p xs 0),[]):=by
 refine Ad DO BZ (of_decide_eq_true rfl) ?_
 simp (disch:=omega) only [BY,go_sem,Aa]
 refine go_loop (α:=Int) (fun a=>⟨slots 19 0 [(0,.arr (xs.map Cl.d)),(1,.fn fid []),(7,.int .i64 xs.length),(8,.int .i64 a)],[]⟩) (fun a=>∃ k:Nat,a=k∧k≤(xs).length∧Dd p (xs.drop k) a=Dd p xs 0) (fun a=>(xs).length-(a).toNat) 0 ⟨0,rfl,zH _,by rw [zI]⟩ (by simp (disch:=omega) only [go_sem,Aa]) ?_
 rintro i ⟨k,hi,hk,hR⟩
 have hni:i.toNat=k:=by omega
 have hni1:(i+1).toNat=k+1:=by omega
 rcases zF k (xs).length with hlt | hge
 ·have hg':=get_at Cl.d hlt
  rw [Cl.d_eq] at hg'
  have hc:=hE xs[k] (zG hlt)
  rw [zC hlt,Dd] at hR
  cases hp:p xs[k] with
  | true =>
   rw [hp] at hc hR
   simp (disch:=omega) only [go_sem,Aa,hni,hg',hc,hg,hm]
   simpa using hR
  | false =>
   rw [hp] at hc hR
   simp (disch:=omega) only [go_sem,Aa,hni,hg',hc,hg,hm]
   exact ⟨i+1,⟨k+1,by omega,hlt,by simpa using hR⟩,by omega,by first | trivial | rfl⟩
 ·rw [zD hge,Dd] at hR
  simp (disch:=omega) only [go_sem,Aa,hni]
  exact hR
theorem MD (fid:Nat) (p:Cl→Bool) (xs:List Cl) (hl:xs.length≤1099511627776) (hg:Ih Tryz.prog fid=true) (hm:(modes fid).hand=[]) (hE:∀ x∈xs,E fid [x.sv] []=some (.bool (p x),[])):E 89 [.arr (xs.map Cl.d),.fn fid []] []=some (.bool (xs.any p),[]):=by
 have h:=Qf fid p xs hl hg hm hE
 refine Ad Dz AH (of_decide_eq_true rfl) ?_
 simp (disch:=omega) only [BD,go_sem,Aa,h,BZ]
 rw [Jv]
theorem Cl.Qee {cs:List Cl} (h:cs.length+Cl.sumB cs≤1048576):∀ c∈cs,c.tame:=fun c hc=>by
 obtain ⟨k,hk,rfl⟩:=zO hc
 have h1:=Cl.bulk_le cs k hk
 exact Cl.Zy _ (by omega)
theorem Qfi {s:Sb} {l:List Lt} (h:FZ s l=true):(U0 s l).ok=true:=by
 rw [TI h]
 unfold FZ at h
 rw [zE] at h
 exact Qb5 10 (Qa9 h.1)
theorem Qfj {c d:Cl} {i k:Int} (h:IF c i d k=true):(Kp c i d k).ok=true:=by
 unfold IF at h
 unfold Kp
 cases hf:Xs c i d k with
 | none=>rw [hf] at h; cases h
 | some s=>rw [hf] at h; exact Qfi h
noncomputable def Pg (c:Cl) (i:Int) (d:Cl) (k:Int):Option Cl:=bif IF c i d k then some (Kp c i d k) else none
theorem TS {c d:Cl} {i k:Int} (h:IF c i d k=true):Pg c i d k=some (Kp c i d k):=by unfold Pg; rw [h]; rfl
theorem RF {c d:Cl} {i k:Int} (h:IF c i d k=false):Pg c i d k=none:=by unfold Pg; rw [h]; rfl
theorem Qfk {c d:Cl} {i k:Int} {x:Cl} (h:Pg c i d k=some x):x.ok=true:=by
 cases hf:IF c i d k with
 | false=>rw [RF hf] at h; cases h
 | true=>rw [TS hf] at h; obtain rfl:=zS h; exact Qfj hf
noncomputable def Gv (f:Nat→Option Cl):Nat→Nat→Option Cl
 | _,0=>none
 | k,m+1=>match f k with
  | some x=>some x
  | none=>Gv f (k+1) m
theorem QN {f:Nat→Option Cl} {k n:Nat} (h:k<n):Gv f k (n-k)=match f k with
  | some x=>some x
  | none=>Gv f (k+1) (n-(k+1)):=by
 obtain ⟨m,hm⟩:∃ m,n-k=m+1:=⟨n-k-1,by omega⟩
 rw [hm,Gv,show n-(k+1)=m by omega]
theorem QO {f:Nat→Option Cl} {x:Cl}:∀ {m k:Nat},Gv f k m=some x→∃ j,f j=some x
 | 0,k,h=>by cases h
 | m+1,k,h=>by
  rw [Gv] at h
  cases hk:f k with
  | some y=>rw [hk] at h; exact ⟨k,by rw [hk]; exact h⟩
  | none=>rw [hk] at h; exact QO h
theorem QP {f:Nat→Option Cl} (h:∀ k,f k=none):∀ (m k:Nat),Gv f k m=none
 | 0,k=>rfl
 | m+1,k=>by rw [Gv,h k]; exact QP h m (k+1)
def isNeg (l:Lt):Bool:=!l.pos
noncomputable def Qg (c:Cl):Int:=Dd isNeg c.lits 0
noncomputable def frO (c:Cl) (i:Int) (e:Cl):Option Cl:=Gv (fun k=>Pg c i e (k:Nat)) 0 e.lits.length
theorem QaE {c e x:Cl} {i:Int} (h:frO c i e=some x):x.ok=true:=by
 obtain ⟨j,h⟩:=QO h
 exact Qfk h
theorem Qfl {c e:Cl} {i:Int} (h:i<0):frO c i e=none:=by
 refine QP (fun k=>?_) _ _
 refine RF (Kq (Kr ?_)).1
 unfold JK hasB
 rw [Ay (show ¬ 0≤i by omega)]; rfl
noncomputable def hyN:List Cl→Cl→Option Cl
 | [],c=>some c
 | e :: es,c=>match frO c (Qg c) e with
  | some r=>hyN es r
  | none=>none
theorem Zz {es:List Cl} {k:Nat} (h:k<es.length) (c:Cl):hyN (es.drop k) c=match frO c (Qg c) es[k] with
  | some r=>hyN (es.drop (k+1)) r
  | none=>none:=by
 rw [zC h,hyN]
def ngN:List Lt→Int
 | []=>0
 | l :: ls=>(if l.pos then 0 else 1)+ngN ls
noncomputable def eOk (e:Cl):Bool:=(e.ok&&e.norm)&&!(e.lits.any isNeg)
noncomputable def Qh (n:Cl) (es:List Cl):Bool:=(n.ok&&n.norm)&&(dec ((es.length:Int)≤4)&&(dec (ngN n.lits=(es.length:Int))&&es.all eOk))
noncomputable def hy (n:Cl) (es:List Cl):Option Cl:=bif Qh n es then hyN es n else none
noncomputable def Hs (o:Option Cl):Cl:=o.getD ⟨[]⟩
theorem Qef:∀ {es:List Cl} {c x:Cl},c.ok=true→hyN es c=some x→x.ok=true
 | [],c,x,hc,h=>by obtain rfl:=zS h; exact hc
 | e :: es,c,x,hc,h=>by
  rw [hyN] at h
  cases hf:frO c (Qg c) e with
  | none=>rw [hf] at h; cases h
  | some r=>rw [hf] at h; exact Qef (QaE hf) h
theorem Qgr {n:Cl} {es:List Cl}:(Hs (hy n es)).lits.length≤8∧((hy n es).isSome=true→(Hs (hy n es)).ok=true):=by
 unfold hy
 cases h:Qh n es with
 | false=>exact ⟨by simp [Hs],fun h=>by simp at h⟩
 | true =>
  rw [cond_true]
  unfold Qh at h
  rw [zE,zE] at h
  cases hh:hyN es n with
  | none=>exact ⟨by simp [Hs],fun h=>by simp at h⟩
  | some x =>
   have hx:=Qef h.1.1 hh
   exact ⟨Cl.ok_len hx,fun _=>hx⟩
theorem QbH {x:Cl}:Hs (some x)=x:=rfl
theorem Qfm:Hs none=⟨[]⟩:=rfl
theorem IL:Ih Tryz.prog 92=true:=by kernel_rfl
theorem KL:Ih Tryz.prog 90=true:=by kernel_rfl
def IM:SC:=(.seq (.reg [⟨some 1,none,.boxv 122 3 (.t 0)⟩,⟨some 2,none,.mv (.c (.bool false))⟩]) (.seq (.reg [⟨some 3,none,.faddr 0 (.t 1)⟩,⟨some 4,none,.load false 1 (.t 3)⟩,⟨some 5,none,.un .not (.t 4)⟩,⟨some 2,none,.mv (.t 5)⟩]) .ret))
theorem Ph:codeOf Tryz.prog 92=some ⟨6,IM,[(.tmp 2)]⟩:=by kernel_rfl
theorem FR:modes 92=⟨[],.asis,none,false⟩:=by unfold modes; rfl
theorem Pi (x:Lt):E 92 [x.sv] []=some (.bool (isNeg x),[]):=by
 have hxs:x.sv=.agg [.bool x.pos,.str x.atom.name,.arr (x.atom.args.map Tm.d)]:=rfl
 unfold isNeg
 rw [hxs]
 refine Ad Ph FR (of_decide_eq_true rfl) ?_
 simp (disch:=omega) only [IM,go_sem,Aa]
def BN:SC:=(.seq (.reg [⟨some 4,none,.mv (.c (.int .i64 0))⟩]) (.seq (.seq (.reg [⟨some 6,none,.mv (.t 0)⟩,⟨some 7,none,.len false (.t 6)⟩,⟨some 8,none,.mv (.c (.int .i64 0))⟩]) (.block 0 (.loop [1,1,0,0,0,0,0,1,1,0,0,0,0,0,0,0,0,0,0] (.seq (.reg [⟨some 9,none,.bin .lss false (.t 8) (.t 7)⟩]) (.seq (.cond (.t 9) .skip (.exit 0)) (.seq (.block 1 (.seq (.reg [⟨some 10,none,.mv (.t 8)⟩,⟨some 5,none,.mv (.t 10)⟩]) (.seq (.reg [⟨some 11,none,.mv (.t 1)⟩,⟨some 12,none,.mv (.t 0)⟩,⟨some 13,none,.mv (.t 5)⟩,⟨some 14,none,.iaddr 3 (.t 12) (.t 13)⟩,⟨some 15,none,.load true 3 (.t 14)⟩,⟨some 16,none,.callv (.t 11) [(.t 15)]⟩]) (.cond (.t 16) (.seq (.reg [⟨some 17,none,.mv (.t 5)⟩,⟨some 4,none,.mv (.t 17)⟩]) .ret) .skip)))) (.reg [⟨some 18,none,.bin .add false (.t 8) (.c (.int .i64 1))⟩,⟨some 8,none,.mv (.t 18)⟩]))))))) (.seq (.reg [⟨some 4,none,.mv (.c (.int .i64 (-(0+1))))⟩]) .ret)))
theorem DF:codeOf Tryz.prog 94=some ⟨19,BN,[(.tmp 4)]⟩:=by kernel_rfl
theorem AJ:modes 94=⟨[],.asis,none,false⟩:=by unfold modes; rfl
def B8:SC:=(.seq (.reg [⟨some 4,none,.mv (.c (.bool false))⟩]) (.seq (.reg [⟨some 5,none,.mv (.t 0)⟩,⟨some 6,none,.mv (.t 1)⟩,⟨some 7,none,.call 94 [(.t 5),(.t 6)]⟩,⟨some 8,none,.bin .geq false (.t 7) (.c (.int .i64 0))⟩,⟨some 4,none,.mv (.t 8)⟩]) .ret))
theorem Dr:codeOf Tryz.prog 91=some ⟨9,B8,[(.tmp 4)]⟩:=by kernel_rfl
theorem AB:modes 91=⟨[],.asis,none,false⟩:=by unfold modes; rfl
theorem LX (fid:Nat) (p:Lt→Bool) (xs:List Lt) (hl:xs.length≤1099511627776) (hg:Ih Tryz.prog fid=true) (hm:(modes fid).hand=[]) (hE:∀ x∈xs,E fid [x.sv] []=some (.bool (p x),[])):E 94 [.arr (xs.map Lt.d),.fn fid []] []=some (.int .i64 (Dd p xs 0),[]):=by
 refine Ad DF AJ (of_decide_eq_true rfl) ?_
 simp (disch:=omega) only [BN,go_sem,Aa]
 refine go_loop (α:=Int) (fun a=>⟨slots 19 0 [(0,.arr (xs.map Lt.d)),(1,.fn fid []),(7,.int .i64 xs.length),(8,.int .i64 a)],[]⟩) (fun a=>∃ k:Nat,a=k∧k≤(xs).length∧Dd p (xs.drop k) a=Dd p xs 0) (fun a=>(xs).length-(a).toNat) 0 ⟨0,rfl,zH _,by rw [zI]⟩ (by simp (disch:=omega) only [go_sem,Aa]) ?_
 rintro i ⟨k,hi,hk,hR⟩
 have hni:i.toNat=k:=by omega
 have hni1:(i+1).toNat=k+1:=by omega
 rcases zF k (xs).length with hlt | hge
 ·have hg':=get_at Lt.d hlt
  rw [Lt.d_eq] at hg'
  have hc:=hE xs[k] (zG hlt)
  rw [zC hlt,Dd] at hR
  cases hp:p xs[k] with
  | true =>
   rw [hp] at hc hR
   simp (disch:=omega) only [go_sem,Aa,hni,hg',hc,hg,hm]
   simpa using hR
  | false =>
   rw [hp] at hc hR
   simp (disch:=omega) only [go_sem,Aa,hni,hg',hc,hg,hm]
   exact ⟨i+1,⟨k+1,by omega,hlt,by simpa using hR⟩,by omega,by first | trivial | rfl⟩
 ·rw [zD hge,Dd] at hR
  simp (disch:=omega) only [go_sem,Aa,hni]
  exact hR
theorem Pj (fid:Nat) (p:Lt→Bool) (xs:List Lt) (hl:xs.length≤1099511627776) (hg:Ih Tryz.prog fid=true) (hm:(modes fid).hand=[]) (hE:∀ x∈xs,E fid [x.sv] []=some (.bool (p x),[])):E 91 [.arr (xs.map Lt.d),.fn fid []] []=some (.bool (xs.any p),[]):=by
 have h:=LX fid p xs hl hg hm hE
 refine Ad Dr AB (of_decide_eq_true rfl) ?_
 simp (disch:=omega) only [B8,go_sem,Aa,h,AJ]
 rw [Jv]
def Da:SC:=(.seq (.reg [⟨some 1,none,.boxv 60 1 (.t 0)⟩,⟨some 2,none,.mv (.c (.bool false))⟩]) (.seq (.reg [⟨some 3,none,.load true 1 (.t 1)⟩,⟨some 4,none,.call 79 [(.t 3)]⟩,⟨some 5,none,.un .not (.t 4)⟩,⟨some 6,none,.mv (.t 5)⟩,⟨(some 7),(some (6,false)),(.faddr 0 (.t 1))⟩,⟨(some 8),(some (6,false)),(.load false 1 (.t 7))⟩,⟨(some 9),(some (6,false)),(.call 91 [(.t 8),(.c (.fn 92 []))])⟩,⟨some 10,none,.pick (.t 6) (.c (.bool true)) (.t 9)⟩,⟨some 2,none,.mv (.t 10)⟩]) .ret))
theorem Em:codeOf Tryz.prog 90=some ⟨11,Da,[(.tmp 2)]⟩:=by kernel_rfl
theorem Db:modes 90=⟨[],.asis,none,false⟩:=by unfold modes; rfl
theorem Qeg (e:Cl) (he:e.tame):E 90 [e.sv] []=some (.bool (!eOk e),[]):=by
 have hsv:e.sv=.agg [.arr (e.lits.map Lt.d)]:=rfl
 have h1:=N6 e he
 have h2:=Pj 92 isNeg e.lits (by have:=he.1; omega) IL (by rw [FR]) fun y _=>Pi y
 unfold eOk
 rw [hsv] at h1 ⊢
 cases hb:e.ok&&e.norm with
 | false =>
  rw [hb] at h1
  refine Ad Em Db (of_decide_eq_true rfl) ?_
  simp (disch:=omega) only [Da,go_sem,Aa,h1,h2,B0,AB]
 | true =>
  rw [hb] at h1
  cases hc:e.lits.any isNeg with
  | false =>
   rw [hc] at h2
   refine Ad Em Db (of_decide_eq_true rfl) ?_
   simp (disch:=omega) only [Da,go_sem,Aa,h1,h2,B0,AB]
  | true =>
   rw [hc] at h2
   refine Ad Em Db (of_decide_eq_true rfl) ?_
   simp (disch:=omega) only [Da,go_sem,Aa,h1,h2,B0,AB]
def Ga:SC:=(.seq (.reg [⟨some 3,none,.boxv 60 1 (.t 0)⟩,⟨some 5,none,.boxv 60 1 (.t 2)⟩,⟨some 6,none,.alloc 60 [.nil]⟩,⟨some 7,none,.mv (.c (.bool false))⟩]) (.seq (.seq (.reg [⟨some 11,none,.faddr 0 (.t 5)⟩,⟨some 12,none,.load false 1 (.t 11)⟩,⟨some 13,none,.len false (.t 12)⟩,⟨some 14,none,.mv (.c (.int .i64 0))⟩]) (.block 0 (.loop [0,1,0,1,0,1,1,0,0,0,0,0,0,1,1,0,0,0,0,0,0,0,0,0,0,0,0,0,0] (.seq (.reg [⟨some 15,none,.bin .lss false (.t 14) (.t 13)⟩]) (.seq (.cond (.t 15) .skip (.exit 0)) (.seq (.block 1 (.seq (.reg [⟨some 16,none,.mv (.t 14)⟩,⟨some 8,none,.mv (.t 16)⟩]) (.seq (.reg [⟨some 18,none,.load true 1 (.t 3)⟩,⟨some 19,none,.mv (.t 1)⟩,⟨some 20,none,.load true 1 (.t 5)⟩,⟨some 21,none,.mv (.t 8)⟩,⟨some 22,none,.call 80 [(.t 18),(.t 19),(.t 20),(.t 21)]⟩,⟨some 17,none,.mv (.t 22)⟩,⟨some 23,none,.ext (.t 17) 0⟩,⟨some 24,none,.ext (.t 17) 1⟩,⟨some 9,none,.alloc 60 [.nil]⟩,⟨none,none,(.store 1 (.t 9) (.t 23))⟩,⟨some 10,none,.mv (.t 24)⟩]) (.seq (.reg [⟨some 25,none,.mv (.t 10)⟩]) (.cond (.t 25) (.seq (.reg [⟨some 26,none,.load true 1 (.t 9)⟩,⟨none,none,(.store 1 (.t 6) (.t 26))⟩,⟨some 7,none,.mv (.c (.bool true))⟩]) .ret) .skip))))) (.reg [⟨some 27,none,.bin .add false (.t 14) (.c (.int .i64 1))⟩,⟨some 14,none,.mv (.t 27)⟩]))))))) (.seq (.reg [⟨some 28,none,.build [.nil] []⟩,⟨none,none,(.store 1 (.t 6) (.t 28))⟩,⟨some 7,none,.mv (.c (.bool false))⟩]) .ret)))
theorem KM:codeOf Tryz.prog 95=some ⟨29,Ga,[(.cell 6 true 1),(.tmp 7)]⟩:=by kernel_rfl
theorem En:modes 95=⟨[],.own [some (122,3),none],none,false⟩:=by unfold modes; rfl
theorem Qi (c:Cl) (hc:c.ok=true) (i0:Int) (e:Cl) (he:e.ok=true) (hen:e.norm=true):E 95 [c.sv,.int .i64 i0,e.sv] []=some (.tup [(Hs (frO c i0 e)).osv,.bool (frO c i0 e).isSome],(Hs (frO c i0 e)).obs):=by
 have hsv:∀ d:Cl,d.sv=.agg [.arr (d.lits.map Lt.d)]:=fun d=>rfl
 have hcs:∀ d:Cl,Cl.osv d=.agg [.ref 0]:=fun d=>rfl
 have hob:∀ d:Cl,Cl.obs d=[.row 122 3 (d.lits.map Lt.o)]:=fun d=>rfl
 have hel:=Cl.ok_len he
 have hr0:=fun (k:Int)=>Qc8 c hc i0 e he hen k
 simp only [hsv,hcs,hob] at hr0
 simp only [hsv,hcs,hob]
 obtain ⟨t,ht⟩:∃ t,t=frO c i0 e:=⟨_,rfl⟩
 rw [←ht]
 have hz:(Hs none).lits=[]:=rfl
 refine Ad KM En (of_decide_eq_true rfl) ?_
 simp (disch:=omega) only [Ga,go_sem,Aa]
 refine go_loop (α:=Int) (fun a=>⟨slots 29 0 [(1,.int .i64 i0),(3,.ptr 0 0),(5,.ptr 1 0),(6,.ptr 2 0),(13,.int .i64 e.lits.length),(14,.int .i64 a)],[.box 60 [.arr (c.lits.map Lt.d)],.box 60 [.arr (e.lits.map Lt.d)],.box 60 [.nil]]⟩) (fun a=>∃ k:Nat,a=k∧k≤(e.lits).length∧Gv (fun k=>Pg c i0 e (k:Nat)) k (e.lits.length-k)=t) (fun a=>(e.lits).length-(a).toNat) 0 ⟨0,rfl,zH _,by rw [Nat.sub_zero,ht]; rfl⟩ (by simp (disch:=omega) only [go_sem,Aa]) ?_
 rintro i ⟨k,hi,hk,hR⟩
 have hni:i.toNat=k:=by omega
 have hni1:(i+1).toNat=k+1:=by omega
 rcases zF k (e.lits).length with hlt | hge
 ·have hr:=hr0 i
  rw [QN hlt] at hR
  cases ho:IF c i0 e i with
  | true =>
   rw [ho] at hr
   have hro:Pg c i0 e (k:Nat)=some (Kp c i0 e i):=by rw [←hi]; exact TS ho
   rw [hro] at hR
   have hR:some (Kp c i0 e i)=t:=hR
   rw [←hR]
   have h1:Hs (some (Kp c i0 e i))=Kp c i0 e i:=rfl
   rw [h1]
   simp (disch:=omega) only [go_sem,Aa,hni,hr,CW,zB,zA]
  | false =>
   rw [ho] at hr
   have hro:Pg c i0 e (k:Nat)=none:=by rw [←hi]; exact RF ho
   rw [hro] at hR
   have hR:Gv (fun k=>Pg c i0 e (k:Nat)) (k+1) (e.lits.length-(k+1))=t:=hR
   simp (disch:=omega) only [go_sem,Aa,hni,hr,CW,zB,zA]
   exact ⟨i+1,⟨k+1,by omega,hlt,hR⟩,by omega,by first | trivial | rfl⟩
 ·rw [show e.lits.length-k=0 by omega] at hR
  have hR:none=t:=hR
  rw [←hR,hz]
  simp (disch:=omega) only [go_sem,Aa,hni,zB,zA]
def D1:SC:=(.seq (.reg [⟨some 2,none,.boxv 60 1 (.t 0)⟩,⟨some 4,none,.alloc 60 [.nil]⟩,⟨some 5,none,.mv (.c (.bool false))⟩]) (.seq (.seq (.reg [⟨some 15,none,.load true 1 (.t 2)⟩,⟨some 16,none,.call 79 [(.t 15)]⟩,⟨some 17,none,.un .not (.t 16)⟩,⟨some 18,none,.mv (.t 17)⟩,⟨(some 19),(some (18,false)),(.mv (.t 1))⟩,⟨(some 20),(some (18,false)),(.len false (.t 19))⟩,⟨(some 21),(some (18,false)),(.bin .gtr false (.t 20) (.c (.int .i64 4)))⟩,⟨some 22,none,.pick (.t 18) (.c (.bool true)) (.t 21)⟩]) (.cond (.t 22) (.seq (.reg [⟨some 23,none,.build [.nil] []⟩,⟨none,none,(.store 1 (.t 4) (.t 23))⟩,⟨some 5,none,.mv (.c (.bool false))⟩]) .ret) .skip)) (.seq (.reg [⟨some 6,none,.mv (.c (.int .i64 0))⟩]) (.seq (.seq (.reg [⟨some 24,none,.faddr 0 (.t 2)⟩,⟨some 25,none,.load false 1 (.t 24)⟩,⟨some 26,none,.len false (.t 25)⟩,⟨some 27,none,.mv (.c (.int .i64 0))⟩]) (.block 0 (.loop [0,1,1,0,1,0,1,0,0,0,0,0,0,0,0,0,0,0,0,0,0,0,0,0,0,1,1,1,0,0,0,0,0,0,0,0,0,0,0,0,0,0,0,0,0,0,0,0,0,0,0,0,0,0,0,0,0,0,0,0,0,0,0,0,0,0,0,0,0,0,0] (.seq (.reg [⟨some 28,none,.bin .lss false (.t 27) (.t 26)⟩]) (.seq (.cond (.t 28) .skip (.exit 0)) (.seq (.block 1 (.seq (.reg [⟨some 29,none,.iaddr 3 (.t 25) (.t 27)⟩,⟨some 30,none,.load true 3 (.t 29)⟩,⟨(some 8),none,(.alloc 122 [(.bool false),(.str ⟨#[]⟩),.nil])⟩,⟨none,none,(.store 3 (.t 8) (.t 30))⟩]) (.reg [⟨some 31,none,.mv (.t 6)⟩,⟨some 32,none,.faddr 0 (.t 8)⟩,⟨some 33,none,.load false 1 (.t 32)⟩,⟨some 34,none,.call 88 [(.t 33)]⟩,⟨some 35,none,.bin .sub false (.c (.int .i64 1)) (.t 34)⟩,⟨some 36,none,.bin .add false (.t 31) (.t 35)⟩,⟨some 6,none,.mv (.t 36)⟩]))) (.reg [⟨some 37,none,.bin .add false (.t 27) (.c (.int .i64 1))⟩,⟨some 27,none,.mv (.t 37)⟩]))))))) (.seq (.seq (.reg [⟨some 38,none,.mv (.t 6)⟩,⟨some 39,none,.mv (.t 1)⟩,⟨some 40,none,.len false (.t 39)⟩,⟨some 41,none,.bin .neq false (.t 38) (.t 40)⟩,⟨some 42,none,.mv (.t 41)⟩,⟨(some 43),(some (42,false)),(.mv (.t 1))⟩,⟨(some 44),(some (42,false)),(.call 89 [(.t 43),(.c (.fn 90 []))])⟩,⟨some 45,none,.pick (.t 42) (.c (.bool true)) (.t 44)⟩]) (.cond (.t 45) (.seq (.reg [⟨some 46,none,.build [.nil] []⟩,⟨none,none,(.store 1 (.t 4) (.t 46))⟩,⟨some 5,none,.mv (.c (.bool false))⟩]) .ret) .skip)) (.seq (.reg [⟨some 47,none,.load true 1 (.t 2)⟩,⟨some 48,none,.call 93 [(.t 47)]⟩,⟨some 9,none,.alloc 60 [.nil]⟩,⟨none,none,(.store 1 (.t 9) (.t 48))⟩]) (.seq (.seq (.reg [⟨some 49,none,.mv (.t 1)⟩,⟨some 50,none,.len false (.t 49)⟩,⟨some 51,none,.mv (.c (.int .i64 0))⟩]) (.block 2 (.loop [0,0,0,0,1,0,0,0,0,1,0,0,0,0,0,0,0,0,0,0,0,0,0,0,0,0,0,0,0,0,0,0,0,0,0,0,0,0,0,0,0,0,0,0,0,0,0,0,0,1,1,1,0,0,0,0,0,0,0,0,0,0,0,0,0,0,0,0,0,0,0] (.seq (.reg [⟨some 52,none,.bin .lss false (.t 51) (.t 50)⟩]) (.seq (.cond (.t 52) .skip (.exit 2)) (.seq (.block 3 (.seq (.reg [⟨some 53,none,.iaddr 1 (.t 49) (.t 51)⟩,⟨some 54,none,.load true 1 (.t 53)⟩,⟨some 11,none,.alloc 60 [.nil]⟩,⟨none,none,(.store 1 (.t 11) (.t 54))⟩]) (.seq (.reg [⟨some 55,none,.faddr 0 (.t 9)⟩,⟨some 56,none,.load false 1 (.t 55)⟩,⟨some 57,none,.call 94 [(.t 56),(.c (.fn 92 []))]⟩,⟨some 12,none,.mv (.t 57)⟩]) (.seq (.reg [⟨some 59,none,.load true 1 (.t 9)⟩,⟨some 60,none,.mv (.t 12)⟩,⟨some 61,none,.load true 1 (.t 11)⟩,⟨some 62,none,.call 95 [(.t 59),(.t 60),(.t 61)]⟩,⟨some 58,none,.mv (.t 62)⟩,⟨some 63,none,.ext (.t 58) 0⟩,⟨some 64,none,.ext (.t 58) 1⟩,⟨some 13,none,.alloc 60 [.nil]⟩,⟨none,none,(.store 1 (.t 13) (.t 63))⟩,⟨some 14,none,.mv (.t 64)⟩]) (.seq (.seq (.reg [⟨some 65,none,.mv (.t 14)⟩,⟨some 66,none,.un .not (.t 65)⟩]) (.cond (.t 66) (.seq (.reg [⟨some 67,none,.build [.nil] []⟩,⟨none,none,(.store 1 (.t 4) (.t 67))⟩,⟨some 5,none,.mv (.c (.bool false))⟩]) .ret) .skip)) (.reg [⟨some 68,none,.load true 1 (.t 13)⟩,⟨none,none,(.store 1 (.t 9) (.t 68))⟩])))))) (.reg [⟨some 69,none,.bin .add false (.t 51) (.c (.int .i64 1))⟩,⟨some 51,none,.mv (.t 69)⟩]))))))) (.seq (.reg [⟨some 70,none,.load true 1 (.t 9)⟩,⟨none,none,(.store 1 (.t 4) (.t 70))⟩,⟨some 5,none,.mv (.c (.bool true))⟩]) .ret))))))))
theorem ES:codeOf Tryz.prog 37=some ⟨71,D1,[(.cell 4 true 1),(.tmp 5)]⟩:=by kernel_rfl
theorem B5:modes 37=⟨[],.own [some (122,3),none],none,false⟩:=by unfold modes; rfl
theorem Qfn (es:List Cl):(es.any fun e=>!eOk e)=!(es.all eOk):=by rw [List.not_all_eq_any_not]
theorem Z0 (n:Cl) (hn:n.tame) (es:List Cl) (hl:es.length≤1048576) (hx:∀ x∈es,x.tame):E 37 [n.sv,.arr (es.map Cl.d)] []=some (.tup [(Hs (hy n es)).osv,.bool (hy n es).isSome],(Hs (hy n es)).obs):=by
 have hsv:∀ d:Cl,d.sv=.agg [.arr (d.lits.map Lt.d)]:=fun d=>rfl
 have hcs:∀ d:Cl,Cl.osv d=.agg [.ref 0]:=fun d=>rfl
 have hob:∀ d:Cl,Cl.obs d=[.row 122 3 (d.lits.map Lt.o)]:=fun d=>rfl
 have hz:(Hs none).lits=[]:=rfl
 have hy0:Qh n es=false→hy n es=none:=fun h=>by unfold hy; rw [h]; rfl
 have h1:=N6 n hn
 rw [hsv] at h1
 simp only [hsv,hcs,hob]
 cases hnn:n.ok&&n.norm with
 | false =>
  rw [hnn] at h1
  rw [hy0 (by unfold Qh; rw [hnn]; rfl),hz]
  refine Ad ES B5 (of_decide_eq_true rfl) ?_
  simp (disch:=omega) only [D1,go_sem,Aa,h1,B0,zB,zA]
 | true =>
 rw [hnn] at h1
 rcases zP 4 (es.length:Int) with h4 | h4
 ·have hq:dec ((4:Int)<(es.length:Int))=true:=At h4
  rw [hy0 (by unfold Qh; rw [Ay (by omega),zU,zV]),hz]
  refine Ad ES B5 (of_decide_eq_true rfl) ?_
  simp (disch:=omega) only [D1,go_sem,Aa,h1,hq,B0,zB,zA]
 have hq:dec ((4:Int)<(es.length:Int))=false:=Ay (by omega)
 have hnb:=hnn
 rw [zE] at hnb
 have hnl:=Cl.ok_len hnb.1
 have hok1:Qh n es=(dec (ngN n.lits=(es.length:Int))&&es.all eOk):=by unfold Qh; rw [hnn,At h4]; rfl
 obtain ⟨t,ht⟩:∃ t,t=hy n es:=⟨_,rfl⟩
 have hcf:=MD 90 (fun e=>!eOk e) es (by omega) KL (by rw [Db]) fun e he=>Qeg e (hx e he)
 rw [Qfn] at hcf
 rw [←ht]
 refine Ad ES B5 (of_decide_eq_true rfl) ?_
 simp (disch:=omega) only [D1,go_sem,Aa,h1,hq,B0,zB,zA]
 refine go_loop (α:=Int × (Int)) (fun a=>⟨slots 71 0 [(1,.arr (es.map Cl.d)),(2,.ptr 0 0),(4,.ptr 1 0),(6,.int .i64 (a.2)),(25,.arr (n.lits.map Lt.d)),(26,.int .i64 n.lits.length),(27,.int .i64 (a.1))],[.box 60 [.arr (n.lits.map Lt.d)],.box 60 [.nil]]⟩) (fun a=>∃ k:Nat,a.1=k∧k≤(n.lits).length∧(a.2)+ngN (n.lits.drop k)=ngN n.lits∧0≤(a.2)∧(a.2)≤k) (fun a=>(n.lits).length-(a.1).toNat) (0,0) ⟨0,rfl,zH _,by rw [zI]; dsimp only; omega,Int.le_refl 0,by dsimp only; omega⟩ (by simp (disch:=omega) only [go_sem,Aa]) ?_
 rintro ⟨i,m⟩ ⟨k,hi,hk,hR⟩
 dsimp only at hi hR
 have hni:i.toNat=k:=by omega
 have hni1:(i+1).toNat=k+1:=by omega
 rcases zF k (n.lits).length with hlt | hge
 ·have hg:=get_at Lt.d hlt
  rw [Lt.d_eq] at hg
  obtain ⟨hR1,hR2,hR3⟩:=hR
  rw [zC hlt,ngN] at hR1
  have hf:=PH n.lits[k].pos
  cases hp:n.lits[k].pos with
  | true =>
   rw [hp] at hf hR1
   simp only [if_true] at hR1
   rw [show GC true=1 from rfl] at hf
   simp (disch:=omega) only [go_sem,Aa,hni,hg,hp,hf,Dm]
   refine ⟨(i+1,m+(1-1)),⟨k+1,by dsimp only; omega,hlt,by dsimp only; omega,by dsimp only; omega,by dsimp only; omega⟩,by dsimp only; omega,?_⟩
   first | trivial | rfl | simp (disch:=omega) only [go_sem,Aa,Int.add_zero]
  | false =>
   rw [hp] at hf hR1
   simp only [Bool.false_eq_true,if_false] at hR1
   rw [show GC false=0 from rfl] at hf
   simp (disch:=omega) only [go_sem,Aa,hni,hg,hp,hf,Dm]
   refine ⟨(i+1,m+(1-0)),⟨k+1,by dsimp only; omega,hlt,by dsimp only; omega,by dsimp only; omega,by dsimp only; omega⟩,by dsimp only; omega,?_⟩
   first | trivial | rfl | simp (disch:=omega) only [go_sem,Aa,Int.add_zero]
 ·rw [zD hge,ngN] at hR
  obtain ⟨hR1,hR2,hR3⟩:=hR
  have hm:m=ngN n.lits:=by omega
  clear hR1 hR2 hR3
  by_cases he:ngN n.lits=(es.length:Int)
  ·have hne:(m=(es.length:Int))=True:=eq_true (by omega)
   rw [At he,zW] at hok1
   cases hall:es.all eOk with
   | false =>
    rw [hall] at hcf hok1
    have htn:t=none:=by rw [ht,hy0 hok1]
    rw [htn,hz]
    simp (disch:=omega) only [go_sem,Aa,hni,hne,hcf,zB,zA,AH]
   | true =>
    rw [hall] at hcf hok1
    have hty:hyN es n=t:=by rw [ht]; unfold hy; rw [hok1]; rfl
    rw [List.all_eq_true] at hall
    have hcc:=OD n (by omega) (fun x hx=>by have:=Tm.Cu (Cl.C3 hnb.1 x hx); omega)
    simp only [hsv,hcs,hob] at hcc
    simp (disch:=omega) only [go_sem,Aa,hni,hne,hcf,hcc,FL,zB,zA,AH]
    clear hi hni hni1 hk hge hm hne
    refine go_loop (α:=Int × (Cl)) (fun a=>⟨slots 71 0 [(4,.ptr 0 0),(9,.ptr 1 0),(49,.arr (es.map Cl.d)),(50,.int .i64 es.length),(51,.int .i64 (a.1))],[.box 60 [.nil],.box 60 [.ref 2],.row 122 3 ((a.2).lits.map Lt.o)]⟩) (fun a=>∃ k:Nat,a.1=k∧k≤(es).length∧hyN (es.drop k) (a.2)=t∧(a.2).ok=true) (fun a=>(es).length-(a.1).toNat) (0,n) ⟨0,rfl,zH _,by rw [zI]; exact hty,hnb.1⟩ (by simp (disch:=omega) only [go_sem,Aa]) ?_
    rintro ⟨i,c⟩ ⟨k,hi,hk,hR⟩
    dsimp only at hi hR
    have hni:i.toNat=k:=by omega
    have hni1:(i+1).toNat=k+1:=by omega
    rcases zF k (es).length with hlt | hge
    ·have hg:=get_at Cl.d hlt
     rw [Cl.d_eq] at hg
     obtain ⟨hR1,hR2⟩:=hR
     rw [Zz hlt] at hR1
     have heo:=hall _ (zG hlt)
     unfold eOk at heo
     rw [zE,zE] at heo
     have hcl:=Cl.ok_len hR2
     have hif:=LX 92 isNeg c.lits (by omega) IL (by rw [FR]) fun y _=>Pi y
     have hfr:=Qi c hR2 (Qg c) es[k] heo.1.1 heo.1.2
     simp only [hsv,hcs,hob] at hfr
     have hng:Dd isNeg c.lits 0=Qg c:=rfl
     rw [hng] at hif
     obtain ⟨u,hu⟩:∃ u,u=frO c (Qg c) es[k]:=⟨_,rfl⟩
     rw [←hu] at hfr hR1
     cases u with
     | none =>
      have hR1:none=t:=hR1
      rw [hz] at hfr
      rw [←hR1,hz]
      have hsn:(none:Option Cl).isSome=false:=rfl
      simp (disch:=omega) only [go_sem,Aa,hni,hg,hif,hfr,hsn,En,AJ]
     | some r =>
      have hro:=QaE hu.symm
      have hR1:hyN (es.drop (k+1)) r=t:=hR1
      have h1:Hs (some r)=r:=rfl
      rw [h1] at hfr
      have hsn:(some r:Option Cl).isSome=true:=rfl
      simp (disch:=omega) only [go_sem,Aa,hni,hg,hif,hfr,hsn,En,AJ]
      exact ⟨(i+1,r),⟨k+1,by dsimp only; omega,hlt,hR1,hro⟩,by dsimp only; omega,by first | trivial | rfl⟩
    ·rw [zD hge] at hR
     obtain ⟨hR1,hR2⟩:=hR
     have hR1:some c=t:=hR1
     rw [←hR1]
     have h1:Hs (some c)=c:=rfl
     have hsn:(some c:Option Cl).isSome=true:=rfl
     rw [h1]
     simp (disch:=omega) only [go_sem,Aa,hni,hsn]
  ·have hne:(m=(es.length:Int))=False:=eq_false (by omega)
   have htn:t=none:=by rw [ht,hy0 (by rw [hok1,Ay he]; rfl)]
   rw [htn,hz]
   simp (disch:=omega) only [go_sem,Aa,hni,hne,hcf,zB,zA,AH]
def If:SC:=(.seq (.reg [⟨some 1,none,.boxv 60 1 (.t 0)⟩,⟨some 2,none,.mv (.c (.int .i64 0))⟩]) (.seq (.seq (.reg [⟨some 3,none,.mv (.c (.int .i64 0))⟩]) (.block 0 (.loop [0,1,0,1,0,0,0,0,0,0,0,0,0,0,0,0,0,0,0] (.seq (.seq (.reg [⟨some 4,none,.mv (.t 3)⟩,⟨some 5,none,.faddr 0 (.t 1)⟩,⟨some 6,none,.load false 1 (.t 5)⟩,⟨some 7,none,.len false (.t 6)⟩,⟨some 8,none,.bin .lss false (.t 4) (.t 7)⟩]) (.cond (.t 8) .skip (.exit 0))) (.seq (.block 1 (.seq (.reg [⟨some 11,none,.faddr 0 (.t 1)⟩,⟨some 12,none,.load false 1 (.t 11)⟩,⟨some 13,none,.mv (.t 3)⟩,⟨some 14,none,.iaddr 3 (.t 12) (.t 13)⟩,⟨some 15,none,.faddr 0 (.t 14)⟩,⟨some 16,none,.load false 1 (.t 15)⟩,⟨some 17,none,.un .not (.t 16)⟩]) (.cond (.t 17) (.seq (.reg [⟨some 18,none,.mv (.t 3)⟩,⟨some 2,none,.mv (.t 18)⟩]) .ret) .skip))) (.reg [⟨some 9,none,.mv (.t 3)⟩,⟨some 10,none,.bin .add false (.t 9) (.c (.int .i64 1))⟩,⟨some 3,none,.mv (.t 10)⟩])))))) (.seq (.reg [⟨some 2,none,.mv (.c (.int .i64 (-(0+1))))⟩]) .ret)))
theorem ND:codeOf Tryz.prog 85=some ⟨19,If,[(.tmp 2)]⟩:=by kernel_rfl
theorem BI:modes 85=⟨[],.asis,none,false⟩:=by unfold modes; rfl
theorem Ni (c:Cl) (hl:c.lits.length≤1099511627776):E 85 [c.sv] []=some (.int .i64 (Qg c),[]):=by
 have hsv:c.sv=.agg [.arr (c.lits.map Lt.d)]:=rfl
 rw [hsv]
 unfold Qg
 obtain ⟨t,ht⟩:∃ t,t=Dd isNeg c.lits 0:=⟨_,rfl⟩
 rw [←ht]
 refine Ad ND BI (of_decide_eq_true rfl) ?_
 simp (disch:=omega) only [If,go_sem,Aa]
 refine go_loop (α:=Int) (fun a=>⟨slots 19 0 [(1,.ptr 0 0),(3,.int .i64 a)],[.box 60 [.arr (c.lits.map Lt.d)]]⟩) (fun a=>∃ k:Nat,a=k∧k≤(c.lits).length∧Dd isNeg (c.lits.drop k) a=t) (fun a=>(c.lits).length-(a).toNat) 0 ⟨0,rfl,zH _,by rw [zI,ht]⟩ (by simp (disch:=omega) only [go_sem,Aa]) ?_
 rintro i ⟨k,hi,hk,hR⟩
 have hni:i.toNat=k:=by omega
 have hni1:(i+1).toNat=k+1:=by omega
 rcases zF k (c.lits).length with hlt | hge
 ·have hg:=get_at Lt.d hlt
  rw [Lt.d_eq] at hg
  rw [zC hlt,Dd] at hR
  cases hp:c.lits[k].pos with
  | true =>
   have hR:Dd isNeg (c.lits.drop (k+1)) (i+1)=t:=by simpa [isNeg,hp] using hR
   simp (disch:=omega) only [go_sem,Aa,hni,hg,hp]
   exact ⟨i+1,⟨k+1,by omega,hlt,hR⟩,by omega,by first | trivial | rfl⟩
  | false =>
   have hR:i=t:=by simpa [isNeg,hp] using hR
   rw [←hR]
   simp (disch:=omega) only [go_sem,Aa,hni,hg,hp]
 ·rw [zD hge,Dd] at hR
  rw [←hR]
  simp (disch:=omega) only [go_sem,Aa,hni]
def Fp:SC:=(.seq (.reg [⟨some 2,none,.boxv 60 1 (.t 0)⟩,⟨some 3,none,.boxv 60 1 (.t 1)⟩,⟨some 4,none,.alloc 60 [.nil]⟩,⟨some 5,none,.mv (.c (.bool false))⟩]) (.seq (.reg [⟨some 10,none,.load true 1 (.t 2)⟩,⟨some 11,none,.call 85 [(.t 10)]⟩,⟨some 6,none,.mv (.t 11)⟩]) (.seq (.seq (.reg [⟨some 7,none,.mv (.c (.int .i64 0))⟩]) (.block 0 (.loop [0,0,1,1,1,0,1,1,0,0,0,0,0,0,0,0,0,0,0,0,0,0,0,0,0,0,0,0,0,0,0,0,0,0] (.seq (.seq (.reg [⟨some 12,none,.mv (.t 7)⟩,⟨some 13,none,.faddr 0 (.t 3)⟩,⟨some 14,none,.load false 1 (.t 13)⟩,⟨some 15,none,.len false (.t 14)⟩,⟨some 16,none,.bin .lss false (.t 12) (.t 15)⟩,⟨some 17,none,.mv (.t 16)⟩,⟨(some 18),(some (17,true)),(.mv (.t 6))⟩,⟨(some 19),(some (17,true)),(.bin .geq false (.t 18) (.c (.int .i64 0)))⟩,⟨some 20,none,.pick (.t 17) (.t 19) (.c (.bool false))⟩]) (.cond (.t 20) .skip (.exit 0))) (.seq (.block 1 (.seq (.reg [⟨some 24,none,.load true 1 (.t 2)⟩,⟨some 25,none,.mv (.t 6)⟩,⟨some 26,none,.load true 1 (.t 3)⟩,⟨some 27,none,.mv (.t 7)⟩,⟨some 28,none,.call 145 [(.t 24),(.t 25),(.t 26),(.t 27)]⟩,⟨some 23,none,.mv (.t 28)⟩,⟨some 29,none,.ext (.t 23) 0⟩,⟨some 30,none,.ext (.t 23) 1⟩,⟨some 8,none,.alloc 60 [.nil]⟩,⟨none,none,(.store 1 (.t 8) (.t 29))⟩,⟨some 9,none,.mv (.t 30)⟩]) (.seq (.reg [⟨some 31,none,.mv (.t 9)⟩]) (.cond (.t 31) (.seq (.reg [⟨some 32,none,.load true 1 (.t 8)⟩,⟨none,none,(.store 1 (.t 4) (.t 32))⟩,⟨some 5,none,.mv (.c (.bool true))⟩]) .ret) .skip)))) (.reg [⟨some 21,none,.mv (.t 7)⟩,⟨some 22,none,.bin .add false (.t 21) (.c (.int .i64 1))⟩,⟨some 7,none,.mv (.t 22)⟩])))))) (.seq (.reg [⟨some 33,none,.build [.nil] []⟩,⟨none,none,(.store 1 (.t 4) (.t 33))⟩,⟨some 5,none,.mv (.c (.bool false))⟩]) .ret))))
theorem Hg:codeOf Tryz.prog 87=some ⟨34,Fp,[(.cell 4 true 1),(.tmp 5)]⟩:=by kernel_rfl
theorem Ed:modes 87=⟨[],.frz,none,false⟩:=by unfold modes; rfl
theorem QaF (c:Cl) (hc:c.ok=true) (e:Cl) (he:e.ok=true) (hen:e.norm=true):E 87 [c.sv,e.sv] []=some (.tup [(Hs (frO c (Qg c) e)).sv,.bool (frO c (Qg c) e).isSome],[]):=by
 have hsv:∀ d:Cl,d.sv=.agg [.arr (d.lits.map Lt.d)]:=fun d=>rfl
 have hel:=Cl.ok_len he
 have hcl:=Cl.ok_len hc
 have hng:=Ni c (by omega)
 obtain ⟨i0,hi0⟩:∃ i0,i0=Qg c:=⟨_,rfl⟩
 rw [←hi0] at hng ⊢
 have hr0:=fun (k:Int)=>Xu c hc i0 e he hen k
 simp only [hsv] at hr0 hng
 simp only [hsv]
 have hz:(Hs none).lits=[]:=rfl
 rcases zP i0 0 with hneg | hpos
 ·have hd:dec ((0:Int)≤i0)=false:=Ay (by omega)
  rw [Qfl hneg,hz]
  rcases zL e.lits.length with h0 | h0
  ·have hl0:dec ((0:Int)<(e.lits.length:Int))=false:=Ay (by omega)
   refine Ad Hg Ed (of_decide_eq_true rfl) ?_
   simp (disch:=omega) only [Fp,go_sem,Aa,hng,BI]
   refine go_loop (α:=Int) (fun a=>⟨slots 34 0 [(2,.ptr 0 0),(3,.ptr 1 0),(4,.ptr 2 0),(6,.int .i64 i0),(7,.int .i64 a)],[.box 60 [.arr (c.lits.map Lt.d)],.box 60 [.arr (e.lits.map Lt.d)],.box 60 [.nil]]⟩) (fun a=>∃ k:Nat,a=k∧k≤(e.lits).length∧k=0) (fun a=>(e.lits).length-(a).toNat) 0 ⟨0,rfl,zH _,rfl⟩ (by simp (disch:=omega) only [go_sem,Aa]) ?_
   rintro i ⟨k,hi,hk,hR⟩
   have hni:i.toNat=k:=by omega
   have hni1:(i+1).toNat=k+1:=by omega
   rcases zF k (e.lits).length with hlt | hge
   ·omega
   ·simp (disch:=omega) only [go_sem,Aa,hd,hl0,zB,zA]
  ·have hl0:dec ((0:Int)<(e.lits.length:Int))=true:=At (by omega)
   refine Ad Hg Ed (of_decide_eq_true rfl) ?_
   simp (disch:=omega) only [Fp,go_sem,Aa,hng,BI]
   refine go_loop (α:=Int) (fun a=>⟨slots 34 0 [(2,.ptr 0 0),(3,.ptr 1 0),(4,.ptr 2 0),(6,.int .i64 i0),(7,.int .i64 a)],[.box 60 [.arr (c.lits.map Lt.d)],.box 60 [.arr (e.lits.map Lt.d)],.box 60 [.nil]]⟩) (fun a=>∃ k:Nat,a=k∧k≤(e.lits).length∧k=0) (fun a=>(e.lits).length-(a).toNat) 0 ⟨0,rfl,zH _,rfl⟩ (by simp (disch:=omega) only [go_sem,Aa]) ?_
   rintro i ⟨k,hi,hk,hR⟩
   have hni:i.toNat=k:=by omega
   have hni1:(i+1).toNat=k+1:=by omega
   rcases zF k (e.lits).length with hlt | hge
   ·simp (disch:=omega) only [go_sem,Aa,hd,hl0,zB,zA]
   ·omega
 have hd:dec ((0:Int)≤i0)=true:=At hpos
 obtain ⟨t,ht⟩:∃ t,t=frO c i0 e:=⟨_,rfl⟩
 rw [←ht]
 refine Ad Hg Ed (of_decide_eq_true rfl) ?_
 simp (disch:=omega) only [Fp,go_sem,Aa,hng,BI]
 refine go_loop (α:=Int) (fun a=>⟨slots 34 0 [(2,.ptr 0 0),(3,.ptr 1 0),(4,.ptr 2 0),(6,.int .i64 i0),(7,.int .i64 a)],[.box 60 [.arr (c.lits.map Lt.d)],.box 60 [.arr (e.lits.map Lt.d)],.box 60 [.nil]]⟩) (fun a=>∃ k:Nat,a=k∧k≤(e.lits).length∧Gv (fun k=>Pg c i0 e (k:Nat)) k (e.lits.length-k)=t) (fun a=>(e.lits).length-(a).toNat) 0 ⟨0,rfl,zH _,by rw [Nat.sub_zero,ht]; rfl⟩ (by simp (disch:=omega) only [go_sem,Aa]) ?_
 rintro i ⟨k,hi,hk,hR⟩
 have hni:i.toNat=k:=by omega
 have hni1:(i+1).toNat=k+1:=by omega
 rcases zF k (e.lits).length with hlt | hge
 ·have hr:=hr0 i
  rw [QN hlt] at hR
  cases ho:IF c i0 e i with
  | true =>
   rw [ho] at hr
   have hro:Pg c i0 e (k:Nat)=some (Kp c i0 e i):=by rw [←hi]; exact TS ho
   rw [hro] at hR
   have hR:some (Kp c i0 e i)=t:=hR
   rw [←hR]
   have h1:Hs (some (Kp c i0 e i))=Kp c i0 e i:=rfl
   rw [h1]
   simp (disch:=omega) only [go_sem,Aa,hni,hd,hr,BX,zB,zA]
  | false =>
   rw [ho] at hr
   have hro:Pg c i0 e (k:Nat)=none:=by rw [←hi]; exact RF ho
   rw [hro] at hR
   have hR:Gv (fun k=>Pg c i0 e (k:Nat)) (k+1) (e.lits.length-(k+1))=t:=hR
   simp (disch:=omega) only [go_sem,Aa,hni,hd,hr,BX,zB,zA]
   exact ⟨i+1,⟨k+1,by omega,hlt,hR⟩,by omega,by first | trivial | rfl⟩
 ·rw [show e.lits.length-k=0 by omega] at hR
  have hR:none=t:=hR
  rw [←hR,hz]
  simp (disch:=omega) only [go_sem,Aa,hni,zB,zA]
def Pk:SC:=(.seq (.reg [⟨some 1,none,.boxv 60 1 (.t 0)⟩,⟨some 2,none,.alloc 60 [.nil]⟩]) (.seq (.reg [⟨some 5,none,.build [.nil] []⟩,⟨some 3,none,.alloc 60 [.nil]⟩,⟨none,none,(.store 1 (.t 3) (.t 5))⟩]) (.seq (.seq (.reg [⟨some 4,none,.mv (.c (.int .i64 0))⟩]) (.block 0 (.loop [0,1,1,1,1,0,0,0,0,0,0,0,0,0,0,0,0,0,0,0,0,0,0,0,0,0,0,0,0,0,0,0,0] (.seq (.seq (.reg [⟨some 6,none,.mv (.t 4)⟩,⟨some 7,none,.faddr 0 (.t 1)⟩,⟨some 8,none,.load false 1 (.t 7)⟩,⟨some 9,none,.len false (.t 8)⟩,⟨some 10,none,.bin .lss false (.t 6) (.t 9)⟩]) (.cond (.t 10) .skip (.exit 0))) (.seq (.block 1 (.dreg [[],[0],[],[2],[],[3,2,4],[5,3,2,4],[6,5,3,2,4],[],[8],[],[9,8,10],[11,9,8,10],[12,11,9,8,10],[13,12,11,9,8,10],[7,6,5,3,2,4,14,13,12,11,9,8,10],[15,7,6,5,3,2,4,14,13,12,11,9,8,10],[1,0,16,15,7,6,5,3,2,4,14,13,12,11,9,8,10],[0,1,2,3,4,5,6,7,8,9,10,11,12,13,14,15,16,17],[18,0,1,2,3,4,5,6,7,8,9,10,11,12,13,14,15,16,17]] [⟨some 13,none,.faddr 0 (.t 3)⟩,⟨some 14,none,.load false 1 (.t 13)⟩,⟨some 15,none,.faddr 0 (.t 1)⟩,⟨some 16,none,.load false 1 (.t 15)⟩,⟨some 17,none,.mv (.t 4)⟩,⟨some 18,none,.iaddr 3 (.t 16) (.t 17)⟩,⟨some 19,none,.faddr 0 (.t 18)⟩,⟨some 20,none,.load false 1 (.t 19)⟩,⟨some 21,none,.faddr 0 (.t 1)⟩,⟨some 22,none,.load false 1 (.t 21)⟩,⟨some 23,none,.mv (.t 4)⟩,⟨some 24,none,.iaddr 3 (.t 22) (.t 23)⟩,⟨some 25,none,.faddr 1 (.t 24)⟩,⟨some 26,none,.load true 2 (.t 25)⟩,⟨some 27,none,.call 135 [(.t 26)]⟩,⟨(some 28),none,(.build [(.bool false),(.str ⟨#[]⟩),.nil] [(0,(1,(.t 20))),(1,(2,(.t 27)))])⟩,⟨(some 29),none,(.mkrow 122 3 [(.bool false),(.str ⟨#[]⟩),.nil] 1 [(0,(.t 28))])⟩,⟨(some 30),none,(.append 122 3 48 [(.bool false),(.str ⟨#[]⟩),.nil] (.t 14) (.t 29))⟩,⟨some 31,none,.faddr 0 (.t 3)⟩,⟨none,none,(.store 1 (.t 31) (.t 30))⟩])) (.reg [⟨some 11,none,.mv (.t 4)⟩,⟨some 12,none,.bin .add false (.t 11) (.c (.int .i64 1))⟩,⟨some 4,none,.mv (.t 12)⟩])))))) (.seq (.reg [⟨some 32,none,.load true 1 (.t 3)⟩,⟨none,none,(.store 1 (.t 2) (.t 32))⟩]) .ret))))
theorem Xv:codeOf Tryz.prog 86=some ⟨33,Pk,[(.cell 2 true 1)]⟩:=by kernel_rfl
theorem Pl:modes 86=⟨[],.frz,none,false⟩:=by unfold modes; rfl
theorem Qeh (c:Cl) (hl:c.lits.length≤1048576) (hn:∀ x∈c.lits,x.atom.nodes≤1099511627776):E 86 [c.sv] []=some (c.sv,[]):=by
 have hsv:c.sv=.agg [.arr (c.lits.map Lt.d)]:=rfl
 rw [hsv]
 have h10:((1:Int)=0)=False:=by simp
 refine Ad Xv Pl (of_decide_eq_true rfl) ?_
 simp (disch:=omega) only [Pk,go_sem,Aa]
 refine go_loop (α:=Int) (fun a=>⟨slots 33 0 [(1,.ptr 0 0),(2,.ptr 1 0),(3,.ptr 2 0),(4,.int .i64 a)],(if a=0 then [.box 60 [.arr (c.lits.map Lt.d)],.box 60 [.nil],.box 60 [.nil]] else [.box 60 [.arr (c.lits.map Lt.d)],.box 60 [.nil],.box 60 [.ref 3],.row 122 3 ((c.lits.take a.toNat).map (fun b:Lt=>b.d.map D.ot))])⟩) (fun a=>∃ k:Nat,a=k∧k≤(c.lits).length) (fun a=>(c.lits).length-(a).toNat) 0 ⟨0,rfl,zH _⟩ (by simp (disch:=omega) only [go_sem,Aa,eq_self,if_true]) ?_
 rintro i ⟨k,hi,hk⟩
 have hni:i.toNat=k:=by omega
 have hni1:(i+1).toNat=k+1:=by omega
 rcases zF k (c.lits).length with hlt | hge
 ·have hg:=get_at Lt.d hlt
  rw [Lt.d_eq] at hg
  have ho:=O1 c.lits[k].atom (hn _ (zG hlt))
  have has:c.lits[k].atom.sv=.agg [.str c.lits[k].atom.name,.arr (c.lits[k].atom.args.map Tm.d)]:=rfl
  rw [has] at ho
  have hs:(c.lits.take k).map (fun b:Lt=>b.d.map D.ot)++[[OT.bool c.lits[k].pos,OT.str c.lits[k].atom.name,OT.sh (c.lits[k].atom.args.map Tm.d)]]=(c.lits.take (k+1)).map (fun b:Lt=>b.d.map D.ot):=by
   rw [List.take_succ_eq_append_getElem hlt,zT,List.map_cons,zK,Lt.d_eq]; rfl
  have htl:(c.lits.take k).length=k:=by rw [List.length_take]; omega
  rcases zL k with h0 | h0
  ·subst h0
   obtain rfl:i=0:=hi
   rw [List.take_zero,zK,List.nil_append] at hs
   simp (disch:=omega) only [go_sem,Aa,hg,ho,Cv,Int.toNat_zero,eq_self,if_true]
   refine ⟨1,⟨1,rfl,hlt⟩,by omega,?_⟩
   simp (disch:=omega) only [go_sem,Aa,h10,if_false,hs]
  ·have hi0:(i=0)=False:=by simp; omega
   have hi1:(i+1=0)=False:=by simp; omega
   simp (disch:=omega) only [go_sem,Aa,hni,hg,ho,Cv,hi0,if_false,htl]
   refine ⟨i+1,⟨k+1,by omega,hlt⟩,by omega,?_⟩
   simp (disch:=omega) only [go_sem,Aa,hni1,hi1,if_false,hs]
 ·obtain rfl:k=c.lits.length:=by omega
  have ht:c.lits.take c.lits.length=c.lits:=List.take_length
  have her:=Lt.der c.lits
  have hfu:=Lt.dfu c.lits
  rcases zL c.lits.length with h0 | h0
  ·have hx:c.lits=[]:=List.eq_nil_of_length_eq_zero h0
   obtain rfl:i=0:=by omega
   simp (disch:=omega) only [go_sem,Aa,hx,eq_self,if_true,zK,List.length_nil]
  ·have hi0:(i=0)=False:=by simp; omega
   simp (disch:=omega) only [go_sem,Aa,hni,hi0,if_false,ht,her,hfu]
def D2:SC:=(.seq (.reg [⟨some 2,none,.boxv 60 1 (.t 0)⟩,⟨some 4,none,.alloc 60 [.nil]⟩,⟨some 5,none,.mv (.c (.bool false))⟩]) (.seq (.seq (.reg [⟨some 13,none,.load true 1 (.t 2)⟩,⟨some 14,none,.call 76 [(.t 13)]⟩,⟨some 15,none,.un .not (.t 14)⟩,⟨some 16,none,.mv (.t 15)⟩,⟨(some 17),(some (16,false)),(.mv (.t 1))⟩,⟨(some 18),(some (16,false)),(.len false (.t 17))⟩,⟨(some 19),(some (16,false)),(.bin .gtr false (.t 18) (.c (.int .i64 4)))⟩,⟨some 20,none,.pick (.t 16) (.c (.bool true)) (.t 19)⟩]) (.cond (.t 20) (.seq (.reg [⟨some 21,none,.build [.nil] []⟩,⟨none,none,(.store 1 (.t 4) (.t 21))⟩,⟨some 5,none,.mv (.c (.bool false))⟩]) .ret) .skip)) (.seq (.reg [⟨some 6,none,.mv (.c (.int .i64 0))⟩]) (.seq (.seq (.reg [⟨some 7,none,.mv (.c (.int .i64 0))⟩]) (.block 0 (.loop [0,1,1,0,1,0,1,1,0,0,0,0,0,0,0,0,0,0,0,0,0,0,0,0,0,0,0,0,0,0,0,0,0,0,0,0,0,0,0,0,0,0,0,0,0,0,0,0,0,0,0,0,0,0,0,0,0,0,0,0,0,0,0,0,0,0,0,0,0,0,0,0,0,0,0,0,0,0,0,0,0,0,0,0] (.seq (.seq (.reg [⟨some 22,none,.mv (.t 7)⟩,⟨some 23,none,.faddr 0 (.t 2)⟩,⟨some 24,none,.load false 1 (.t 23)⟩,⟨some 25,none,.len false (.t 24)⟩,⟨some 26,none,.bin .lss false (.t 22) (.t 25)⟩]) (.cond (.t 26) .skip (.exit 0))) (.seq (.block 1 (.seq (.reg [⟨some 29,none,.faddr 0 (.t 2)⟩,⟨some 30,none,.load false 1 (.t 29)⟩,⟨some 31,none,.mv (.t 7)⟩,⟨some 32,none,.iaddr 3 (.t 30) (.t 31)⟩,⟨some 33,none,.faddr 0 (.t 32)⟩,⟨some 34,none,.load false 1 (.t 33)⟩,⟨some 35,none,.un .not (.t 34)⟩]) (.cond (.t 35) (.reg [⟨some 36,none,.mv (.t 6)⟩,⟨some 37,none,.bin .add false (.t 36) (.c (.int .i64 1))⟩,⟨some 6,none,.mv (.t 37)⟩]) .skip))) (.reg [⟨some 27,none,.mv (.t 7)⟩,⟨some 28,none,.bin .add false (.t 27) (.c (.int .i64 1))⟩,⟨some 7,none,.mv (.t 28)⟩])))))) (.seq (.seq (.reg [⟨some 38,none,.mv (.t 6)⟩,⟨some 39,none,.mv (.t 1)⟩,⟨some 40,none,.len false (.t 39)⟩,⟨some 41,none,.bin .neq false (.t 38) (.t 40)⟩]) (.cond (.t 41) (.seq (.reg [⟨some 42,none,.build [.nil] []⟩,⟨none,none,(.store 1 (.t 4) (.t 42))⟩,⟨some 5,none,.mv (.c (.bool false))⟩]) .ret) .skip)) (.seq (.seq (.reg [⟨some 8,none,.mv (.c (.int .i64 0))⟩]) (.block 2 (.loop [0,1,1,0,1,0,1,0,1,0,0,0,0,0,0,0,0,0,0,0,0,0,0,0,0,0,0,0,0,0,0,0,0,0,0,0,0,0,0,0,0,0,0,0,0,0,0,0,0,0,0,0,0,0,0,0,0,0,0,0,0,0,0,0,0,0,0,0,0,0,0,0,0,0,0,0,0,0,0,0,0,0,0,0] (.seq (.seq (.reg [⟨some 43,none,.mv (.t 8)⟩,⟨some 44,none,.mv (.t 6)⟩,⟨some 45,none,.bin .lss false (.t 43) (.t 44)⟩]) (.cond (.t 45) .skip (.exit 2))) (.seq (.block 3 (.seq (.reg [⟨some 48,none,.mv (.t 1)⟩,⟨some 49,none,.mv (.t 8)⟩,⟨some 50,none,.iaddr 1 (.t 48) (.t 49)⟩,⟨some 51,none,.load true 1 (.t 50)⟩,⟨some 52,none,.call 76 [(.t 51)]⟩,⟨some 53,none,.un .not (.t 52)⟩,⟨some 54,none,.mv (.t 53)⟩,⟨(some 55),(some (54,false)),(.mv (.t 1))⟩,⟨(some 56),(some (54,false)),(.mv (.t 8))⟩,⟨(some 57),(some (54,false)),(.iaddr 1 (.t 55) (.t 56))⟩,⟨(some 58),(some (54,false)),(.load true 1 (.t 57))⟩,⟨(some 59),(some (54,false)),(.call 85 [(.t 58)])⟩,⟨(some 60),(some (54,false)),(.bin .geq false (.t 59) (.c (.int .i64 0)))⟩,⟨some 61,none,.pick (.t 54) (.c (.bool true)) (.t 60)⟩]) (.cond (.t 61) (.seq (.reg [⟨some 62,none,.build [.nil] []⟩,⟨none,none,(.store 1 (.t 4) (.t 62))⟩,⟨some 5,none,.mv (.c (.bool false))⟩]) .ret) .skip))) (.reg [⟨some 46,none,.mv (.t 8)⟩,⟨some 47,none,.bin .add false (.t 46) (.c (.int .i64 1))⟩,⟨some 8,none,.mv (.t 47)⟩])))))) (.seq (.reg [⟨some 63,none,.load true 1 (.t 2)⟩,⟨some 64,none,.call 86 [(.t 63)]⟩,⟨some 9,none,.alloc 60 [.nil]⟩,⟨none,none,(.store 1 (.t 9) (.t 64))⟩]) (.seq (.seq (.reg [⟨some 10,none,.mv (.c (.int .i64 0))⟩]) (.block 4 (.loop [0,1,0,0,1,0,1,0,0,1,1,0,0,0,0,0,0,0,0,0,0,0,0,0,0,0,0,0,0,0,0,0,0,0,0,0,0,0,0,0,0,0,0,0,0,0,0,0,0,0,0,0,0,0,0,0,0,0,0,0,0,0,0,0,0,0,0,0,0,0,0,0,0,0,0,0,0,0,0,0,0,0,0,0] (.seq (.seq (.reg [⟨some 65,none,.mv (.t 10)⟩,⟨some 66,none,.mv (.t 6)⟩,⟨some 67,none,.bin .lss false (.t 65) (.t 66)⟩]) (.cond (.t 67) .skip (.exit 4))) (.seq (.block 5 (.seq (.dreg [[],[],[],[1,2],[3,1,2],[0,4,3,1,2],[5,0,4,3,1,2],[6,5,0,4,3,1,2],[6,5,0,4,3,1,2],[],[9,7,6,5,0,4,3,1,2],[8,6,5,0,4,3,1,2,10,9,7]] [⟨some 71,none,.load true 1 (.t 9)⟩,⟨some 72,none,.mv (.t 1)⟩,⟨some 73,none,.mv (.t 10)⟩,⟨some 74,none,.iaddr 1 (.t 72) (.t 73)⟩,⟨some 75,none,.load true 1 (.t 74)⟩,⟨some 76,none,.call 87 [(.t 71),(.t 75)]⟩,⟨some 70,none,.mv (.t 76)⟩,⟨some 77,none,.ext (.t 70) 0⟩,⟨some 78,none,.ext (.t 70) 1⟩,⟨some 11,none,.alloc 60 [.nil]⟩,⟨none,none,(.store 1 (.t 11) (.t 77))⟩,⟨some 12,none,.mv (.t 78)⟩]) (.seq (.seq (.reg [⟨some 79,none,.mv (.t 12)⟩,⟨some 80,none,.un .not (.t 79)⟩]) (.cond (.t 80) (.seq (.reg [⟨some 81,none,.build [.nil] []⟩,⟨none,none,(.store 1 (.t 4) (.t 81))⟩,⟨some 5,none,.mv (.c (.bool false))⟩]) .ret) .skip)) (.reg [⟨some 82,none,.load true 1 (.t 11)⟩,⟨none,none,(.store 1 (.t 9) (.t 82))⟩])))) (.reg [⟨some 68,none,.mv (.t 10)⟩,⟨some 69,none,.bin .add false (.t 68) (.c (.int .i64 1))⟩,⟨some 10,none,.mv (.t 69)⟩])))))) (.seq (.reg [⟨some 83,none,.load true 1 (.t 9)⟩,⟨none,none,(.store 1 (.t 4) (.t 83))⟩,⟨some 5,none,.mv (.c (.bool true))⟩]) .ret)))))))))
theorem ET:codeOf Tryz.prog 35=some ⟨84,D2,[(.cell 4 true 1),(.tmp 5)]⟩:=by kernel_rfl
theorem B6:modes 35=⟨[],.frz,none,false⟩:=by unfold modes; rfl
theorem Z1 (n:Cl) (hn:n.tame) (es:List Cl) (hl:es.length≤1048576) (hx:∀ x∈es,x.tame):E 35 [n.sv,.arr (es.map Cl.d)] []=some (.tup [(Hs (hy n es)).sv,.bool (hy n es).isSome],[]):=by
 have hsv:∀ d:Cl,d.sv=.agg [.arr (d.lits.map Lt.d)]:=fun d=>rfl
 have hz:(Hs none).lits=[]:=rfl
 have hy0:Qh n es=false→hy n es=none:=fun h=>by unfold hy; rw [h]; rfl
 have h1:=TM n hn
 rw [hsv] at h1
 simp only [hsv]
 cases hnn:n.ok&&n.norm with
 | false =>
  rw [hnn] at h1
  rw [hy0 (by unfold Qh; rw [hnn]; rfl),hz]
  refine Ad ET B6 (of_decide_eq_true rfl) ?_
  simp (disch:=omega) only [D2,go_sem,Aa,h1,Ci,zB,zA]
 | true =>
 rw [hnn] at h1
 rcases zP 4 (es.length:Int) with h4 | h4
 ·have hq:dec ((4:Int)<(es.length:Int))=true:=At h4
  rw [hy0 (by unfold Qh; rw [Ay (by omega),zU,zV]),hz]
  refine Ad ET B6 (of_decide_eq_true rfl) ?_
  simp (disch:=omega) only [D2,go_sem,Aa,h1,hq,Ci,zB,zA]
 have hq:dec ((4:Int)<(es.length:Int))=false:=Ay (by omega)
 have hnb:=hnn
 rw [zE] at hnb
 have hnl:=Cl.ok_len hnb.1
 have hok1:Qh n es=(dec (ngN n.lits=(es.length:Int))&&es.all eOk):=by unfold Qh; rw [hnn,At h4]; rfl
 obtain ⟨t,ht⟩:∃ t,t=hy n es:=⟨_,rfl⟩
 rw [←ht]
 refine Ad ET B6 (of_decide_eq_true rfl) ?_
 simp (disch:=omega) only [D2,go_sem,Aa,h1,hq,Ci,zB,zA]
 refine go_loop (α:=Int × (Int)) (fun a=>⟨slots 84 0 [(1,.arr (es.map Cl.d)),(2,.ptr 0 0),(4,.ptr 1 0),(6,.int .i64 (a.2)),(7,.int .i64 (a.1))],[.box 60 [.arr (n.lits.map Lt.d)],.box 60 [.nil]]⟩) (fun a=>∃ k:Nat,a.1=k∧k≤(n.lits).length∧(a.2)+ngN (n.lits.drop k)=ngN n.lits∧0≤(a.2)∧(a.2)≤k) (fun a=>(n.lits).length-(a.1).toNat) (0,0) ⟨0,rfl,zH _,by rw [zI]; dsimp only; omega,Int.le_refl 0,by dsimp only; omega⟩ (by simp (disch:=omega) only [go_sem,Aa]) ?_
 rintro ⟨i,m⟩ ⟨k,hi,hk,hR⟩
 dsimp only at hi hR
 have hni:i.toNat=k:=by omega
 have hni1:(i+1).toNat=k+1:=by omega
 rcases zF k (n.lits).length with hlt | hge
 ·have hg:=get_at Lt.d hlt
  rw [Lt.d_eq] at hg
  obtain ⟨hR1,hR2,hR3⟩:=hR
  rw [zC hlt,ngN] at hR1
  cases hp:n.lits[k].pos with
  | true =>
   rw [hp] at hR1
   simp only [if_true] at hR1
   simp (disch:=omega) only [go_sem,Aa,hni,hg,hp]
   refine ⟨(i+1,m),⟨k+1,by dsimp only; omega,hlt,by dsimp only; omega,by dsimp only; omega,by dsimp only; omega⟩,by dsimp only; omega,?_⟩
   first | trivial | rfl | simp (disch:=omega) only [go_sem,Aa]
  | false =>
   rw [hp] at hR1
   simp only [Bool.false_eq_true,if_false] at hR1
   simp (disch:=omega) only [go_sem,Aa,hni,hg,hp]
   refine ⟨(i+1,m+(1-0)),⟨k+1,by dsimp only; omega,hlt,by dsimp only; omega,by dsimp only; omega,by dsimp only; omega⟩,by dsimp only; omega,?_⟩
   first | trivial | rfl | simp (disch:=omega) only [go_sem,Aa]
 ·rw [zD hge,ngN] at hR
  obtain ⟨hR1,hR2,hR3⟩:=hR
  have hm:m=ngN n.lits:=by omega
  clear hR1 hR2 hR3
  by_cases he:ngN n.lits=(es.length:Int)
  ·have hne:(m=(es.length:Int))=True:=eq_true (by omega)
   have hme:m=(es.length:Int):=by omega
   rw [At he,zW] at hok1
   simp (disch:=omega) only [go_sem,Aa,hni,hne,zB,zA]
   clear hi hni hni1 hk hge hne hm
   subst hme
   refine go_loop (α:=Int) (fun a=>⟨slots 84 0 [(1,.arr (es.map Cl.d)),(2,.ptr 0 0),(4,.ptr 1 0),(6,.int .i64 es.length),(8,.int .i64 a)],[.box 60 [.arr (n.lits.map Lt.d)],.box 60 [.nil]]⟩) (fun a=>∃ k:Nat,a=k∧k≤(es).length∧∀ (j:Nat),j<k→∀ hj:j<es.length,eOk es[j]=true) (fun a=>(es).length-(a).toNat) 0 ⟨0,rfl,zH _,fun j hj=>absurd hj (Nat.not_lt_zero _)⟩ (by simp (disch:=omega) only [go_sem,Aa]) ?_
   rintro i ⟨k,hi,hk,hR⟩
   have hni:i.toNat=k:=by omega
   have hni1:(i+1).toNat=k+1:=by omega
   rcases zF k (es).length with hlt | hge
   ·have hg:=get_at Cl.d hlt
    rw [Cl.d_eq] at hg
    have hxt:=hx _ (zG hlt)
    have hrd:=TM es[k] hxt
    have hng:=Ni es[k] (by have:=hxt.1; omega)
    rw [hsv] at hrd hng
    have hany:dec (0≤Qg es[k])=es[k].lits.any isNeg:=Jv isNeg es[k].lits
    cases hb:es[k].ok&&es[k].norm with
    | false =>
     rw [hb] at hrd
     have heo:eOk es[k]=false:=by unfold eOk; rw [hb]; rfl
     have htn:t=none:=by rw [ht,hy0 (by rw [hok1]; exact List.all_eq_false.2 ⟨es[k],zG hlt,by rw [heo]; simp⟩)]
     rw [htn,hz]
     simp (disch:=omega) only [go_sem,Aa,hni,hg,hrd,hng,hany,Ci,BI,zB,zA]
    | true =>
     rw [hb] at hrd
     cases hc:es[k].lits.any isNeg with
     | true =>
      rw [hc] at hany
      have heo:eOk es[k]=false:=by unfold eOk; rw [hb,hc]; rfl
      have htn:t=none:=by rw [ht,hy0 (by rw [hok1]; exact List.all_eq_false.2 ⟨es[k],zG hlt,by rw [heo]; simp⟩)]
      rw [htn,hz]
      simp (disch:=omega) only [go_sem,Aa,hni,hg,hrd,hng,hany,Ci,BI,zB,zA]
     | false =>
      rw [hc] at hany
      have heo:eOk es[k]=true:=by unfold eOk; rw [hb,hc]; rfl
      simp (disch:=omega) only [go_sem,Aa,hni,hg,hrd,hng,hany,Ci,BI,zB,zA]
      refine ⟨i+1,⟨k+1,by omega,hlt,fun j hj hjl=>?_⟩,by omega,by first | trivial | rfl⟩
      rcases zF j k with h2 | h2
      ·exact hR j h2 hjl
      ·obtain rfl:j=k:=by omega
       exact heo
   ·have hall:∀ x∈es,eOk x=true:=fun x hx=>by
     obtain ⟨j,hj,rfl⟩:=zO hx
     exact hR j (by omega) hj
    rw [List.all_eq_true.2 hall] at hok1
    have hty:hyN es n=t:=by rw [ht]; unfold hy; rw [hok1]; rfl
    have hcc:=Qeh n (by omega) (fun x hx=>by have:=Tm.Cu (Cl.C3 hnb.1 x hx); omega)
    rw [hsv] at hcc
    simp (disch:=omega) only [go_sem,Aa,hni,hcc,Pl]
    clear hR hi hk hge hni hni1
    refine go_loop (α:=Int × (Cl)) (fun a=>⟨slots 84 0 [(1,.arr (es.map Cl.d)),(4,.ptr 0 0),(6,.int .i64 es.length),(9,.ptr 1 0),(10,.int .i64 (a.1))],[.box 60 [.nil],.box 60 [.arr ((a.2).lits.map Lt.d)]]⟩) (fun a=>∃ k:Nat,a.1=k∧k≤(es).length∧hyN (es.drop k) (a.2)=t∧(a.2).ok=true) (fun a=>(es).length-(a.1).toNat) (0,n) ⟨0,rfl,zH _,by rw [zI]; exact hty,hnb.1⟩ (by simp (disch:=omega) only [go_sem,Aa]) ?_
    rintro ⟨i,c⟩ ⟨k,hi,hk,hR⟩
    dsimp only at hi hR
    have hni:i.toNat=k:=by omega
    have hni1:(i+1).toNat=k+1:=by omega
    rcases zF k (es).length with hlt | hge
    ·have hg:=get_at Cl.d hlt
     rw [Cl.d_eq] at hg
     obtain ⟨hR1,hR2⟩:=hR
     rw [Zz hlt] at hR1
     have heo:=hall _ (zG hlt)
     unfold eOk at heo
     rw [zE,zE] at heo
     have hfr:=QaF c hR2 es[k] heo.1.1 heo.1.2
     simp only [hsv] at hfr
     obtain ⟨u,hu⟩:∃ u,u=frO c (Qg c) es[k]:=⟨_,rfl⟩
     rw [←hu] at hfr hR1
     cases u with
     | none =>
      have hR1:none=t:=hR1
      rw [hz] at hfr
      rw [←hR1,hz]
      have hsn:(none:Option Cl).isSome=false:=rfl
      simp (disch:=omega) only [go_sem,Aa,hni,hg,hfr,hsn,Ed]
     | some r =>
      have hro:=QaE hu.symm
      have hR1:hyN (es.drop (k+1)) r=t:=hR1
      have h1:Hs (some r)=r:=rfl
      rw [h1] at hfr
      have hsn:(some r:Option Cl).isSome=true:=rfl
      simp (disch:=omega) only [go_sem,Aa,hni,hg,hfr,hsn,Ed]
      exact ⟨(i+1,r),⟨k+1,by dsimp only; omega,hlt,hR1,hro⟩,by dsimp only; omega,by first | trivial | rfl⟩
    ·rw [zD hge] at hR
     obtain ⟨hR1,hR2⟩:=hR
     have hR1:some c=t:=hR1
     rw [←hR1]
     have h1:Hs (some c)=c:=rfl
     have hsn:(some c:Option Cl).isSome=true:=rfl
     rw [h1]
     simp (disch:=omega) only [go_sem,Aa,hni,hsn]
  ·have hne:(m=(es.length:Int))=False:=eq_false (by omega)
   have htn:t=none:=by rw [ht,hy0 (by rw [hok1,Ay he]; rfl)]
   rw [htn,hz]
   simp (disch:=omega) only [go_sem,Aa,hni,hne,zB,zA]
def Cl.wt (x:Cl):Nat:=0+Lt.wtS x.lits
theorem Cl.wt_eq (x:Cl):x.wt=0+Lt.wtS x.lits:=rfl
noncomputable def Cl.mk1 (x:Cl) (k:Int):Cl × Int:=((Cl.mk ((Lt.mkS x.lits k).1)),(Lt.mkS x.lits k).2)
theorem Cl.mk1_eq (x:Cl) (k:Int):x.mk1 k=((Cl.mk ((Lt.mkS x.lits k).1)),(Lt.mkS x.lits k).2):=rfl
def Cl.wtS:List Cl→Nat
 | []=>0
 | x :: xs=>Cl.wt x+Cl.wtS xs
noncomputable def Cl.mkS:List Cl→Int→List Cl × Int
 | [],k=>([],k)
 | x :: xs,k=>((Cl.mk1 x k).1 :: (Cl.mkS xs (Cl.mk1 x k).2).1,(Cl.mkS xs (Cl.mk1 x k).2).2)
theorem Cl.mk1_o (x:Cl) (k:Int):Cl.o (x.mk1 k).1=[.ow ((Lt.mkS x.lits k).1.map Lt.o)]:=by
 rw [Cl.mk1_eq,Cl.o_eq]
 try rfl
theorem Cl.mk1_end (x:Cl) (k:Int):(x.mk1 k).2=k+x.wt:=by
 rw [Cl.mk1_eq,Cl.wt_eq]
 first
  |omega
  |(simp only [Lt.mkS_end]; done)
  |(simp only [Lt.mkS_end]; omega)
  |simp
theorem Cl.mkS_end:∀ (xs:List Cl) (k:Int),(Cl.mkS xs k).2=k+Cl.wtS xs
 | [],k=>by simp [Cl.mkS,Cl.wtS]
 | x :: xs,k=>by
  rw [Cl.mkS,Cl.wtS]
  have h1:=Cl.mk1_end x k
  have h2:=Cl.mkS_end xs (x.mk1 k).2
  dsimp only
  omega
theorem Cl.wt_bulk (x:Cl):x.wt≤5*(1+x.bulk):=by
 rw [Cl.wt_eq,Cl.bulk_eq]
 have h0:=Lt.wtS_bulk x.lits
 omega
theorem Cl.wtS_bulk:∀ xs:List Cl,Cl.wtS xs≤5*(xs.length+Cl.sumB xs)
 | []=>by simp [Cl.wtS]
 | x :: xs=>by
  have h1:=Cl.wt_bulk x
  have h2:=Cl.wtS_bulk xs
  rw [Cl.wtS,Cl.sumB]; simp only [List.length_cons]; omega
def Ig:SC:=(.seq (.reg [⟨some 4,none,.mv (.c (.int .i64 0))⟩]) (.seq (.seq (.reg [⟨some 5,none,.mv (.c (.int .i64 0))⟩]) (.block 0 (.loop [1,1,0,0,0,1,0,0,0,0,0,0,0,0,0,0,0,0,0,0] (.seq (.seq (.reg [⟨some 6,none,.mv (.t 5)⟩,⟨some 7,none,.mv (.t 0)⟩,⟨some 8,none,.len false (.t 7)⟩,⟨some 9,none,.bin .lss false (.t 6) (.t 8)⟩]) (.cond (.t 9) .skip (.exit 0))) (.seq (.block 1 (.reg [⟨some 12,none,.mv (.t 0)⟩,⟨some 13,none,.mv (.t 5)⟩,⟨some 14,none,.iaddr 1 (.t 12) (.t 13)⟩,⟨some 15,none,.faddr 0 (.t 14)⟩,⟨some 16,none,.load false 1 (.t 15)⟩,⟨some 17,none,.mv (.t 1)⟩,⟨some 18,none,.call 83 [(.t 16),(.t 17)]⟩,⟨some 1,none,.mv (.t 18)⟩])) (.reg [⟨some 10,none,.mv (.t 5)⟩,⟨some 11,none,.bin .add false (.t 10) (.c (.int .i64 1))⟩,⟨some 5,none,.mv (.t 11)⟩])))))) (.seq (.reg [⟨some 19,none,.mv (.t 1)⟩,⟨some 4,none,.mv (.t 19)⟩]) .ret)))
theorem NE:codeOf Tryz.prog 32=some ⟨20,Ig,[(.tmp 4)]⟩:=by kernel_rfl
theorem CX:modes 32=⟨[true],.asis,none,true⟩:=by unfold modes; rfl
abbrev Nj (xs:List Cl):Prop:=∀ (k:Int) (ob:List Ob),1≤k→k+Cl.wtS xs+xs.length≤1099511627776→toTree ob=[.tree (xs.map Cl.o) []]→E 32 [.ref 0,.int .i64 k] ob=some (.int .i64 (Cl.mkS xs k).2,[.tree ((Cl.mkS xs k).1.map Cl.o) []])
theorem Qj (xs:List Cl):Nj xs:=by
 intro k0 ob h1 h2 hob
 have hlen:ob.length=1:=by rw [←H6,hob]; rfl
 have hL:=Nat.le_refl 0
 refine Ad NE CX (of_decide_eq_true rfl) ?_
 simp (disch:=omega) only [Ig,go_sem,Aa,hob,hlen]
 refine go_loop (α:=Int × (Int) × (List Cl)) (fun a=>⟨slots 20 0 [(0,.ref 0),(1,.int .i64 (a.2.1)),(5,.int .i64 (a.1))],[.tree (((a.2.2)++xs.drop (a.1).toNat).map Cl.o) []]⟩) (fun a=>∃ k:Nat,a.1=k∧k≤(xs).length∧(a.2.2).length=k∧1≤(a.2.1)∧(a.2.1)+Cl.wtS (xs.drop k)=k0+Cl.wtS xs∧Cl.mkS xs k0=((a.2.2)++(Cl.mkS (xs.drop k) (a.2.1)).1,(Cl.mkS (xs.drop k) (a.2.1)).2)) (fun a=>(xs).length-(a.1).toNat) (0,k0,[]) ⟨0,rfl,zH _,rfl,h1,by rw [zI],by simp⟩ (by simp (disch:=omega) only [go_sem,Aa,Int.toNat_zero]) ?_
 rintro ⟨i,kk,dn⟩ ⟨k,hi,hk,hR⟩
 dsimp only at hi hR
 have hni:i.toNat=k:=by omega
 have hni1:(i+1).toNat=k+1:=by omega
 rcases zF k (xs).length with hlt | hge
 ·obtain ⟨hd,hk1,hkn,hm⟩:=hR
  have hdr:xs.drop k=xs[k] :: xs.drop (k+1):=zC hlt
  have hel:(dn++xs.drop k).length=xs.length:=by simp; omega
  have hg:(List.map Cl.o (dn++xs.drop k))[k]?=some [.ow (xs[k].lits.map Lt.o)]:=by
   rw [←Cl.o_eq,hdr,List.getElem?_map,List.getElem?_append_right (by omega),hd,Nat.sub_self]; rfl
  rw [hdr,Cl.wtS] at hkn
  rw [hdr,Cl.mkS] at hm
  have hn1:=Cl.wt_eq xs[k]
  have e0:=Lt.mkS_end xs[k].lits (kk)
  have c0:=LF xs[k].lits (kk) [.tree (xs[k].lits.map Lt.o) []] (by omega) (by omega) rfl
  have hs:=Ln Cl.o dn (xs.drop (k+1)) xs[k] (xs[k].mk1 kk).1 hd
  rw [Cl.mk1_o,← hdr] at hs
  have hgs:∀ a,((List.map Cl.o (dn++xs.drop k)).set k a)[k]?=some a:=fun a=>List.getElem?_set_self (by rw [zN,hel]; exact hlt)
  have he:=Cl.mk1_end xs[k] kk
  have three:∀ z:Int,dec ((3:Int)=0)=false:=fun _=>Ay (by omega)
  simp (disch:=omega) only [go_sem,Aa,hni,hel,hg,c0,EQ,DS,hgs,List.length_set,List.set_set,hs,three 0]
  refine ⟨(i+1,(xs[k].mk1 kk).2,dn++[(xs[k].mk1 kk).1]),⟨k+1,by dsimp only; omega,hlt,by dsimp only; simp [hd],by dsimp only; omega,by dsimp only; omega,by rw [hm]; simp⟩,by dsimp only; omega,?_⟩
  dsimp only
  rw [hni1,Cl.mk1_eq]
  refine ⟨⟨?_,rfl⟩,rfl⟩
  first | rfl | omega
 ·obtain ⟨hd,hk1,hkn,hm⟩:=hR
  have hdr:xs.drop k=[]:=zD hge
  rw [hdr,Cl.mkS] at hm
  rw [hm]
  simp (disch:=omega) only [go_sem,Aa,hni,hdr,List.append_nil]
theorem U1 (xs:List Cl):Nj xs:=Qj xs
def Ca:SC:=(.seq (.reg [⟨some 2,none,.boxv 53 1 (.t 0)⟩,⟨some 4,none,.mv (.c (.bool false))⟩]) (.seq (.reg [⟨some 5,none,.mv (.c (.int .i64 1048576))⟩]) (.seq (.reg [⟨some 17,none,.load true 1 (.t 2)⟩,⟨some 18,none,.mv (.t 5)⟩,⟨some 19,none,.call 25 [(.t 17),(.t 18)]⟩,⟨some 5,none,.mv (.t 19)⟩]) (.seq (.seq (.reg [⟨some 20,none,.mv (.t 5)⟩,⟨some 21,none,.bin .lss false (.t 20) (.c (.int .i64 0))⟩]) (.cond (.t 21) (.seq (.reg [⟨some 4,none,.mv (.c (.bool true))⟩]) .ret) .skip)) (.seq (.reg [⟨some 22,none,.mv (.t 1)⟩,⟨some 23,none,.mv (.t 5)⟩,⟨some 24,none,.call 34 [(.t 22),(.t 23)]⟩,⟨some 5,none,.mv (.t 24)⟩]) (.seq (.seq (.reg [⟨some 25,none,.mv (.t 5)⟩,⟨some 26,none,.bin .lss false (.t 25) (.c (.int .i64 0))⟩]) (.cond (.t 26) (.seq (.reg [⟨some 4,none,.mv (.c (.bool true))⟩]) .ret) .skip)) (.seq (.reg [⟨some 28,none,.load true 1 (.t 2)⟩,⟨some 29,none,.call 27 [(.t 28)]⟩,⟨some 30,none,.mv (.t 1)⟩,⟨some 31,none,.call 36 [(.t 30)]⟩,⟨some 32,none,.call 35 [(.t 29),(.t 31)]⟩,⟨some 27,none,.mv (.t 32)⟩,⟨some 33,none,.ext (.t 27) 0⟩,⟨some 34,none,.ext (.t 27) 1⟩,⟨some 6,none,.alloc 60 [.nil]⟩,⟨none,none,(.store 1 (.t 6) (.t 33))⟩,⟨some 7,none,.mv (.t 34)⟩]) (.seq (.reg [⟨some 35,none,.load true 1 (.t 2)⟩,⟨some 36,none,.call 27 [(.t 35)]⟩,⟨some 8,none,.alloc 60 [.nil]⟩,⟨none,none,(.store 1 (.t 8) (.t 36))⟩]) (.seq (.reg [⟨some 37,none,.mv (.t 1)⟩,⟨some 38,none,.call 36 [(.t 37)]⟩,⟨some 9,none,.mv (.t 38)⟩]) (.seq (.reg [⟨some 40,none,.load true 1 (.t 8)⟩,⟨some 41,none,.mv (.t 9)⟩,⟨some 42,none,.call 37 [(.t 40),(.t 41)]⟩,⟨some 39,none,.mv (.t 42)⟩,⟨some 43,none,.ext (.t 39) 0⟩,⟨some 44,none,.ext (.t 39) 1⟩,⟨some 10,none,.alloc 60 [.nil]⟩,⟨none,none,(.store 1 (.t 10) (.t 43))⟩,⟨some 11,none,.mv (.t 44)⟩]) (.seq (.seq (.reg [⟨some 45,none,.load true 1 (.t 10)⟩,⟨some 46,none,.load true 1 (.t 6)⟩,⟨some 47,none,.call 30 [(.t 45),(.t 46)]⟩,⟨some 48,none,.un .not (.t 47)⟩,⟨some 49,none,.mv (.t 48)⟩,⟨(some 50),(some (49,false)),(.mv (.t 11))⟩,⟨(some 51),(some (49,false)),(.mv (.t 7))⟩,⟨(some 52),(some (49,false)),(.bin .neq true (.t 50) (.t 51))⟩,⟨some 53,none,.pick (.t 49) (.c (.bool true)) (.t 52)⟩]) (.cond (.t 53) (.seq (.reg [⟨some 4,none,.mv (.c (.bool false))⟩]) .ret) .skip)) (.seq (.seq (.dreg [[],[],[1],[0,2,1],[3,0,2,1]] [⟨some 54,none,.load true 1 (.t 8)⟩,⟨some 55,none,.load true 1 (.t 2)⟩,⟨some 56,none,.call 27 [(.t 55)]⟩,⟨some 57,none,.call 30 [(.t 54),(.t 56)]⟩,⟨some 58,none,.un .not (.t 57)⟩]) (.cond (.t 58) (.seq (.reg [⟨some 4,none,.mv (.c (.bool false))⟩]) .ret) .skip)) (.seq (.seq (.reg [⟨some 59,none,.mv (.t 9)⟩,⟨some 60,none,.mv (.t 1)⟩,⟨some 61,none,.call 36 [(.t 60)]⟩,⟨some 62,none,.call 29 [(.t 59),(.t 61)]⟩,⟨some 63,none,.un .not (.t 62)⟩]) (.cond (.t 63) (.seq (.reg [⟨some 4,none,.mv (.c (.bool false))⟩]) .ret) .skip)) (.seq (.reg [⟨some 12,none,.mv (.c (.int .i64 1))⟩]) (.seq (.reg [⟨some 64,none,.load true 1 (.t 8)⟩,⟨some 65,none,.mv (.t 12)⟩,⟨some 66,none,.call 31 [(.t 64),(.t 65)]⟩,⟨some 12,none,.mv (.t 66)⟩]) (.seq (.reg [⟨some 67,none,.mv (.t 9)⟩,⟨some 68,none,.mv (.t 12)⟩,⟨some 69,none,.call 32 [(.t 67),(.t 68)]⟩,⟨some 12,none,.mv (.t 69)⟩]) (.seq (.seq (.reg [⟨some 70,none,.mv (.t 12)⟩,⟨some 71,none,.bin .lss false (.t 70) (.c (.int .i64 0))⟩,⟨some 72,none,.mv (.t 71)⟩,⟨(some 73),(some (72,false)),(.load true 1 (.t 10))⟩,⟨(some 74),(some (72,false)),(.load true 1 (.t 6))⟩,⟨(some 75),(some (72,false)),(.call 30 [(.t 73),(.t 74)])⟩,⟨(some 76),(some (72,false)),(.un .not (.t 75))⟩,⟨some 77,none,.pick (.t 72) (.c (.bool true)) (.t 76)⟩,⟨some 78,none,.mv (.t 77)⟩,⟨(some 79),(some (78,false)),(.mv (.t 11))⟩,⟨(some 80),(some (78,false)),(.mv (.t 7))⟩,⟨(some 81),(some (78,false)),(.bin .neq true (.t 79) (.t 80))⟩,⟨some 82,none,.pick (.t 78) (.c (.bool true)) (.t 81)⟩]) (.cond (.t 82) (.seq (.reg [⟨some 4,none,.mv (.c (.bool false))⟩]) .ret) .skip)) (.seq (.reg [⟨some 13,none,.mv (.c (.int .i64 1))⟩]) (.seq (.reg [⟨some 83,none,.load true 1 (.t 10)⟩,⟨some 84,none,.mv (.t 13)⟩,⟨some 85,none,.call 31 [(.t 83),(.t 84)]⟩,⟨some 13,none,.mv (.t 85)⟩]) (.seq (.reg [⟨some 14,none,.mv (.c (.int .i64 1))⟩]) (.seq (.reg [⟨some 86,none,.load true 1 (.t 10)⟩,⟨some 87,none,.mv (.t 14)⟩,⟨some 88,none,.call 38 [(.t 86),(.t 87)]⟩,⟨some 14,none,.mv (.t 88)⟩]) (.seq (.seq (.reg [⟨some 89,none,.mv (.t 14)⟩,⟨some 90,none,.bin .lss false (.t 89) (.c (.int .i64 0))⟩]) (.cond (.t 90) (.seq (.reg [⟨some 4,none,.mv (.c (.bool false))⟩]) .ret) .skip)) (.seq (.seq (.reg [⟨some 91,none,.mv (.t 14)⟩,⟨some 92,none,.mv (.t 13)⟩,⟨some 93,none,.bin .neq false (.t 91) (.t 92)⟩]) (.cond (.t 93) (.seq (.reg [⟨some 4,none,.mv (.c (.bool false))⟩]) .ret) .skip)) (.seq (.reg [⟨some 95,none,.load true 1 (.t 2)⟩,⟨some 96,none,.call 27 [(.t 95)]⟩,⟨some 97,none,.mv (.t 1)⟩,⟨some 98,none,.call 36 [(.t 97)]⟩,⟨some 99,none,.call 37 [(.t 96),(.t 98)]⟩,⟨some 94,none,.mv (.t 99)⟩,⟨some 100,none,.ext (.t 94) 0⟩,⟨some 101,none,.ext (.t 94) 1⟩,⟨some 15,none,.alloc 60 [.nil]⟩,⟨none,none,(.store 1 (.t 15) (.t 100))⟩,⟨some 16,none,.mv (.t 101)⟩]) (.seq (.seq (.reg [⟨some 102,none,.load true 1 (.t 15)⟩,⟨some 103,none,.load true 1 (.t 6)⟩,⟨some 104,none,.call 30 [(.t 102),(.t 103)]⟩,⟨some 105,none,.un .not (.t 104)⟩,⟨some 106,none,.mv (.t 105)⟩,⟨(some 107),(some (106,false)),(.mv (.t 16))⟩,⟨(some 108),(some (106,false)),(.mv (.t 7))⟩,⟨(some 109),(some (106,false)),(.bin .neq true (.t 107) (.t 108))⟩,⟨some 110,none,.pick (.t 106) (.c (.bool true)) (.t 109)⟩]) (.cond (.t 110) (.seq (.reg [⟨some 4,none,.mv (.c (.bool false))⟩]) .ret) .skip)) (.seq (.reg [⟨some 14,none,.mv (.c (.int .i64 1))⟩]) (.seq (.reg [⟨some 111,none,.load true 1 (.t 10)⟩,⟨some 112,none,.mv (.t 14)⟩,⟨some 113,none,.call 38 [(.t 111),(.t 112)]⟩,⟨some 14,none,.mv (.t 113)⟩]) (.seq (.seq (.reg [⟨some 114,none,.mv (.t 14)⟩,⟨some 115,none,.bin .lss false (.t 114) (.c (.int .i64 0))⟩]) (.cond (.t 115) (.seq (.reg [⟨some 4,none,.mv (.c (.bool false))⟩]) .ret) .skip)) (.seq (.seq (.reg [⟨some 116,none,.mv (.t 14)⟩,⟨some 117,none,.mv (.t 13)⟩,⟨some 118,none,.bin .neq false (.t 116) (.t 117)⟩]) (.cond (.t 118) (.seq (.reg [⟨some 4,none,.mv (.c (.bool false))⟩]) .ret) .skip)) (.seq (.reg [⟨some 4,none,.mv (.c (.bool true))⟩]) .ret))))))))))))))))))))))))))))))
theorem CY:codeOf Tryz.prog 6=some ⟨119,Ca,[(.tmp 4)]⟩:=by kernel_rfl
theorem CZ:modes 6=⟨[],.asis,none,false⟩:=by unfold modes; rfl
theorem QcD (n:Cl) (es:List Cl):(Hs (hy n es)).bulk≤1048576:=by
 cases h:hy n es with
 | none =>
  rw [Qfm]
  have:=Cl.QcC
  omega
 | some x =>
  rw [QbH]
  have h2:=(Qgr (n:=n) (es:=es)).2 (by rw [h]; rfl)
  rw [h,QbH] at h2
  have:=Cl.Qfh h2
  omega
theorem Qfo (x:Cl) (es:List Cl) (hfx:D.fits x.d) (hfes:D.fit (.arr (es.map Cl.d))):E 6 [x.sv,.arr (es.map Cl.d)] []=some (.bool true,[]):=by
 have s0:=T2 x hfx 1048576 (by omega) (by omega)
 have q0:=Bi 1048576 x.bulk
 obtain ⟨l0,hl0⟩:∃ l,l=szR 1048576 (x.bulk:Nat):=⟨_,rfl⟩
 rw [←hl0] at s0 q0
 rcases zP l0 0 with h0 | h0_0
 ·refine Ad CY CZ (of_decide_eq_true rfl) ?_
  simp (disch:=omega) only [Ca,go_sem,Aa,s0,Ch]
 have s1:=YV es hfes l0 (by omega) (by omega)
 have q1:=Bi l0 (es.length+Cl.sumB es)
 obtain ⟨l1,hl1⟩:∃ l,l=szR l0 ((es.length+Cl.sumB es):Nat):=⟨_,rfl⟩
 rw [←hl1] at s1 q1
 rcases zP l1 0 with h0 | h0_1
 ·refine Ad CY CZ (of_decide_eq_true rfl) ?_
  simp (disch:=omega) only [Ca,go_sem,Aa,s0,s1,Ch,CN]
 have hb_x:x.bulk≤1048576:=by omega
 have hb_es:(es.length+Cl.sumB es)≤1048576:=by omega
 have t_x:=T6 x hb_x
 have t_es:=YZ es hb_es
 have htx:=Cl.Zy x hb_x
 have hct:=Cl.Qee hb_es
 have a1:=Z1 x htx es (by omega) hct
 have a2:=Z0 x htx es (by omega) hct
 have hb_r:=QcD x es
 obtain ⟨r,hr_r⟩:∃ r,r=Hs (hy x es):=⟨_,rfl⟩
 rw [←hr_r] at a1 a2 hb_r
 obtain ⟨o,hr_o⟩:∃ r,r=(hy x es).isSome:=⟨_,rfl⟩
 rw [←hr_o] at a1 a2
 have eq_x:=NC x (by omega)
 have be_x:=Cl.bulk_eq x
 have w_x_lits:=Lt.wtS_bulk x.lits
 have eq_es:=Zd es (by omega)
 have w_es:=Cl.wtS_bulk es
 have eq_r:=NC r (by omega)
 have be_r:=Cl.bulk_eq r
 have w_r_lits:=Lt.wtS_bulk r.lits
 have k_x_0:=Lt.mkS_end x.lits (1)
 have m_x:=OM x (1) (.row 122 3 (x.lits.map Lt.o)) (by omega) (by omega) rfl
 obtain ⟨n_x,hn_x⟩:∃ n1,n1=(x.mkr (1)).2:=⟨_,rfl⟩
 have hn'_x:n_x=(Lt.mkS x.lits (1)).2:=hn_x
 rw [←hn_x] at m_x
 have k_es:=Cl.mkS_end es (n_x)
 have m_es:=U1 es (n_x) [.row 60 1 (es.map Cl.o)] (by omega) (by omega) rfl
 obtain ⟨n_es,hn_es⟩:∃ n1,n1=(Cl.mkS es (n_x)).2:=⟨_,rfl⟩
 rw [←hn_es] at k_es m_es
 have k_r_0:=Lt.mkS_end r.lits (1)
 have m_r:=OM r (1) (.row 122 3 (r.lits.map Lt.o)) (by omega) (by omega) rfl
 have hd_r:=Xk r (1) (by omega) (by omega)
 obtain ⟨n_r,hn_r⟩:∃ n1,n1=(r.mkr (1)).2:=⟨_,rfl⟩
 have hn'_r:n_r=(Lt.mkS r.lits (1)).2:=hn_r
 rw [←hn_r] at m_r hd_r
 refine Ad CY CZ (of_decide_eq_true rfl) ?_
 simp (disch:=omega) only [Ca,go_sem,s0,s1,t_x,t_es,a1,a2,eq_x,eq_es,eq_r,m_x,m_es,hd_r,m_r,DT,Ch,CN,Di,DA,Dj,DB,Dn,CX,Do,B6,B5,Cl.osv,Cl.obs,Lt.osv,Lt.obs,Tm.osv,Tm.obs,Lt.erss,Lt.noss,Cl.erss,Cl.noss]
 repeat ((first | (refine Qdw ?_ ?_; (focus (simp (disch:=omega) only [go_sem,s0,s1,t_x,t_es,a1,a2,eq_x,eq_es,eq_r,m_x,m_es,hd_r,m_r,DT,Ch,CN,Di,DA,Dj,DB,Dn,CX,Do,B6,B5,Cl.osv,Cl.obs,Lt.osv,Lt.obs,Tm.osv,Tm.obs,Lt.erss,Lt.noss,Cl.erss,Cl.noss]; done))) | (refine Qdx ?_ ?_; (focus (simp (disch:=omega) only [go_sem,s0,s1,t_x,t_es,a1,a2,eq_x,eq_es,eq_r,m_x,m_es,hd_r,m_r,DT,Ch,CN,Di,DA,Dj,DB,Dn,CX,Do,B6,B5,Cl.osv,Cl.obs,Lt.osv,Lt.obs,Tm.osv,Tm.obs,Lt.erss,Lt.noss,Cl.erss,Cl.noss]; done)))); (try simp (disch:=omega) only [go_sem,s0,s1,t_x,t_es,a1,a2,eq_x,eq_es,eq_r,m_x,m_es,hd_r,m_r,DT,Ch,CN,Di,DA,Dj,DB,Dn,CX,Do,B6,B5,Cl.osv,Cl.obs,Lt.osv,Lt.obs,Tm.osv,Tm.obs,Lt.erss,Lt.noss,Cl.erss,Cl.noss]))
end Go.Proofs.YtepbennkcbmgoaaGreatDoor
set_option maxRecDepth 100000
set_option linter.unusedSimpArgs false
set_option linter.unusedVariables false
set_option linter.unusedSectionVars false
namespace Go.Proofs.YtepbennkcbmgoaaGreatDoor
open Go.RowKit Go.ChangeShapes Go.WideShapes Go.ChangeAt Go.Deep
section
variable {H:Type} {enc:TypeId × Value→H} {P:Program} {w:World} {base:Nat} {spare:Nat→Bool} {held:Bool}
theorem LY {b o k:Nat}:(⟨b,o,none⟩:Addr).add k=⟨b,o+k,none⟩:=by
 unfold Addr.add; split
 ·subst_vars; rfl
 ·rfl
theorem Qfp {a:Addr} {v:Value} (h:w.cell? a=some v):a.block<w.heap.size:=by
 unfold World.cell? at h
 cases hb:w.heap[a.block]? with
 | none=>rw [hb] at h; cases h
 | some o=>exact (zQ.1 hb).1
end
section
variable {H:Type} {enc:TypeId × Value→H} {w:World} {base:Nat} {spare:Nat→Bool} {held:Bool}
end
end Go.Proofs.YtepbennkcbmgoaaGreatDoor
set_option maxRecDepth 100000
set_option linter.unusedSimpArgs false
set_option linter.unusedVariables false
set_option linter.unusedSectionVars false
namespace Go.Proofs.YtepbennkcbmgoaaGreatDoor
open Go.RowKit Go.ChangeShapes Go.WideShapes Go.ChangeAt Go.Deep
section
variable {H:Type} {enc:TypeId × Value→H} {P:Program} {w:World} {base:Nat} {spare:Nat→Bool} {held:Bool}
theorem Pm {t e:TypeId} {fuel:Nat} {v:Value} {x:DataW H × List MemPlace} (sz:Nat) (hsz:P.cellsOf e=sz) (h0:0<sz) (ht:P.underlying t=some (.slice e)) (h:DataW.trod enc P w base spare held fuel t [v]=some x) :
  ∃ (a:Option Addr) (len cap:Nat) (f:Nat→Nat→Value),v=.slice a len cap∧len≤cap∧cap≤9223372036854775807∧SlA w 0 sz len f a ∧
   ∀ i,i<len→∃ n x',n<fuel∧DataW.trod enc P w base spare held n e ((zM sz).map (f i))=some x':=by
 rcases DataW.trod_slice ht h with ⟨hcs,_⟩ | ⟨a,len,cap,elems,rest,n,hf,hcs,hx,hb,hl,hm,hlen,hel,_,_⟩
 ·simp only [List.cons.injEq,and_true] at hcs
  exact ⟨none,0,0,fun _ _=>undef,hcs,Nat.le_refl _,by omega,.inl rfl,fun i hi=>absurd hi (by omega)⟩
 ·have hi:∀ i,i<len→∃ cs' x',w.cells? base (a.add (i*sz)) sz=some cs'∧DataW.trod enc P w base spare held n e cs'=some x':=by
   intro i hi
   have h1:=hel i hi
   rw [hsz,zJ (by omega)] at h1
   obtain ⟨cs',h2,h3⟩:=Option.bind_eq_some_iff.1 h1
   exact ⟨cs',_,h2,h3⟩
  have hcell:∀ i j,i<len→j<sz→∃ v,w.cell? (a.add (i*sz+j))=some v:=by
   intro i j hil hj
   obtain ⟨cs',x',hc,_⟩:=hi i hil
   obtain ⟨_,hcl,hat⟩:=World.cells?_some hc
   have h1:=hat j hj
   rw [Go.Deep.add_add,zJ (by omega)] at h1
   exact ⟨_,h1⟩
  simp only [List.cons.injEq,and_true] at hcs
  refine ⟨some a,len,cap,fun i j=>(w.cell? (a.add (i*sz+j))).getD undef,hcs,hl,hm,?_,?_⟩
  ·rcases zL len with h | h
   ·exact .inl h
   ·obtain ⟨v,hv⟩:=hcell 0 0 h h0
    rw [Nat.zero_mul,Nat.zero_add] at hv
    have hsp:a.spot=none:=by simpa [Addr.add] using World.cell?_spot hv
    have hlt:=Qfp hv
    obtain ⟨b,off,spot⟩:=a
    simp only at hsp
    subst hsp
    refine .inr ⟨b,off,rfl,zH _,by simpa [Addr.add] using hlt,fun i j hil hj=>?_⟩
    obtain ⟨v',hv'⟩:=hcell i j hil hj
    rw [LY] at hv'
    show _=some ((w.cell? ((⟨b,off,none⟩:Addr).add (i*sz+j))).getD undef)
    rw [LY,Nat.add_assoc,hv']
    rfl
  ·intro i hil
   obtain ⟨cs',x',hc,ht'⟩:=hi i hil
   obtain ⟨_,hcl,hat⟩:=World.cells?_some hc
   refine ⟨n,x',by omega,?_⟩
   have hcs':(zM sz).map (fun j=>(w.cell? (a.add (i*sz+j))).getD undef)=cs':=by
    apply List.ext_getElem?
    intro j
    by_cases hj:j<sz
    ·rw [List.getElem?_map,List.getElem?_range hj]
     have h1:=hat j hj
     rw [Go.Deep.add_add] at h1
     rw [zJ (by omega:j<cs'.length)] at h1 ⊢
     simp [h1]
    ·rw [List.getElem?_eq_none (by simp; omega),List.getElem?_eq_none (by omega)]
   rw [hcs']
   exact ht'
theorem TT {t:TypeId} {fs:Array Field} {fuel:Nat} {cs:List Value} {x:DataW H × List MemPlace} (ht:P.underlying t=some (.struct fs)) (h:DataW.trod enc P w base spare held fuel t cs=some x) :
  ∃ n,n<fuel∧cs.length=P.cellsOf t∧∀ (i:Nat) (f:Field),fs[i]?=some f→∃ y,DataW.trod enc P w base spare held n f.type ((cs.drop f.offset).take (P.cellsOf f.type))=some y:=by
 obtain ⟨xs,n,hn,hx,hlen,hxl,hf⟩:=DataW.trod_struct ht h
 refine ⟨n,by omega,hlen,fun i f hi=>?_⟩
 have hil:i<fs.size:=(zQ.1 hi).1
 have h1:=hf i f hi
 rw [zJ (by omega:i<xs.length)] at h1
 exact ⟨_,h1⟩
end
inductive Lvs (w:World):List D→List Value→Prop
 |nil:Lvs w [] []
 |cons {d:D} {v:Value} {ds:List D} {vs:List Value} (h:DAt w d v) (hs:Lvs w ds vs):Lvs w (d :: ds) (v :: vs)
theorem Lvs.len {w:World} {ds:List D} {vs:List Value} (h:Lvs w ds vs):ds.length=vs.length:=by
 induction h with
 | nil=>rfl
 | cons h hs ih=>simp [ih]
theorem Lvs.get {w:World} {ds:List D} {vs:List Value} (h:Lvs w ds vs):∀ j (h1:j<ds.length) (h2:j<vs.length),DAt w ds[j] vs[j]:=by
 induction h with
 | nil=>intro j h1; simp at h1
 | cons h hs ih =>
  intro j h1 h2
  cases j with
  | zero=>exact h
  | succ j=>exact ih j (by simpa using h1) (by simpa using h2)
theorem Pn {α:Type} [Inhabited α] (dd:α→List D) {w:World} {m len cap:Nat} {f:Nat→Nat→Value} {a:Option Addr} (hl:len≤cap) (hm:cap≤9223372036854775807) (hS:SlA w 0 m len f a)
  (hel:∀ i,i<len→∃ X:α,Lvs w (dd X) ((zM m).map (f i))):∃ xs:List α,DAt w (.arr (xs.map dd)) (.slice a len cap):=by
 obtain ⟨g,hg⟩:∃ g:Nat→α,∀ i,i<len→Lvs w (dd (g i)) ((zM m).map (f i)) :=
  ⟨fun i=>if h:i<len then (hel i h).choose else default,fun i hi=>by simp only [hi,dif_pos]; exact (hel i hi).choose_spec⟩
 refine ⟨(zM len).map g,?_⟩
 have hlen:(((zM len).map g).map dd).length=len:=by simp
 have:=DAt.Qf0 (w:=w) (es:=((zM len).map g).map dd) (sz:=m) (cap:=cap) (a:=a) (f:=f) (by rw [hlen]; exact hl) hm (by rw [hlen]; exact hS) (fun i hi=>by
  rw [hlen] at hi
  have:=(hg i hi).len
  simpa using this) (fun i j hi hj=>by
  rw [hlen] at hi
  have h1:=hg i hi
  have h2:=h1.len
  simp only [zN,List.length_range] at h2
  simp only [List.getElem_map,List.getElem_range] at hj ⊢
  have:=h1.get j hj (by simp; omega)
  simpa using this)
 rw [hlen] at this
 exact this
instance:Inhabited Tm:=⟨Tm.zero⟩
instance:Inhabited Fm:=⟨Fm.zero⟩
section
variable {H:Type} {enc:TypeId × Value→H} {w:World} {base:Nat} {spare:Nat→Bool} {held:Bool}
end
end Go.Proofs.YtepbennkcbmgoaaGreatDoor
set_option maxRecDepth 100000
set_option linter.unusedSimpArgs false
set_option linter.unusedVariables false
set_option linter.unusedSectionVars false
namespace Go.Proofs.YtepbennkcbmgoaaGreatDoor
open Go.RowKit
theorem DRep.lt_ {own:Bool} {w:World} {S:Nat→Prop} {d:D} {v:Value} (h:DRep own w S d v):DRep own w (fun b=>S b∧b<w.heap.size) d v:=by
 induction h with
 | int S n=>exact .int _ n
 | bool S b=>exact .bool _ b
 | str S s h=>exact .str _ s h
 | arr S sz es a cap f Sub h1 h2 h3 h4 h5 h6 h7 ih =>
  refine .arr _ sz es a cap f (fun i j x=>Sub i j x∧x<w.heap.size) h1 h2 ?_ h4 (fun i j x h=>⟨h5 i j x h.1,h.2⟩) (fun ho i j i' j' x h h'=>h6 ho i j i' j' x h.1 h'.1) ih
  rcases h3 with h3 | ⟨b,off,ha,hS,hl,hc,ho⟩
  ·exact .inl h3
  ·exact .inr ⟨b,off,ha,⟨hS,hl⟩,hl,hc,fun h=>⟨fun i j hx=>(ho h).1 i j hx.1,(ho h).2⟩⟩
theorem DAt.rep {w:World} {es:List (List D)} {v:Value} (h:DAt w (.arr es) v):RepV w (fun b=>b<w.heap.size) (fun _=>none) (.arr es) v:=by
 simp only [RepV]
 exact (DRep.lt_ h).up fun b hb=>hb.2
theorem Fun.yes {f:FuncId} {args:List SV} (h:Fun Tryz.prog f args [] (.bool true) []) {w:World} {vs:List Value} (hgl:GL w fun b=>b<w.heap.size) (hvs:RepVs w (fun b=>b<w.heap.size) (fun _=>none) args vs):Calls Tryz.prog f vs.toArray w (Ret w (.bool true)):=by
 have nl:∀ g,¬ (Ap [] g).live:=fun g hg=>by simp [Ap,Ob.live] at hg
 refine (h w (fun b=>b<w.heap.size) (fun _=>none) (fun _ _=>False) vs ⟨fun b hb=>hb,fun g hg=>absurd hg (nl g),fun g b hg=>absurd hg (nl g),fun g b hg=>absurd hg (nl g),fun g g' b hg=>absurd hg (nl g),fun g _=>rfl,hgl⟩ hvs).mono ?_
 rintro e w' ⟨v,I',V',B',rfl,hr,hp⟩
 simp only [RepV] at hr
 subst hr
 exact ⟨rfl,hp.fr.os,hp.fr.tape.1,hp.fr.output,hp.fr.size,fun b hb=>hp.fr.block b hb fun ⟨g,hg,_⟩=>absurd hg (nl g)⟩
theorem Z2 {w:World} {d:D} {ds:List D} {v:Value} {vs:List Value} (h:Lvs w (d :: ds) (v :: vs)):DAt w d v∧Lvs w ds vs:=by
 cases h with
 | cons h1 h2=>exact ⟨h1,h2⟩
theorem DAt.rep_sv {w:World} {d:D} {v:Value} (h:DAt w d v):RepV w (fun b=>b<w.heap.size) (fun _=>none) d.sv v :=
 D.rep_sv ((DRep.lt_ h).up fun b hb=>hb.2)
theorem Lvs.reps {w:World} {ds:List D} {vs:List Value} (h:Lvs w ds vs):RepVs w (fun b=>b<w.heap.size) (fun _=>none) (ds.map D.sv) vs:=by
 induction h with
 | nil=>simp [RepVs]
 | cons h hs ih=>simp only [List.map_cons,RepVs]; exact ⟨_,_,rfl,h.rep_sv,ih⟩
theorem Lvs.agg {w:World} {ds:List D} {vs:List Value} (h:Lvs w ds vs):RepV w (fun b=>b<w.heap.size) (fun _=>none) (.agg (ds.map D.sv)) (.agg vs.toArray):=by
 simp only [RepV]; exact ⟨vs,rfl,h.reps⟩
theorem Lvs.fits {w:World} {ds:List D} {vs:List Value} (h:Lvs w ds vs):D.fits ds:=by
 induction h with
 | nil=>trivial
 | cons h hs ih=>exact ⟨DRep.fit h,ih⟩
theorem DAt.fit {w:World} {d:D} {v:Value} (h:DAt w d v):D.fit d:=DRep.fit h
theorem Qei {w:World} {I:Nat→Prop} {V:Nat→Option Value}:RepVs w I V [] []:=by simp [RepVs]
theorem VM {w:World} {I:Nat→Prop} {V:Nat→Option Value} {x:SV} {xs:List SV} {v:Value} {vs:List Value} (h:RepV w I V x v) (hs:RepVs w I V xs vs):RepVs w I V (x :: xs) (v :: vs):=by
 simp only [RepVs]; exact ⟨v,vs,rfl,h,hs⟩
instance:Inhabited Lt:=⟨Lt.zero⟩
instance:Inhabited Cl:=⟨Cl.zero⟩
section
variable {H:Type} {enc:TypeId × Value→H} {w:World} {base:Nat} {spare:Nat→Bool} {held:Bool}
theorem Qfy {fuel:Nat} {v:Value} {x:DataW H × List MemPlace} (h:DataW.trod enc Tryz.prog w base spare held fuel 28 [v]=some x):∃ xs:List ByteArray,DAt w (.arr (xs.map fun s=>[D.str s])) v:=by
 obtain ⟨a,len,cap,f,rfl,hl,hm,hS,hr⟩:=Pm (P:=Tryz.prog) 1 (by kernel_rfl) (by omega) Tryz.underlying28 h
 exact Pn (fun s=>[D.str s]) hl hm hS fun i hi=>by
  obtain ⟨n,x',hn,h1⟩:=hr i hi
  obtain ⟨z,q,_,s⟩:=DataW.trod_string Tryz.underlying9 h1
  rw [q]
  exact ⟨z,.cons (.str _ z s) .nil⟩
theorem QQ {fuel:Nat} (ih:∀ n,n<fuel→∀ v x,DataW.trod enc Tryz.prog w base spare held n 22 [v]=some x→∃ xs:List Tm,DAt w (.arr (xs.map Tm.d)) v) {cs:List Value} {x:DataW H × List MemPlace} (h:DataW.trod enc Tryz.prog w base spare held fuel 24 cs=some x):∃ X:Tm,Lvs w X.d cs:=by
 obtain ⟨n,hn,hlen,hf⟩:=TT Tryz.underlying24 h
 rw [show Tryz.prog.cellsOf 24=2 by kernel_rfl] at hlen
 match cs,hlen with
 | [c0,c1],_ =>
  obtain ⟨y0,k0⟩:=hf 0 _ rfl
  have e0:(([c0,c1].drop 0).take (Tryz.prog.cellsOf 9))=[c0]:=by rw [show Tryz.prog.cellsOf 9=1 by kernel_rfl]; rfl
  obtain ⟨z0,q0,_,s0⟩:=DataW.trod_string Tryz.underlying9 k0
  have q0':c0=.string z0:=by
   have:[c0]=[.string z0]:=by rw [←e0]; exact q0
   simpa using this
  obtain ⟨y1,k1⟩:=hf 1 _ rfl
  have e1:(([c0,c1].drop 1).take (Tryz.prog.cellsOf 22))=[c1]:=by rw [show Tryz.prog.cellsOf 22=1 by kernel_rfl]; rfl
  have k1':DataW.trod enc Tryz.prog w base spare held n 22 [c1]=some y1:=by rw [←e1]; exact k1
  obtain ⟨z1,g1⟩:=ih n hn c1 y1 k1'
  subst q0'
  exact ⟨.mk z0 z1,by rw [Tm.d_eq]; exact (.cons (.str _ z0 s0) (.cons g1 .nil))⟩
theorem U2:∀ (fuel:Nat) (v:Value) (x:DataW H × List MemPlace),DataW.trod enc Tryz.prog w base spare held fuel 22 [v]=some x→∃ xs:List Tm,DAt w (.arr (xs.map Tm.d)) v:=by
 intro fuel
 induction fuel using Nat.strongRecOn with
 | _ fuel ih =>
  intro v x h
  obtain ⟨a,len,cap,f,rfl,hl,hm,hS,hr⟩:=Pm (P:=Tryz.prog) 2 (by kernel_rfl) (by omega) Tryz.underlying22 h
  exact Pn Tm.d hl hm hS fun i hi=>by
   obtain ⟨n,x',hn,h1⟩:=hr i hi
   exact QQ (fun n' hn'=>ih n' (by omega)) h1
theorem Qej {fuel:Nat} {cs:List Value} {x:DataW H × List MemPlace} (h:DataW.trod enc Tryz.prog w base spare held fuel 24 cs=some x):∃ X:Tm,Lvs w X.d cs :=
 QQ (fun n _=>U2 n) h
theorem Z3 {fuel:Nat} {cs:List Value} {x:DataW H × List MemPlace} (h:DataW.trod enc Tryz.prog w base spare held fuel 165 cs=some x):∃ X:Lt,Lvs w X.d cs:=by
 obtain ⟨n,hn,hlen,hf⟩:=TT Tryz.underlying165 h
 rw [show Tryz.prog.cellsOf 165=3 by kernel_rfl] at hlen
 match cs,hlen with
 | [c0,c1,c2],_ =>
  obtain ⟨y0,k0⟩:=hf 0 _ rfl
  have e0:(([c0,c1,c2].drop 0).take (Tryz.prog.cellsOf 4))=[c0]:=by rw [show Tryz.prog.cellsOf 4=1 by kernel_rfl]; rfl
  obtain ⟨z0,q0,_⟩:=DataW.trod_bool Tryz.underlying4 k0
  have q0':c0=.bool z0:=by
   have:[c0]=[.bool z0]:=by rw [←e0]; exact q0
   simpa using this
  obtain ⟨y1,k1⟩:=hf 1 _ rfl
  have e1:(([c0,c1,c2].drop 1).take (Tryz.prog.cellsOf 24))=[c1,c2]:=by rw [show Tryz.prog.cellsOf 24=2 by kernel_rfl]; rfl
  have k1':DataW.trod enc Tryz.prog w base spare held n 24 [c1,c2]=some y1:=by rw [←e1]; exact k1
  obtain ⟨z1,g1⟩:=Qej k1'
  rw [Tm.d_eq] at g1
  obtain ⟨g1_0,g1⟩:=Z2 g1
  obtain ⟨g1_1,g1⟩:=Z2 g1
  subst q0'
  exact ⟨⟨z0,z1⟩,by rw [Lt.d_eq]; exact (.cons (.bool _ z0) (.cons g1_0 (.cons g1_1 .nil)))⟩
theorem Xw {fuel:Nat} {v:Value} {x:DataW H × List MemPlace} (h:DataW.trod enc Tryz.prog w base spare held fuel 51 [v]=some x):∃ xs:List Lt,DAt w (.arr (xs.map Lt.d)) v:=by
 obtain ⟨a,len,cap,f,rfl,hl,hm,hS,hr⟩:=Pm (P:=Tryz.prog) 3 (by kernel_rfl) (by omega) Tryz.underlying51 h
 exact Pn Lt.d hl hm hS fun i hi=>by
  obtain ⟨n,x',hn,h1⟩:=hr i hi
  exact Z3 h1
theorem TU {fuel:Nat} {cs:List Value} {x:DataW H × List MemPlace} (h:DataW.trod enc Tryz.prog w base spare held fuel 53 cs=some x):∃ X:Cl,Lvs w X.d cs:=by
 obtain ⟨n,hn,hlen,hf⟩:=TT Tryz.underlying53 h
 rw [show Tryz.prog.cellsOf 53=1 by kernel_rfl] at hlen
 match cs,hlen with
 | [c0],_ =>
  obtain ⟨y0,k0⟩:=hf 0 _ rfl
  have e0:(([c0].drop 0).take (Tryz.prog.cellsOf 51))=[c0]:=by rw [show Tryz.prog.cellsOf 51=1 by kernel_rfl]; rfl
  have k0':DataW.trod enc Tryz.prog w base spare held n 51 [c0]=some y0:=by rw [←e0]; exact k0
  obtain ⟨z0,g0⟩:=Xw k0'
  exact ⟨⟨z0⟩,by rw [Cl.d_eq]; exact (.cons g0 .nil)⟩
theorem Z4 {fuel:Nat} {v:Value} {x:DataW H × List MemPlace} (h:DataW.trod enc Tryz.prog w base spare held fuel 67 [v]=some x):∃ xs:List Cl,DAt w (.arr (xs.map Cl.d)) v:=by
 obtain ⟨a,len,cap,f,rfl,hl,hm,hS,hr⟩:=Pm (P:=Tryz.prog) 1 (by kernel_rfl) (by omega) Tryz.underlying67 h
 exact Pn Cl.d hl hm hS fun i hi=>by
  obtain ⟨n,x',hn,h1⟩:=hr i hi
  exact TU h1
end
end Go.Proofs.YtepbennkcbmgoaaGreatDoor
