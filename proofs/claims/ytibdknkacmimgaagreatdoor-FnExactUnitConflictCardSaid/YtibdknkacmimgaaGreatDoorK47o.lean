/-
  This text holds, one behind the other: This text tells what unifying answers in the reference. No condition.
  This text tells what resolvents and factors answer in the reference. No condition.
  This text holds plain laws of the sizes of clauses, for the laws of the program. No condition.
  This text tells whether a clause is in a list, in both packages, and what remains of a list without doubles. No condition.
  This text holds sizes of what factors and resolvents come to. No condition.
  This text tells what UnitConflict answers in both packages. No condition.
  This text tells what the law of UnitConflict answers. No condition.
  This text opens arguments: slices of integers, of structs, of tables: what is read as data lies in memory as our words say. No condition.
  This text opens arguments: what is read as data, terms and formulas, lies in memory as our words say. No condition.
  This text turns a function's answer into a walk of the kit's form, and opens arguments that are clauses. No condition.
-/
import Derived.Test.YtibdknkacmimgaaGreatDoorK47b
import Derived.Test.YtibdknkacmimgaaGreatDoorK47c
import Derived.Test.YtibdknkacmimgaaGreatDoorK47d
import Derived.Test.YtibdknkacmimgaaGreatDoorK47e
import Derived.Test.YtibdknkacmimgaaGreatDoorK47j
import Derived.Test.YtibdknkacmimgaaGreatDoorK47k
import Derived.Test.YtibdknkacmimgaaGreatDoorK47l
import Derived.Test.YtibdknkacmimgaaGreatDoorK47m
import Derived.Test.YtibdknkacmimgaaGreatDoorK47n
import Derived.ProofKit
import Derived.Deep.Slices
import Derived.Deep.Fields
import Derived.ChangeSame
import Derived.OpenShut
import Derived.ShutString
import Derived.ChangeOld
set_option maxHeartbeats 16000000
open List renaming getElem_mem → zA, getElem?_eq_getElem → zB, map_nil → zF, range → zG, getElem_of_mem → zH, length_map → zL
open Nat renaming lt_or_ge → zC, zero_le → zK
open Bool renaming and_eq_true → zD, and_false → zM
open Option renaming isSome_some → zE
open Array renaming getElem?_eq_some_iff → zI
open Int renaming toNat_natCast → zJ
set_option maxRecDepth 100000
set_option linter.unusedSimpArgs false
set_option linter.unusedVariables false
set_option linter.unusedSectionVars false
namespace Go.Proofs.YtibdknkacmimgaaGreatDoor
open Go.RowKit
theorem QaS (a b:Tm) (ha:a.expr=true) (hb:b.expr=true) (n:Nat) (total:Option Sb) (hr:BE n ⟨[]⟩ [(a,b)]=some total):E 50 [a.sv,b.sv] []=some (.tup [(uTo total).sv,.bool (uOk total)],[]):=by
  have hres:∀ t:Sb,t.sv=.agg [.arr (t.binds.map Bd.d)]:=fun t=>rfl
  rw [hres]
  refine Af RZ Hu (of_decide_eq_true rfl) ?_
  simp (disch:=omega) only [KT,go_sem,Aa]
  refine go_loop (α:=Nat × Bool × Bool × Sb × List (Tm × Tm)) u5H (u5R total) (fun a=>a.1) (n,true,true,⟨[]⟩,[(a,b)]) ⟨uInv.start ha hb,hr,fun _=>rfl⟩ (by simp (disch:=omega) only [go_sem,Aa,u5H]; rfl) ?_
  clear hr ha hb
  rintro ⟨n,sn,lo,s,l⟩ ⟨hinv,hrun,hsn⟩
  dsimp only at hinv hrun hsn
  have hs:=hinv.ok
  have hst:=EH hs
  cases n with
  | zero=>rw [BE] at hrun; cases hrun
  | succ n =>
  cases l with
  | nil =>
    rw [BE] at hrun
    obtain rfl:=Option.some.inj hrun
    have hk:uTo (some s)=s:=rfl
    rw [hk]
    cases sn with
    | true =>
      obtain rfl:s=⟨[]⟩:=by obtain ⟨bs⟩:=s; have:=hsn rfl; rw [show bs=[] from this]
      cases lo with
      | true =>
        simp (disch:=omega) only [go_sem,Aa,u5H,u5b,u5r,uOk,zE,zF]
        try rfl
      | false =>
        simp (disch:=omega) only [go_sem,Aa,u5H,u5b,u5r,uOk,zE,zF]
        try rfl
    | false =>
      cases lo with
      | true =>
        simp (disch:=omega) only [go_sem,Aa,u5H,u5b,u5r,uOk,zE,zF]
        try rfl
      | false =>
        simp (disch:=omega) only [go_sem,Aa,u5H,u5b,u5r,uOk,zE,zF]
        try rfl
  | cons p l =>
    have hcmb:(sn=true∧lo=true)∨(sn=true∧lo=false)∨(sn=false∧lo=true)∨(sn=false∧lo=false):=by cases sn <;> cases lo <;> simp
    rcases hcmb with ⟨rfl,rfl⟩ | ⟨rfl,rfl⟩ | ⟨rfl,rfl⟩ | ⟨rfl,rfl⟩
    · exact Qer total n s p l hinv hrun hsn
    · exact Qes total n s p l hinv hrun hsn
    · exact Qet total n s p l hinv hrun hsn
    · exact Qeu total n s p l hinv hrun hsn
def HU:SC:=(.seq (.reg [⟨some 4,none,.mv (.c .nil)⟩]) (.seq (.dreg [[],[],[],[1,2],[0,3,1,2],[],[],[6],[5,7,6],[4,0,3,1,2,8,5,7,6],[9,4,0,3,1,2,8,5,7,6]] [⟨(some 5),none,(.mkrow 73 3 [(.bool false),(.str ⟨#[]⟩),.nil] 0 [])⟩,⟨some 6,none,.mv (.t 0)⟩,⟨some 7,none,.mv (.t 1)⟩,⟨some 8,none,.slice false 3 (.t 6) none (some (.t 7))⟩,⟨(some 9),none,(.append 73 3 48 [(.bool false),(.str ⟨#[]⟩),.nil] (.t 5) (.t 8))⟩,⟨some 10,none,.mv (.t 0)⟩,⟨some 11,none,.mv (.t 1)⟩,⟨some 12,none,.bin .add false (.t 11) (.c (.int .i64 1))⟩,⟨some 13,none,.slice false 3 (.t 10) (some (.t 12)) none⟩,⟨(some 14),none,(.append 73 3 48 [(.bool false),(.str ⟨#[]⟩),.nil] (.t 9) (.t 13))⟩,⟨some 4,none,.mv (.t 14)⟩]) .ret))
theorem NE:codeOf Tryz.prog 52=some ⟨15,HU,[(.tmp 4)]⟩:=by kernel_rfl
theorem HV:modes 52=⟨[],.asis,none,false⟩:=by unfold modes; rfl
theorem NF (l:List Lt) (hl:l.length≤1048575) (p:Nat) (h1:p<l.length):E 52 [.arr (l.map Lt.d),.int .i64 (p:Int)] []=some (.ref 0,[.row 73 3 ((l.eraseIdx p).map (fun b:Lt=>b.d.map D.ot))]):=by
 have tp:=zJ p
 have tp1:((p:Int)+1).toNat=p+1:=by omega
 have e1:=Lt.ot_take l p
 have e2:=Lt.ot_drop l (p+1)
 have e6:=Lt.ald3 l
 have e7:(l.map Lt.d).take l.length=l.map Lt.d:=List.take_of_length_le (by rw [zL]; exact Nat.le_refl _)
 have e8:((l.map Lt.d).drop (p+1)).length=l.length-(p+1):=by rw [List.length_drop,zL]
 have e3:=Lt.al3 (l.take p)
 have e4:=Lt.al3 (l.drop (p+1))
 have hlt:(l.take p).length=p:=by rw [List.length_take]; omega
 have hld:(l.drop (p+1)).length=l.length-(p+1):=List.length_drop
 have e5:(l.take p).map (fun b:Lt=>b.d.map D.ot)++(l.drop (p+1)).map (fun b:Lt=>b.d.map D.ot)=(l.eraseIdx p).map (fun b:Lt=>b.d.map D.ot):=by rw [←List.map_append,List.eraseIdx_eq_take_drop_succ]
 refine Af NE HV (of_decide_eq_true rfl) ?_
 simp (disch:=omega) only [HU,go_sem,Aa,tp,tp1,e1,e2,e3,e4,e5,e6,e7,e8,hlt,hld]
def Ep:SC:=(.seq (.reg [⟨some 2,none,.boxv 76 1 (.t 0)⟩,⟨some 4,none,.alloc 28 [.nil]⟩,⟨some 5,none,.mv (.c (.bool false))⟩]) (.seq (.reg [⟨some 11,none,.load true 1 (.t 2)⟩,⟨some 12,none,.mv (.t 1)⟩,⟨some 13,none,.call 79 [(.t 11),(.t 12)]⟩,⟨some 10,none,.mv (.t 13)⟩,⟨some 14,none,.ext (.t 10) 0⟩,⟨some 15,none,.ext (.t 10) 1⟩,⟨some 6,none,.alloc 28 [.nil]⟩,⟨none,none,(.store 1 (.t 6) (.t 14))⟩,⟨some 7,none,.mv (.t 15)⟩]) (.seq (.seq (.reg [⟨some 16,none,.mv (.t 7)⟩,⟨some 17,none,.un .not (.t 16)⟩]) (.cond (.t 17) (.seq (.reg [⟨some 18,none,.build [.nil] []⟩,⟨none,none,(.store 1 (.t 4) (.t 18))⟩,⟨some 5,none,.mv (.c (.bool false))⟩]) .ret) .skip)) (.seq (.reg [⟨some 20,none,.load true 1 (.t 6)⟩,⟨some 21,none,.call 80 [(.t 20)]⟩,⟨some 19,none,.mv (.t 21)⟩,⟨some 22,none,.ext (.t 19) 0⟩,⟨some 23,none,.ext (.t 19) 1⟩,⟨some 8,none,.alloc 28 [.nil]⟩,⟨none,none,(.store 1 (.t 8) (.t 22))⟩,⟨some 9,none,.mv (.t 23)⟩]) (.seq (.seq (.reg [⟨some 24,none,.mv (.t 9)⟩,⟨some 25,none,.un .not (.t 24)⟩,⟨some 26,none,.mv (.t 25)⟩,⟨(some 27),(some (26,false)),(.load true 1 (.t 8))⟩,⟨(some 28),(some (26,false)),(.call 48 [(.t 27)])⟩,⟨(some 29),(some (26,false)),(.un .not (.t 28))⟩,⟨some 30,none,.pick (.t 26) (.c (.bool true)) (.t 29)⟩]) (.cond (.t 30) (.seq (.reg [⟨some 31,none,.build [.nil] []⟩,⟨none,none,(.store 1 (.t 4) (.t 31))⟩,⟨some 5,none,.mv (.c (.bool false))⟩]) .ret) .skip)) (.seq (.reg [⟨some 32,none,.load true 1 (.t 8)⟩,⟨none,none,(.store 1 (.t 4) (.t 32))⟩,⟨some 5,none,.mv (.c (.bool true))⟩]) .ret))))))
theorem FJ:codeOf Tryz.prog 51=some ⟨33,Ep,[(.cell 4 true 1),(.tmp 5)]⟩:=by kernel_rfl
theorem Er:modes 51=⟨[],.frz,none,false⟩:=by unfold modes; rfl
theorem Xl (s:Sb) (hs:s.ok=true) (ht:s.tame) (l:List Lt) (hl:l.length≤1048576) (hal:∀ x∈l,x.atom.atom=true):E 51 [s.sv,.arr (l.map Lt.d)] []=some (.tup [(RQ s l).sv,.bool (F0 s l)],[]):=by
 have h1:=QaG s hs ht l hl hal
 have hsv:∀ d:Cl,d.sv=.agg [.arr (d.lits.map Lt.d)]:=fun d=>rfl
 have hss:s.sv=.agg [.arr (s.binds.map Bd.d)]:=rfl
 rw [hss,hsv] at h1
 rw [hss,hsv]
 cases hok:Ev s l with
 | false =>
  have ho:F0 s l=false:=by unfold F0; rw [hok]; rfl
  have hz:(Cl.mk []).lits=[]:=rfl
  rw [Ow hok,hok] at h1
  rw [N8 ho,ho]
  refine Af FJ Er (of_decide_eq_true rfl) ?_
  simp (disch:=omega) only [Ep,go_sem,Aa,h1,Fj]
 | true =>
  have hc:=Qc3 hok
  obtain ⟨c,hcc⟩:∃ c,c=apC s l:=⟨_,rfl⟩
  rw [←hcc] at hc h1
  have h2:=YP c hc
  have hn:=Qch 10 hc
  have h3:=Jx (nz 10 c) hn
  rw [hok] at h1
  rw [hsv,hsv] at h2
  rw [hsv] at h3
  have hio:F0 s l=(nz 10 c).norm:=by unfold F0; rw [hok,Bool.true_and,hcc]
  cases hm:(nz 10 c).norm with
  | false =>
   rw [hm] at h3 hio
   rw [N8 hio,hio]
   refine Af FJ Er (of_decide_eq_true rfl) ?_
   simp (disch:=omega) only [Ep,go_sem,Aa,h1,h2,h3,G0,BO,Fj]
  | true =>
   rw [hm] at h3 hio
   rw [RR hio,hio,← hcc]
   refine Af FJ Er (of_decide_eq_true rfl) ?_
   simp (disch:=omega) only [Ep,go_sem,Aa,h1,h2,h3,G0,BO,Fj]
theorem YQ (a b:Tm) (ha:a.atom=true) (hb:b.atom=true):E 50 [a.sv,b.sv] []=some (.tup [(uTo (unR a b)).sv,.bool (uOk (unR a b))],[]):=by
 obtain ⟨n,hn⟩:=RP (Tm.Cv ha) (Tm.Cv hb)
 exact QaS a b (Tm.Cv ha) (Tm.Cv hb) n _ hn
def Cx:SC:=(.seq (.reg [⟨some 4,none,.boxv 28 1 (.t 0)⟩,⟨some 6,none,.boxv 28 1 (.t 2)⟩,⟨some 8,none,.alloc 28 [.nil]⟩,⟨some 9,none,.mv (.c (.bool false))⟩]) (.seq (.reg [⟨some 13,none,.load true 1 (.t 6)⟩,⟨some 14,none,.call 64 [(.t 13)]⟩,⟨some 10,none,.alloc 28 [.nil]⟩,⟨none,none,(.store 1 (.t 10) (.t 14))⟩]) (.seq (.seq (.dreg [[],[],[1],[2,1],[3,2,1],[0,4,3,2,1],[5,0,4,3,2,1],[6,5,0,4,3,2,1],[7,6,5,0,4,3,2,1],[7,6,5,0,4,3,2,1],[9,7,6,5,0,4,3,2,1],[10,9,7,6,5,0,4,3,2,1],[11,10,9,7,6,5,0,4,3,2,1],[8,7,6,5,0,4,3,2,1,12,11,10,9],[13,8,7,6,5,0,4,3,2,1,12,11,10,9],[7,6,5,0,4,3,2,1,14,13,8,12,11,10,9],[15,7,6,5,0,4,3,2,1,14,13,8,12,11,10,9],[16,15,7,6,5,0,4,3,2,1,14,13,8,12,11,10,9],[17,16,15,7,6,5,0,4,3,2,1,14,13,8,12,11,10,9],[16,15,7,6,5,0,4,3,2,1,14,13,8,12,11,10,9],[18,17,16,15,7,6,5,0,4,3,2,1,14,13,8,12,11,10,9,19],[20,18,17,16,15,7,6,5,0,4,3,2,1,14,13,8,12,11,10,9,19],[21,20,18,17,16,15,7,6,5,0,4,3,2,1,14,13,8,12,11,10,9,19],[16,15,7,6,5,0,4,3,2,1,14,13,8,12,11,10,9],[23,16,15,7,6,5,0,4,3,2,1,14,13,8,12,11,10,9],[16,15,7,6,5,0,4,3,2,1,14,13,8,12,11,10,9],[24,23,16,15,7,6,5,0,4,3,2,1,14,13,8,12,11,10,9,25],[26,24,23,16,15,7,6,5,0,4,3,2,1,14,13,8,12,11,10,9,25],[27,26,24,23,16,15,7,6,5,0,4,3,2,1,14,13,8,12,11,10,9,25],[22,21,20,18,17,16,15,7,6,5,0,4,3,2,1,14,13,8,12,11,10,9,19,28,27,26,24,23,25],[16,15,7,6,5,0,4,3,2,1,14,13,8,12,11,10,9,29,22,21,20,18,17,19,28,27,26,24,23,25]] [⟨some 15,none,.mv (.t 1)⟩,⟨some 16,none,.faddr 0 (.t 4)⟩,⟨some 17,none,.load false 1 (.t 16)⟩,⟨some 18,none,.len false (.t 17)⟩,⟨some 19,none,.bin .sub false (.t 18) (.c (.int .i64 1))⟩,⟨some 20,none,.call 49 [(.t 15),(.c (.int .i64 0)),(.t 19)]⟩,⟨some 21,none,.un .not (.t 20)⟩,⟨some 22,none,.mv (.t 21)⟩,⟨(some 23),(some (22,false)),(.mv (.t 3))⟩,⟨(some 24),(some (22,false)),(.faddr 0 (.t 10))⟩,⟨(some 25),(some (22,false)),(.load false 1 (.t 24))⟩,⟨(some 26),(some (22,false)),(.len false (.t 25))⟩,⟨(some 27),(some (22,false)),(.bin .sub false (.t 26) (.c (.int .i64 1)))⟩,⟨(some 28),(some (22,false)),(.call 49 [(.t 23),(.c (.int .i64 0)),(.t 27)])⟩,⟨(some 29),(some (22,false)),(.un .not (.t 28))⟩,⟨some 30,none,.pick (.t 22) (.c (.bool true)) (.t 29)⟩,⟨some 31,none,.mv (.t 30)⟩,⟨(some 32),(some (31,false)),(.faddr 0 (.t 4))⟩,⟨(some 33),(some (31,false)),(.load false 1 (.t 32))⟩,⟨(some 34),(some (31,false)),(.mv (.t 1))⟩,⟨(some 35),(some (31,false)),(.iaddr 3 (.t 33) (.t 34))⟩,⟨(some 36),(some (31,false)),(.faddr 0 (.t 35))⟩,⟨(some 37),(some (31,false)),(.load false 1 (.t 36))⟩,⟨(some 38),(some (31,false)),(.faddr 0 (.t 10))⟩,⟨(some 39),(some (31,false)),(.load false 1 (.t 38))⟩,⟨(some 40),(some (31,false)),(.mv (.t 3))⟩,⟨(some 41),(some (31,false)),(.iaddr 3 (.t 39) (.t 40))⟩,⟨(some 42),(some (31,false)),(.faddr 0 (.t 41))⟩,⟨(some 43),(some (31,false)),(.load false 1 (.t 42))⟩,⟨(some 44),(some (31,false)),(.bin .eql true (.t 37) (.t 43))⟩,⟨some 45,none,.pick (.t 31) (.c (.bool true)) (.t 44)⟩]) (.cond (.t 45) (.seq (.reg [⟨some 46,none,.build [.nil] []⟩,⟨none,none,(.store 1 (.t 8) (.t 46))⟩,⟨some 9,none,.mv (.c (.bool false))⟩]) .ret) .skip)) (.seq (.dreg [[],[0],[],[1,0,2],[3,1,0,2],[4,3,1,0,2],[],[6],[],[7,6,8],[9,7,6,8],[10,9,7,6,8],[5,4,3,1,0,2,11,10,9,7,6,8],[12,5,4,3,1,0,2,11,10,9,7,6,8],[13,12,5,4,3,1,0,2,11,10,9,7,6,8],[13,12,5,4,3,1,0,2,11,10,9,7,6,8],[],[16,14,13,12,5,4,3,1,0,2,11,10,9,7,6,8],[15,13,12,5,4,3,1,0,2,11,10,9,7,6,8,17,16,14]] [⟨some 48,none,.faddr 0 (.t 4)⟩,⟨some 49,none,.load false 1 (.t 48)⟩,⟨some 50,none,.mv (.t 1)⟩,⟨some 51,none,.iaddr 3 (.t 49) (.t 50)⟩,⟨some 52,none,.faddr 1 (.t 51)⟩,⟨some 53,none,.load true 2 (.t 52)⟩,⟨some 54,none,.faddr 0 (.t 10)⟩,⟨some 55,none,.load false 1 (.t 54)⟩,⟨some 56,none,.mv (.t 3)⟩,⟨some 57,none,.iaddr 3 (.t 55) (.t 56)⟩,⟨some 58,none,.faddr 1 (.t 57)⟩,⟨some 59,none,.load true 2 (.t 58)⟩,⟨some 60,none,.call 50 [(.t 53),(.t 59)]⟩,⟨some 47,none,.mv (.t 60)⟩,⟨some 61,none,.ext (.t 47) 0⟩,⟨some 62,none,.ext (.t 47) 1⟩,⟨some 11,none,.alloc 76 [.nil]⟩,⟨none,none,(.store 1 (.t 11) (.t 61))⟩,⟨some 12,none,.mv (.t 62)⟩]) (.seq (.seq (.reg [⟨some 63,none,.mv (.t 12)⟩,⟨some 64,none,.un .not (.t 63)⟩]) (.cond (.t 64) (.seq (.reg [⟨some 65,none,.build [.nil] []⟩,⟨none,none,(.store 1 (.t 8) (.t 65))⟩,⟨some 9,none,.mv (.c (.bool false))⟩]) .ret) .skip)) (.seq (.dreg [[],[],[1],[],[2,1,3],[],[5],[],[6,5,7,4,2,1,3],[4,2,1,3,8,6,5,7],[0,9,4,2,1,3,8,6,5,7],[10,0,9,4,2,1,3,8,6,5,7],[10,0,9,4,2,1,3,8,6,5,7],[11,10,0,9,4,2,1,3,8,6,5,7,12],[12,10,0,9,4,2,1,3,8,6,5,7,13,11]] [⟨some 66,none,.load true 1 (.t 11)⟩,⟨some 67,none,.faddr 0 (.t 4)⟩,⟨some 68,none,.load false 1 (.t 67)⟩,⟨some 69,none,.mv (.t 1)⟩,⟨some 70,none,.call 52 [(.t 68),(.t 69)]⟩,⟨some 71,none,.faddr 0 (.t 10)⟩,⟨some 72,none,.load false 1 (.t 71)⟩,⟨some 73,none,.mv (.t 3)⟩,⟨some 74,none,.call 52 [(.t 72),(.t 73)]⟩,⟨(some 75),none,(.append 73 3 48 [(.bool false),(.str ⟨#[]⟩),.nil] (.t 70) (.t 74))⟩,⟨some 76,none,.call 51 [(.t 66),(.t 75)]⟩,⟨some 77,none,.ext (.t 76) 0⟩,⟨some 78,none,.ext (.t 76) 1⟩,⟨none,none,(.store 1 (.t 8) (.t 77))⟩,⟨some 9,none,.mv (.t 78)⟩]) .ret))))))
theorem CT:codeOf Tryz.prog 37=some ⟨79,Cx,[(.cell 8 true 1),(.tmp 9)]⟩:=by kernel_rfl
theorem BP:modes 37=⟨[],.frz,none,false⟩:=by unfold modes; rfl
theorem UU (c:Cl) (hc:c.ok=true) (i:Int) (d:Cl) (hd:d.ok=true) (hdn:d.norm=true) (k:Int):E 37 [c.sv,.int .i64 i,d.sv,.int .i64 k] []=some (.tup [(US c i d k).sv,.bool (KO c i d k)],[]):=by
 have hl:=Cl.ok_len hc
 have hld:=Cl.ok_len hd
 have hsv:∀ d:Cl,d.sv=.agg [.arr (d.lits.map Lt.d)]:=fun d=>rfl
 have h0:=QaR d hd
 have ho:=Cl.ZX hd
 have hal:=Cl.RS hd hdn
 have hahb:=Cl.Qd6 hd hdn k
 have hapo:∀ q:Nat,q<d.lits.length→(L1 d.ap q).pos=(L1 d q).pos:=fun q hq=>Cl.Qel hd hdn hq
 obtain ⟨e,hee⟩:∃ e,e=d.ap:=⟨_,rfl⟩
 rw [show d.rn (Dl Gf d.ns)=e from hee.symm] at h0
 rw [←hee] at ho hal hahb hapo
 have hle:=Cl.ok_len ho
 have h1:=ZZ i 0 ((c.lits.length:Int)-1)
 have h2:=ZZ k 0 ((e.lits.length:Int)-1)
 rw [show (dec (0≤i)&&dec (i≤(c.lits.length:Int)-1))=hasB c i from rfl] at h1
 rw [show (dec (0≤k)&&dec (k≤(e.lits.length:Int)-1))=hasB e k from rfl,hahb] at h2
 rw [hsv,hsv] at h0
 rw [hsv,hsv,hsv]
 cases hi:hasB c i with
 | false =>
  obtain ⟨e1,e2⟩:=KP (Lv (show Jv c i d k=false by unfold Jv; rw [hi]; rfl))
  rw [hi] at h1
  rw [e1,e2]
  refine Af CT BP (of_decide_eq_true rfl) ?_
  simp (disch:=omega) only [Cx,go_sem,Aa,h0,h1,h2,CS,Dq]
 | true =>
 rw [hi] at h1
 cases hk:hasB d k with
 | false =>
  obtain ⟨e1,e2⟩:=KP (Lv (show Jv c i d k=false by unfold Jv; rw [hk,Bool.false_and,zM]))
  rw [hk] at h2
  rw [e1,e2]
  refine Af CT BP (of_decide_eq_true rfl) ?_
  simp (disch:=omega) only [Cx,go_sem,Aa,h0,h1,h2,CS,Dq]
 | true =>
 rw [hk] at h2
 obtain ⟨p,rfl,hp⟩:=PO hi
 obtain ⟨q,rfl,hq⟩:=PO hk
 have hqe:q<e.lits.length:=by omega
 have hgp:=get_at Lt.d hp
 have hgq:=get_at Lt.d hqe
 rw [Lt.d_eq] at hgp hgq
 have tp:=zJ p
 have tq:=zJ q
 have ap:=Cl.CR hc _ (zA hp)
 have aq:=Cl.CR ho _ (zA hqe)
 have lp:=Ju hp
 have lq:=Ju hqe
 have hpe:=hapo q hq
 rw [lq] at hpe
 cases hpp:c.lits[p].pos == e.lits[q].pos with
 | true =>
  obtain ⟨e1,e2⟩:=KP (Lv (show Jv c p d q=false by unfold Jv; rw [lp,← hpe,hpp]; simp))
  rw [e1,e2]
  refine Af CT BP (of_decide_eq_true rfl) ?_
  simp (disch:=omega) only [Cx,go_sem,Aa,h0,h1,h2,CS,Dq,hgp,hgq,tp,tq,hpp]
 | false =>
  have hT:=Xi (show Jv c p d q=true by unfold Jv; rw [hi,hk,lp,← hpe,hpp]; rfl)
  have hrl:N9 c p d q=c.lits.eraseIdx p++e.lits.eraseIdx q:=by unfold N9; rw [tp,tq,hee]
  have hla:=RT hc hd p q
  have hll:=Xj hc hd p q
  rw [hrl] at hla hll
  rw [←hee,lp,lq] at hT
  have h3:=YQ _ _ ap aq
  have hsp:c.lits[p].atom.sv=.agg [.str c.lits[p].atom.name,.arr (c.lits[p].atom.args.map Tm.d)]:=rfl
  have hsq:e.lits[q].atom.sv=.agg [.str e.lits[q].atom.name,.arr (e.lits[q].atom.args.map Tm.d)]:=rfl
  rw [hsp,hsq] at h3
  cases hu:unR c.lits[p].atom e.lits[q].atom with
  | none =>
   rw [hu] at hT h3
   have hus:uTo none=⟨[]⟩:=rfl
   have huo:uOk none=false:=rfl
   have hso:(Sb.mk []).sv=.agg [.arr []]:=rfl
   rw [hus,huo,hso] at h3
   obtain ⟨e1,e2⟩:=KP hT
   rw [e1,e2]
   refine Af CT BP (of_decide_eq_true rfl) ?_
   simp (disch:=omega) only [Cx,go_sem,Aa,h0,h1,h2,CS,Dq,hgp,hgq,tp,tq,hpp,h3,Hu]
  | some s =>
   have hs:=Qc2 (Tm.Cv ap) (Tm.Cv aq) hu
   rw [hu] at hT h3
   obtain ⟨e1,e2⟩:=Xh hT
   rw [hrl] at e1 e2
   rw [e1,e2]
   have h4:=NF c.lits (by omega) p hp
   have h6:=NF e.lits (by omega) q hqe
   have h5:=Xl s hs (EH hs) (c.lits.eraseIdx p++e.lits.eraseIdx q) (by omega) hla
   have her:=Lt.der (c.lits.eraseIdx p++e.lits.eraseIdx q)
   have hfu:=Lt.dfu (c.lits.eraseIdx p++e.lits.eraseIdx q)
   have hap:(c.lits.eraseIdx p).map (fun b:Lt=>b.d.map D.ot)++(e.lits.eraseIdx q).map (fun b:Lt=>b.d.map D.ot)=(c.lits.eraseIdx p++e.lits.eraseIdx q).map (fun b:Lt=>b.d.map D.ot):=by rw [List.map_append]
   have hl3:=Lt.al3 (e.lits.eraseIdx q)
   have hc1:(c.lits.eraseIdx p).length=c.lits.length-1:=by rw [List.length_eraseIdx]; simp [hp]
   have hc2:(e.lits.eraseIdx q).length=e.lits.length-1:=by rw [List.length_eraseIdx]; simp [hqe]
   have hus:uTo (some s)=s:=rfl
   have huo:uOk (some s)=true:=rfl
   have hss:s.sv=.agg [.arr (s.binds.map Bd.d)]:=rfl
   rw [hus,huo,hss] at h3
   rw [hss,hsv] at h5
   refine Af CT BP (of_decide_eq_true rfl) ?_
   simp (disch:=omega) only [Cx,go_sem,Aa,h0,h1,h2,CS,Dq,hgp,hgq,tp,tq,hpp,h3,h4,h6,h5,her,hfu,hap,hl3,hc1,hc2,Hu,HV,Er]
theorem Cl.Qc6 (x:Cl) (h:x.bulk≤1048576):x.tame:=by
 rw [Cl.bulk_eq] at h
 refine ⟨by omega,fun y hy=>?_⟩
 obtain ⟨k,hk,rfl⟩:=zH hy
 have h1:=Lt.bulk_le x.lits k hk
 have h2:=Tm.Rq x.lits[k].atom
 rw [Lt.bulk_eq] at h1
 omega
def BQ:SC:=(.seq (.reg [⟨some 4,none,.mv (.c (.int .i64 0))⟩]) (.seq (.seq (.reg [⟨some 6,none,.mv (.t 0)⟩,⟨some 7,none,.len false (.t 6)⟩,⟨some 8,none,.mv (.c (.int .i64 0))⟩]) (.block 0 (.loop [1,1,0,0,0,0,0,1,1,0,0,0,0,0,0,0,0,0,0] (.seq (.reg [⟨some 9,none,.bin .lss false (.t 8) (.t 7)⟩]) (.seq (.cond (.t 9) .skip (.exit 0)) (.seq (.block 1 (.seq (.reg [⟨some 10,none,.mv (.t 8)⟩,⟨some 5,none,.mv (.t 10)⟩]) (.seq (.reg [⟨some 11,none,.mv (.t 1)⟩,⟨some 12,none,.mv (.t 0)⟩,⟨some 13,none,.mv (.t 5)⟩,⟨some 14,none,.iaddr 1 (.t 12) (.t 13)⟩,⟨some 15,none,.load true 1 (.t 14)⟩,⟨some 16,none,.callv (.t 11) [(.t 15)]⟩]) (.cond (.t 16) (.seq (.reg [⟨some 17,none,.mv (.t 5)⟩,⟨some 4,none,.mv (.t 17)⟩]) .ret) .skip)))) (.reg [⟨some 18,none,.bin .add false (.t 8) (.c (.int .i64 1))⟩,⟨some 8,none,.mv (.t 18)⟩]))))))) (.seq (.reg [⟨some 4,none,.mv (.c (.int .i64 (-(0+1))))⟩]) .ret)))
theorem D1:codeOf Tryz.prog 65=some ⟨19,BQ,[(.tmp 4)]⟩:=by kernel_rfl
theorem BR:modes 65=⟨[],.asis,none,false⟩:=by unfold modes; rfl
def B8:SC:=(.seq (.reg [⟨some 4,none,.mv (.c (.bool false))⟩]) (.seq (.reg [⟨some 5,none,.mv (.t 0)⟩,⟨some 6,none,.mv (.t 1)⟩,⟨some 7,none,.call 65 [(.t 5),(.t 6)]⟩,⟨some 8,none,.bin .geq false (.t 7) (.c (.int .i64 0))⟩,⟨some 4,none,.mv (.t 8)⟩]) .ret))
theorem Dc:codeOf Tryz.prog 38=some ⟨9,B8,[(.tmp 4)]⟩:=by kernel_rfl
theorem AU:modes 38=⟨[],.asis,none,false⟩:=by unfold modes; rfl
theorem OE (fid:Nat) (p:Cl→Bool) (xs:List Cl) (hl:xs.length≤1099511627776) (hg:IU Tryz.prog fid=true) (hm:(modes fid).hand=[]) (hE:∀ x∈xs,E fid [x.sv] []=some (.bool (p x),[])):E 65 [.arr (xs.map Cl.d),.fn fid []] []=some (.int .i64 (Ew p xs 0),[]):=by
 refine Af D1 BR (of_decide_eq_true rfl) ?_
 simp (disch:=omega) only [BQ,go_sem,Aa]
 refine go_loop (α:=Int) (fun a=>⟨slots 19 0 [(0,.arr (xs.map Cl.d)),(1,.fn fid []),(7,.int .i64 xs.length),(8,.int .i64 a)],[]⟩) (fun a=>∃ k:Nat,a=k∧k≤(xs).length∧Ew p (xs.drop k) a=Ew p xs 0) (fun a=>(xs).length-(a).toNat) 0 ⟨0,rfl,zK _,by rw [List.drop_zero]⟩ (by simp (disch:=omega) only [go_sem,Aa]) ?_
 rintro i ⟨k,hi,hk,hR⟩
 have hni:i.toNat=k:=by omega
 have hni1:(i+1).toNat=k+1:=by omega
 rcases zC k (xs).length with hlt | hge
 ·have hg':=get_at Cl.d hlt
  rw [Cl.d_eq] at hg'
  have hc:=hE xs[k] (zA hlt)
  rw [List.drop_eq_getElem_cons hlt,Ew] at hR
  cases hp:p xs[k] with
  | true =>
   rw [hp] at hc hR
   simp (disch:=omega) only [go_sem,Aa,hni,hg',hc,hg,hm]
   simpa using hR
  | false =>
   rw [hp] at hc hR
   simp (disch:=omega) only [go_sem,Aa,hni,hg',hc,hg,hm]
   exact ⟨i+1,⟨k+1,by omega,hlt,by simpa using hR⟩,by omega,by first | trivial | rfl⟩
 ·rw [List.drop_eq_nil_of_le hge,Ew] at hR
  simp (disch:=omega) only [go_sem,Aa,hni]
  exact hR
theorem L2 (fid:Nat) (p:Cl→Bool) (xs:List Cl) (hl:xs.length≤1099511627776) (hg:IU Tryz.prog fid=true) (hm:(modes fid).hand=[]) (hE:∀ x∈xs,E fid [x.sv] []=some (.bool (p x),[])):E 38 [.arr (xs.map Cl.d),.fn fid []] []=some (.bool (xs.any p),[]):=by
 have h:=OE fid p xs hl hg hm hE
 refine Af Dc AU (of_decide_eq_true rfl) ?_
 simp (disch:=omega) only [B8,go_sem,Aa,h,BR]
 rw [MT]
theorem Cl.Qc7 {cs:List Cl} (h:cs.length+Cl.sumB cs≤1048576):∀ c∈cs,c.tame:=fun c hc=>by
 obtain ⟨k,hk,rfl⟩:=zH hc
 have h1:=Cl.bulk_le cs k hk
 exact Cl.Qc6 _ (by omega)
theorem Qc8:∀ n,nz n ⟨[]⟩=⟨[]⟩
 | 0=>rfl
 | n+1=>by
  have h:(Cl.mk []).norm=true:=At fun i hi=>absurd hi (by simp [Cl.ns,Lt.vsL,Cz])
  rw [nz,h]; rfl
theorem YR (s:Sb):(RQ s []).lits=[]:=by
 cases h:F0 s [] with
 | false=>rw [N8 h]
 | true =>
  rw [RR h]
  unfold F0 at h
  rw [zD] at h
  rw [PK h.1]
  have e:mkC (([]:List Lt).map (Lt.ap s))=⟨[]⟩:=by
   have:=Z9
   exact congrArg Cl.mk this
  rw [e,Qc8]
theorem QaT {c d:Cl} (hd:d.ok=true) (hdn:d.norm=true) (h1:c.lits.length=1) (h2:d.lits.length=1):(US c 0 d 0).lits=[]:=by
 have hl:=Cl.RS hd hdn
 rw [h2] at hl
 have e:N9 c 0 d 0=[]:=by
  unfold N9
  rw [show (0:Int).toNat=0 from rfl]
  obtain ⟨a,ha⟩:=List.length_eq_one_iff.1 h1
  obtain ⟨b,hb⟩:=List.length_eq_one_iff.1 hl
  rw [ha,hb]; rfl
 unfold US
 cases UR c 0 d 0 with
 | none=>rfl
 | some s=>show (RQ s (N9 c 0 d 0)).lits=[]; rw [e]; exact YR s
def LR (p:Nat→Bool):Nat→Nat→Option Nat
 | _,0=>none
 | k,m+1=>bif p k then some k else LR p (k+1) m
noncomputable def atC (cs:List Cl) (k:Nat):Cl:=(cs[k]?).getD ⟨[]⟩
theorem UV {cs:List Cl} {k:Nat} (h:k<cs.length):atC cs k=cs[k]:=by unfold atC; rw [zB h]; rfl
noncomputable def ucP (cs:List Cl) (i k:Nat):Bool:=dec ((atC cs i).lits.length=1)&&(dec ((atC cs k).lits.length=1)&&KO (atC cs i) 0 (atC cs k) 0)
noncomputable def ucR (cs:List Cl):Nat→Nat→Option (Nat × Nat)
 | _,0=>none
 | i,m+1=>match LR (ucP cs i) (i+1) m with
  | some k=>some (i,k)
  | none=>ucR cs (i+1) m
noncomputable def YS (cs:List Cl):Bool:=dec ((cs.length:Int)≤30)&&cs.all fun c=>c.ok&&c.norm
noncomputable def uc (cs:List Cl):Option (Nat × Nat):=bif YS cs then ucR cs 0 cs.length else none
def ucI:Option (Nat × Nat)→Int
 | some (i,_)=>i
 | none=>0
def ucK:Option (Nat × Nat)→Int
 | some (_,k)=>k
 | none=>0
def ucB:Option (Nat × Nat)→Bool
 | some _=>true
 | none=>false
theorem Sa {p:Nat→Bool} {k n:Nat} (h:k<n):LR p k (n-k)=bif p k then some k else LR p (k+1) (n-(k+1)):=by
 obtain ⟨m,hm⟩:∃ m,n-k=m+1:=⟨n-k-1,by omega⟩
 rw [hm,LR,show n-(k+1)=m by omega]
theorem Xm {cs:List Cl} {i n:Nat} (h:i<n):ucR cs i (n-i)=match LR (ucP cs i) (i+1) (n-(i+1)) with
  | some k=>some (i,k)
  | none=>ucR cs (i+1) (n-(i+1)):=by
 obtain ⟨m,hm⟩:∃ m,n-i=m+1:=⟨n-i-1,by omega⟩
 rw [hm,ucR,show n-(i+1)=m by omega]
theorem JO:IU Tryz.prog 39=true:=by kernel_rfl
def F1:SC:=(.seq (.reg [⟨some 1,none,.boxv 28 1 (.t 0)⟩,⟨some 2,none,.mv (.c (.bool false))⟩]) (.seq (.reg [⟨some 3,none,.load true 1 (.t 1)⟩,⟨some 4,none,.call 32 [(.t 3)]⟩,⟨some 5,none,.un .not (.t 4)⟩,⟨some 2,none,.mv (.t 5)⟩]) .ret))
theorem JP:codeOf Tryz.prog 39=some ⟨6,F1,[(.tmp 2)]⟩:=by kernel_rfl
theorem F2:modes 39=⟨[],.asis,none,false⟩:=by unfold modes; rfl
def De:SC:=(.seq (.reg [⟨some 2,none,.mv (.c (.int .i64 0))⟩,⟨some 3,none,.mv (.c (.int .i64 0))⟩,⟨some 4,none,.mv (.c (.bool false))⟩]) (.seq (.seq (.reg [⟨some 10,none,.mv (.t 0)⟩,⟨some 11,none,.len false (.t 10)⟩,⟨some 12,none,.bin .gtr false (.t 11) (.c (.int .i64 30))⟩,⟨some 13,none,.mv (.t 12)⟩,⟨(some 14),(some (13,false)),(.mv (.t 0))⟩,⟨(some 15),(some (13,false)),(.call 38 [(.t 14),(.c (.fn 39 []))])⟩,⟨some 16,none,.pick (.t 13) (.c (.bool true)) (.t 15)⟩]) (.cond (.t 16) (.seq (.reg [⟨some 2,none,.mv (.c (.int .i64 0))⟩,⟨some 3,none,.mv (.c (.int .i64 0))⟩,⟨some 4,none,.mv (.c (.bool false))⟩]) .ret) .skip)) (.seq (.seq (.reg [⟨some 17,none,.mv (.t 0)⟩,⟨some 18,none,.len false (.t 17)⟩,⟨some 19,none,.mv (.c (.int .i64 0))⟩]) (.block 0 (.loop [1,0,0,0,0,0,0,0,0,0,0,0,0,0,0,0,0,1,1,1,0,0,0,0,0,0,0,0,0,0,0,0,0,0,0,0,0,0,0,0,0,0,0,0,0,0,0,0,0,0,0,0,0,0,0,0,0,0,0,0,0,0,0,0] (.seq (.reg [⟨some 20,none,.bin .lss false (.t 19) (.t 18)⟩]) (.seq (.cond (.t 20) .skip (.exit 0)) (.seq (.block 1 (.seq (.reg [⟨some 21,none,.mv (.t 19)⟩,⟨some 22,none,.iaddr 1 (.t 17) (.t 19)⟩,⟨some 23,none,.load true 1 (.t 22)⟩,⟨some 6,none,.alloc 28 [.nil]⟩,⟨some 5,none,.mv (.t 21)⟩,⟨none,none,(.store 1 (.t 6) (.t 23))⟩]) (.seq (.reg [⟨some 24,none,.mv (.t 5)⟩,⟨some 25,none,.bin .add false (.t 24) (.c (.int .i64 1))⟩,⟨some 7,none,.mv (.t 25)⟩]) (.block 2 (.loop [1,0,0,0,0,1,1,1,0,0,0,0,0,0,0,0,0,1,1,1,0,0,0,0,0,0,0,0,0,0,0,0,0,0,0,0,0,0,0,0,0,0,0,0,0,0,0,0,0,0,0,0,0,0,0,0,0,0,0,0,0,0,0,0] (.seq (.seq (.reg [⟨some 26,none,.mv (.t 7)⟩,⟨some 27,none,.mv (.t 0)⟩,⟨some 28,none,.len false (.t 27)⟩,⟨some 29,none,.bin .lss false (.t 26) (.t 28)⟩]) (.cond (.t 29) .skip (.exit 2))) (.seq (.block 3 (.seq (.seq (.reg [⟨some 32,none,.faddr 0 (.t 6)⟩,⟨some 33,none,.load false 1 (.t 32)⟩,⟨some 34,none,.len false (.t 33)⟩,⟨some 35,none,.bin .neq false (.t 34) (.c (.int .i64 1))⟩,⟨some 36,none,.mv (.t 35)⟩,⟨(some 37),(some (36,false)),(.mv (.t 0))⟩,⟨(some 38),(some (36,false)),(.mv (.t 7))⟩,⟨(some 39),(some (36,false)),(.iaddr 1 (.t 37) (.t 38))⟩,⟨(some 40),(some (36,false)),(.faddr 0 (.t 39))⟩,⟨(some 41),(some (36,false)),(.load false 1 (.t 40))⟩,⟨(some 42),(some (36,false)),(.len false (.t 41))⟩,⟨(some 43),(some (36,false)),(.bin .neq false (.t 42) (.c (.int .i64 1)))⟩,⟨some 44,none,.pick (.t 36) (.c (.bool true)) (.t 43)⟩]) (.cond (.t 44) (.exit 3) .skip)) (.seq (.dreg [[],[],[],[1,2],[3,1,2],[0,4,3,1,2],[5,0,4,3,1,2],[6,5,0,4,3,1,2],[6,5,0,4,3,1,2],[],[9,7,6,5,0,4,3,1,2],[8,6,5,0,4,3,1,2,10,9,7]] [⟨some 46,none,.load true 1 (.t 6)⟩,⟨some 47,none,.mv (.t 0)⟩,⟨some 48,none,.mv (.t 7)⟩,⟨some 49,none,.iaddr 1 (.t 47) (.t 48)⟩,⟨some 50,none,.load true 1 (.t 49)⟩,⟨some 51,none,.call 40 [(.t 46),(.c (.int .i64 0)),(.t 50),(.c (.int .i64 0))]⟩,⟨some 45,none,.mv (.t 51)⟩,⟨some 52,none,.ext (.t 45) 0⟩,⟨some 53,none,.ext (.t 45) 1⟩,⟨some 8,none,.alloc 28 [.nil]⟩,⟨none,none,(.store 1 (.t 8) (.t 52))⟩,⟨some 9,none,.mv (.t 53)⟩]) (.seq (.reg [⟨some 54,none,.mv (.t 9)⟩,⟨some 55,none,.mv (.t 54)⟩,⟨(some 56),(some (55,true)),(.faddr 0 (.t 8))⟩,⟨(some 57),(some (55,true)),(.load false 1 (.t 56))⟩,⟨(some 58),(some (55,true)),(.len false (.t 57))⟩,⟨(some 59),(some (55,true)),(.bin .eql false (.t 58) (.c (.int .i64 0)))⟩,⟨some 60,none,.pick (.t 55) (.t 59) (.c (.bool false))⟩]) (.cond (.t 60) (.seq (.reg [⟨some 61,none,.mv (.t 5)⟩,⟨some 62,none,.mv (.t 7)⟩,⟨some 2,none,.mv (.t 61)⟩,⟨some 3,none,.mv (.t 62)⟩,⟨some 4,none,.mv (.c (.bool true))⟩]) .ret) .skip))))) (.reg [⟨some 30,none,.mv (.t 7)⟩,⟨some 31,none,.bin .add false (.t 30) (.c (.int .i64 1))⟩,⟨some 7,none,.mv (.t 31)⟩])))))))) (.reg [⟨some 63,none,.bin .add false (.t 19) (.c (.int .i64 1))⟩,⟨some 19,none,.mv (.t 63)⟩]))))))) (.seq (.reg [⟨some 2,none,.mv (.c (.int .i64 0))⟩,⟨some 3,none,.mv (.c (.int .i64 0))⟩,⟨some 4,none,.mv (.c (.bool false))⟩]) .ret))))
theorem Ez:codeOf Tryz.prog 18=some ⟨64,De,[(.tmp 2),(.tmp 3),(.tmp 4)]⟩:=by kernel_rfl
theorem B0:modes 18=⟨[],.asis,none,false⟩:=by unfold modes; rfl
theorem QaU (c:Cl) (hc:c.tame):E 39 [c.sv] []=some (.bool (!(c.ok&&c.norm)),[]):=by
 have h1:=R0 c hc
 have hsv:c.sv=.agg [.arr (c.lits.map Lt.d)]:=rfl
 rw [hsv] at h1
 rw [hsv]
 refine Af JP F2 (of_decide_eq_true rfl) ?_
 simp (disch:=omega) only [F1,go_sem,Aa,h1,DB]
theorem Mw (cs:List Cl) (hl:cs.length≤1048576) (hx:∀ x∈cs,x.tame):E 18 [.arr (cs.map Cl.d)] []=some (.tup [.int .i64 (ucI (uc cs)),.int .i64 (ucK (uc cs)),.bool (ucB (uc cs))],[]):=by
  have hsv:∀ d:Cl,d.sv=.agg [.arr (d.lits.map Lt.d)]:=fun d=>rfl
  have hob:∀ d:Cl,Cl.obs d=[.row 73 3 (d.lits.map Lt.o)]:=fun d=>rfl
  have hcs:∀ d:Cl,Cl.osv d=.agg [.ref 0]:=fun d=>rfl
  have hany:=L2 39 (fun c=>!(c.ok&&c.norm)) cs (by omega) JO (by rw [F2]) fun x h=>QaU x (hx x h)
  have hna:(cs.any fun c=>!(c.ok&&c.norm))=!(cs.all fun c=>c.ok&&c.norm):=by rw [List.not_all_eq_any_not]
  rw [hna] at hany
  rcases Int.lt_or_le 30 (cs.length:Int) with h30 | h30
  · have hq:((30:Int)<(cs.length:Int))=True:=eq_true h30
    have hq2:dec ((30:Int)<(cs.length:Int))=true:=At h30
    have ho:uc cs=none:=by unfold uc YS; rw [A3 (by omega)]; rfl
    rw [ho]
    refine Af Ez B0 (of_decide_eq_true rfl) ?_
    simp (disch:=omega) only [De,go_sem,Aa,hq,hq2]
    first | done | rfl | exact ⟨rfl,rfl⟩ | exact ⟨rfl,rfl,rfl⟩
  have hq:((30:Int)<(cs.length:Int))=False:=eq_false (by omega)
  have hq2:dec ((30:Int)<(cs.length:Int))=false:=A3 (by omega)
  cases hall:cs.all fun c=>c.ok&&c.norm with
  | false =>
    have ho:uc cs=none:=by unfold uc YS; rw [hall,zM]; rfl
    rw [ho]
    rw [hall] at hany
    refine Af Ez B0 (of_decide_eq_true rfl) ?_
    simp (disch:=omega) only [De,go_sem,Aa,hq,hq2,hany,AU]
    first | done | rfl | exact ⟨rfl,rfl⟩ | exact ⟨rfl,rfl,rfl⟩
  | true =>
  rw [hall] at hany
  have ho:uc cs=ucR cs 0 cs.length:=by unfold uc YS; rw [hall,At h30]; rfl
  rw [ho]
  rw [List.all_eq_true] at hall
  obtain ⟨t,ht⟩:∃ t,t=ucR cs 0 cs.length:=⟨_,rfl⟩
  rw [←ht]
  refine Af Ez B0 (of_decide_eq_true rfl) ?_
  simp (disch:=omega) only [De,go_sem,Aa,hq,hq2,hany,AU]
  refine go_loop (α:=Int) (fun a=>⟨slots 64 0 [(0,.arr (cs.map Cl.d)),(17,.arr (cs.map Cl.d)),(18,.int .i64 cs.length),(19,.int .i64 a)],[]⟩) (fun a=>∃ k:Nat,a=k∧k≤(cs).length∧ucR cs k (cs.length-k)=t) (fun a=>(cs).length-(a).toNat) 0 ⟨0,rfl,zK _,by rw [Nat.sub_zero]; exact ht.symm⟩ (by simp (disch:=omega) only [go_sem,Aa]) ?_
  rintro i ⟨k,hi,hk,hR⟩
  have hni:i.toNat=k:=by omega
  have hni1:(i+1).toNat=k+1:=by omega
  rcases zC k (cs).length with hlt | hge
  · have hg0:=get_at Cl.d hlt
    rw [Cl.d_eq] at hg0
    have hcr:=hall _ (zA hlt)
    rw [zD] at hcr
    have hca:=UV hlt
    obtain ⟨c,hc⟩:∃ c,c=cs[k]:=⟨_,rfl⟩
    rw [←hc] at hg0 hcr hca
    rw [Xm hlt] at hR
    have hio:=hi
    have hni0:=hni
    have hni10:=hni1
    have hlt0:=hlt
    clear hc hni hni1 hlt
    generalize i=io at *
    generalize k=ko at *
    obtain ⟨fo,hfo⟩:∃ fo,fo=LR (ucP cs ko) (ko+1) (cs.length-(ko+1)):=⟨_,rfl⟩
    rw [←hfo] at hR
    simp (disch:=omega) only [go_sem,Aa,hni0,hg0]
    refine go_loop (α:=Int) (fun a=>⟨slots 64 0 [(0,.arr (cs.map Cl.d)),(5,.int .i64 io),(6,.ptr 0 0),(7,.int .i64 a),(17,.arr (cs.map Cl.d)),(18,.int .i64 cs.length),(19,.int .i64 io)],[.box 28 [.arr (c.lits.map Lt.d)]]⟩) (fun a=>∃ k:Nat,a=k∧k≤cs.length∧LR (ucP cs ko) k (cs.length-k)=fo) (fun a=>cs.length-a.toNat) (io+1) ⟨ko+1,by omega,by omega,hfo.symm⟩ (by simp (disch:=omega) only [go_sem,Aa]) ?_
    rintro i ⟨k,hi,hk,hF⟩
    have hni:i.toNat=k:=by omega
    have hni1:(i+1).toNat=k+1:=by omega
    rcases zC k cs.length with hlt | hge
    · have hg:=get_at Cl.d hlt
      rw [Cl.d_eq] at hg
      have hdr:=hall _ (zA hlt)
      rw [zD] at hdr
      have hda:=UV hlt
      obtain ⟨d,hd⟩:∃ d,d=cs[k]:=⟨_,rfl⟩
      rw [←hd] at hg hdr hda
      rw [Sa hlt] at hF
      have hP:ucP cs ko k=(dec (c.lits.length=1)&&(dec (d.lits.length=1)&&KO c 0 d 0)):=by unfold ucP; rw [hca,hda]
      rw [hP] at hF
      have hr:=QaQ c hcr.1 0 d hdr.1 hdr.2 0
      rw [hsv,hsv,hcs,hob] at hr
      by_cases l1:c.lits.length=1
      · have p1:((c.lits.length:Int)=1)=True:=eq_true (by omega)
        by_cases l2:d.lits.length=1
        · have p2:((d.lits.length:Int)=1)=True:=eq_true (by omega)
          have hle:=QaT hdr.1 hdr.2 l1 l2
          rw [hle] at hr
          cases hro:KO c 0 d 0 with
          | true =>
            rw [hro] at hr hF
            rw [At l1,At l2] at hF
            have hF:some k=fo:=hF
            rw [←hF] at hR
            have hR:some (ko,k)=t:=hR
            rw [←hR]
            simp (disch:=omega) only [go_sem,Aa,hni,hg0,hg,p1,p2,hr,zF,List.length_nil,CI]
            first | done | exact ⟨by rw [hio]; rfl,by rw [hi]; rfl⟩ | (rw [hio,hi]; rfl) | (simp [ucI,ucK,ucB,hio,hi])
          | false =>
            rw [hro] at hr hF
            rw [At l1,At l2] at hF
            simp (disch:=omega) only [go_sem,Aa,hni,hg0,hg,p1,p2,hr,zF,List.length_nil,CI]
            exact ⟨i+1,⟨k+1,by omega,hlt,hF⟩,by omega,by first | trivial | rfl⟩
        · have p2:((d.lits.length:Int)=1)=False:=eq_false (by omega)
          rw [At l1,A3 l2] at hF
          simp (disch:=omega) only [go_sem,Aa,hni,hg0,hg,p1,p2]
          exact ⟨i+1,⟨k+1,by omega,hlt,hF⟩,by omega,by first | trivial | rfl⟩
      · have p1:((c.lits.length:Int)=1)=False:=eq_false (by omega)
        rw [A3 l1] at hF
        simp (disch:=omega) only [go_sem,Aa,hni,hg0,hg,p1]
        exact ⟨i+1,⟨k+1,by omega,hlt,hF⟩,by omega,by first | trivial | rfl⟩
    · rw [show cs.length-k=0 by omega] at hF
      have hF:none=fo:=hF
      rw [←hF] at hR
      simp (disch:=omega) only [go_sem,Aa,hni]
      exact ⟨io+1,⟨ko+1,by omega,hlt0,hR⟩,by omega,by first | trivial | rfl⟩
  · rw [show cs.length-k=0 by omega] at hR
    have hR:none=t:=hR
    rw [←hR]
    simp (disch:=omega) only [go_sem,Aa,hni]
    first | done | rfl | exact ⟨rfl,rfl⟩ | exact ⟨rfl,rfl,rfl⟩
def E0:SC:=(.seq (.reg [⟨some 2,none,.mv (.c (.int .i64 0))⟩,⟨some 3,none,.mv (.c (.int .i64 0))⟩,⟨some 4,none,.mv (.c (.bool false))⟩]) (.seq (.seq (.reg [⟨some 10,none,.mv (.t 0)⟩,⟨some 11,none,.len false (.t 10)⟩,⟨some 12,none,.bin .gtr false (.t 11) (.c (.int .i64 30))⟩]) (.cond (.t 12) (.seq (.reg [⟨some 2,none,.mv (.c (.int .i64 0))⟩,⟨some 3,none,.mv (.c (.int .i64 0))⟩,⟨some 4,none,.mv (.c (.bool false))⟩]) .ret) .skip)) (.seq (.seq (.reg [⟨some 5,none,.mv (.c (.int .i64 0))⟩]) (.block 0 (.loop [1,0,0,0,0,1,0,0,0,0,0,0,0,0,0,0,0,0,0,0,0,0,0,0,0,0,0,0,0,0,0,0,0,0,0,0,0,0,0,0,0,0,0,0,0,0,0,0,0,0,0,0,0,0,0,0,0,0,0,0,0,0,0,0,0,0,0,0,0,0] (.seq (.seq (.reg [⟨some 13,none,.mv (.t 5)⟩,⟨some 14,none,.mv (.t 0)⟩,⟨some 15,none,.len false (.t 14)⟩,⟨some 16,none,.bin .lss false (.t 13) (.t 15)⟩]) (.cond (.t 16) .skip (.exit 0))) (.seq (.block 1 (.seq (.reg [⟨some 19,none,.mv (.t 0)⟩,⟨some 20,none,.mv (.t 5)⟩,⟨some 21,none,.iaddr 1 (.t 19) (.t 20)⟩,⟨some 22,none,.load true 1 (.t 21)⟩,⟨some 23,none,.call 29 [(.t 22)]⟩,⟨some 24,none,.un .not (.t 23)⟩]) (.cond (.t 24) (.seq (.reg [⟨some 2,none,.mv (.c (.int .i64 0))⟩,⟨some 3,none,.mv (.c (.int .i64 0))⟩,⟨some 4,none,.mv (.c (.bool false))⟩]) .ret) .skip))) (.reg [⟨some 17,none,.mv (.t 5)⟩,⟨some 18,none,.bin .add false (.t 17) (.c (.int .i64 1))⟩,⟨some 5,none,.mv (.t 18)⟩])))))) (.seq (.seq (.reg [⟨some 6,none,.mv (.c (.int .i64 0))⟩]) (.block 2 (.loop [1,0,0,0,0,0,1,0,0,0,0,0,0,0,0,0,0,0,0,0,0,0,0,0,0,0,0,0,0,0,0,0,0,0,0,0,0,0,0,0,0,0,0,0,0,0,0,0,0,0,0,0,0,0,0,0,0,0,0,0,0,0,0,0,0,0,0,0,0,0] (.seq (.seq (.reg [⟨some 25,none,.mv (.t 6)⟩,⟨some 26,none,.mv (.t 0)⟩,⟨some 27,none,.len false (.t 26)⟩,⟨some 28,none,.bin .lss false (.t 25) (.t 27)⟩]) (.cond (.t 28) .skip (.exit 2))) (.seq (.block 3 (.seq (.reg [⟨some 31,none,.mv (.t 6)⟩,⟨some 32,none,.bin .add false (.t 31) (.c (.int .i64 1))⟩,⟨some 7,none,.mv (.t 32)⟩]) (.block 4 (.loop [1,0,0,0,0,0,1,1,0,0,0,0,0,0,0,0,0,0,0,0,0,0,0,0,0,0,0,0,0,0,0,0,0,0,0,0,0,0,0,0,0,0,0,0,0,0,0,0,0,0,0,0,0,0,0,0,0,0,0,0,0,0,0,0,0,0,0,0,0,0] (.seq (.seq (.reg [⟨some 33,none,.mv (.t 7)⟩,⟨some 34,none,.mv (.t 0)⟩,⟨some 35,none,.len false (.t 34)⟩,⟨some 36,none,.bin .lss false (.t 33) (.t 35)⟩]) (.cond (.t 36) .skip (.exit 4))) (.seq (.block 5 (.seq (.seq (.reg [⟨some 39,none,.mv (.t 0)⟩,⟨some 40,none,.mv (.t 6)⟩,⟨some 41,none,.iaddr 1 (.t 39) (.t 40)⟩,⟨some 42,none,.faddr 0 (.t 41)⟩,⟨some 43,none,.load false 1 (.t 42)⟩,⟨some 44,none,.len false (.t 43)⟩,⟨some 45,none,.bin .neq false (.t 44) (.c (.int .i64 1))⟩,⟨some 46,none,.mv (.t 45)⟩,⟨(some 47),(some (46,false)),(.mv (.t 0))⟩,⟨(some 48),(some (46,false)),(.mv (.t 7))⟩,⟨(some 49),(some (46,false)),(.iaddr 1 (.t 47) (.t 48))⟩,⟨(some 50),(some (46,false)),(.faddr 0 (.t 49))⟩,⟨(some 51),(some (46,false)),(.load false 1 (.t 50))⟩,⟨(some 52),(some (46,false)),(.len false (.t 51))⟩,⟨(some 53),(some (46,false)),(.bin .neq false (.t 52) (.c (.int .i64 1)))⟩,⟨some 54,none,.pick (.t 46) (.c (.bool true)) (.t 53)⟩]) (.cond (.t 54) (.exit 5) .skip)) (.seq (.dreg [[],[],[0,1],[2,0,1],[],[],[4,5],[6,4,5],[3,2,0,1,7,6,4,5],[8,3,2,0,1,7,6,4,5],[9,8,3,2,0,1,7,6,4,5],[9,8,3,2,0,1,7,6,4,5],[],[12,10,9,8,3,2,0,1,7,6,4,5],[11,9,8,3,2,0,1,7,6,4,5,13,12,10]] [⟨some 56,none,.mv (.t 0)⟩,⟨some 57,none,.mv (.t 6)⟩,⟨some 58,none,.iaddr 1 (.t 56) (.t 57)⟩,⟨some 59,none,.load true 1 (.t 58)⟩,⟨some 60,none,.mv (.t 0)⟩,⟨some 61,none,.mv (.t 7)⟩,⟨some 62,none,.iaddr 1 (.t 60) (.t 61)⟩,⟨some 63,none,.load true 1 (.t 62)⟩,⟨some 64,none,.call 37 [(.t 59),(.c (.int .i64 0)),(.t 63),(.c (.int .i64 0))]⟩,⟨some 55,none,.mv (.t 64)⟩,⟨some 65,none,.ext (.t 55) 0⟩,⟨some 66,none,.ext (.t 55) 1⟩,⟨some 8,none,.alloc 28 [.nil]⟩,⟨none,none,(.store 1 (.t 8) (.t 65))⟩,⟨some 9,none,.mv (.t 66)⟩]) (.seq (.reg [⟨some 67,none,.mv (.t 9)⟩]) (.cond (.t 67) (.seq (.reg [⟨some 68,none,.mv (.t 6)⟩,⟨some 69,none,.mv (.t 7)⟩,⟨some 2,none,.mv (.t 68)⟩,⟨some 3,none,.mv (.t 69)⟩,⟨some 4,none,.mv (.c (.bool true))⟩]) .ret) .skip))))) (.reg [⟨some 37,none,.mv (.t 7)⟩,⟨some 38,none,.bin .add false (.t 37) (.c (.int .i64 1))⟩,⟨some 7,none,.mv (.t 38)⟩]))))))) (.reg [⟨some 29,none,.mv (.t 6)⟩,⟨some 30,none,.bin .add false (.t 29) (.c (.int .i64 1))⟩,⟨some 6,none,.mv (.t 30)⟩])))))) (.seq (.reg [⟨some 2,none,.mv (.c (.int .i64 0))⟩,⟨some 3,none,.mv (.c (.int .i64 0))⟩,⟨some 4,none,.mv (.c (.bool false))⟩]) .ret)))))
theorem G4:codeOf Tryz.prog 16=some ⟨70,E0,[(.tmp 2),(.tmp 3),(.tmp 4)]⟩:=by kernel_rfl
theorem BS:modes 16=⟨[],.asis,none,false⟩:=by unfold modes; rfl
theorem My (cs:List Cl) (hl:cs.length≤1048576) (hx:∀ x∈cs,x.tame):E 16 [.arr (cs.map Cl.d)] []=some (.tup [.int .i64 (ucI (uc cs)),.int .i64 (ucK (uc cs)),.bool (ucB (uc cs))],[]):=by
  have hsv:∀ d:Cl,d.sv=.agg [.arr (d.lits.map Lt.d)]:=fun d=>rfl
  rcases Int.lt_or_le 30 (cs.length:Int) with h30 | h30
  · have hq:((30:Int)<(cs.length:Int))=True:=eq_true h30
    have hq2:dec ((30:Int)<(cs.length:Int))=true:=At h30
    have ho:uc cs=none:=by unfold uc YS; rw [A3 (by omega)]; rfl
    rw [ho]
    refine Af G4 BS (of_decide_eq_true rfl) ?_
    simp (disch:=omega) only [E0,go_sem,Aa,hq,hq2]
    first | done | rfl | exact ⟨rfl,rfl⟩ | exact ⟨rfl,rfl,rfl⟩
  have hq:((30:Int)<(cs.length:Int))=False:=eq_false (by omega)
  have hq2:dec ((30:Int)<(cs.length:Int))=false:=A3 (by omega)
  refine Af G4 BS (of_decide_eq_true rfl) ?_
  simp (disch:=omega) only [E0,go_sem,Aa,hq,hq2]
  refine go_loop (α:=Int) (fun a=>⟨slots 70 0 [(0,.arr (cs.map Cl.d)),(5,.int .i64 a)],[]⟩) (fun a=>∃ k:Nat,a=k∧k≤(cs).length∧∀ (j:Nat),j<k→∀ hj:j<cs.length,(cs[j].ok&&cs[j].norm)=true) (fun a=>(cs).length-(a).toNat) 0 ⟨0,rfl,zK _,fun j hj=>absurd hj (Nat.not_lt_zero _)⟩ (by simp (disch:=omega) only [go_sem,Aa]) ?_
  rintro i ⟨k,hi,hk,hR⟩
  have hni:i.toNat=k:=by omega
  have hni1:(i+1).toNat=k+1:=by omega
  rcases zC k (cs).length with hlt | hge
  · have hg0:=get_at Cl.d hlt
    rw [Cl.d_eq] at hg0
    have hrd:=YO cs[k] (hx _ (zA hlt))
    rw [hsv] at hrd
    cases hb:cs[k].ok&&cs[k].norm with
    | false =>
      rw [hb] at hrd
      have ho:uc cs=none:=by
        unfold uc YS
        rw [show (cs.all fun c=>c.ok&&c.norm)=false from List.all_eq_false.2 ⟨cs[k],zA hlt,by rw [hb]; simp⟩,zM]
        rfl
      rw [ho]
      simp (disch:=omega) only [go_sem,Aa,hni,hg0,hrd,EK]
      first | done | rfl | exact ⟨rfl,rfl⟩ | exact ⟨rfl,rfl,rfl⟩
    | true =>
      rw [hb] at hrd
      simp (disch:=omega) only [go_sem,Aa,hni,hg0,hrd,EK]
      refine ⟨i+1,⟨k+1,by omega,hlt,fun j hj hjl=>?_⟩,by omega,by first | trivial | rfl⟩
      rcases zC j k with h2 | h2
      · exact hR j h2 hjl
      · obtain rfl:j=k:=by omega
        exact hb
  · have hall : ∀ x∈cs,(x.ok&&x.norm)=true:=fun x hx=>by
      obtain ⟨j,hj,rfl⟩:=zH hx
      exact hR j (by omega) hj
    have ho:uc cs=ucR cs 0 cs.length:=by unfold uc YS; rw [List.all_eq_true.2 hall,At h30]; rfl
    rw [ho]
    obtain ⟨t,ht⟩:∃ t,t=ucR cs 0 cs.length:=⟨_,rfl⟩
    rw [←ht]
    simp (disch:=omega) only [go_sem,Aa,hni]
    clear hR hi hk hge hni hni1
    refine go_loop (α:=Int) (fun a=>⟨slots 70 0 [(0,.arr (cs.map Cl.d)),(6,.int .i64 a)],[]⟩) (fun a=>∃ k:Nat,a=k∧k≤(cs).length∧ucR cs k (cs.length-k)=t) (fun a=>(cs).length-(a).toNat) 0 ⟨0,rfl,zK _,by rw [Nat.sub_zero]; exact ht.symm⟩ (by simp (disch:=omega) only [go_sem,Aa]) ?_
    rintro i ⟨k,hi,hk,hR⟩
    have hni:i.toNat=k:=by omega
    have hni1:(i+1).toNat=k+1:=by omega
    rcases zC k (cs).length with hlt | hge
    · have hg0:=get_at Cl.d hlt
      rw [Cl.d_eq] at hg0
      have hcr:=hall _ (zA hlt)
      rw [zD] at hcr
      have hca:=UV hlt
      obtain ⟨c,hc⟩:∃ c,c=cs[k]:=⟨_,rfl⟩
      rw [←hc] at hg0 hcr hca
      rw [Xm hlt] at hR
      have hio:=hi
      have hni0:=hni
      have hni10:=hni1
      have hlt0:=hlt
      clear hc hni hni1 hlt
      generalize i=io at *
      generalize k=ko at *
      obtain ⟨fo,hfo⟩:∃ fo,fo=LR (ucP cs ko) (ko+1) (cs.length-(ko+1)):=⟨_,rfl⟩
      rw [←hfo] at hR
      simp (disch:=omega) only [go_sem,Aa,hni0,hg0]
      refine go_loop (α:=Int) (fun a=>⟨slots 70 0 [(0,.arr (cs.map Cl.d)),(6,.int .i64 io),(7,.int .i64 a)],[]⟩) (fun a=>∃ k:Nat,a=k∧k≤cs.length∧LR (ucP cs ko) k (cs.length-k)=fo) (fun a=>cs.length-a.toNat) (io+1) ⟨ko+1,by omega,by omega,hfo.symm⟩ (by simp (disch:=omega) only [go_sem,Aa]) ?_
      rintro i ⟨k,hi,hk,hF⟩
      have hni:i.toNat=k:=by omega
      have hni1:(i+1).toNat=k+1:=by omega
      rcases zC k cs.length with hlt | hge
      · have hg:=get_at Cl.d hlt
        rw [Cl.d_eq] at hg
        have hdr:=hall _ (zA hlt)
        rw [zD] at hdr
        have hda:=UV hlt
        obtain ⟨d,hd⟩:∃ d,d=cs[k]:=⟨_,rfl⟩
        rw [←hd] at hg hdr hda
        rw [Sa hlt] at hF
        have hP:ucP cs ko k=(dec (c.lits.length=1)&&(dec (d.lits.length=1)&&KO c 0 d 0)):=by unfold ucP; rw [hca,hda]
        rw [hP] at hF
        have hr:=UU c hcr.1 0 d hdr.1 hdr.2 0
        rw [hsv,hsv,hsv] at hr
        by_cases l1:c.lits.length=1
        · have p1:((c.lits.length:Int)=1)=True:=eq_true (by omega)
          by_cases l2:d.lits.length=1
          · have p2:((d.lits.length:Int)=1)=True:=eq_true (by omega)
            cases hro:KO c 0 d 0 with
            | true =>
              rw [hro] at hr hF
              rw [At l1,At l2] at hF
              have hF:some k=fo:=hF
              rw [←hF] at hR
              have hR:some (ko,k)=t:=hR
              rw [←hR]
              simp (disch:=omega) only [go_sem,Aa,hni0,hni,hg0,hg,p1,p2,hr,BP]
              first | done | exact ⟨by rw [hio]; rfl,by rw [hi]; rfl⟩ | (rw [hio,hi]; rfl) | (simp [ucI,ucK,ucB,hio,hi])
            | false =>
              rw [hro] at hr hF
              rw [At l1,At l2] at hF
              simp (disch:=omega) only [go_sem,Aa,hni0,hni,hg0,hg,p1,p2,hr,BP]
              exact ⟨i+1,⟨k+1,by omega,hlt,hF⟩,by omega,by first | trivial | rfl⟩
          · have p2:((d.lits.length:Int)=1)=False:=eq_false (by omega)
            rw [At l1,A3 l2] at hF
            simp (disch:=omega) only [go_sem,Aa,hni0,hni,hg0,hg,p1,p2]
            exact ⟨i+1,⟨k+1,by omega,hlt,hF⟩,by omega,by first | trivial | rfl⟩
        · have p1:((c.lits.length:Int)=1)=False:=eq_false (by omega)
          rw [A3 l1] at hF
          simp (disch:=omega) only [go_sem,Aa,hni0,hni,hg0,hg,p1]
          exact ⟨i+1,⟨k+1,by omega,hlt,hF⟩,by omega,by first | trivial | rfl⟩
      · rw [show cs.length-k=0 by omega] at hF
        have hF:none=fo:=hF
        rw [←hF] at hR
        simp (disch:=omega) only [go_sem,Aa,hni]
        exact ⟨io+1,⟨ko+1,by omega,hlt0,hR⟩,by omega,by first | trivial | rfl⟩
    · rw [show cs.length-k=0 by omega] at hR
      have hR:none=t:=hR
      rw [←hR]
      simp (disch:=omega) only [go_sem,Aa,hni]
      first | done | rfl | exact ⟨rfl,rfl⟩ | exact ⟨rfl,rfl,rfl⟩
def CJ:SC:=(.seq (.reg [⟨some 2,none,.mv (.c (.bool false))⟩]) (.seq (.reg [⟨some 3,none,.mv (.c (.int .i64 1048576))⟩]) (.seq (.reg [⟨some 11,none,.mv (.t 0)⟩,⟨some 12,none,.mv (.t 3)⟩,⟨some 13,none,.call 15 [(.t 11),(.t 12)]⟩,⟨some 3,none,.mv (.t 13)⟩]) (.seq (.seq (.reg [⟨some 14,none,.mv (.t 3)⟩,⟨some 15,none,.bin .lss false (.t 14) (.c (.int .i64 0))⟩]) (.cond (.t 15) (.seq (.reg [⟨some 2,none,.mv (.c (.bool true))⟩]) .ret) .skip)) (.seq (.reg [⟨some 17,none,.mv (.t 0)⟩,⟨some 18,none,.call 17 [(.t 17)]⟩,⟨some 19,none,.call 16 [(.t 18)]⟩,⟨some 16,none,.mv (.t 19)⟩,⟨some 20,none,.ext (.t 16) 0⟩,⟨some 21,none,.ext (.t 16) 1⟩,⟨some 22,none,.ext (.t 16) 2⟩,⟨some 4,none,.mv (.t 20)⟩,⟨some 5,none,.mv (.t 21)⟩,⟨some 6,none,.mv (.t 22)⟩]) (.seq (.reg [⟨some 23,none,.mv (.t 0)⟩,⟨some 24,none,.call 17 [(.t 23)]⟩,⟨some 7,none,.mv (.t 24)⟩]) (.seq (.reg [⟨some 26,none,.mv (.t 7)⟩,⟨some 27,none,.call 18 [(.t 26)]⟩,⟨some 25,none,.mv (.t 27)⟩,⟨some 28,none,.ext (.t 25) 0⟩,⟨some 29,none,.ext (.t 25) 1⟩,⟨some 30,none,.ext (.t 25) 2⟩,⟨some 8,none,.mv (.t 28)⟩,⟨some 9,none,.mv (.t 29)⟩,⟨some 10,none,.mv (.t 30)⟩]) (.seq (.seq (.reg [⟨some 31,none,.mv (.t 8)⟩,⟨some 32,none,.mv (.t 4)⟩,⟨some 33,none,.bin .neq false (.t 31) (.t 32)⟩,⟨some 34,none,.mv (.t 33)⟩,⟨(some 35),(some (34,false)),(.mv (.t 9))⟩,⟨(some 36),(some (34,false)),(.mv (.t 5))⟩,⟨(some 37),(some (34,false)),(.bin .neq false (.t 35) (.t 36))⟩,⟨some 38,none,.pick (.t 34) (.c (.bool true)) (.t 37)⟩,⟨some 39,none,.mv (.t 38)⟩,⟨(some 40),(some (39,false)),(.mv (.t 10))⟩,⟨(some 41),(some (39,false)),(.mv (.t 6))⟩,⟨(some 42),(some (39,false)),(.bin .neq true (.t 40) (.t 41))⟩,⟨some 43,none,.pick (.t 39) (.c (.bool true)) (.t 42)⟩]) (.cond (.t 43) (.seq (.reg [⟨some 2,none,.mv (.c (.bool false))⟩]) .ret) .skip)) (.seq (.seq (.reg [⟨some 44,none,.mv (.t 7)⟩,⟨some 45,none,.mv (.t 0)⟩,⟨some 46,none,.call 17 [(.t 45)]⟩,⟨some 47,none,.call 19 [(.t 44),(.t 46)]⟩,⟨some 48,none,.un .not (.t 47)⟩]) (.cond (.t 48) (.seq (.reg [⟨some 2,none,.mv (.c (.bool false))⟩]) .ret) .skip)) (.seq (.reg [⟨some 2,none,.mv (.c (.bool true))⟩]) .ret))))))))))
theorem Eg:codeOf Tryz.prog 4=some ⟨49,CJ,[(.tmp 2)]⟩:=by kernel_rfl
theorem Eh:modes 4=⟨[],.asis,none,false⟩:=by unfold modes; rfl
theorem Qd8 (cs:List Cl) (hfcs:D.fit (.arr (cs.map Cl.d))):E 4 [.arr (cs.map Cl.d)] []=some (.bool true,[]):=by
 have s0:=WJ cs hfcs 1048576 (by omega) (by omega)
 have q0:=Bh 1048576 (cs.length+Cl.sumB cs)
 obtain ⟨l0,hl0⟩:∃ l,l=szR 1048576 ((cs.length+Cl.sumB cs):Nat):=⟨_,rfl⟩
 rw [←hl0] at s0 q0
 rcases Int.lt_or_le l0 0 with h0 | h0_0
 ·refine Af Eg Eh (of_decide_eq_true rfl) ?_
  simp (disch:=omega) only [CJ,go_sem,Aa,s0,CA]
 have hb_cs:(cs.length+Cl.sumB cs)≤1048576:=by omega
 have t_cs:=WN cs hb_cs
 have hct:=Cl.Qc7 hb_cs
 have a1:=My cs (by omega) hct
 have a2:=Mw cs (by omega) hct
 obtain ⟨i,hr_i⟩:∃ r,r=ucI (uc cs):=⟨_,rfl⟩
 rw [←hr_i] at a1 a2
 obtain ⟨k,hr_k⟩:∃ r,r=ucK (uc cs):=⟨_,rfl⟩
 rw [←hr_k] at a1 a2
 obtain ⟨o,hr_o⟩:∃ r,r=ucB (uc cs):=⟨_,rfl⟩
 rw [←hr_o] at a1 a2
 have eq_cs:=WR cs (by omega)
 refine Af Eg Eh (of_decide_eq_true rfl) ?_
 simp (disch:=omega) only [CJ,go_sem,s0,t_cs,a1,a2,eq_cs,E5,CA,Dm,Dn,BS,B0,Cl.osv,Cl.obs,Lt.osv,Lt.obs,Tm.osv,Tm.obs,Cl.erss,Cl.noss]
 repeat ((first | (refine QbF ?_ ?_; (focus (simp (disch:=omega) only [go_sem,s0,t_cs,a1,a2,eq_cs,E5,CA,Dm,Dn,BS,B0,Cl.osv,Cl.obs,Lt.osv,Lt.obs,Tm.osv,Tm.obs,Cl.erss,Cl.noss]; done))) | (refine QbG ?_ ?_; (focus (simp (disch:=omega) only [go_sem,s0,t_cs,a1,a2,eq_cs,E5,CA,Dm,Dn,BS,B0,Cl.osv,Cl.obs,Lt.osv,Lt.obs,Tm.osv,Tm.obs,Cl.erss,Cl.noss]; done)))); (try simp (disch:=omega) only [go_sem,s0,t_cs,a1,a2,eq_cs,E5,CA,Dm,Dn,BS,B0,Cl.osv,Cl.obs,Lt.osv,Lt.obs,Tm.osv,Tm.obs,Cl.erss,Cl.noss]))
end Go.Proofs.YtibdknkacmimgaaGreatDoor
set_option maxRecDepth 100000
set_option linter.unusedSimpArgs false
set_option linter.unusedVariables false
set_option linter.unusedSectionVars false
namespace Go.Proofs.YtibdknkacmimgaaGreatDoor
open Go.RowKit Go.ChangeShapes Go.WideShapes Go.ChangeAt Go.Deep
section
variable {H:Type} {enc:TypeId × Value→H} {P:Program} {w:World} {base:Nat} {spare:Nat→Bool} {held:Bool}
theorem KV {b o k:Nat}:(⟨b,o,none⟩:Addr).add k=⟨b,o+k,none⟩:=by
 unfold Addr.add; split
 ·subst_vars; rfl
 ·rfl
theorem Qd9 {a:Addr} {v:Value} (h:w.cell? a=some v):a.block<w.heap.size:=by
 unfold World.cell? at h
 cases hb:w.heap[a.block]? with
 | none=>rw [hb] at h; cases h
 | some o=>exact (zI.1 hb).1
end
section
variable {H:Type} {enc:TypeId × Value→H} {w:World} {base:Nat} {spare:Nat→Bool} {held:Bool}
end
end Go.Proofs.YtibdknkacmimgaaGreatDoor
set_option maxRecDepth 100000
set_option linter.unusedSimpArgs false
set_option linter.unusedVariables false
set_option linter.unusedSectionVars false
namespace Go.Proofs.YtibdknkacmimgaaGreatDoor
open Go.RowKit Go.ChangeShapes Go.WideShapes Go.ChangeAt Go.Deep
section
variable {H:Type} {enc:TypeId × Value→H} {P:Program} {w:World} {base:Nat} {spare:Nat→Bool} {held:Bool}
theorem Sc {t e:TypeId} {fuel:Nat} {v:Value} {x:DataW H × List MemPlace} (sz:Nat) (hsz:P.cellsOf e=sz) (h0:0<sz) (ht:P.underlying t=some (.slice e)) (h:DataW.trod enc P w base spare held fuel t [v]=some x) :
    ∃ (a:Option Addr) (len cap:Nat) (f:Nat→Nat→Value),v=.slice a len cap∧len≤cap∧cap≤9223372036854775807∧SlA w 0 sz len f a ∧
      ∀ i,i<len→∃ n x',n<fuel∧DataW.trod enc P w base spare held n e ((zG sz).map (f i))=some x':=by
  rcases DataW.trod_slice ht h with ⟨hcs,_⟩ | ⟨a,len,cap,elems,rest,n,hf,hcs,hx,hb,hl,hm,hlen,hel,_,_⟩
  · simp only [List.cons.injEq,and_true] at hcs
    exact ⟨none,0,0,fun _ _=>undef,hcs,Nat.le_refl _,by omega,.inl rfl,fun i hi=>absurd hi (by omega)⟩
  · have hi:∀ i,i<len→∃ cs' x',w.cells? base (a.add (i*sz)) sz=some cs'∧DataW.trod enc P w base spare held n e cs'=some x':=by
      intro i hi
      have h1:=hel i hi
      rw [hsz,zB (by omega)] at h1
      obtain ⟨cs',h2,h3⟩:=Option.bind_eq_some_iff.1 h1
      exact ⟨cs',_,h2,h3⟩
    have hcell:∀ i j,i<len→j<sz→∃ v,w.cell? (a.add (i*sz+j))=some v:=by
      intro i j hil hj
      obtain ⟨cs',x',hc,_⟩:=hi i hil
      obtain ⟨_,hcl,hat⟩:=World.cells?_some hc
      have h1:=hat j hj
      rw [Go.Deep.add_add,zB (by omega)] at h1
      exact ⟨_,h1⟩
    simp only [List.cons.injEq,and_true] at hcs
    refine ⟨some a,len,cap,fun i j=>(w.cell? (a.add (i*sz+j))).getD undef,hcs,hl,hm,?_,?_⟩
    · rcases Nat.eq_zero_or_pos len with h | h
      · exact .inl h
      · obtain ⟨v,hv⟩:=hcell 0 0 h h0
        rw [Nat.zero_mul,Nat.zero_add] at hv
        have hsp:a.spot=none:=by simpa [Addr.add] using World.cell?_spot hv
        have hlt:=Qd9 hv
        obtain ⟨b,off,spot⟩:=a
        simp only at hsp
        subst hsp
        refine .inr ⟨b,off,rfl,zK _,by simpa [Addr.add] using hlt,fun i j hil hj=>?_⟩
        obtain ⟨v',hv'⟩:=hcell i j hil hj
        rw [KV] at hv'
        show _=some ((w.cell? ((⟨b,off,none⟩:Addr).add (i*sz+j))).getD undef)
        rw [KV,Nat.add_assoc,hv']
        rfl
    · intro i hil
      obtain ⟨cs',x',hc,ht'⟩:=hi i hil
      obtain ⟨_,hcl,hat⟩:=World.cells?_some hc
      refine ⟨n,x',by omega,?_⟩
      have hcs':(zG sz).map (fun j=>(w.cell? (a.add (i*sz+j))).getD undef)=cs':=by
        apply List.ext_getElem?
        intro j
        by_cases hj:j<sz
        · rw [List.getElem?_map,List.getElem?_range hj]
          have h1:=hat j hj
          rw [Go.Deep.add_add] at h1
          rw [zB (by omega:j<cs'.length)] at h1 ⊢
          simp [h1]
        · rw [List.getElem?_eq_none (by simp; omega),List.getElem?_eq_none (by omega)]
      rw [hcs']
      exact ht'
theorem Sd {t:TypeId} {fs:Array Field} {fuel:Nat} {cs:List Value} {x:DataW H × List MemPlace} (ht:P.underlying t=some (.struct fs)) (h:DataW.trod enc P w base spare held fuel t cs=some x) :
  ∃ n,n<fuel∧cs.length=P.cellsOf t∧∀ (i:Nat) (f:Field),fs[i]?=some f→∃ y,DataW.trod enc P w base spare held n f.type ((cs.drop f.offset).take (P.cellsOf f.type))=some y:=by
 obtain ⟨xs,n,hn,hx,hlen,hxl,hf⟩:=DataW.trod_struct ht h
 refine ⟨n,by omega,hlen,fun i f hi=>?_⟩
 have hil:i<fs.size:=(zI.1 hi).1
 have h1:=hf i f hi
 rw [zB (by omega:i<xs.length)] at h1
 exact ⟨_,h1⟩
end
inductive Lvs (w:World):List D→List Value→Prop
 |nil:Lvs w [] []
 |cons {d:D} {v:Value} {ds:List D} {vs:List Value} (h:DAt w d v) (hs:Lvs w ds vs):Lvs w (d :: ds) (v :: vs)
theorem Lvs.len {w:World} {ds:List D} {vs:List Value} (h:Lvs w ds vs):ds.length=vs.length:=by
 induction h with
 | nil=>rfl
 | cons h hs ih=>simp [ih]
theorem Lvs.get {w:World} {ds:List D} {vs:List Value} (h:Lvs w ds vs):∀ j (h1:j<ds.length) (h2:j<vs.length),DAt w ds[j] vs[j]:=by
 induction h with
 | nil=>intro j h1; simp at h1
 | cons h hs ih =>
  intro j h1 h2
  cases j with
  | zero=>exact h
  | succ j=>exact ih j (by simpa using h1) (by simpa using h2)
theorem Se {α:Type} [Inhabited α] (dd:α→List D) {w:World} {m len cap:Nat} {f:Nat→Nat→Value} {a:Option Addr} (hl:len≤cap) (hm:cap≤9223372036854775807) (hS:SlA w 0 m len f a)
  (hel:∀ i,i<len→∃ X:α,Lvs w (dd X) ((zG m).map (f i))):∃ xs:List α,DAt w (.arr (xs.map dd)) (.slice a len cap):=by
 obtain ⟨g,hg⟩:∃ g:Nat→α,∀ i,i<len→Lvs w (dd (g i)) ((zG m).map (f i)) :=
  ⟨fun i=>if h:i<len then (hel i h).choose else default,fun i hi=>by simp only [hi,dif_pos]; exact (hel i hi).choose_spec⟩
 refine ⟨(zG len).map g,?_⟩
 have hlen:(((zG len).map g).map dd).length=len:=by simp
 have:=DAt.QdK (w:=w) (es:=((zG len).map g).map dd) (sz:=m) (cap:=cap) (a:=a) (f:=f) (by rw [hlen]; exact hl) hm (by rw [hlen]; exact hS) (fun i hi=>by
  rw [hlen] at hi
  have:=(hg i hi).len
  simpa using this) (fun i j hi hj=>by
  rw [hlen] at hi
  have h1:=hg i hi
  have h2:=h1.len
  simp only [zL,List.length_range] at h2
  simp only [List.getElem_map,List.getElem_range] at hj ⊢
  have:=h1.get j hj (by simp; omega)
  simpa using this)
 rw [hlen] at this
 exact this
instance:Inhabited Tm:=⟨Tm.zero⟩
instance:Inhabited Fm:=⟨Fm.zero⟩
section
variable {H:Type} {enc:TypeId × Value→H} {w:World} {base:Nat} {spare:Nat→Bool} {held:Bool}
end
end Go.Proofs.YtibdknkacmimgaaGreatDoor
set_option maxRecDepth 100000
set_option linter.unusedSimpArgs false
set_option linter.unusedVariables false
set_option linter.unusedSectionVars false
namespace Go.Proofs.YtibdknkacmimgaaGreatDoor
open Go.RowKit
theorem DRep.lt_ {own:Bool} {w:World} {S:Nat→Prop} {d:D} {v:Value} (h:DRep own w S d v):DRep own w (fun b=>S b∧b<w.heap.size) d v:=by
 induction h with
 | int S n=>exact .int _ n
 | bool S b=>exact .bool _ b
 | str S s h=>exact .str _ s h
 | arr S sz es a cap f Sub h1 h2 h3 h4 h5 h6 h7 ih =>
  refine .arr _ sz es a cap f (fun i j x=>Sub i j x∧x<w.heap.size) h1 h2 ?_ h4 (fun i j x h=>⟨h5 i j x h.1,h.2⟩) (fun ho i j i' j' x h h'=>h6 ho i j i' j' x h.1 h'.1) ih
  rcases h3 with h3 | ⟨b,off,ha,hS,hl,hc,ho⟩
  ·exact .inl h3
  ·exact .inr ⟨b,off,ha,⟨hS,hl⟩,hl,hc,fun h=>⟨fun i j hx=>(ho h).1 i j hx.1,(ho h).2⟩⟩
theorem DAt.rep {w:World} {es:List (List D)} {v:Value} (h:DAt w (.arr es) v):RepV w (fun b=>b<w.heap.size) (fun _=>none) (.arr es) v:=by
 simp only [RepV]
 exact (DRep.lt_ h).up fun b hb=>hb.2
theorem Fun.yes {f:FuncId} {args:List SV} (h:Fun Tryz.prog f args [] (.bool true) []) {w:World} {vs:List Value} (hgl:GL w fun b=>b<w.heap.size) (hvs:RepVs w (fun b=>b<w.heap.size) (fun _=>none) args vs):Calls Tryz.prog f vs.toArray w (Ret w (.bool true)):=by
 have nl:∀ g,¬ (Ap [] g).live:=fun g hg=>by simp [Ap,Ob.live] at hg
 refine (h w (fun b=>b<w.heap.size) (fun _=>none) (fun _ _=>False) vs ⟨fun b hb=>hb,fun g hg=>absurd hg (nl g),fun g b hg=>absurd hg (nl g),fun g b hg=>absurd hg (nl g),fun g g' b hg=>absurd hg (nl g),fun g _=>rfl,hgl⟩ hvs).mono ?_
 rintro e w' ⟨v,I',V',B',rfl,hr,hp⟩
 simp only [RepV] at hr
 subst hr
 exact ⟨rfl,hp.fr.os,hp.fr.tape.1,hp.fr.output,hp.fr.size,fun b hb=>hp.fr.block b hb fun ⟨g,hg,_⟩=>absurd hg (nl g)⟩
theorem Xn {w:World} {d:D} {ds:List D} {v:Value} {vs:List Value} (h:Lvs w (d :: ds) (v :: vs)):DAt w d v∧Lvs w ds vs:=by
 cases h with
 | cons h1 h2=>exact ⟨h1,h2⟩
theorem DAt.fit {w:World} {d:D} {v:Value} (h:DAt w d v):D.fit d:=DRep.fit h
theorem Qc9 {w:World} {I:Nat→Prop} {V:Nat→Option Value}:RepVs w I V [] []:=by simp [RepVs]
theorem QaV {w:World} {I:Nat→Prop} {V:Nat→Option Value} {x:SV} {xs:List SV} {v:Value} {vs:List Value} (h:RepV w I V x v) (hs:RepVs w I V xs vs):RepVs w I V (x :: xs) (v :: vs):=by
 simp only [RepVs]; exact ⟨v,vs,rfl,h,hs⟩
instance:Inhabited Lt:=⟨Lt.zero⟩
instance:Inhabited Cl:=⟨Cl.zero⟩
section
variable {H:Type} {enc:TypeId × Value→H} {w:World} {base:Nat} {spare:Nat→Bool} {held:Bool}
theorem Po {fuel:Nat} (ih:∀ n,n<fuel→∀ v x,DataW.trod enc Tryz.prog w base spare held n 63 [v]=some x→∃ xs:List Tm,DAt w (.arr (xs.map Tm.d)) v) {cs:List Value} {x:DataW H × List MemPlace} (h:DataW.trod enc Tryz.prog w base spare held fuel 65 cs=some x):∃ X:Tm,Lvs w X.d cs:=by
 obtain ⟨n,hn,hlen,hf⟩:=Sd Tryz.underlying65 h
 rw [show Tryz.prog.cellsOf 65=2 by kernel_rfl] at hlen
 match cs,hlen with
 | [c0,c1],_ =>
  obtain ⟨y0,k0⟩:=hf 0 _ rfl
  have e0:(([c0,c1].drop 0).take (Tryz.prog.cellsOf 9))=[c0]:=by rw [show Tryz.prog.cellsOf 9=1 by kernel_rfl]; rfl
  obtain ⟨z0,q0,_,s0⟩:=DataW.trod_string Tryz.underlying9 k0
  have q0':c0=.string z0:=by
   have:[c0]=[.string z0]:=by rw [←e0]; exact q0
   simpa using this
  obtain ⟨y1,k1⟩:=hf 1 _ rfl
  have e1:(([c0,c1].drop 1).take (Tryz.prog.cellsOf 63))=[c1]:=by rw [show Tryz.prog.cellsOf 63=1 by kernel_rfl]; rfl
  have k1':DataW.trod enc Tryz.prog w base spare held n 63 [c1]=some y1:=by rw [←e1]; exact k1
  obtain ⟨z1,g1⟩:=ih n hn c1 y1 k1'
  subst q0'
  exact ⟨.mk z0 z1,by rw [Tm.d_eq]; exact (.cons (.str _ z0 s0) (.cons g1 .nil))⟩
theorem SD:∀ (fuel:Nat) (v:Value) (x:DataW H × List MemPlace),DataW.trod enc Tryz.prog w base spare held fuel 63 [v]=some x→∃ xs:List Tm,DAt w (.arr (xs.map Tm.d)) v:=by
  intro fuel
  induction fuel using Nat.strongRecOn with
  | _ fuel ih =>
    intro v x h
    obtain ⟨a,len,cap,f,rfl,hl,hm,hS,hr⟩:=Sc (P:=Tryz.prog) 2 (by kernel_rfl) (by omega) Tryz.underlying63 h
    exact Se Tm.d hl hm hS fun i hi=>by
      obtain ⟨n,x',hn,h1⟩:=hr i hi
      exact Po (fun n' hn'=>ih n' (by omega)) h1
theorem QcA {fuel:Nat} {cs:List Value} {x:DataW H × List MemPlace} (h:DataW.trod enc Tryz.prog w base spare held fuel 65 cs=some x):∃ X:Tm,Lvs w X.d cs :=
 Po (fun n _=>SD n) h
theorem Xo {fuel:Nat} {cs:List Value} {x:DataW H × List MemPlace} (h:DataW.trod enc Tryz.prog w base spare held fuel 67 cs=some x):∃ X:Lt,Lvs w X.d cs:=by
 obtain ⟨n,hn,hlen,hf⟩:=Sd Tryz.underlying67 h
 rw [show Tryz.prog.cellsOf 67=3 by kernel_rfl] at hlen
 match cs,hlen with
 | [c0,c1,c2],_ =>
  obtain ⟨y0,k0⟩:=hf 0 _ rfl
  have e0:(([c0,c1,c2].drop 0).take (Tryz.prog.cellsOf 4))=[c0]:=by rw [show Tryz.prog.cellsOf 4=1 by kernel_rfl]; rfl
  obtain ⟨z0,q0,_⟩:=DataW.trod_bool Tryz.underlying4 k0
  have q0':c0=.bool z0:=by
   have:[c0]=[.bool z0]:=by rw [←e0]; exact q0
   simpa using this
  obtain ⟨y1,k1⟩:=hf 1 _ rfl
  have e1:(([c0,c1,c2].drop 1).take (Tryz.prog.cellsOf 65))=[c1,c2]:=by rw [show Tryz.prog.cellsOf 65=2 by kernel_rfl]; rfl
  have k1':DataW.trod enc Tryz.prog w base spare held n 65 [c1,c2]=some y1:=by rw [←e1]; exact k1
  obtain ⟨z1,g1⟩:=QcA k1'
  rw [Tm.d_eq] at g1
  obtain ⟨g1_0,g1⟩:=Xn g1
  obtain ⟨g1_1,g1⟩:=Xn g1
  subst q0'
  exact ⟨⟨z0,z1⟩,by rw [Lt.d_eq]; exact (.cons (.bool _ z0) (.cons g1_0 (.cons g1_1 .nil)))⟩
theorem UW {fuel:Nat} {v:Value} {x:DataW H × List MemPlace} (h:DataW.trod enc Tryz.prog w base spare held fuel 22 [v]=some x):∃ xs:List Lt,DAt w (.arr (xs.map Lt.d)) v:=by
 obtain ⟨a,len,cap,f,rfl,hl,hm,hS,hr⟩:=Sc (P:=Tryz.prog) 3 (by kernel_rfl) (by omega) Tryz.underlying22 h
 exact Se Lt.d hl hm hS fun i hi=>by
  obtain ⟨n,x',hn,h1⟩:=hr i hi
  exact Xo h1
theorem YT {fuel:Nat} {cs:List Value} {x:DataW H × List MemPlace} (h:DataW.trod enc Tryz.prog w base spare held fuel 24 cs=some x):∃ X:Cl,Lvs w X.d cs:=by
 obtain ⟨n,hn,hlen,hf⟩:=Sd Tryz.underlying24 h
 rw [show Tryz.prog.cellsOf 24=1 by kernel_rfl] at hlen
 match cs,hlen with
 | [c0],_ =>
  obtain ⟨y0,k0⟩:=hf 0 _ rfl
  have e0:(([c0].drop 0).take (Tryz.prog.cellsOf 22))=[c0]:=by rw [show Tryz.prog.cellsOf 22=1 by kernel_rfl]; rfl
  have k0':DataW.trod enc Tryz.prog w base spare held n 22 [c0]=some y0:=by rw [←e0]; exact k0
  obtain ⟨z0,g0⟩:=UW k0'
  exact ⟨⟨z0⟩,by rw [Cl.d_eq]; exact (.cons g0 .nil)⟩
theorem Xp {fuel:Nat} {v:Value} {x:DataW H × List MemPlace} (h:DataW.trod enc Tryz.prog w base spare held fuel 35 [v]=some x):∃ xs:List Cl,DAt w (.arr (xs.map Cl.d)) v:=by
 obtain ⟨a,len,cap,f,rfl,hl,hm,hS,hr⟩:=Sc (P:=Tryz.prog) 1 (by kernel_rfl) (by omega) Tryz.underlying35 h
 exact Se Cl.d hl hm hS fun i hi=>by
  obtain ⟨n,x',hn,h1⟩:=hr i hi
  exact YT h1
end
end Go.Proofs.YtibdknkacmimgaaGreatDoor
