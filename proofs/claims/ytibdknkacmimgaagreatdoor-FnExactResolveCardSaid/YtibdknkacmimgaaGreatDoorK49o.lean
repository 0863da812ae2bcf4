/-
  This text holds, one behind the other: This text tells what unifying answers in the reference. No condition.
  This text tells what resolvents and factors answer in the reference. No condition.
  This text holds plain laws of the sizes of clauses, for the laws of the program. No condition.
  This text holds sizes of what factors and resolvents come to. No condition.
  This text tells what the law of Resolve answers. No condition.
  This text opens arguments: slices of integers, of structs, of tables: what is read as data lies in memory as our words say. No condition.
  This text opens arguments: what is read as data, terms and formulas, lies in memory as our words say. No condition.
  This text turns a function's answer into a walk of the kit's form, and opens arguments that are clauses. No condition.
-/
import Derived.Test.YtibdknkacmimgaaGreatDoorK49b
import Derived.Test.YtibdknkacmimgaaGreatDoorK49c
import Derived.Test.YtibdknkacmimgaaGreatDoorK49d
import Derived.Test.YtibdknkacmimgaaGreatDoorK49e
import Derived.Test.YtibdknkacmimgaaGreatDoorK49j
import Derived.Test.YtibdknkacmimgaaGreatDoorK49k
import Derived.Test.YtibdknkacmimgaaGreatDoorK49l
import Derived.Test.YtibdknkacmimgaaGreatDoorK49m
import Derived.Test.YtibdknkacmimgaaGreatDoorK49n
import Derived.ProofKit
import Derived.Deep.Slices
import Derived.Deep.Fields
import Derived.ChangeSame
import Derived.OpenShut
import Derived.ShutString
import Derived.ChangeOld
set_option maxHeartbeats 16000000
open List renaming getElem?_eq_getElem → zA, getElem_mem → zE, range → zF, map_nil → zH, length_map → zI
open Bool renaming and_eq_true → zB
open Int renaming toNat_natCast → zC
open Option renaming isSome_some → zD
open Array renaming getElem?_eq_some_iff → zG
set_option maxRecDepth 100000
set_option linter.unusedSimpArgs false
set_option linter.unusedVariables false
set_option linter.unusedSectionVars false
namespace Go.Proofs.YtibdknkacmimgaaGreatDoor
open Go.RowKit
theorem QbC (a b:Tm) (ha:a.expr=true) (hb:b.expr=true) (n:Nat) (total:Option Sb) (hr:BI n ⟨[]⟩ [(a,b)]=some total):E 50 [a.sv,b.sv] []=some (.tup [(uTo total).sv,.bool (uOk total)],[]):=by
  have hres:∀ t:Sb,t.sv=.agg [.arr (t.binds.map Bd.d)]:=fun t=>rfl
  rw [hres]
  refine Ad SE Et (of_decide_eq_true rfl) ?_
  simp (disch:=omega) only [Lr,go_sem,Aa]
  refine go_loop (α:=Nat × Bool × Bool × Sb × List (Tm × Tm)) u5H (u5R total) (fun a=>a.1) (n,true,true,⟨[]⟩,[(a,b)]) ⟨uInv.start ha hb,hr,fun _=>rfl⟩ (by simp (disch:=omega) only [go_sem,Aa,u5H]; rfl) ?_
  clear hr ha hb
  rintro ⟨n,sn,lo,s,l⟩ ⟨hinv,hrun,hsn⟩
  dsimp only at hinv hrun hsn
  have hs:=hinv.ok
  have hst:=DX hs
  cases n with
  | zero=>rw [BI] at hrun; cases hrun
  | succ n =>
  cases l with
  | nil =>
    rw [BI] at hrun
    obtain rfl:=Option.some.inj hrun
    have hk:uTo (some s)=s:=rfl
    rw [hk]
    cases sn with
    | true =>
      obtain rfl:s=⟨[]⟩:=by obtain ⟨bs⟩:=s; have:=hsn rfl; rw [show bs=[] from this]
      cases lo with
      | true =>
        simp (disch:=omega) only [go_sem,Aa,u5H,u5b,u5r,uOk,zD,zH]
        try rfl
      | false =>
        simp (disch:=omega) only [go_sem,Aa,u5H,u5b,u5r,uOk,zD,zH]
        try rfl
    | false =>
      cases lo with
      | true =>
        simp (disch:=omega) only [go_sem,Aa,u5H,u5b,u5r,uOk,zD,zH]
        try rfl
      | false =>
        simp (disch:=omega) only [go_sem,Aa,u5H,u5b,u5r,uOk,zD,zH]
        try rfl
  | cons p l =>
    have hcmb:(sn=true∧lo=true)∨(sn=true∧lo=false)∨(sn=false∧lo=true)∨(sn=false∧lo=false):=by cases sn <;> cases lo <;> simp
    rcases hcmb with ⟨rfl,rfl⟩ | ⟨rfl,rfl⟩ | ⟨rfl,rfl⟩ | ⟨rfl,rfl⟩
    · exact Qfg total n s p l hinv hrun hsn
    · exact Qfh total n s p l hinv hrun hsn
    · exact Qfi total n s p l hinv hrun hsn
    · exact Qfj total n s p l hinv hrun hsn
def Ip:SC:=(.seq (.reg [⟨some 4,none,.mv (.c .nil)⟩]) (.seq (.dreg [[],[],[],[1,2],[0,3,1,2],[],[],[6],[5,7,6],[4,0,3,1,2,8,5,7,6],[9,4,0,3,1,2,8,5,7,6]] [⟨(some 5),none,(.mkrow 73 3 [(.bool false),(.str ⟨#[]⟩),.nil] 0 [])⟩,⟨some 6,none,.mv (.t 0)⟩,⟨some 7,none,.mv (.t 1)⟩,⟨some 8,none,.slice false 3 (.t 6) none (some (.t 7))⟩,⟨(some 9),none,(.append 73 3 48 [(.bool false),(.str ⟨#[]⟩),.nil] (.t 5) (.t 8))⟩,⟨some 10,none,.mv (.t 0)⟩,⟨some 11,none,.mv (.t 1)⟩,⟨some 12,none,.bin .add false (.t 11) (.c (.int .i64 1))⟩,⟨some 13,none,.slice false 3 (.t 10) (some (.t 12)) none⟩,⟨(some 14),none,(.append 73 3 48 [(.bool false),(.str ⟨#[]⟩),.nil] (.t 9) (.t 13))⟩,⟨some 4,none,.mv (.t 14)⟩]) .ret))
theorem Ol:codeOf Tryz.prog 52=some ⟨15,Ip,[(.tmp 4)]⟩:=by kernel_rfl
theorem F1:modes 52=⟨[],.asis,none,false⟩:=by unfold modes; rfl
theorem JN (l:List Lt) (hl:l.length≤1048575) (p:Nat) (h1:p<l.length):E 52 [.arr (l.map Lt.d),.int .i64 (p:Int)] []=some (.ref 0,[.row 73 3 ((l.eraseIdx p).map (fun b:Lt=>b.d.map D.ot))]):=by
 have tp:=zC p
 have tp1:((p:Int)+1).toNat=p+1:=by omega
 have e1:=Lt.ot_take l p
 have e2:=Lt.ot_drop l (p+1)
 have e6:=Lt.ald3 l
 have e7:(l.map Lt.d).take l.length=l.map Lt.d:=List.take_of_length_le (by rw [zI]; exact Nat.le_refl _)
 have e8:((l.map Lt.d).drop (p+1)).length=l.length-(p+1):=by rw [List.length_drop,zI]
 have e3:=Lt.al3 (l.take p)
 have e4:=Lt.al3 (l.drop (p+1))
 have hlt:(l.take p).length=p:=by rw [List.length_take]; omega
 have hld:(l.drop (p+1)).length=l.length-(p+1):=List.length_drop
 have e5:(l.take p).map (fun b:Lt=>b.d.map D.ot)++(l.drop (p+1)).map (fun b:Lt=>b.d.map D.ot)=(l.eraseIdx p).map (fun b:Lt=>b.d.map D.ot):=by rw [←List.map_append,List.eraseIdx_eq_take_drop_succ]
 refine Ad Ol F1 (of_decide_eq_true rfl) ?_
 simp (disch:=omega) only [Ip,go_sem,Aa,tp,tp1,e1,e2,e3,e4,e5,e6,e7,e8,hlt,hld]
def E0:SC:=(.seq (.reg [⟨some 2,none,.boxv 76 1 (.t 0)⟩,⟨some 4,none,.alloc 28 [.nil]⟩,⟨some 5,none,.mv (.c (.bool false))⟩]) (.seq (.reg [⟨some 11,none,.load true 1 (.t 2)⟩,⟨some 12,none,.mv (.t 1)⟩,⟨some 13,none,.call 79 [(.t 11),(.t 12)]⟩,⟨some 10,none,.mv (.t 13)⟩,⟨some 14,none,.ext (.t 10) 0⟩,⟨some 15,none,.ext (.t 10) 1⟩,⟨some 6,none,.alloc 28 [.nil]⟩,⟨none,none,(.store 1 (.t 6) (.t 14))⟩,⟨some 7,none,.mv (.t 15)⟩]) (.seq (.seq (.reg [⟨some 16,none,.mv (.t 7)⟩,⟨some 17,none,.un .not (.t 16)⟩]) (.cond (.t 17) (.seq (.reg [⟨some 18,none,.build [.nil] []⟩,⟨none,none,(.store 1 (.t 4) (.t 18))⟩,⟨some 5,none,.mv (.c (.bool false))⟩]) .ret) .skip)) (.seq (.reg [⟨some 20,none,.load true 1 (.t 6)⟩,⟨some 21,none,.call 80 [(.t 20)]⟩,⟨some 19,none,.mv (.t 21)⟩,⟨some 22,none,.ext (.t 19) 0⟩,⟨some 23,none,.ext (.t 19) 1⟩,⟨some 8,none,.alloc 28 [.nil]⟩,⟨none,none,(.store 1 (.t 8) (.t 22))⟩,⟨some 9,none,.mv (.t 23)⟩]) (.seq (.seq (.reg [⟨some 24,none,.mv (.t 9)⟩,⟨some 25,none,.un .not (.t 24)⟩,⟨some 26,none,.mv (.t 25)⟩,⟨(some 27),(some (26,false)),(.load true 1 (.t 8))⟩,⟨(some 28),(some (26,false)),(.call 48 [(.t 27)])⟩,⟨(some 29),(some (26,false)),(.un .not (.t 28))⟩,⟨some 30,none,.pick (.t 26) (.c (.bool true)) (.t 29)⟩]) (.cond (.t 30) (.seq (.reg [⟨some 31,none,.build [.nil] []⟩,⟨none,none,(.store 1 (.t 4) (.t 31))⟩,⟨some 5,none,.mv (.c (.bool false))⟩]) .ret) .skip)) (.seq (.reg [⟨some 32,none,.load true 1 (.t 8)⟩,⟨none,none,(.store 1 (.t 4) (.t 32))⟩,⟨some 5,none,.mv (.c (.bool true))⟩]) .ret))))))
theorem FT:codeOf Tryz.prog 51=some ⟨33,E0,[(.cell 4 true 1),(.tmp 5)]⟩:=by kernel_rfl
theorem Dt:modes 51=⟨[],.frz,none,false⟩:=by unfold modes; rfl
theorem PJ (s:Sb) (hs:s.ok=true) (ht:s.tame) (l:List Lt) (hl:l.length≤1048576) (hal:∀ x∈l,x.atom.atom=true):E 51 [s.sv,.arr (l.map Lt.d)] []=some (.tup [(Qc s l).sv,.bool (Fw s l)],[]):=by
 have h1:=Qbz s hs ht l hl hal
 have hsv:∀ d:Cl,d.sv=.agg [.arr (d.lits.map Lt.d)]:=fun d=>rfl
 have hss:s.sv=.agg [.arr (s.binds.map Bd.d)]:=rfl
 rw [hss,hsv] at h1
 rw [hss,hsv]
 cases hok:E4 s l with
 | false =>
  have ho:Fw s l=false:=by unfold Fw; rw [hok]; rfl
  have hz:(Cl.mk []).lits=[]:=rfl
  rw [OS hok,hok] at h1
  rw [Oh ho,ho]
  refine Ad FT Dt (of_decide_eq_true rfl) ?_
  simp (disch:=omega) only [E0,go_sem,Aa,h1,Fp]
 | true =>
  have hc:=Z8 hok
  obtain ⟨c,hcc⟩:∃ c,c=apC s l:=⟨_,rfl⟩
  rw [←hcc] at hc h1
  have h2:=ZC c hc
  have hn:=Qa7 10 hc
  have h3:=JM (nz 10 c) hn
  rw [hok] at h1
  rw [hsv,hsv] at h2
  rw [hsv] at h3
  have hio:Fw s l=(nz 10 c).norm:=by unfold Fw; rw [hok,Bool.true_and,hcc]
  cases hm:(nz 10 c).norm with
  | false =>
   rw [hm] at h3 hio
   rw [Oh hio,hio]
   refine Ad FT Dt (of_decide_eq_true rfl) ?_
   simp (disch:=omega) only [E0,go_sem,Aa,h1,h2,h3,GB,BT,Fp]
  | true =>
   rw [hm] at h3 hio
   rw [S4 hio,hio,← hcc]
   refine Ad FT Dt (of_decide_eq_true rfl) ?_
   simp (disch:=omega) only [E0,go_sem,Aa,h1,h2,h3,GB,BT,Fp]
theorem SF (a b:Tm) (ha:a.atom=true) (hb:b.atom=true):E 50 [a.sv,b.sv] []=some (.tup [(uTo (unR a b)).sv,.bool (uOk (unR a b))],[]):=by
 obtain ⟨n,hn⟩:=S3 (Tm.B0 ha) (Tm.B0 hb)
 exact QbC a b (Tm.B0 ha) (Tm.B0 hb) n _ hn
theorem QbD (c:Cl) (i k:Int) (hi:hasB c i=true):(dec (i+1≤k)&&dec (k≤(c.lits.length:Int)-1))=(hasB c k&&dec (i<k)):=by
 obtain ⟨p,rfl,hp⟩:=GO hi
 unfold hasB
 by_cases h1:(p:Int)+1≤k
 ·rw [Ay h1,Ay (show (p:Int)<k by omega),Ay (show 0≤k by omega)]
  simp
 ·rw [A8 h1,A8 (show ¬ (p:Int)<k by omega)]
  simp
def CA:SC:=(.seq (.reg [⟨some 3,none,.boxv 28 1 (.t 0)⟩,⟨some 6,none,.alloc 28 [.nil]⟩,⟨some 7,none,.mv (.c (.bool false))⟩]) (.seq (.seq (.dreg [[],[],[1],[2,1],[3,2,1],[0,4,3,2,1],[5,0,4,3,2,1],[6,5,0,4,3,2,1],[7,6,5,0,4,3,2,1],[7,6,5,0,4,3,2,1],[9,7,6,5,0,4,3,2,1],[7,6,5,0,4,3,2,1],[11,7,6,5,0,4,3,2,1],[12,11,7,6,5,0,4,3,2,1],[13,12,11,7,6,5,0,4,3,2,1],[8,7,6,5,0,4,3,2,1,10,9,14,13,12,11],[15,8,7,6,5,0,4,3,2,1,10,9,14,13,12,11],[7,6,5,0,4,3,2,1,16,15,8,10,9,14,13,12,11],[17,7,6,5,0,4,3,2,1,16,15,8,10,9,14,13,12,11],[18,17,7,6,5,0,4,3,2,1,16,15,8,10,9,14,13,12,11],[19,18,17,7,6,5,0,4,3,2,1,16,15,8,10,9,14,13,12,11],[18,17,7,6,5,0,4,3,2,1,16,15,8,10,9,14,13,12,11],[20,19,18,17,7,6,5,0,4,3,2,1,16,15,8,10,9,14,13,12,11,21],[22,20,19,18,17,7,6,5,0,4,3,2,1,16,15,8,10,9,14,13,12,11,21],[23,22,20,19,18,17,7,6,5,0,4,3,2,1,16,15,8,10,9,14,13,12,11,21],[18,17,7,6,5,0,4,3,2,1,16,15,8,10,9,14,13,12,11],[25,18,17,7,6,5,0,4,3,2,1,16,15,8,10,9,14,13,12,11],[18,17,7,6,5,0,4,3,2,1,16,15,8,10,9,14,13,12,11],[26,25,18,17,7,6,5,0,4,3,2,1,16,15,8,10,9,14,13,12,11,27],[28,26,25,18,17,7,6,5,0,4,3,2,1,16,15,8,10,9,14,13,12,11,27],[29,28,26,25,18,17,7,6,5,0,4,3,2,1,16,15,8,10,9,14,13,12,11,27],[24,23,22,20,19,18,17,7,6,5,0,4,3,2,1,16,15,8,10,9,14,13,12,11,21,30,29,28,26,25,27],[18,17,7,6,5,0,4,3,2,1,16,15,8,10,9,14,13,12,11,31,24,23,22,20,19,21,30,29,28,26,25,27]] [⟨some 10,none,.mv (.t 1)⟩,⟨some 11,none,.faddr 0 (.t 3)⟩,⟨some 12,none,.load false 1 (.t 11)⟩,⟨some 13,none,.len false (.t 12)⟩,⟨some 14,none,.bin .sub false (.t 13) (.c (.int .i64 1))⟩,⟨some 15,none,.call 49 [(.t 10),(.c (.int .i64 0)),(.t 14)]⟩,⟨some 16,none,.un .not (.t 15)⟩,⟨some 17,none,.mv (.t 16)⟩,⟨(some 18),(some (17,false)),(.mv (.t 2))⟩,⟨(some 19),(some (17,false)),(.mv (.t 1))⟩,⟨(some 20),(some (17,false)),(.bin .add false (.t 19) (.c (.int .i64 1)))⟩,⟨(some 21),(some (17,false)),(.faddr 0 (.t 3))⟩,⟨(some 22),(some (17,false)),(.load false 1 (.t 21))⟩,⟨(some 23),(some (17,false)),(.len false (.t 22))⟩,⟨(some 24),(some (17,false)),(.bin .sub false (.t 23) (.c (.int .i64 1)))⟩,⟨(some 25),(some (17,false)),(.call 49 [(.t 18),(.t 20),(.t 24)])⟩,⟨(some 26),(some (17,false)),(.un .not (.t 25))⟩,⟨some 27,none,.pick (.t 17) (.c (.bool true)) (.t 26)⟩,⟨some 28,none,.mv (.t 27)⟩,⟨(some 29),(some (28,false)),(.faddr 0 (.t 3))⟩,⟨(some 30),(some (28,false)),(.load false 1 (.t 29))⟩,⟨(some 31),(some (28,false)),(.mv (.t 1))⟩,⟨(some 32),(some (28,false)),(.iaddr 3 (.t 30) (.t 31))⟩,⟨(some 33),(some (28,false)),(.faddr 0 (.t 32))⟩,⟨(some 34),(some (28,false)),(.load false 1 (.t 33))⟩,⟨(some 35),(some (28,false)),(.faddr 0 (.t 3))⟩,⟨(some 36),(some (28,false)),(.load false 1 (.t 35))⟩,⟨(some 37),(some (28,false)),(.mv (.t 2))⟩,⟨(some 38),(some (28,false)),(.iaddr 3 (.t 36) (.t 37))⟩,⟨(some 39),(some (28,false)),(.faddr 0 (.t 38))⟩,⟨(some 40),(some (28,false)),(.load false 1 (.t 39))⟩,⟨(some 41),(some (28,false)),(.bin .neq true (.t 34) (.t 40))⟩,⟨some 42,none,.pick (.t 28) (.c (.bool true)) (.t 41)⟩]) (.cond (.t 42) (.seq (.reg [⟨some 43,none,.build [.nil] []⟩,⟨none,none,(.store 1 (.t 6) (.t 43))⟩,⟨some 7,none,.mv (.c (.bool false))⟩]) .ret) .skip)) (.seq (.dreg [[],[0],[],[1,0,2],[3,1,0,2],[4,3,1,0,2],[],[6],[],[7,6,8],[9,7,6,8],[10,9,7,6,8],[5,4,3,1,0,2,11,10,9,7,6,8],[12,5,4,3,1,0,2,11,10,9,7,6,8],[13,12,5,4,3,1,0,2,11,10,9,7,6,8],[13,12,5,4,3,1,0,2,11,10,9,7,6,8],[],[16,14,13,12,5,4,3,1,0,2,11,10,9,7,6,8],[15,13,12,5,4,3,1,0,2,11,10,9,7,6,8,17,16,14]] [⟨some 45,none,.faddr 0 (.t 3)⟩,⟨some 46,none,.load false 1 (.t 45)⟩,⟨some 47,none,.mv (.t 1)⟩,⟨some 48,none,.iaddr 3 (.t 46) (.t 47)⟩,⟨some 49,none,.faddr 1 (.t 48)⟩,⟨some 50,none,.load true 2 (.t 49)⟩,⟨some 51,none,.faddr 0 (.t 3)⟩,⟨some 52,none,.load false 1 (.t 51)⟩,⟨some 53,none,.mv (.t 2)⟩,⟨some 54,none,.iaddr 3 (.t 52) (.t 53)⟩,⟨some 55,none,.faddr 1 (.t 54)⟩,⟨some 56,none,.load true 2 (.t 55)⟩,⟨some 57,none,.call 50 [(.t 50),(.t 56)]⟩,⟨some 44,none,.mv (.t 57)⟩,⟨some 58,none,.ext (.t 44) 0⟩,⟨some 59,none,.ext (.t 44) 1⟩,⟨some 8,none,.alloc 76 [.nil]⟩,⟨none,none,(.store 1 (.t 8) (.t 58))⟩,⟨some 9,none,.mv (.t 59)⟩]) (.seq (.seq (.reg [⟨some 60,none,.mv (.t 9)⟩,⟨some 61,none,.un .not (.t 60)⟩]) (.cond (.t 61) (.seq (.reg [⟨some 62,none,.build [.nil] []⟩,⟨none,none,(.store 1 (.t 6) (.t 62))⟩,⟨some 7,none,.mv (.c (.bool false))⟩]) .ret) .skip)) (.seq (.dreg [[],[],[1],[],[2,1,3],[0,4,2,1,3],[5,0,4,2,1,3],[5,0,4,2,1,3],[6,5,0,4,2,1,3,7],[7,5,0,4,2,1,3,8,6]] [⟨some 63,none,.load true 1 (.t 8)⟩,⟨some 64,none,.faddr 0 (.t 3)⟩,⟨some 65,none,.load false 1 (.t 64)⟩,⟨some 66,none,.mv (.t 2)⟩,⟨some 67,none,.call 52 [(.t 65),(.t 66)]⟩,⟨some 68,none,.call 51 [(.t 63),(.t 67)]⟩,⟨some 69,none,.ext (.t 68) 0⟩,⟨some 70,none,.ext (.t 68) 1⟩,⟨none,none,(.store 1 (.t 6) (.t 69))⟩,⟨some 7,none,.mv (.t 70)⟩]) .ret)))))
theorem Du:codeOf Tryz.prog 30=some ⟨71,CA,[(.cell 6 true 1),(.tmp 7)]⟩:=by kernel_rfl
theorem CB:modes 30=⟨[],.frz,none,false⟩:=by unfold modes; rfl
theorem XZ (c:Cl) (hc:c.ok=true) (i k:Int):E 30 [c.sv,.int .i64 i,.int .i64 k] []=some (.tup [(VE c i k).sv,.bool (PG c i k)],[]):=by
 have hl:=Cl.ok_len hc
 have hsv:∀ d:Cl,d.sv=.agg [.arr (d.lits.map Lt.d)]:=fun d=>rfl
 have h1:=Qu i 0 ((c.lits.length:Int)-1)
 have h2:=Qu k (i+1) ((c.lits.length:Int)-1)
 rw [show (dec (0≤i)&&dec (i≤(c.lits.length:Int)-1))=hasB c i from rfl] at h1
 rw [hsv,hsv]
 cases hi:hasB c i with
 | false =>
  obtain ⟨e1,e2⟩:=JJ (JK (show Jm c i k=false by unfold Jm; rw [hi]; rfl))
  rw [hi] at h1
  rw [e1,e2]
  refine Ad Du CB (of_decide_eq_true rfl) ?_
  simp (disch:=omega) only [CA,go_sem,Aa,h1,h2,B5]
 | true =>
 rw [hi] at h1
 rw [QbD c i k hi] at h2
 obtain ⟨p,rfl,hp⟩:=GO hi
 have hP:Jm c p k=((hasB c k&&dec ((p:Int)<k))&&((Jl c p).pos == (Jl c k).pos)):=by unfold Jm; rw [hi,Bool.true_and,Bool.and_assoc]
 cases hk:hasB c k&&dec ((p:Int)<k) with
 | false =>
  obtain ⟨e1,e2⟩:=JJ (JK (show Jm c p k=false by rw [hP,hk]; rfl))
  rw [hk] at h2
  rw [e1,e2]
  refine Ad Du CB (of_decide_eq_true rfl) ?_
  simp (disch:=omega) only [CA,go_sem,Aa,h1,h2,B5]
 | true =>
 rw [hk] at h2
 have hk':=hk
 rw [zB] at hk'
 obtain ⟨q,rfl,hq⟩:=GO hk'.1
 have hgp:=get_at Lt.d hp
 have hgq:=get_at Lt.d hq
 rw [Lt.d_eq] at hgp hgq
 have tp:=zC p
 have tq:=zC q
 have ap:=Cl.BR hc _ (zE hp)
 have aq:=Cl.BR hc _ (zE hq)
 have lp:=Fx hp
 have lq:=Fx hq
 cases hpp:c.lits[p].pos == c.lits[q].pos with
 | false =>
  obtain ⟨e1,e2⟩:=JJ (JK (show Jm c p q=false by rw [hP,lp,lq,hpp,Bool.and_false]))
  rw [e1,e2]
  refine Ad Du CB (of_decide_eq_true rfl) ?_
  simp (disch:=omega) only [CA,go_sem,Aa,h1,h2,B5,hgp,hgq,tp,tq,hpp]
 | true =>
  have hT:=XT (show Jm c p q=true by rw [hP,hk,lp,lq,hpp]; rfl)
  rw [lp,lq] at hT
  have h3:=SF _ _ ap aq
  have hsp:c.lits[p].atom.sv=.agg [.str c.lits[p].atom.name,.arr (c.lits[p].atom.args.map Tm.d)]:=rfl
  have hsq:c.lits[q].atom.sv=.agg [.str c.lits[q].atom.name,.arr (c.lits[q].atom.args.map Tm.d)]:=rfl
  rw [hsp,hsq] at h3
  cases hu:unR c.lits[p].atom c.lits[q].atom with
  | none =>
   rw [hu] at hT h3
   have hus:uTo none=⟨[]⟩:=rfl
   have huo:uOk none=false:=rfl
   have hso:(Sb.mk []).sv=.agg [.arr []]:=rfl
   rw [hus,huo,hso] at h3
   obtain ⟨e1,e2⟩:=JJ hT
   rw [e1,e2]
   refine Ad Du CB (of_decide_eq_true rfl) ?_
   simp (disch:=omega) only [CA,go_sem,Aa,h1,h2,B5,hgp,hgq,tp,tq,hpp,h3,Et]
  | some s =>
   have hs:=VD (Tm.B0 ap) (Tm.B0 aq) hu
   rw [hu] at hT h3
   obtain ⟨e1,e2⟩:=XS hT
   rw [tq] at e1 e2
   rw [e1,e2]
   have h4:=JN c.lits (by omega) q hq
   have h5:=PJ s hs (DX hs) (c.lits.eraseIdx q) (by have:=LM hc q; omega) (Il hc q)
   have her:=Lt.der (c.lits.eraseIdx q)
   have hfu:=Lt.dfu (c.lits.eraseIdx q)
   have hus:uTo (some s)=s:=rfl
   have huo:uOk (some s)=true:=rfl
   have hss:s.sv=.agg [.arr (s.binds.map Bd.d)]:=rfl
   rw [hus,huo,hss] at h3
   rw [hss,hsv] at h5
   refine Ad Du CB (of_decide_eq_true rfl) ?_
   simp (disch:=omega) only [CA,go_sem,Aa,h1,h2,B5,hgp,hgq,tp,tq,hpp,h3,h4,h5,her,hfu,Et,F1,Dt]
def Cv:SC:=(.seq (.reg [⟨some 4,none,.boxv 28 1 (.t 0)⟩,⟨some 6,none,.boxv 28 1 (.t 2)⟩,⟨some 8,none,.alloc 28 [.nil]⟩,⟨some 9,none,.mv (.c (.bool false))⟩]) (.seq (.reg [⟨some 13,none,.load true 1 (.t 6)⟩,⟨some 14,none,.call 64 [(.t 13)]⟩,⟨some 10,none,.alloc 28 [.nil]⟩,⟨none,none,(.store 1 (.t 10) (.t 14))⟩]) (.seq (.seq (.dreg [[],[],[1],[2,1],[3,2,1],[0,4,3,2,1],[5,0,4,3,2,1],[6,5,0,4,3,2,1],[7,6,5,0,4,3,2,1],[7,6,5,0,4,3,2,1],[9,7,6,5,0,4,3,2,1],[10,9,7,6,5,0,4,3,2,1],[11,10,9,7,6,5,0,4,3,2,1],[8,7,6,5,0,4,3,2,1,12,11,10,9],[13,8,7,6,5,0,4,3,2,1,12,11,10,9],[7,6,5,0,4,3,2,1,14,13,8,12,11,10,9],[15,7,6,5,0,4,3,2,1,14,13,8,12,11,10,9],[16,15,7,6,5,0,4,3,2,1,14,13,8,12,11,10,9],[17,16,15,7,6,5,0,4,3,2,1,14,13,8,12,11,10,9],[16,15,7,6,5,0,4,3,2,1,14,13,8,12,11,10,9],[18,17,16,15,7,6,5,0,4,3,2,1,14,13,8,12,11,10,9,19],[20,18,17,16,15,7,6,5,0,4,3,2,1,14,13,8,12,11,10,9,19],[21,20,18,17,16,15,7,6,5,0,4,3,2,1,14,13,8,12,11,10,9,19],[16,15,7,6,5,0,4,3,2,1,14,13,8,12,11,10,9],[23,16,15,7,6,5,0,4,3,2,1,14,13,8,12,11,10,9],[16,15,7,6,5,0,4,3,2,1,14,13,8,12,11,10,9],[24,23,16,15,7,6,5,0,4,3,2,1,14,13,8,12,11,10,9,25],[26,24,23,16,15,7,6,5,0,4,3,2,1,14,13,8,12,11,10,9,25],[27,26,24,23,16,15,7,6,5,0,4,3,2,1,14,13,8,12,11,10,9,25],[22,21,20,18,17,16,15,7,6,5,0,4,3,2,1,14,13,8,12,11,10,9,19,28,27,26,24,23,25],[16,15,7,6,5,0,4,3,2,1,14,13,8,12,11,10,9,29,22,21,20,18,17,19,28,27,26,24,23,25]] [⟨some 15,none,.mv (.t 1)⟩,⟨some 16,none,.faddr 0 (.t 4)⟩,⟨some 17,none,.load false 1 (.t 16)⟩,⟨some 18,none,.len false (.t 17)⟩,⟨some 19,none,.bin .sub false (.t 18) (.c (.int .i64 1))⟩,⟨some 20,none,.call 49 [(.t 15),(.c (.int .i64 0)),(.t 19)]⟩,⟨some 21,none,.un .not (.t 20)⟩,⟨some 22,none,.mv (.t 21)⟩,⟨(some 23),(some (22,false)),(.mv (.t 3))⟩,⟨(some 24),(some (22,false)),(.faddr 0 (.t 10))⟩,⟨(some 25),(some (22,false)),(.load false 1 (.t 24))⟩,⟨(some 26),(some (22,false)),(.len false (.t 25))⟩,⟨(some 27),(some (22,false)),(.bin .sub false (.t 26) (.c (.int .i64 1)))⟩,⟨(some 28),(some (22,false)),(.call 49 [(.t 23),(.c (.int .i64 0)),(.t 27)])⟩,⟨(some 29),(some (22,false)),(.un .not (.t 28))⟩,⟨some 30,none,.pick (.t 22) (.c (.bool true)) (.t 29)⟩,⟨some 31,none,.mv (.t 30)⟩,⟨(some 32),(some (31,false)),(.faddr 0 (.t 4))⟩,⟨(some 33),(some (31,false)),(.load false 1 (.t 32))⟩,⟨(some 34),(some (31,false)),(.mv (.t 1))⟩,⟨(some 35),(some (31,false)),(.iaddr 3 (.t 33) (.t 34))⟩,⟨(some 36),(some (31,false)),(.faddr 0 (.t 35))⟩,⟨(some 37),(some (31,false)),(.load false 1 (.t 36))⟩,⟨(some 38),(some (31,false)),(.faddr 0 (.t 10))⟩,⟨(some 39),(some (31,false)),(.load false 1 (.t 38))⟩,⟨(some 40),(some (31,false)),(.mv (.t 3))⟩,⟨(some 41),(some (31,false)),(.iaddr 3 (.t 39) (.t 40))⟩,⟨(some 42),(some (31,false)),(.faddr 0 (.t 41))⟩,⟨(some 43),(some (31,false)),(.load false 1 (.t 42))⟩,⟨(some 44),(some (31,false)),(.bin .eql true (.t 37) (.t 43))⟩,⟨some 45,none,.pick (.t 31) (.c (.bool true)) (.t 44)⟩]) (.cond (.t 45) (.seq (.reg [⟨some 46,none,.build [.nil] []⟩,⟨none,none,(.store 1 (.t 8) (.t 46))⟩,⟨some 9,none,.mv (.c (.bool false))⟩]) .ret) .skip)) (.seq (.dreg [[],[0],[],[1,0,2],[3,1,0,2],[4,3,1,0,2],[],[6],[],[7,6,8],[9,7,6,8],[10,9,7,6,8],[5,4,3,1,0,2,11,10,9,7,6,8],[12,5,4,3,1,0,2,11,10,9,7,6,8],[13,12,5,4,3,1,0,2,11,10,9,7,6,8],[13,12,5,4,3,1,0,2,11,10,9,7,6,8],[],[16,14,13,12,5,4,3,1,0,2,11,10,9,7,6,8],[15,13,12,5,4,3,1,0,2,11,10,9,7,6,8,17,16,14]] [⟨some 48,none,.faddr 0 (.t 4)⟩,⟨some 49,none,.load false 1 (.t 48)⟩,⟨some 50,none,.mv (.t 1)⟩,⟨some 51,none,.iaddr 3 (.t 49) (.t 50)⟩,⟨some 52,none,.faddr 1 (.t 51)⟩,⟨some 53,none,.load true 2 (.t 52)⟩,⟨some 54,none,.faddr 0 (.t 10)⟩,⟨some 55,none,.load false 1 (.t 54)⟩,⟨some 56,none,.mv (.t 3)⟩,⟨some 57,none,.iaddr 3 (.t 55) (.t 56)⟩,⟨some 58,none,.faddr 1 (.t 57)⟩,⟨some 59,none,.load true 2 (.t 58)⟩,⟨some 60,none,.call 50 [(.t 53),(.t 59)]⟩,⟨some 47,none,.mv (.t 60)⟩,⟨some 61,none,.ext (.t 47) 0⟩,⟨some 62,none,.ext (.t 47) 1⟩,⟨some 11,none,.alloc 76 [.nil]⟩,⟨none,none,(.store 1 (.t 11) (.t 61))⟩,⟨some 12,none,.mv (.t 62)⟩]) (.seq (.seq (.reg [⟨some 63,none,.mv (.t 12)⟩,⟨some 64,none,.un .not (.t 63)⟩]) (.cond (.t 64) (.seq (.reg [⟨some 65,none,.build [.nil] []⟩,⟨none,none,(.store 1 (.t 8) (.t 65))⟩,⟨some 9,none,.mv (.c (.bool false))⟩]) .ret) .skip)) (.seq (.dreg [[],[],[1],[],[2,1,3],[],[5],[],[6,5,7,4,2,1,3],[4,2,1,3,8,6,5,7],[0,9,4,2,1,3,8,6,5,7],[10,0,9,4,2,1,3,8,6,5,7],[10,0,9,4,2,1,3,8,6,5,7],[11,10,0,9,4,2,1,3,8,6,5,7,12],[12,10,0,9,4,2,1,3,8,6,5,7,13,11]] [⟨some 66,none,.load true 1 (.t 11)⟩,⟨some 67,none,.faddr 0 (.t 4)⟩,⟨some 68,none,.load false 1 (.t 67)⟩,⟨some 69,none,.mv (.t 1)⟩,⟨some 70,none,.call 52 [(.t 68),(.t 69)]⟩,⟨some 71,none,.faddr 0 (.t 10)⟩,⟨some 72,none,.load false 1 (.t 71)⟩,⟨some 73,none,.mv (.t 3)⟩,⟨some 74,none,.call 52 [(.t 72),(.t 73)]⟩,⟨(some 75),none,(.append 73 3 48 [(.bool false),(.str ⟨#[]⟩),.nil] (.t 70) (.t 74))⟩,⟨some 76,none,.call 51 [(.t 66),(.t 75)]⟩,⟨some 77,none,.ext (.t 76) 0⟩,⟨some 78,none,.ext (.t 76) 1⟩,⟨none,none,(.store 1 (.t 8) (.t 77))⟩,⟨some 9,none,.mv (.t 78)⟩]) .ret))))))
theorem CW:codeOf Tryz.prog 37=some ⟨79,Cv,[(.cell 8 true 1),(.tmp 9)]⟩:=by kernel_rfl
theorem Cw:modes 37=⟨[],.frz,none,false⟩:=by unfold modes; rfl
theorem VI (c:Cl) (hc:c.ok=true) (i:Int) (d:Cl) (hd:d.ok=true) (hdn:d.norm=true) (k:Int):E 37 [c.sv,.int .i64 i,d.sv,.int .i64 k] []=some (.tup [(S6 c i d k).sv,.bool (PH c i d k)],[]):=by
 have hl:=Cl.ok_len hc
 have hld:=Cl.ok_len hd
 have hsv:∀ d:Cl,d.sv=.agg [.arr (d.lits.map Lt.d)]:=fun d=>rfl
 have h0:=QbB d hd
 have ho:=Cl.QaG hd
 have hal:=Cl.VF hd hdn
 have hahb:=Cl.Qep hd hdn k
 have hapo:∀ q:Nat,q<d.lits.length→(Jl d.ap q).pos=(Jl d q).pos:=fun q hq=>Cl.Qfa hd hdn hq
 obtain ⟨e,hee⟩:∃ e,e=d.ap:=⟨_,rfl⟩
 rw [show d.rn (Do Gp d.ns)=e from hee.symm] at h0
 rw [←hee] at ho hal hahb hapo
 have hle:=Cl.ok_len ho
 have h1:=Qu i 0 ((c.lits.length:Int)-1)
 have h2:=Qu k 0 ((e.lits.length:Int)-1)
 rw [show (dec (0≤i)&&dec (i≤(c.lits.length:Int)-1))=hasB c i from rfl] at h1
 rw [show (dec (0≤k)&&dec (k≤(e.lits.length:Int)-1))=hasB e k from rfl,hahb] at h2
 rw [hsv,hsv] at h0
 rw [hsv,hsv,hsv]
 cases hi:hasB c i with
 | false =>
  obtain ⟨e1,e2⟩:=Lm (LN (show JL c i d k=false by unfold JL; rw [hi]; rfl))
  rw [hi] at h1
  rw [e1,e2]
  refine Ad CW Cw (of_decide_eq_true rfl) ?_
  simp (disch:=omega) only [Cv,go_sem,Aa,h0,h1,h2,B5,Ds]
 | true =>
 rw [hi] at h1
 cases hk:hasB d k with
 | false =>
  obtain ⟨e1,e2⟩:=Lm (LN (show JL c i d k=false by unfold JL; rw [hk,Bool.false_and,Bool.and_false]))
  rw [hk] at h2
  rw [e1,e2]
  refine Ad CW Cw (of_decide_eq_true rfl) ?_
  simp (disch:=omega) only [Cv,go_sem,Aa,h0,h1,h2,B5,Ds]
 | true =>
 rw [hk] at h2
 obtain ⟨p,rfl,hp⟩:=GO hi
 obtain ⟨q,rfl,hq⟩:=GO hk
 have hqe:q<e.lits.length:=by omega
 have hgp:=get_at Lt.d hp
 have hgq:=get_at Lt.d hqe
 rw [Lt.d_eq] at hgp hgq
 have tp:=zC p
 have tq:=zC q
 have ap:=Cl.BR hc _ (zE hp)
 have aq:=Cl.BR ho _ (zE hqe)
 have lp:=Fx hp
 have lq:=Fx hqe
 have hpe:=hapo q hq
 rw [lq] at hpe
 cases hpp:c.lits[p].pos == e.lits[q].pos with
 | true =>
  obtain ⟨e1,e2⟩:=Lm (LN (show JL c p d q=false by unfold JL; rw [lp,← hpe,hpp]; simp))
  rw [e1,e2]
  refine Ad CW Cw (of_decide_eq_true rfl) ?_
  simp (disch:=omega) only [Cv,go_sem,Aa,h0,h1,h2,B5,Ds,hgp,hgq,tp,tq,hpp]
 | false =>
  have hT:=XV (show JL c p d q=true by unfold JL; rw [hi,hk,lp,← hpe,hpp]; rfl)
  have hrl:S5 c p d q=c.lits.eraseIdx p++e.lits.eraseIdx q:=by unfold S5; rw [tp,tq,hee]
  have hla:=S7 hc hd p q
  have hll:=XW hc hd p q
  rw [hrl] at hla hll
  rw [←hee,lp,lq] at hT
  have h3:=SF _ _ ap aq
  have hsp:c.lits[p].atom.sv=.agg [.str c.lits[p].atom.name,.arr (c.lits[p].atom.args.map Tm.d)]:=rfl
  have hsq:e.lits[q].atom.sv=.agg [.str e.lits[q].atom.name,.arr (e.lits[q].atom.args.map Tm.d)]:=rfl
  rw [hsp,hsq] at h3
  cases hu:unR c.lits[p].atom e.lits[q].atom with
  | none =>
   rw [hu] at hT h3
   have hus:uTo none=⟨[]⟩:=rfl
   have huo:uOk none=false:=rfl
   have hso:(Sb.mk []).sv=.agg [.arr []]:=rfl
   rw [hus,huo,hso] at h3
   obtain ⟨e1,e2⟩:=Lm hT
   rw [e1,e2]
   refine Ad CW Cw (of_decide_eq_true rfl) ?_
   simp (disch:=omega) only [Cv,go_sem,Aa,h0,h1,h2,B5,Ds,hgp,hgq,tp,tq,hpp,h3,Et]
  | some s =>
   have hs:=VD (Tm.B0 ap) (Tm.B0 aq) hu
   rw [hu] at hT h3
   obtain ⟨e1,e2⟩:=XU hT
   rw [hrl] at e1 e2
   rw [e1,e2]
   have h4:=JN c.lits (by omega) p hp
   have h6:=JN e.lits (by omega) q hqe
   have h5:=PJ s hs (DX hs) (c.lits.eraseIdx p++e.lits.eraseIdx q) (by omega) hla
   have her:=Lt.der (c.lits.eraseIdx p++e.lits.eraseIdx q)
   have hfu:=Lt.dfu (c.lits.eraseIdx p++e.lits.eraseIdx q)
   have hap:(c.lits.eraseIdx p).map (fun b:Lt=>b.d.map D.ot)++(e.lits.eraseIdx q).map (fun b:Lt=>b.d.map D.ot)=(c.lits.eraseIdx p++e.lits.eraseIdx q).map (fun b:Lt=>b.d.map D.ot):=by rw [List.map_append]
   have hl3:=Lt.al3 (e.lits.eraseIdx q)
   have hc1:(c.lits.eraseIdx p).length=c.lits.length-1:=by rw [List.length_eraseIdx]; simp [hp]
   have hc2:(e.lits.eraseIdx q).length=e.lits.length-1:=by rw [List.length_eraseIdx]; simp [hqe]
   have hus:uTo (some s)=s:=rfl
   have huo:uOk (some s)=true:=rfl
   have hss:s.sv=.agg [.arr (s.binds.map Bd.d)]:=rfl
   rw [hus,huo,hss] at h3
   rw [hss,hsv] at h5
   refine Ad CW Cw (of_decide_eq_true rfl) ?_
   simp (disch:=omega) only [Cv,go_sem,Aa,h0,h1,h2,B5,Ds,hgp,hgq,tp,tq,hpp,h3,h4,h6,h5,her,hfu,hap,hl3,hc1,hc2,Et,F1,Dt]
def IE:SC:=(.seq (.reg [⟨some 3,none,.boxv 28 1 (.t 0)⟩,⟨some 6,none,.alloc 28 [.nil]⟩,⟨some 7,none,.mv (.c (.bool false))⟩]) (.seq (.seq (.reg [⟨some 8,none,.load true 1 (.t 3)⟩,⟨some 9,none,.call 29 [(.t 8)]⟩,⟨some 10,none,.un .not (.t 9)⟩]) (.cond (.t 10) (.seq (.reg [⟨some 11,none,.build [.nil] []⟩,⟨none,none,(.store 1 (.t 6) (.t 11))⟩,⟨some 7,none,.mv (.c (.bool false))⟩]) .ret) .skip)) (.seq (.reg [⟨some 12,none,.load true 1 (.t 3)⟩,⟨some 13,none,.mv (.t 1)⟩,⟨some 14,none,.mv (.t 2)⟩,⟨some 15,none,.call 30 [(.t 12),(.t 13),(.t 14)]⟩,⟨some 16,none,.ext (.t 15) 0⟩,⟨some 17,none,.ext (.t 15) 1⟩,⟨none,none,(.store 1 (.t 6) (.t 16))⟩,⟨some 7,none,.mv (.t 17)⟩]) .ret)))
theorem Mw:codeOf Tryz.prog 9=some ⟨18,IE,[(.cell 6 true 1),(.tmp 7)]⟩:=by kernel_rfl
theorem My:modes 9=⟨[],.frz,none,false⟩:=by unfold modes; rfl
theorem Qes (c:Cl) (hc:c.tame) (i k:Int):E 9 [c.sv,.int .i64 i,.int .i64 k] []=some (.tup [(Z9 c i k).sv,.bool (Qb8 c i k)],[]):=by
 have hsv:∀ d:Cl,d.sv=.agg [.arr (d.lits.map Lt.d)]:=fun d=>rfl
 have h1:=MU c hc
 rw [hsv] at h1
 rw [hsv,hsv]
 cases hr:c.ok&&c.norm with
 | false =>
  rw [hr] at h1
  obtain ⟨e1,e2⟩:=Qe7 (i:=i) (k:=k) hr
  rw [e1,e2]
  refine Ad Mw My (of_decide_eq_true rfl) ?_
  simp (disch:=omega) only [IE,go_sem,Aa,h1,Cz]
 | true =>
  rw [hr] at h1
  obtain ⟨e1,e2⟩:=Qdn (i:=i) (k:=k) hr
  rw [zB] at hr
  have h2:=XZ c hr.1 i k
  rw [hsv,hsv] at h2
  rw [e1,e2]
  refine Ad Mw My (of_decide_eq_true rfl) ?_
  simp (disch:=omega) only [IE,go_sem,Aa,h1,h2,Cz,CB]
def F2:SC:=(.seq (.reg [⟨some 4,none,.boxv 28 1 (.t 0)⟩,⟨some 6,none,.boxv 28 1 (.t 2)⟩,⟨some 8,none,.alloc 28 [.nil]⟩,⟨some 9,none,.mv (.c (.bool false))⟩]) (.seq (.seq (.reg [⟨some 10,none,.load true 1 (.t 4)⟩,⟨some 11,none,.call 29 [(.t 10)]⟩,⟨some 12,none,.un .not (.t 11)⟩,⟨some 13,none,.mv (.t 12)⟩,⟨(some 14),(some (13,false)),(.load true 1 (.t 6))⟩,⟨(some 15),(some (13,false)),(.call 29 [(.t 14)])⟩,⟨(some 16),(some (13,false)),(.un .not (.t 15))⟩,⟨some 17,none,.pick (.t 13) (.c (.bool true)) (.t 16)⟩]) (.cond (.t 17) (.seq (.reg [⟨some 18,none,.build [.nil] []⟩,⟨none,none,(.store 1 (.t 8) (.t 18))⟩,⟨some 9,none,.mv (.c (.bool false))⟩]) .ret) .skip)) (.seq (.reg [⟨some 19,none,.load true 1 (.t 4)⟩,⟨some 20,none,.mv (.t 1)⟩,⟨some 21,none,.load true 1 (.t 6)⟩,⟨some 22,none,.mv (.t 3)⟩,⟨some 23,none,.call 37 [(.t 19),(.t 20),(.t 21),(.t 22)]⟩,⟨some 24,none,.ext (.t 23) 0⟩,⟨some 25,none,.ext (.t 23) 1⟩,⟨none,none,(.store 1 (.t 8) (.t 24))⟩,⟨some 9,none,.mv (.t 25)⟩]) .ret)))
theorem HF:codeOf Tryz.prog 22=some ⟨26,F2,[(.cell 8 true 1),(.tmp 9)]⟩:=by kernel_rfl
theorem CK:modes 22=⟨[],.frz,none,false⟩:=by unfold modes; rfl
theorem Tu (c:Cl) (hc:c.tame) (i:Int) (d:Cl) (hd:d.tame) (k:Int):E 22 [c.sv,.int .i64 i,d.sv,.int .i64 k] []=some (.tup [(Ts c i d k).sv,.bool (ZA c i d k)],[]):=by
 have hsv:∀ d:Cl,d.sv=.agg [.arr (d.lits.map Lt.d)]:=fun d=>rfl
 have h1:=MU c hc
 have h3:=MU d hd
 rw [hsv] at h1 h3
 rw [hsv,hsv,hsv]
 cases hr:c.ok&&c.norm with
 | false =>
  rw [hr] at h1
  obtain ⟨e1,e2⟩:=QaI (i:=i) (d:=d) (k:=k) (show ((c.ok&&c.norm)&&(d.ok&&d.norm))=false by rw [hr]; rfl)
  rw [e1,e2]
  refine Ad HF CK (of_decide_eq_true rfl) ?_
  simp (disch:=omega) only [F2,go_sem,Aa,h1,h3,Cz]
 | true =>
  rw [hr] at h1
  cases hq:d.ok&&d.norm with
  | false =>
   rw [hq] at h3
   obtain ⟨e1,e2⟩:=QaI (i:=i) (d:=d) (k:=k) (show ((c.ok&&c.norm)&&(d.ok&&d.norm))=false by rw [hr,hq]; rfl)
   rw [e1,e2]
   refine Ad HF CK (of_decide_eq_true rfl) ?_
   simp (disch:=omega) only [F2,go_sem,Aa,h1,h3,Cz]
  | true =>
   rw [hq] at h3
   obtain ⟨e1,e2⟩:=Qdo (i:=i) (d:=d) (k:=k) (show ((c.ok&&c.norm)&&(d.ok&&d.norm))=true by rw [hr,hq]; rfl)
   rw [zB] at hr hq
   have h2:=VI c hr.1 i d hq.1 hq.2 k
   rw [hsv,hsv,hsv] at h2
   rw [e1,e2]
   refine Ad HF CK (of_decide_eq_true rfl) ?_
   simp (disch:=omega) only [F2,go_sem,Aa,h1,h2,h3,Cz,Cw]
theorem Cl.Ya (x:Cl) (h:x.bulk≤1048576):x.tame:=by
 rw [Cl.bulk_eq] at h
 refine ⟨by omega,fun y hy=>?_⟩
 obtain ⟨k,hk,rfl⟩:=List.getElem_of_mem hy
 have h1:=Lt.bulk_le x.lits k hk
 have h2:=Tm.RO x.lits[k].atom
 rw [Lt.bulk_eq] at h1
 omega
theorem Tm.QbE {x:Tm} (h:x.atom=true):x.bulk≤300:=by
 have hx:=Tm.B0 h
 have hn:=Tm.Ar hx
 have h1:=Tm.MP x.args fun y hy=>Tm.RP y (Tm.IX hx hy)
 have h2:x.name.size≤6:=by
  rcases Tm.JA hx with h3 | ⟨h3,_⟩
  ·rw [Tm.EB] at h3
   split at h3
   ·rename_i hv; exact Uk hv
   ·rw [zB,zB] at h3; exact Ul h3.1.1
  ·unfold Tm.eqn at h3
   rw [As.1 h3]; decide
 rw [Tm.An] at hn
 rw [Tm.bulk_eq]
 omega
theorem Lt.SG:∀ xs:List Lt,(∀ x∈xs,x.atom.atom=true)→Lt.sumB xs≤300*xs.length
 | [],_=>by simp [Lt.sumB]
 | x :: xs,h=>by
  have h1:=Tm.QbE (h x (by simp))
  have h2:=Lt.SG xs fun y hy=>h y (by simp [hy])
  rw [Lt.sumB,Lt.bulk_eq,List.length_cons]; omega
theorem Cl.Qet {x:Cl} (h:x.ok=true):x.bulk≤2408:=by
 have h1:=Cl.ok_len h
 have h2:=Lt.SG x.lits (Cl.BR h)
 rw [Cl.bulk_eq]; omega
theorem Cl.Pl:(Cl.mk []).bulk≤2408:=by
 rw [Cl.bulk_eq]
 show 0+Lt.sumB []≤2408
 simp [Lt.sumB]
theorem QbF (s:Sb) (l:List Lt):(Qc s l).bulk≤2408:=by
 cases h:Fw s l with
 | false=>rw [Oh h]; exact Cl.Pl
 | true =>
  rw [S4 h]
  unfold Fw at h
  rw [zB] at h
  exact Cl.Qet (Qa7 10 (Z8 h.1))
theorem QbG (c:Cl) (i:Int) (d:Cl) (k:Int):(S6 c i d k).bulk≤2408:=by
 unfold S6
 cases VG c i d k with
 | none=>exact Cl.Pl
 | some s=>exact QbF s _
theorem QbH (c:Cl) (i:Int) (d:Cl) (k:Int):(Ts c i d k).bulk≤1048576:=by
 have h1:=QbG c i d k
 have h2:=Cl.Pl
 unfold Ts
 cases (c.ok&&c.norm)&&(d.ok&&d.norm)
 ·rw [cond_false]; omega
 ·rw [cond_true]; omega
def CM:SC:=(.seq (.reg [⟨some 4,none,.boxv 24 1 (.t 0)⟩,⟨some 6,none,.boxv 24 1 (.t 2)⟩,⟨some 8,none,.mv (.c (.bool false))⟩]) (.seq (.reg [⟨some 9,none,.mv (.c (.int .i64 1048576))⟩]) (.seq (.reg [⟨some 21,none,.load true 1 (.t 4)⟩,⟨some 22,none,.mv (.t 9)⟩,⟨some 23,none,.call 8 [(.t 21),(.t 22)]⟩,⟨some 9,none,.mv (.t 23)⟩]) (.seq (.seq (.reg [⟨some 24,none,.mv (.t 9)⟩,⟨some 25,none,.bin .lss false (.t 24) (.c (.int .i64 0))⟩]) (.cond (.t 25) (.seq (.reg [⟨some 8,none,.mv (.c (.bool true))⟩]) .ret) .skip)) (.seq (.reg [⟨some 26,none,.load true 1 (.t 6)⟩,⟨some 27,none,.mv (.t 9)⟩,⟨some 28,none,.call 8 [(.t 26),(.t 27)]⟩,⟨some 9,none,.mv (.t 28)⟩]) (.seq (.seq (.reg [⟨some 29,none,.mv (.t 9)⟩,⟨some 30,none,.bin .lss false (.t 29) (.c (.int .i64 0))⟩]) (.cond (.t 30) (.seq (.reg [⟨some 8,none,.mv (.c (.bool true))⟩]) .ret) .skip)) (.seq (.dreg [[],[0],[],[],[3,1,0],[],[1,0,2,4,3,5],[6,1,0,2,4,3,5],[7,6,1,0,2,4,3,5],[7,6,1,0,2,4,3,5],[],[10,8,7,6,1,0,2,4,3,5],[9,7,6,1,0,2,4,3,5,11,10,8]] [⟨some 32,none,.load true 1 (.t 4)⟩,⟨some 33,none,.call 10 [(.t 32)]⟩,⟨some 34,none,.mv (.t 1)⟩,⟨some 35,none,.load true 1 (.t 6)⟩,⟨some 36,none,.call 10 [(.t 35)]⟩,⟨some 37,none,.mv (.t 3)⟩,⟨some 38,none,.call 22 [(.t 33),(.t 34),(.t 36),(.t 37)]⟩,⟨some 31,none,.mv (.t 38)⟩,⟨some 39,none,.ext (.t 31) 0⟩,⟨some 40,none,.ext (.t 31) 1⟩,⟨some 10,none,.alloc 28 [.nil]⟩,⟨none,none,(.store 1 (.t 10) (.t 39))⟩,⟨some 11,none,.mv (.t 40)⟩]) (.seq (.reg [⟨some 41,none,.load true 1 (.t 4)⟩,⟨some 42,none,.call 10 [(.t 41)]⟩,⟨some 12,none,.alloc 28 [.nil]⟩,⟨none,none,(.store 1 (.t 12) (.t 42))⟩]) (.seq (.reg [⟨some 43,none,.load true 1 (.t 6)⟩,⟨some 44,none,.call 10 [(.t 43)]⟩,⟨some 13,none,.alloc 28 [.nil]⟩,⟨none,none,(.store 1 (.t 13) (.t 44))⟩]) (.seq (.reg [⟨some 46,none,.load true 1 (.t 12)⟩,⟨some 47,none,.mv (.t 1)⟩,⟨some 48,none,.load true 1 (.t 13)⟩,⟨some 49,none,.mv (.t 3)⟩,⟨some 50,none,.call 23 [(.t 46),(.t 47),(.t 48),(.t 49)]⟩,⟨some 45,none,.mv (.t 50)⟩,⟨some 51,none,.ext (.t 45) 0⟩,⟨some 52,none,.ext (.t 45) 1⟩,⟨some 14,none,.alloc 28 [.nil]⟩,⟨none,none,(.store 1 (.t 14) (.t 51))⟩,⟨some 15,none,.mv (.t 52)⟩]) (.seq (.seq (.reg [⟨some 53,none,.load true 1 (.t 14)⟩,⟨some 54,none,.load true 1 (.t 10)⟩,⟨some 55,none,.call 12 [(.t 53),(.t 54)]⟩,⟨some 56,none,.un .not (.t 55)⟩,⟨some 57,none,.mv (.t 56)⟩,⟨(some 58),(some (57,false)),(.mv (.t 15))⟩,⟨(some 59),(some (57,false)),(.mv (.t 11))⟩,⟨(some 60),(some (57,false)),(.bin .neq true (.t 58) (.t 59))⟩,⟨some 61,none,.pick (.t 57) (.c (.bool true)) (.t 60)⟩]) (.cond (.t 61) (.seq (.reg [⟨some 8,none,.mv (.c (.bool false))⟩]) .ret) .skip)) (.seq (.seq (.dreg [[],[],[1],[0,2,1],[3,0,2,1]] [⟨some 62,none,.load true 1 (.t 12)⟩,⟨some 63,none,.load true 1 (.t 4)⟩,⟨some 64,none,.call 10 [(.t 63)]⟩,⟨some 65,none,.call 12 [(.t 62),(.t 64)]⟩,⟨some 66,none,.un .not (.t 65)⟩]) (.cond (.t 66) (.seq (.reg [⟨some 8,none,.mv (.c (.bool false))⟩]) .ret) .skip)) (.seq (.seq (.dreg [[],[],[1],[0,2,1],[3,0,2,1]] [⟨some 67,none,.load true 1 (.t 13)⟩,⟨some 68,none,.load true 1 (.t 6)⟩,⟨some 69,none,.call 10 [(.t 68)]⟩,⟨some 70,none,.call 12 [(.t 67),(.t 69)]⟩,⟨some 71,none,.un .not (.t 70)⟩]) (.cond (.t 71) (.seq (.reg [⟨some 8,none,.mv (.c (.bool false))⟩]) .ret) .skip)) (.seq (.reg [⟨some 16,none,.mv (.c (.int .i64 1))⟩]) (.seq (.reg [⟨some 72,none,.load true 1 (.t 12)⟩,⟨some 73,none,.mv (.t 16)⟩,⟨some 74,none,.call 13 [(.t 72),(.t 73)]⟩,⟨some 16,none,.mv (.t 74)⟩]) (.seq (.reg [⟨some 75,none,.load true 1 (.t 13)⟩,⟨some 76,none,.mv (.t 16)⟩,⟨some 77,none,.call 13 [(.t 75),(.t 76)]⟩,⟨some 16,none,.mv (.t 77)⟩]) (.seq (.seq (.reg [⟨some 78,none,.mv (.t 16)⟩,⟨some 79,none,.bin .lss false (.t 78) (.c (.int .i64 0))⟩,⟨some 80,none,.mv (.t 79)⟩,⟨(some 81),(some (80,false)),(.load true 1 (.t 14))⟩,⟨(some 82),(some (80,false)),(.load true 1 (.t 10))⟩,⟨(some 83),(some (80,false)),(.call 12 [(.t 81),(.t 82)])⟩,⟨(some 84),(some (80,false)),(.un .not (.t 83))⟩,⟨some 85,none,.pick (.t 80) (.c (.bool true)) (.t 84)⟩,⟨some 86,none,.mv (.t 85)⟩,⟨(some 87),(some (86,false)),(.mv (.t 15))⟩,⟨(some 88),(some (86,false)),(.mv (.t 11))⟩,⟨(some 89),(some (86,false)),(.bin .neq true (.t 87) (.t 88))⟩,⟨some 90,none,.pick (.t 86) (.c (.bool true)) (.t 89)⟩]) (.cond (.t 90) (.seq (.reg [⟨some 8,none,.mv (.c (.bool false))⟩]) .ret) .skip)) (.seq (.reg [⟨some 17,none,.mv (.c (.int .i64 1))⟩]) (.seq (.reg [⟨some 91,none,.load true 1 (.t 14)⟩,⟨some 92,none,.mv (.t 17)⟩,⟨some 93,none,.call 13 [(.t 91),(.t 92)]⟩,⟨some 17,none,.mv (.t 93)⟩]) (.seq (.reg [⟨some 18,none,.mv (.c (.int .i64 1))⟩]) (.seq (.reg [⟨some 94,none,.load true 1 (.t 14)⟩,⟨some 95,none,.mv (.t 18)⟩,⟨some 96,none,.call 14 [(.t 94),(.t 95)]⟩,⟨some 18,none,.mv (.t 96)⟩]) (.seq (.seq (.reg [⟨some 97,none,.mv (.t 18)⟩,⟨some 98,none,.bin .lss false (.t 97) (.c (.int .i64 0))⟩]) (.cond (.t 98) (.seq (.reg [⟨some 8,none,.mv (.c (.bool false))⟩]) .ret) .skip)) (.seq (.seq (.reg [⟨some 99,none,.mv (.t 18)⟩,⟨some 100,none,.mv (.t 17)⟩,⟨some 101,none,.bin .neq false (.t 99) (.t 100)⟩]) (.cond (.t 101) (.seq (.reg [⟨some 8,none,.mv (.c (.bool false))⟩]) .ret) .skip)) (.seq (.dreg [[],[0],[],[],[3,1,0],[],[1,0,2,4,3,5],[6,1,0,2,4,3,5],[7,6,1,0,2,4,3,5],[7,6,1,0,2,4,3,5],[],[10,8,7,6,1,0,2,4,3,5],[9,7,6,1,0,2,4,3,5,11,10,8]] [⟨some 103,none,.load true 1 (.t 4)⟩,⟨some 104,none,.call 10 [(.t 103)]⟩,⟨some 105,none,.mv (.t 1)⟩,⟨some 106,none,.load true 1 (.t 6)⟩,⟨some 107,none,.call 10 [(.t 106)]⟩,⟨some 108,none,.mv (.t 3)⟩,⟨some 109,none,.call 23 [(.t 104),(.t 105),(.t 107),(.t 108)]⟩,⟨some 102,none,.mv (.t 109)⟩,⟨some 110,none,.ext (.t 102) 0⟩,⟨some 111,none,.ext (.t 102) 1⟩,⟨some 19,none,.alloc 28 [.nil]⟩,⟨none,none,(.store 1 (.t 19) (.t 110))⟩,⟨some 20,none,.mv (.t 111)⟩]) (.seq (.seq (.reg [⟨some 112,none,.load true 1 (.t 19)⟩,⟨some 113,none,.load true 1 (.t 10)⟩,⟨some 114,none,.call 12 [(.t 112),(.t 113)]⟩,⟨some 115,none,.un .not (.t 114)⟩,⟨some 116,none,.mv (.t 115)⟩,⟨(some 117),(some (116,false)),(.mv (.t 20))⟩,⟨(some 118),(some (116,false)),(.mv (.t 11))⟩,⟨(some 119),(some (116,false)),(.bin .neq true (.t 117) (.t 118))⟩,⟨some 120,none,.pick (.t 116) (.c (.bool true)) (.t 119)⟩]) (.cond (.t 120) (.seq (.reg [⟨some 8,none,.mv (.c (.bool false))⟩]) .ret) .skip)) (.seq (.reg [⟨some 18,none,.mv (.c (.int .i64 1))⟩]) (.seq (.reg [⟨some 121,none,.load true 1 (.t 14)⟩,⟨some 122,none,.mv (.t 18)⟩,⟨some 123,none,.call 14 [(.t 121),(.t 122)]⟩,⟨some 18,none,.mv (.t 123)⟩]) (.seq (.seq (.reg [⟨some 124,none,.mv (.t 18)⟩,⟨some 125,none,.bin .lss false (.t 124) (.c (.int .i64 0))⟩]) (.cond (.t 125) (.seq (.reg [⟨some 8,none,.mv (.c (.bool false))⟩]) .ret) .skip)) (.seq (.seq (.reg [⟨some 126,none,.mv (.t 18)⟩,⟨some 127,none,.mv (.t 17)⟩,⟨some 128,none,.bin .neq false (.t 126) (.t 127)⟩]) (.cond (.t 128) (.seq (.reg [⟨some 8,none,.mv (.c (.bool false))⟩]) .ret) .skip)) (.seq (.reg [⟨some 8,none,.mv (.c (.bool true))⟩]) .ret))))))))))))))))))))))))))))))
theorem DT:codeOf Tryz.prog 6=some ⟨129,CM,[(.tmp 8)]⟩:=by kernel_rfl
theorem DU:modes 6=⟨[],.asis,none,false⟩:=by unfold modes; rfl
theorem Qeu (x:Cl) (i:Int) (y:Cl) (k:Int) (hfx:D.fits x.d) (hfi:-9223372036854775808≤i∧i≤9223372036854775807) (hfy:D.fits y.d) (hfk:-9223372036854775808≤k∧k≤9223372036854775807):E 6 [x.sv,.int .i64 i,y.sv,.int .i64 k] []=some (.bool true,[]):=by
 have s0:=Sk x hfx 1048576 (by omega) (by omega)
 have q0:=BG 1048576 x.bulk
 obtain ⟨l0,hl0⟩:∃ l,l=szR 1048576 (x.bulk:Nat):=⟨_,rfl⟩
 rw [←hl0] at s0 q0
 rcases Int.lt_or_le l0 0 with h0 | h0_0
 ·refine Ad DT DU (of_decide_eq_true rfl) ?_
  simp (disch:=omega) only [CM,go_sem,Aa,s0,Cy]
 have s1:=Sk y hfy l0 (by omega) (by omega)
 have q1:=BG l0 y.bulk
 obtain ⟨l1,hl1⟩:∃ l,l=szR l0 (y.bulk:Nat):=⟨_,rfl⟩
 rw [←hl1] at s1 q1
 rcases Int.lt_or_le l1 0 with h0 | h0_1
 ·refine Ad DT DU (of_decide_eq_true rfl) ?_
  simp (disch:=omega) only [CM,go_sem,Aa,s0,s1,Cy]
 have hb_x:x.bulk≤1048576:=by omega
 have hb_y:y.bulk≤1048576:=by omega
 have t_x:=So x hb_x
 have t_y:=So y hb_y
 have htx:=Cl.Ya x hb_x
 have hty:=Cl.Ya y hb_y
 have a1:=Tu x htx i y hty k
 have a2:=Tt x htx i y hty k
 have hb_r:=QbH x i y k
 obtain ⟨r,hr_r⟩:∃ r,r=Ts x i y k:=⟨_,rfl⟩
 rw [←hr_r] at a1 a2 hb_r
 obtain ⟨o,hr_o⟩:∃ r,r=ZA x i y k:=⟨_,rfl⟩
 rw [←hr_o] at a1 a2
 have eq_x:=MT x (by omega)
 have be_x:=Cl.bulk_eq x
 have w_x_lits:=Lt.wtS_bulk x.lits
 have eq_y:=MT y (by omega)
 have be_y:=Cl.bulk_eq y
 have w_y_lits:=Lt.wtS_bulk y.lits
 have eq_r:=MT r (by omega)
 have be_r:=Cl.bulk_eq r
 have w_r_lits:=Lt.wtS_bulk r.lits
 have k_x_0:=Lt.mkS_end x.lits (1)
 have m_x:=JG x (1) (.row 73 3 (x.lits.map Lt.o)) (by omega) (by omega) rfl
 obtain ⟨n_x,hn_x⟩:∃ n1,n1=(x.mkr (1)).2:=⟨_,rfl⟩
 have hn'_x:n_x=(Lt.mkS x.lits (1)).2:=hn_x
 rw [←hn_x] at m_x
 have k_y_0:=Lt.mkS_end y.lits (n_x)
 have m_y:=JG y (n_x) (.row 73 3 (y.lits.map Lt.o)) (by omega) (by omega) rfl
 obtain ⟨n_y,hn_y⟩:∃ n1,n1=(y.mkr (n_x)).2:=⟨_,rfl⟩
 have hn'_y:n_y=(Lt.mkS y.lits (n_x)).2:=hn_y
 rw [←hn_y] at m_y
 have k_r_0:=Lt.mkS_end r.lits (1)
 have m_r:=JG r (1) (.row 73 3 (r.lits.map Lt.o)) (by omega) (by omega) rfl
 have hd_r:=V5 r (1) (by omega) (by omega)
 obtain ⟨n_r,hn_r⟩:∃ n1,n1=(r.mkr (1)).2:=⟨_,rfl⟩
 have hn'_r:n_r=(Lt.mkS r.lits (1)).2:=hn_r
 rw [←hn_r] at m_r hd_r
 refine Ad DT DU (of_decide_eq_true rfl) ?_
 simp (disch:=omega) only [CM,go_sem,s0,s1,t_x,t_y,a1,a2,eq_x,eq_y,eq_r,m_x,m_y,hd_r,m_r,D9,Cy,DH,DI,CU,CV,CK,CJ,Cl.osv,Cl.obs,Lt.osv,Lt.obs,Tm.osv,Tm.obs,Lt.erss,Lt.noss]
 repeat ((first | (refine Qc0 ?_ ?_; (focus (simp (disch:=omega) only [go_sem,s0,s1,t_x,t_y,a1,a2,eq_x,eq_y,eq_r,m_x,m_y,hd_r,m_r,D9,Cy,DH,DI,CU,CV,CK,CJ,Cl.osv,Cl.obs,Lt.osv,Lt.obs,Tm.osv,Tm.obs,Lt.erss,Lt.noss]; done))) | (refine Qc1 ?_ ?_; (focus (simp (disch:=omega) only [go_sem,s0,s1,t_x,t_y,a1,a2,eq_x,eq_y,eq_r,m_x,m_y,hd_r,m_r,D9,Cy,DH,DI,CU,CV,CK,CJ,Cl.osv,Cl.obs,Lt.osv,Lt.obs,Tm.osv,Tm.obs,Lt.erss,Lt.noss]; done)))); (try simp (disch:=omega) only [go_sem,s0,s1,t_x,t_y,a1,a2,eq_x,eq_y,eq_r,m_x,m_y,hd_r,m_r,D9,Cy,DH,DI,CU,CV,CK,CJ,Cl.osv,Cl.obs,Lt.osv,Lt.obs,Tm.osv,Tm.obs,Lt.erss,Lt.noss]))
end Go.Proofs.YtibdknkacmimgaaGreatDoor
set_option maxRecDepth 100000
set_option linter.unusedSimpArgs false
set_option linter.unusedVariables false
set_option linter.unusedSectionVars false
namespace Go.Proofs.YtibdknkacmimgaaGreatDoor
open Go.RowKit Go.ChangeShapes Go.WideShapes Go.ChangeAt Go.Deep
section
variable {H:Type} {enc:TypeId × Value→H} {P:Program} {w:World} {base:Nat} {spare:Nat→Bool} {held:Bool}
theorem Lu {b o k:Nat}:(⟨b,o,none⟩:Addr).add k=⟨b,o+k,none⟩:=by
 unfold Addr.add; split
 ·subst_vars; rfl
 ·rfl
theorem Qev {a:Addr} {v:Value} (h:w.cell? a=some v):a.block<w.heap.size:=by
 unfold World.cell? at h
 cases hb:w.heap[a.block]? with
 | none=>rw [hb] at h; cases h
 | some o=>exact (zG.1 hb).1
end
section
variable {H:Type} {enc:TypeId × Value→H} {w:World} {base:Nat} {spare:Nat→Bool} {held:Bool}
end
end Go.Proofs.YtibdknkacmimgaaGreatDoor
set_option maxRecDepth 100000
set_option linter.unusedSimpArgs false
set_option linter.unusedVariables false
set_option linter.unusedSectionVars false
namespace Go.Proofs.YtibdknkacmimgaaGreatDoor
open Go.RowKit Go.ChangeShapes Go.WideShapes Go.ChangeAt Go.Deep
section
variable {H:Type} {enc:TypeId × Value→H} {P:Program} {w:World} {base:Nat} {spare:Nat→Bool} {held:Bool}
theorem Yb {t e:TypeId} {fuel:Nat} {v:Value} {x:DataW H × List MemPlace} (sz:Nat) (hsz:P.cellsOf e=sz) (h0:0<sz) (ht:P.underlying t=some (.slice e)) (h:DataW.trod enc P w base spare held fuel t [v]=some x) :
    ∃ (a:Option Addr) (len cap:Nat) (f:Nat→Nat→Value),v=.slice a len cap∧len≤cap∧cap≤9223372036854775807∧SlA w 0 sz len f a ∧
      ∀ i,i<len→∃ n x',n<fuel∧DataW.trod enc P w base spare held n e ((zF sz).map (f i))=some x':=by
  rcases DataW.trod_slice ht h with ⟨hcs,_⟩ | ⟨a,len,cap,elems,rest,n,hf,hcs,hx,hb,hl,hm,hlen,hel,_,_⟩
  · simp only [List.cons.injEq,and_true] at hcs
    exact ⟨none,0,0,fun _ _=>undef,hcs,Nat.le_refl _,by omega,.inl rfl,fun i hi=>absurd hi (by omega)⟩
  · have hi:∀ i,i<len→∃ cs' x',w.cells? base (a.add (i*sz)) sz=some cs'∧DataW.trod enc P w base spare held n e cs'=some x':=by
      intro i hi
      have h1:=hel i hi
      rw [hsz,zA (by omega)] at h1
      obtain ⟨cs',h2,h3⟩:=Option.bind_eq_some_iff.1 h1
      exact ⟨cs',_,h2,h3⟩
    have hcell:∀ i j,i<len→j<sz→∃ v,w.cell? (a.add (i*sz+j))=some v:=by
      intro i j hil hj
      obtain ⟨cs',x',hc,_⟩:=hi i hil
      obtain ⟨_,hcl,hat⟩:=World.cells?_some hc
      have h1:=hat j hj
      rw [Go.Deep.add_add,zA (by omega)] at h1
      exact ⟨_,h1⟩
    simp only [List.cons.injEq,and_true] at hcs
    refine ⟨some a,len,cap,fun i j=>(w.cell? (a.add (i*sz+j))).getD undef,hcs,hl,hm,?_,?_⟩
    · rcases Nat.eq_zero_or_pos len with h | h
      · exact .inl h
      · obtain ⟨v,hv⟩:=hcell 0 0 h h0
        rw [Nat.zero_mul,Nat.zero_add] at hv
        have hsp:a.spot=none:=by simpa [Addr.add] using World.cell?_spot hv
        have hlt:=Qev hv
        obtain ⟨b,off,spot⟩:=a
        simp only at hsp
        subst hsp
        refine .inr ⟨b,off,rfl,Nat.zero_le _,by simpa [Addr.add] using hlt,fun i j hil hj=>?_⟩
        obtain ⟨v',hv'⟩:=hcell i j hil hj
        rw [Lu] at hv'
        show _=some ((w.cell? ((⟨b,off,none⟩:Addr).add (i*sz+j))).getD undef)
        rw [Lu,Nat.add_assoc,hv']
        rfl
    · intro i hil
      obtain ⟨cs',x',hc,ht'⟩:=hi i hil
      obtain ⟨_,hcl,hat⟩:=World.cells?_some hc
      refine ⟨n,x',by omega,?_⟩
      have hcs':(zF sz).map (fun j=>(w.cell? (a.add (i*sz+j))).getD undef)=cs':=by
        apply List.ext_getElem?
        intro j
        by_cases hj:j<sz
        · rw [List.getElem?_map,List.getElem?_range hj]
          have h1:=hat j hj
          rw [Go.Deep.add_add] at h1
          rw [zA (by omega:j<cs'.length)] at h1 ⊢
          simp [h1]
        · rw [List.getElem?_eq_none (by simp; omega),List.getElem?_eq_none (by omega)]
      rw [hcs']
      exact ht'
theorem SH {t:TypeId} {fs:Array Field} {fuel:Nat} {cs:List Value} {x:DataW H × List MemPlace} (ht:P.underlying t=some (.struct fs)) (h:DataW.trod enc P w base spare held fuel t cs=some x) :
  ∃ n,n<fuel∧cs.length=P.cellsOf t∧∀ (i:Nat) (f:Field),fs[i]?=some f→∃ y,DataW.trod enc P w base spare held n f.type ((cs.drop f.offset).take (P.cellsOf f.type))=some y:=by
 obtain ⟨xs,n,hn,hx,hlen,hxl,hf⟩:=DataW.trod_struct ht h
 refine ⟨n,by omega,hlen,fun i f hi=>?_⟩
 have hil:i<fs.size:=(zG.1 hi).1
 have h1:=hf i f hi
 rw [zA (by omega:i<xs.length)] at h1
 exact ⟨_,h1⟩
end
inductive Lvs (w:World):List D→List Value→Prop
 |nil:Lvs w [] []
 |cons {d:D} {v:Value} {ds:List D} {vs:List Value} (h:DAt w d v) (hs:Lvs w ds vs):Lvs w (d :: ds) (v :: vs)
theorem Lvs.len {w:World} {ds:List D} {vs:List Value} (h:Lvs w ds vs):ds.length=vs.length:=by
 induction h with
 | nil=>rfl
 | cons h hs ih=>simp [ih]
theorem Lvs.get {w:World} {ds:List D} {vs:List Value} (h:Lvs w ds vs):∀ j (h1:j<ds.length) (h2:j<vs.length),DAt w ds[j] vs[j]:=by
 induction h with
 | nil=>intro j h1; simp at h1
 | cons h hs ih =>
  intro j h1 h2
  cases j with
  | zero=>exact h
  | succ j=>exact ih j (by simpa using h1) (by simpa using h2)
theorem Yc {α:Type} [Inhabited α] (dd:α→List D) {w:World} {m len cap:Nat} {f:Nat→Nat→Value} {a:Option Addr} (hl:len≤cap) (hm:cap≤9223372036854775807) (hS:SlA w 0 m len f a)
  (hel:∀ i,i<len→∃ X:α,Lvs w (dd X) ((zF m).map (f i))):∃ xs:List α,DAt w (.arr (xs.map dd)) (.slice a len cap):=by
 obtain ⟨g,hg⟩:∃ g:Nat→α,∀ i,i<len→Lvs w (dd (g i)) ((zF m).map (f i)) :=
  ⟨fun i=>if h:i<len then (hel i h).choose else default,fun i hi=>by simp only [hi,dif_pos]; exact (hel i hi).choose_spec⟩
 refine ⟨(zF len).map g,?_⟩
 have hlen:(((zF len).map g).map dd).length=len:=by simp
 have:=DAt.Qe9 (w:=w) (es:=((zF len).map g).map dd) (sz:=m) (cap:=cap) (a:=a) (f:=f) (by rw [hlen]; exact hl) hm (by rw [hlen]; exact hS) (fun i hi=>by
  rw [hlen] at hi
  have:=(hg i hi).len
  simpa using this) (fun i j hi hj=>by
  rw [hlen] at hi
  have h1:=hg i hi
  have h2:=h1.len
  simp only [zI,List.length_range] at h2
  simp only [List.getElem_map,List.getElem_range] at hj ⊢
  have:=h1.get j hj (by simp; omega)
  simpa using this)
 rw [hlen] at this
 exact this
instance:Inhabited Tm:=⟨Tm.zero⟩
instance:Inhabited Fm:=⟨Fm.zero⟩
section
variable {H:Type} {enc:TypeId × Value→H} {w:World} {base:Nat} {spare:Nat→Bool} {held:Bool}
end
end Go.Proofs.YtibdknkacmimgaaGreatDoor
set_option maxRecDepth 100000
set_option linter.unusedSimpArgs false
set_option linter.unusedVariables false
set_option linter.unusedSectionVars false
namespace Go.Proofs.YtibdknkacmimgaaGreatDoor
open Go.RowKit
theorem DRep.lt_ {own:Bool} {w:World} {S:Nat→Prop} {d:D} {v:Value} (h:DRep own w S d v):DRep own w (fun b=>S b∧b<w.heap.size) d v:=by
 induction h with
 | int S n=>exact .int _ n
 | bool S b=>exact .bool _ b
 | str S s h=>exact .str _ s h
 | arr S sz es a cap f Sub h1 h2 h3 h4 h5 h6 h7 ih =>
  refine .arr _ sz es a cap f (fun i j x=>Sub i j x∧x<w.heap.size) h1 h2 ?_ h4 (fun i j x h=>⟨h5 i j x h.1,h.2⟩) (fun ho i j i' j' x h h'=>h6 ho i j i' j' x h.1 h'.1) ih
  rcases h3 with h3 | ⟨b,off,ha,hS,hl,hc,ho⟩
  ·exact .inl h3
  ·exact .inr ⟨b,off,ha,⟨hS,hl⟩,hl,hc,fun h=>⟨fun i j hx=>(ho h).1 i j hx.1,(ho h).2⟩⟩
theorem Fun.yes {f:FuncId} {args:List SV} (h:Fun Tryz.prog f args [] (.bool true) []) {w:World} {vs:List Value} (hgl:GL w fun b=>b<w.heap.size) (hvs:RepVs w (fun b=>b<w.heap.size) (fun _=>none) args vs):Calls Tryz.prog f vs.toArray w (Ret w (.bool true)):=by
 have nl:∀ g,¬ (Ap [] g).live:=fun g hg=>by simp [Ap,Ob.live] at hg
 refine (h w (fun b=>b<w.heap.size) (fun _=>none) (fun _ _=>False) vs ⟨fun b hb=>hb,fun g hg=>absurd hg (nl g),fun g b hg=>absurd hg (nl g),fun g b hg=>absurd hg (nl g),fun g g' b hg=>absurd hg (nl g),fun g _=>rfl,hgl⟩ hvs).mono ?_
 rintro e w' ⟨v,I',V',B',rfl,hr,hp⟩
 simp only [RepV] at hr
 subst hr
 exact ⟨rfl,hp.fr.os,hp.fr.tape.1,hp.fr.output,hp.fr.size,fun b hb=>hp.fr.block b hb fun ⟨g,hg,_⟩=>absurd hg (nl g)⟩
theorem Yd {w:World} {d:D} {ds:List D} {v:Value} {vs:List Value} (h:Lvs w (d :: ds) (v :: vs)):DAt w d v∧Lvs w ds vs:=by
 cases h with
 | cons h1 h2=>exact ⟨h1,h2⟩
theorem DAt.rep_sv {w:World} {d:D} {v:Value} (h:DAt w d v):RepV w (fun b=>b<w.heap.size) (fun _=>none) d.sv v :=
 D.rep_sv ((DRep.lt_ h).up fun b hb=>hb.2)
theorem Lvs.reps {w:World} {ds:List D} {vs:List Value} (h:Lvs w ds vs):RepVs w (fun b=>b<w.heap.size) (fun _=>none) (ds.map D.sv) vs:=by
 induction h with
 | nil=>simp [RepVs]
 | cons h hs ih=>simp only [List.map_cons,RepVs]; exact ⟨_,_,rfl,h.rep_sv,ih⟩
theorem Lvs.agg {w:World} {ds:List D} {vs:List Value} (h:Lvs w ds vs):RepV w (fun b=>b<w.heap.size) (fun _=>none) (.agg (ds.map D.sv)) (.agg vs.toArray):=by
 simp only [RepV]; exact ⟨vs,rfl,h.reps⟩
theorem Lvs.fits {w:World} {ds:List D} {vs:List Value} (h:Lvs w ds vs):D.fits ds:=by
 induction h with
 | nil=>trivial
 | cons h hs ih=>exact ⟨DRep.fit h,ih⟩
theorem Qdq {w:World} {I:Nat→Prop} {V:Nat→Option Value}:RepVs w I V [] []:=by simp [RepVs]
theorem LO {w:World} {I:Nat→Prop} {V:Nat→Option Value} {x:SV} {xs:List SV} {v:Value} {vs:List Value} (h:RepV w I V x v) (hs:RepVs w I V xs vs):RepVs w I V (x :: xs) (v :: vs):=by
 simp only [RepVs]; exact ⟨v,vs,rfl,h,hs⟩
instance:Inhabited Lt:=⟨Lt.zero⟩
instance:Inhabited Cl:=⟨Cl.zero⟩
section
variable {H:Type} {enc:TypeId × Value→H} {w:World} {base:Nat} {spare:Nat→Bool} {held:Bool}
theorem PK {fuel:Nat} (ih:∀ n,n<fuel→∀ v x,DataW.trod enc Tryz.prog w base spare held n 63 [v]=some x→∃ xs:List Tm,DAt w (.arr (xs.map Tm.d)) v) {cs:List Value} {x:DataW H × List MemPlace} (h:DataW.trod enc Tryz.prog w base spare held fuel 65 cs=some x):∃ X:Tm,Lvs w X.d cs:=by
 obtain ⟨n,hn,hlen,hf⟩:=SH Tryz.underlying65 h
 rw [show Tryz.prog.cellsOf 65=2 by kernel_rfl] at hlen
 match cs,hlen with
 | [c0,c1],_ =>
  obtain ⟨y0,k0⟩:=hf 0 _ rfl
  have e0:(([c0,c1].drop 0).take (Tryz.prog.cellsOf 9))=[c0]:=by rw [show Tryz.prog.cellsOf 9=1 by kernel_rfl]; rfl
  obtain ⟨z0,q0,_,s0⟩:=DataW.trod_string Tryz.underlying9 k0
  have q0':c0=.string z0:=by
   have:[c0]=[.string z0]:=by rw [←e0]; exact q0
   simpa using this
  obtain ⟨y1,k1⟩:=hf 1 _ rfl
  have e1:(([c0,c1].drop 1).take (Tryz.prog.cellsOf 63))=[c1]:=by rw [show Tryz.prog.cellsOf 63=1 by kernel_rfl]; rfl
  have k1':DataW.trod enc Tryz.prog w base spare held n 63 [c1]=some y1:=by rw [←e1]; exact k1
  obtain ⟨z1,g1⟩:=ih n hn c1 y1 k1'
  subst q0'
  exact ⟨.mk z0 z1,by rw [Tm.d_eq]; exact (.cons (.str _ z0 s0) (.cons g1 .nil))⟩
theorem Tv:∀ (fuel:Nat) (v:Value) (x:DataW H × List MemPlace),DataW.trod enc Tryz.prog w base spare held fuel 63 [v]=some x→∃ xs:List Tm,DAt w (.arr (xs.map Tm.d)) v:=by
  intro fuel
  induction fuel using Nat.strongRecOn with
  | _ fuel ih =>
    intro v x h
    obtain ⟨a,len,cap,f,rfl,hl,hm,hS,hr⟩:=Yb (P:=Tryz.prog) 2 (by kernel_rfl) (by omega) Tryz.underlying63 h
    exact Yc Tm.d hl hm hS fun i hi=>by
      obtain ⟨n,x',hn,h1⟩:=hr i hi
      exact PK (fun n' hn'=>ih n' (by omega)) h1
theorem Qdr {fuel:Nat} {cs:List Value} {x:DataW H × List MemPlace} (h:DataW.trod enc Tryz.prog w base spare held fuel 65 cs=some x):∃ X:Tm,Lvs w X.d cs :=
 PK (fun n _=>Tv n) h
theorem Ye {fuel:Nat} {cs:List Value} {x:DataW H × List MemPlace} (h:DataW.trod enc Tryz.prog w base spare held fuel 67 cs=some x):∃ X:Lt,Lvs w X.d cs:=by
 obtain ⟨n,hn,hlen,hf⟩:=SH Tryz.underlying67 h
 rw [show Tryz.prog.cellsOf 67=3 by kernel_rfl] at hlen
 match cs,hlen with
 | [c0,c1,c2],_ =>
  obtain ⟨y0,k0⟩:=hf 0 _ rfl
  have e0:(([c0,c1,c2].drop 0).take (Tryz.prog.cellsOf 4))=[c0]:=by rw [show Tryz.prog.cellsOf 4=1 by kernel_rfl]; rfl
  obtain ⟨z0,q0,_⟩:=DataW.trod_bool Tryz.underlying4 k0
  have q0':c0=.bool z0:=by
   have:[c0]=[.bool z0]:=by rw [←e0]; exact q0
   simpa using this
  obtain ⟨y1,k1⟩:=hf 1 _ rfl
  have e1:(([c0,c1,c2].drop 1).take (Tryz.prog.cellsOf 65))=[c1,c2]:=by rw [show Tryz.prog.cellsOf 65=2 by kernel_rfl]; rfl
  have k1':DataW.trod enc Tryz.prog w base spare held n 65 [c1,c2]=some y1:=by rw [←e1]; exact k1
  obtain ⟨z1,g1⟩:=Qdr k1'
  rw [Tm.d_eq] at g1
  obtain ⟨g1_0,g1⟩:=Yd g1
  obtain ⟨g1_1,g1⟩:=Yd g1
  subst q0'
  exact ⟨⟨z0,z1⟩,by rw [Lt.d_eq]; exact (.cons (.bool _ z0) (.cons g1_0 (.cons g1_1 .nil)))⟩
theorem VJ {fuel:Nat} {v:Value} {x:DataW H × List MemPlace} (h:DataW.trod enc Tryz.prog w base spare held fuel 22 [v]=some x):∃ xs:List Lt,DAt w (.arr (xs.map Lt.d)) v:=by
 obtain ⟨a,len,cap,f,rfl,hl,hm,hS,hr⟩:=Yb (P:=Tryz.prog) 3 (by kernel_rfl) (by omega) Tryz.underlying22 h
 exact Yc Lt.d hl hm hS fun i hi=>by
  obtain ⟨n,x',hn,h1⟩:=hr i hi
  exact Ye h1
theorem SI {fuel:Nat} {cs:List Value} {x:DataW H × List MemPlace} (h:DataW.trod enc Tryz.prog w base spare held fuel 24 cs=some x):∃ X:Cl,Lvs w X.d cs:=by
 obtain ⟨n,hn,hlen,hf⟩:=SH Tryz.underlying24 h
 rw [show Tryz.prog.cellsOf 24=1 by kernel_rfl] at hlen
 match cs,hlen with
 | [c0],_ =>
  obtain ⟨y0,k0⟩:=hf 0 _ rfl
  have e0:(([c0].drop 0).take (Tryz.prog.cellsOf 22))=[c0]:=by rw [show Tryz.prog.cellsOf 22=1 by kernel_rfl]; rfl
  have k0':DataW.trod enc Tryz.prog w base spare held n 22 [c0]=some y0:=by rw [←e0]; exact k0
  obtain ⟨z0,g0⟩:=VJ k0'
  exact ⟨⟨z0⟩,by rw [Cl.d_eq]; exact (.cons g0 .nil)⟩
end
end Go.Proofs.YtibdknkacmimgaaGreatDoor
