/-
  This text holds, one behind the other: This text tells what unifying answers in the reference. No condition.
  This text tells what a question for a range answers. No condition.
  This text tells what resolvents and factors answer in the reference. No condition.
  This text holds plain laws of the sizes of clauses, for the laws of the program. No condition.
  This text tells whether a clause is in a list, in both packages, and what remains of a list without doubles. No condition.
  This text tells what comparing clauses and leaving out doubles answer in the reference. No condition.
  This text holds sizes of what factors and resolvents come to. No condition.
  This text holds what all factors and all resolvents come to. No condition.
  This text tells what all factors and all resolvents answer in the reference. No condition.
  This text tells what all resolvents answer in the reference. No condition.
  This text tells what copying, renaming and normalizing a clause answer in the program. No condition.
  This text tells what renaming and normalizing a clause answer in the program. No condition.
  This text tells what renaming a clause apart, and literals left out and joined, answer in the program. No condition.
  This text names the parts of the program's unifying loop. No condition.
-/
import Derived.Test.YtepbennkcbmgoaaGreatDoorK51c
import Derived.Test.YtepbennkcbmgoaaGreatDoorK51d
import Derived.Test.YtepbennkcbmgoaaGreatDoorK51e
import Derived.Test.YtepbennkcbmgoaaGreatDoorK51f
import Derived.Test.YtepbennkcbmgoaaGreatDoorK51g
import Derived.Test.YtepbennkcbmgoaaGreatDoorK51h
import Derived.Test.YtepbennkcbmgoaaGreatDoorK51i
set_option maxHeartbeats 16000000
open Nat renaming lt_or_ge → zA, zero_le → zD, eq_zero_or_pos → zK, le_refl → zV
open List renaming drop_eq_nil_of_le → zB, getElem_mem → zC, drop_eq_getElem_cons → zE, length_append → zF, take_of_length_le → zG, drop_zero → zH, length_map → zI, eq_nil_of_length_eq_zero → zJ, mem_append → zL, map_append → zM, map_nil → zO, length_cons → zQ, append_nil → zR, length_take → zT
open Option renaming isSome_some → zN
open Bool renaming and_eq_true → zP
open Int renaming toNat_natCast → zS
open ByteArray renaming size_append → zU
set_option maxRecDepth 100000
set_option linter.unusedSimpArgs false
set_option linter.unusedVariables false
set_option linter.unusedSectionVars false
namespace Go.Proofs.YtepbennkcbmgoaaGreatDoor
open Go.RowKit
theorem QcA (a b:Tm) (ha:a.expr=true) (hb:b.expr=true) (n:Nat) (total:Option Sb) (hr:BH n ⟨[]⟩ [(a,b)]=some total):E 199 [a.sv,b.sv] []=some (.tup [(uTo total).sv,.bool (uOk total)],[]):=by
 have hres:∀ t:Sb,t.sv=.agg [.arr (t.binds.map Bd.d)]:=fun t=>rfl
 rw [hres]
 refine Ad TA HT (of_decide_eq_true rfl) ?_
 simp (disch:=omega) only [LG,go_sem,Aa]
 refine go_loop (α:=Nat × Bool × Bool × Sb × List (Tm × Tm)) u5H (u5R total) (fun a=>a.1) (n,true,true,⟨[]⟩,[(a,b)]) ⟨uInv.start ha hb,hr,fun _=>rfl⟩ (by simp (disch:=omega) only [go_sem,Aa,u5H]; rfl) ?_
 clear hr ha hb
 rintro ⟨n,sn,lo,s,l⟩ ⟨hinv,hrun,hsn⟩
 dsimp only at hinv hrun hsn
 have hs:=hinv.ok
 have hst:=EX hs
 cases n with
 | zero=>rw [BH] at hrun; cases hrun
 | succ n =>
 cases l with
 | nil =>
  rw [BH] at hrun
  obtain rfl:=Option.some.inj hrun
  have hk:uTo (some s)=s:=rfl
  rw [hk]
  cases sn with
  | true =>
   obtain rfl:s=⟨[]⟩:=by obtain ⟨bs⟩:=s; have:=hsn rfl; rw [show bs=[] from this]
   cases lo with
   | true =>
    simp (disch:=omega) only [go_sem,Aa,u5H,u5b,u5r,uOk,zN,zO]
    try rfl
   | false =>
    simp (disch:=omega) only [go_sem,Aa,u5H,u5b,u5r,uOk,zN,zO]
    try rfl
  | false =>
   cases lo with
   | true =>
    simp (disch:=omega) only [go_sem,Aa,u5H,u5b,u5r,uOk,zN,zO]
    try rfl
   | false =>
    simp (disch:=omega) only [go_sem,Aa,u5H,u5b,u5r,uOk,zN,zO]
    try rfl
 | cons p l =>
  have hcmb:(sn=true∧lo=true)∨(sn=true∧lo=false)∨(sn=false∧lo=true)∨(sn=false∧lo=false):=by cases sn <;> cases lo <;> simp
  rcases hcmb with ⟨rfl,rfl⟩ | ⟨rfl,rfl⟩ | ⟨rfl,rfl⟩ | ⟨rfl,rfl⟩
  ·exact QfZ total n s p l hinv hrun hsn
  ·exact Qga total n s p l hinv hrun hsn
  ·exact Qgb total n s p l hinv hrun hsn
  ·exact Qgc total n s p l hinv hrun hsn
def ER:SC:=(.seq (.reg [⟨some 6,none,.mv (.c (.bool false))⟩]) (.seq (.reg [⟨some 7,none,.mv (.t 0)⟩,⟨some 8,none,.mv (.t 1)⟩,⟨some 9,none,.bin .geq false (.t 7) (.t 8)⟩,⟨some 10,none,.mv (.t 9)⟩,⟨(some 11),(some (10,true)),(.mv (.t 0))⟩,⟨(some 12),(some (10,true)),(.mv (.t 2))⟩,⟨(some 13),(some (10,true)),(.bin .leq false (.t 11) (.t 12))⟩,⟨some 14,none,.pick (.t 10) (.t 13) (.c (.bool false))⟩,⟨some 6,none,.mv (.t 14)⟩]) .ret))
theorem Gr:codeOf Tryz.prog 205=some ⟨15,ER,[(.tmp 6)]⟩:=by kernel_rfl
theorem ES:modes 205=⟨[],.asis,none,false⟩:=by unfold modes; rfl
def GB:SC:=(.seq (.reg [⟨some 6,none,.mv (.c (.bool false))⟩]) (.seq (.reg [⟨some 7,none,.mv (.t 0)⟩,⟨some 8,none,.mv (.t 1)⟩,⟨some 9,none,.bin .geq false (.t 7) (.t 8)⟩,⟨some 10,none,.mv (.t 9)⟩,⟨(some 11),(some (10,true)),(.mv (.t 0))⟩,⟨(some 12),(some (10,true)),(.mv (.t 2))⟩,⟨(some 13),(some (10,true)),(.bin .leq false (.t 11) (.t 12))⟩,⟨some 14,none,.pick (.t 10) (.t 13) (.c (.bool false))⟩,⟨some 6,none,.mv (.t 14)⟩]) .ret))
theorem I6:codeOf Tryz.prog 198=some ⟨15,GB,[(.tmp 6)]⟩:=by kernel_rfl
theorem De:modes 198=⟨[],.asis,none,false⟩:=by unfold modes; rfl
theorem QcB (n lo hi:Int):E 205 [.int .i64 n,.int .i64 lo,.int .i64 hi] []=some (.bool (dec (lo≤n)&&dec (n≤hi)),[]):=by
 cases h1:dec (lo≤n)
 ·cases h2:dec (n≤hi)
  ·refine Ad Gr ES (of_decide_eq_true rfl) ?_
   simp (disch:=omega) only [ER,go_sem,Aa,h1,h2]
  ·refine Ad Gr ES (of_decide_eq_true rfl) ?_
   simp (disch:=omega) only [ER,go_sem,Aa,h1,h2]
 ·cases h2:dec (n≤hi)
  ·refine Ad Gr ES (of_decide_eq_true rfl) ?_
   simp (disch:=omega) only [ER,go_sem,Aa,h1,h2]
  ·refine Ad Gr ES (of_decide_eq_true rfl) ?_
   simp (disch:=omega) only [ER,go_sem,Aa,h1,h2]
theorem QbG (n lo hi:Int):E 198 [.int .i64 n,.int .i64 lo,.int .i64 hi] []=some (.bool (dec (lo≤n)&&dec (n≤hi)),[]):=by
 cases h1:dec (lo≤n)
 ·cases h2:dec (n≤hi)
  ·refine Ad I6 De (of_decide_eq_true rfl) ?_
   simp (disch:=omega) only [GB,go_sem,Aa,h1,h2]
  ·refine Ad I6 De (of_decide_eq_true rfl) ?_
   simp (disch:=omega) only [GB,go_sem,Aa,h1,h2]
 ·cases h2:dec (n≤hi)
  ·refine Ad I6 De (of_decide_eq_true rfl) ?_
   simp (disch:=omega) only [GB,go_sem,Aa,h1,h2]
  ·refine Ad I6 De (of_decide_eq_true rfl) ?_
   simp (disch:=omega) only [GB,go_sem,Aa,h1,h2]
def I7:SC:=(.seq (.reg [⟨some 4,none,.mv (.c .nil)⟩]) (.seq (.dreg [[],[],[],[1,2],[0,3,1,2],[],[],[6],[5,7,6],[4,0,3,1,2,8,5,7,6],[9,4,0,3,1,2,8,5,7,6]] [⟨(some 5),none,(.mkrow 122 3 [(.bool false),(.str ⟨#[]⟩),.nil] 0 [])⟩,⟨some 6,none,.mv (.t 0)⟩,⟨some 7,none,.mv (.t 1)⟩,⟨some 8,none,.slice false 3 (.t 6) none (some (.t 7))⟩,⟨(some 9),none,(.append 122 3 48 [(.bool false),(.str ⟨#[]⟩),.nil] (.t 5) (.t 8))⟩,⟨some 10,none,.mv (.t 0)⟩,⟨some 11,none,.mv (.t 1)⟩,⟨some 12,none,.bin .add false (.t 11) (.c (.int .i64 1))⟩,⟨some 13,none,.slice false 3 (.t 10) (some (.t 12)) none⟩,⟨(some 14),none,(.append 122 3 48 [(.bool false),(.str ⟨#[]⟩),.nil] (.t 9) (.t 13))⟩,⟨some 4,none,.mv (.t 14)⟩]) .ret))
theorem OR:codeOf Tryz.prog 201=some ⟨15,I7,[(.tmp 4)]⟩:=by kernel_rfl
theorem I8:modes 201=⟨[],.asis,none,false⟩:=by unfold modes; rfl
theorem OS (l:List Lt) (hl:l.length≤1048575) (p:Nat) (h1:p<l.length):E 201 [.arr (l.map Lt.d),.int .i64 (p:Int)] []=some (.ref 0,[.row 122 3 ((l.eraseIdx p).map (fun b:Lt=>b.d.map D.ot))]):=by
 have tp:=zS p
 have tp1:((p:Int)+1).toNat=p+1:=by omega
 have e1:=Lt.ot_take l p
 have e2:=Lt.ot_drop l (p+1)
 have e6:=Lt.ald3 l
 have e7:(l.map Lt.d).take l.length=l.map Lt.d:=zG (by rw [zI]; exact zV _)
 have e8:((l.map Lt.d).drop (p+1)).length=l.length-(p+1):=by rw [List.length_drop,zI]
 have e3:=Lt.al3 (l.take p)
 have e4:=Lt.al3 (l.drop (p+1))
 have hlt:(l.take p).length=p:=by rw [zT]; omega
 have hld:(l.drop (p+1)).length=l.length-(p+1):=List.length_drop
 have e5:(l.take p).map (fun b:Lt=>b.d.map D.ot)++(l.drop (p+1)).map (fun b:Lt=>b.d.map D.ot)=(l.eraseIdx p).map (fun b:Lt=>b.d.map D.ot):=by rw [←zM,List.eraseIdx_eq_take_drop_succ]
 refine Ad OR I8 (of_decide_eq_true rfl) ?_
 simp (disch:=omega) only [I7,go_sem,Aa,tp,tp1,e1,e2,e3,e4,e5,e6,e7,e8,hlt,hld]
def E9:SC:=(.seq (.reg [⟨some 2,none,.boxv 142 1 (.t 0)⟩,⟨some 4,none,.alloc 60 [.nil]⟩,⟨some 5,none,.mv (.c (.bool false))⟩]) (.seq (.reg [⟨some 11,none,.load true 1 (.t 2)⟩,⟨some 12,none,.mv (.t 1)⟩,⟨some 13,none,.call 271 [(.t 11),(.t 12)]⟩,⟨some 10,none,.mv (.t 13)⟩,⟨some 14,none,.ext (.t 10) 0⟩,⟨some 15,none,.ext (.t 10) 1⟩,⟨some 6,none,.alloc 60 [.nil]⟩,⟨none,none,(.store 1 (.t 6) (.t 14))⟩,⟨some 7,none,.mv (.t 15)⟩]) (.seq (.seq (.reg [⟨some 16,none,.mv (.t 7)⟩,⟨some 17,none,.un .not (.t 16)⟩]) (.cond (.t 17) (.seq (.reg [⟨some 18,none,.build [.nil] []⟩,⟨none,none,(.store 1 (.t 4) (.t 18))⟩,⟨some 5,none,.mv (.c (.bool false))⟩]) .ret) .skip)) (.seq (.reg [⟨some 20,none,.load true 1 (.t 6)⟩,⟨some 21,none,.call 161 [(.t 20)]⟩,⟨some 19,none,.mv (.t 21)⟩,⟨some 22,none,.ext (.t 19) 0⟩,⟨some 23,none,.ext (.t 19) 1⟩,⟨some 8,none,.alloc 60 [.nil]⟩,⟨none,none,(.store 1 (.t 8) (.t 22))⟩,⟨some 9,none,.mv (.t 23)⟩]) (.seq (.seq (.reg [⟨some 24,none,.mv (.t 9)⟩,⟨some 25,none,.un .not (.t 24)⟩,⟨some 26,none,.mv (.t 25)⟩,⟨(some 27),(some (26,false)),(.load true 1 (.t 8))⟩,⟨(some 28),(some (26,false)),(.call 144 [(.t 27)])⟩,⟨(some 29),(some (26,false)),(.un .not (.t 28))⟩,⟨some 30,none,.pick (.t 26) (.c (.bool true)) (.t 29)⟩]) (.cond (.t 30) (.seq (.reg [⟨some 31,none,.build [.nil] []⟩,⟨none,none,(.store 1 (.t 4) (.t 31))⟩,⟨some 5,none,.mv (.c (.bool false))⟩]) .ret) .skip)) (.seq (.reg [⟨some 32,none,.load true 1 (.t 8)⟩,⟨none,none,(.store 1 (.t 4) (.t 32))⟩,⟨some 5,none,.mv (.c (.bool true))⟩]) .ret))))))
theorem Gg:codeOf Tryz.prog 200=some ⟨33,E9,[(.cell 4 true 1),(.tmp 5)]⟩:=by kernel_rfl
theorem EA:modes 200=⟨[],.frz,none,false⟩:=by unfold modes; rfl
theorem Zo (s:Sb) (hs:s.ok=true) (ht:s.tame) (l:List Lt) (hl:l.length≤1048576) (hal:∀ x∈l,x.atom.atom=true):E 200 [s.sv,.arr (l.map Lt.d)] []=some (.tup [(T6 s l).sv,.bool (FO s l)],[]):=by
 have h1:=Qc0 s hs ht l hl hal
 have hsv:∀ d:Cl,d.sv=.agg [.arr (d.lits.map Lt.d)]:=fun d=>rfl
 have hss:s.sv=.agg [.arr (s.binds.map Bd.d)]:=rfl
 rw [hss,hsv] at h1
 rw [hss,hsv]
 cases hok:ED s l with
 | false =>
  have ho:FO s l=false:=by unfold FO; rw [hok]; rfl
  have hz:(Cl.mk []).lits=[]:=rfl
  rw [P8 hok,hok] at h1
  rw [Rw ho,ho]
  refine Ad Gg EA (of_decide_eq_true rfl) ?_
  simp (disch:=omega) only [E9,go_sem,Aa,h1,F5]
 | true =>
  have hc:=Qa8 hok
  obtain ⟨c,hcc⟩:∃ c,c=apC s l:=⟨_,rfl⟩
  rw [←hcc] at hc h1
  have h2:=Qa1 c hc
  have hn:=Qb5 10 hc
  have h3:=JY (nz 10 c) hn
  rw [hok] at h1
  rw [hsv,hsv] at h2
  rw [hsv] at h3
  have hio:FO s l=(nz 10 c).norm:=by unfold FO; rw [hok,Bool.true_and,hcc]
  cases hm:(nz 10 c).norm with
  | false =>
   rw [hm] at h3 hio
   rw [Rw hio,hio]
   refine Ad Gg EA (of_decide_eq_true rfl) ?_
   simp (disch:=omega) only [E9,go_sem,Aa,h1,h2,h3,GR,BQ,F5]
  | true =>
   rw [hm] at h3 hio
   rw [T7 hio,hio,← hcc]
   refine Ad Gg EA (of_decide_eq_true rfl) ?_
   simp (disch:=omega) only [E9,go_sem,Aa,h1,h2,h3,GR,BQ,F5]
theorem Qa9 (a b:Tm) (ha:a.atom=true) (hb:b.atom=true):E 199 [a.sv,b.sv] []=some (.tup [(uTo (unR a b)).sv,.bool (uOk (unR a b))],[]):=by
 obtain ⟨n,hn⟩:=T5 (Tm.Cn ha) (Tm.Cn hb)
 exact QcA a b (Tm.Cn ha) (Tm.Cn hb) n _ hn
def C1:SC:=(.seq (.reg [⟨some 4,none,.boxv 60 1 (.t 0)⟩,⟨some 6,none,.boxv 60 1 (.t 2)⟩,⟨some 8,none,.alloc 60 [.nil]⟩,⟨some 9,none,.mv (.c (.bool false))⟩]) (.seq (.reg [⟨some 13,none,.load true 1 (.t 6)⟩,⟨some 14,none,.call 197 [(.t 13)]⟩,⟨some 10,none,.alloc 60 [.nil]⟩,⟨none,none,(.store 1 (.t 10) (.t 14))⟩]) (.seq (.seq (.dreg [[],[],[1],[2,1],[3,2,1],[0,4,3,2,1],[5,0,4,3,2,1],[6,5,0,4,3,2,1],[7,6,5,0,4,3,2,1],[7,6,5,0,4,3,2,1],[9,7,6,5,0,4,3,2,1],[10,9,7,6,5,0,4,3,2,1],[11,10,9,7,6,5,0,4,3,2,1],[8,7,6,5,0,4,3,2,1,12,11,10,9],[13,8,7,6,5,0,4,3,2,1,12,11,10,9],[7,6,5,0,4,3,2,1,14,13,8,12,11,10,9],[15,7,6,5,0,4,3,2,1,14,13,8,12,11,10,9],[16,15,7,6,5,0,4,3,2,1,14,13,8,12,11,10,9],[17,16,15,7,6,5,0,4,3,2,1,14,13,8,12,11,10,9],[16,15,7,6,5,0,4,3,2,1,14,13,8,12,11,10,9],[18,17,16,15,7,6,5,0,4,3,2,1,14,13,8,12,11,10,9,19],[20,18,17,16,15,7,6,5,0,4,3,2,1,14,13,8,12,11,10,9,19],[21,20,18,17,16,15,7,6,5,0,4,3,2,1,14,13,8,12,11,10,9,19],[16,15,7,6,5,0,4,3,2,1,14,13,8,12,11,10,9],[23,16,15,7,6,5,0,4,3,2,1,14,13,8,12,11,10,9],[16,15,7,6,5,0,4,3,2,1,14,13,8,12,11,10,9],[24,23,16,15,7,6,5,0,4,3,2,1,14,13,8,12,11,10,9,25],[26,24,23,16,15,7,6,5,0,4,3,2,1,14,13,8,12,11,10,9,25],[27,26,24,23,16,15,7,6,5,0,4,3,2,1,14,13,8,12,11,10,9,25],[22,21,20,18,17,16,15,7,6,5,0,4,3,2,1,14,13,8,12,11,10,9,19,28,27,26,24,23,25],[16,15,7,6,5,0,4,3,2,1,14,13,8,12,11,10,9,29,22,21,20,18,17,19,28,27,26,24,23,25]] [⟨some 15,none,.mv (.t 1)⟩,⟨some 16,none,.faddr 0 (.t 4)⟩,⟨some 17,none,.load false 1 (.t 16)⟩,⟨some 18,none,.len false (.t 17)⟩,⟨some 19,none,.bin .sub false (.t 18) (.c (.int .i64 1))⟩,⟨some 20,none,.call 198 [(.t 15),(.c (.int .i64 0)),(.t 19)]⟩,⟨some 21,none,.un .not (.t 20)⟩,⟨some 22,none,.mv (.t 21)⟩,⟨(some 23),(some (22,false)),(.mv (.t 3))⟩,⟨(some 24),(some (22,false)),(.faddr 0 (.t 10))⟩,⟨(some 25),(some (22,false)),(.load false 1 (.t 24))⟩,⟨(some 26),(some (22,false)),(.len false (.t 25))⟩,⟨(some 27),(some (22,false)),(.bin .sub false (.t 26) (.c (.int .i64 1)))⟩,⟨(some 28),(some (22,false)),(.call 198 [(.t 23),(.c (.int .i64 0)),(.t 27)])⟩,⟨(some 29),(some (22,false)),(.un .not (.t 28))⟩,⟨some 30,none,.pick (.t 22) (.c (.bool true)) (.t 29)⟩,⟨some 31,none,.mv (.t 30)⟩,⟨(some 32),(some (31,false)),(.faddr 0 (.t 4))⟩,⟨(some 33),(some (31,false)),(.load false 1 (.t 32))⟩,⟨(some 34),(some (31,false)),(.mv (.t 1))⟩,⟨(some 35),(some (31,false)),(.iaddr 3 (.t 33) (.t 34))⟩,⟨(some 36),(some (31,false)),(.faddr 0 (.t 35))⟩,⟨(some 37),(some (31,false)),(.load false 1 (.t 36))⟩,⟨(some 38),(some (31,false)),(.faddr 0 (.t 10))⟩,⟨(some 39),(some (31,false)),(.load false 1 (.t 38))⟩,⟨(some 40),(some (31,false)),(.mv (.t 3))⟩,⟨(some 41),(some (31,false)),(.iaddr 3 (.t 39) (.t 40))⟩,⟨(some 42),(some (31,false)),(.faddr 0 (.t 41))⟩,⟨(some 43),(some (31,false)),(.load false 1 (.t 42))⟩,⟨(some 44),(some (31,false)),(.bin .eql true (.t 37) (.t 43))⟩,⟨some 45,none,.pick (.t 31) (.c (.bool true)) (.t 44)⟩]) (.cond (.t 45) (.seq (.reg [⟨some 46,none,.build [.nil] []⟩,⟨none,none,(.store 1 (.t 8) (.t 46))⟩,⟨some 9,none,.mv (.c (.bool false))⟩]) .ret) .skip)) (.seq (.dreg [[],[0],[],[1,0,2],[3,1,0,2],[4,3,1,0,2],[],[6],[],[7,6,8],[9,7,6,8],[10,9,7,6,8],[5,4,3,1,0,2,11,10,9,7,6,8],[12,5,4,3,1,0,2,11,10,9,7,6,8],[13,12,5,4,3,1,0,2,11,10,9,7,6,8],[13,12,5,4,3,1,0,2,11,10,9,7,6,8],[],[16,14,13,12,5,4,3,1,0,2,11,10,9,7,6,8],[15,13,12,5,4,3,1,0,2,11,10,9,7,6,8,17,16,14]] [⟨some 48,none,.faddr 0 (.t 4)⟩,⟨some 49,none,.load false 1 (.t 48)⟩,⟨some 50,none,.mv (.t 1)⟩,⟨some 51,none,.iaddr 3 (.t 49) (.t 50)⟩,⟨some 52,none,.faddr 1 (.t 51)⟩,⟨some 53,none,.load true 2 (.t 52)⟩,⟨some 54,none,.faddr 0 (.t 10)⟩,⟨some 55,none,.load false 1 (.t 54)⟩,⟨some 56,none,.mv (.t 3)⟩,⟨some 57,none,.iaddr 3 (.t 55) (.t 56)⟩,⟨some 58,none,.faddr 1 (.t 57)⟩,⟨some 59,none,.load true 2 (.t 58)⟩,⟨some 60,none,.call 199 [(.t 53),(.t 59)]⟩,⟨some 47,none,.mv (.t 60)⟩,⟨some 61,none,.ext (.t 47) 0⟩,⟨some 62,none,.ext (.t 47) 1⟩,⟨some 11,none,.alloc 142 [.nil]⟩,⟨none,none,(.store 1 (.t 11) (.t 61))⟩,⟨some 12,none,.mv (.t 62)⟩]) (.seq (.seq (.reg [⟨some 63,none,.mv (.t 12)⟩,⟨some 64,none,.un .not (.t 63)⟩]) (.cond (.t 64) (.seq (.reg [⟨some 65,none,.build [.nil] []⟩,⟨none,none,(.store 1 (.t 8) (.t 65))⟩,⟨some 9,none,.mv (.c (.bool false))⟩]) .ret) .skip)) (.seq (.dreg [[],[],[1],[],[2,1,3],[],[5],[],[6,5,7,4,2,1,3],[4,2,1,3,8,6,5,7],[0,9,4,2,1,3,8,6,5,7],[10,0,9,4,2,1,3,8,6,5,7],[10,0,9,4,2,1,3,8,6,5,7],[11,10,0,9,4,2,1,3,8,6,5,7,12],[12,10,0,9,4,2,1,3,8,6,5,7,13,11]] [⟨some 66,none,.load true 1 (.t 11)⟩,⟨some 67,none,.faddr 0 (.t 4)⟩,⟨some 68,none,.load false 1 (.t 67)⟩,⟨some 69,none,.mv (.t 1)⟩,⟨some 70,none,.call 201 [(.t 68),(.t 69)]⟩,⟨some 71,none,.faddr 0 (.t 10)⟩,⟨some 72,none,.load false 1 (.t 71)⟩,⟨some 73,none,.mv (.t 3)⟩,⟨some 74,none,.call 201 [(.t 72),(.t 73)]⟩,⟨(some 75),none,(.append 122 3 48 [(.bool false),(.str ⟨#[]⟩),.nil] (.t 70) (.t 74))⟩,⟨some 76,none,.call 200 [(.t 66),(.t 75)]⟩,⟨some 77,none,.ext (.t 76) 0⟩,⟨some 78,none,.ext (.t 76) 1⟩,⟨none,none,(.store 1 (.t 8) (.t 77))⟩,⟨some 9,none,.mv (.t 78)⟩]) .ret))))))
theorem Dg:codeOf Tryz.prog 145=some ⟨79,C1,[(.cell 8 true 1),(.tmp 9)]⟩:=by kernel_rfl
theorem BS:modes 145=⟨[],.frz,none,false⟩:=by unfold modes; rfl
theorem Xh (c:Cl) (hc:c.ok=true) (i:Int) (d:Cl) (hd:d.ok=true) (hdn:d.norm=true) (k:Int):E 145 [c.sv,.int .i64 i,d.sv,.int .i64 k] []=some (.tup [(N5 c i d k).sv,.bool (I5 c i d k)],[]):=by
 have hl:=Cl.ok_len hc
 have hld:=Cl.ok_len hd
 have hsv:∀ d:Cl,d.sv=.agg [.arr (d.lits.map Lt.d)]:=fun d=>rfl
 have h0:=Qc2 d hd
 have ho:=Cl.QbE hd
 have hal:=Cl.Xf hd hdn
 have hahb:=Cl.Qfo hd hdn k
 have hapo:∀ q:Nat,q<d.lits.length→(M4 d.ap q).pos=(M4 d q).pos:=fun q hq=>Cl.QfY hd hdn hq
 obtain ⟨e,hee⟩:∃ e,e=d.ap:=⟨_,rfl⟩
 rw [show d.rn (Dz G6 d.ns)=e from hee.symm] at h0
 rw [←hee] at ho hal hahb hapo
 have hle:=Cl.ok_len ho
 have h1:=QbG i 0 ((c.lits.length:Int)-1)
 have h2:=QbG k 0 ((e.lits.length:Int)-1)
 rw [show (dec (0≤i)&&dec (i≤(c.lits.length:Int)-1))=hasB c i from rfl] at h1
 rw [show (dec (0≤k)&&dec (k≤(e.lits.length:Int)-1))=hasB e k from rfl,hahb] at h2
 rw [hsv,hsv] at h0
 rw [hsv,hsv,hsv]
 cases hi:hasB c i with
 | false =>
  obtain ⟨e1,e2⟩:=LF (Mu (show Ke c i d k=false by unfold Ke; rw [hi]; rfl))
  rw [hi] at h1
  rw [e1,e2]
  refine Ad Dg BS (of_decide_eq_true rfl) ?_
  simp (disch:=omega) only [C1,go_sem,Aa,h0,h1,h2,De,D1]
 | true =>
 rw [hi] at h1
 cases hk:hasB d k with
 | false =>
  obtain ⟨e1,e2⟩:=LF (Mu (show Ke c i d k=false by unfold Ke; rw [hk,Bool.false_and,Bool.and_false]))
  rw [hk] at h2
  rw [e1,e2]
  refine Ad Dg BS (of_decide_eq_true rfl) ?_
  simp (disch:=omega) only [C1,go_sem,Aa,h0,h1,h2,De,D1]
 | true =>
 rw [hk] at h2
 obtain ⟨p,rfl,hp⟩:=Rx hi
 obtain ⟨q,rfl,hq⟩:=Rx hk
 have hqe:q<e.lits.length:=by omega
 have hgp:=get_at Lt.d hp
 have hgq:=get_at Lt.d hqe
 rw [Lt.d_eq] at hgp hgq
 have tp:=zS p
 have tq:=zS q
 have ap:=Cl.CP hc _ (zC hp)
 have aq:=Cl.CP ho _ (zC hqe)
 have lp:=Kd hp
 have lq:=Kd hqe
 have hpe:=hapo q hq
 rw [lq] at hpe
 cases hpp:c.lits[p].pos == e.lits[q].pos with
 | true =>
  obtain ⟨e1,e2⟩:=LF (Mu (show Ke c p d q=false by unfold Ke; rw [lp,← hpe,hpp]; simp))
  rw [e1,e2]
  refine Ad Dg BS (of_decide_eq_true rfl) ?_
  simp (disch:=omega) only [C1,go_sem,Aa,h0,h1,h2,De,D1,hgp,hgq,tp,tq,hpp]
 | false =>
  have hT:=Zm (show Ke c p d q=true by unfold Ke; rw [hi,hk,lp,← hpe,hpp]; rfl)
  have hrl:T8 c p d q=c.lits.eraseIdx p++e.lits.eraseIdx q:=by unfold T8; rw [tp,tq,hee]
  have hla:=T9 hc hd p q
  have hll:=Zn hc hd p q
  rw [hrl] at hla hll
  rw [←hee,lp,lq] at hT
  have h3:=Qa9 _ _ ap aq
  have hsp:c.lits[p].atom.sv=.agg [.str c.lits[p].atom.name,.arr (c.lits[p].atom.args.map Tm.d)]:=rfl
  have hsq:e.lits[q].atom.sv=.agg [.str e.lits[q].atom.name,.arr (e.lits[q].atom.args.map Tm.d)]:=rfl
  rw [hsp,hsq] at h3
  cases hu:unR c.lits[p].atom e.lits[q].atom with
  | none =>
   rw [hu] at hT h3
   have hus:uTo none=⟨[]⟩:=rfl
   have huo:uOk none=false:=rfl
   have hso:(Sb.mk []).sv=.agg [.arr []]:=rfl
   rw [hus,huo,hso] at h3
   obtain ⟨e1,e2⟩:=LF hT
   rw [e1,e2]
   refine Ad Dg BS (of_decide_eq_true rfl) ?_
   simp (disch:=omega) only [C1,go_sem,Aa,h0,h1,h2,De,D1,hgp,hgq,tp,tq,hpp,h3,HT]
  | some s =>
   have hs:=Qeb (Tm.Cn ap) (Tm.Cn aq) hu
   rw [hu] at hT h3
   obtain ⟨e1,e2⟩:=Zl hT
   rw [hrl] at e1 e2
   rw [e1,e2]
   have h4:=OS c.lits (by omega) p hp
   have h6:=OS e.lits (by omega) q hqe
   have h5:=Zo s hs (EX hs) (c.lits.eraseIdx p++e.lits.eraseIdx q) (by omega) hla
   have her:=Lt.der (c.lits.eraseIdx p++e.lits.eraseIdx q)
   have hfu:=Lt.dfu (c.lits.eraseIdx p++e.lits.eraseIdx q)
   have hap:(c.lits.eraseIdx p).map (fun b:Lt=>b.d.map D.ot)++(e.lits.eraseIdx q).map (fun b:Lt=>b.d.map D.ot)=(c.lits.eraseIdx p++e.lits.eraseIdx q).map (fun b:Lt=>b.d.map D.ot):=by rw [zM]
   have hl3:=Lt.al3 (e.lits.eraseIdx q)
   have hc1:(c.lits.eraseIdx p).length=c.lits.length-1:=by rw [List.length_eraseIdx]; simp [hp]
   have hc2:(e.lits.eraseIdx q).length=e.lits.length-1:=by rw [List.length_eraseIdx]; simp [hqe]
   have hus:uTo (some s)=s:=rfl
   have huo:uOk (some s)=true:=rfl
   have hss:s.sv=.agg [.arr (s.binds.map Bd.d)]:=rfl
   rw [hus,huo,hss] at h3
   rw [hss,hsv] at h5
   refine Ad Dg BS (of_decide_eq_true rfl) ?_
   simp (disch:=omega) only [C1,go_sem,Aa,h0,h1,h2,De,D1,hgp,hgq,tp,tq,hpp,h3,h4,h6,h5,her,hfu,hap,hl3,hc1,hc2,HT,I8,EA]
theorem Cl.Zp (x:Cl) (h:x.bulk≤1048576):x.tame:=by
 rw [Cl.bulk_eq] at h
 refine ⟨by omega,fun y hy=>?_⟩
 obtain ⟨k,hk,rfl⟩:=List.getElem_of_mem hy
 have h1:=Lt.bulk_le x.lits k hk
 have h2:=Tm.SP x.lits[k].atom
 rw [Lt.bulk_eq] at h1
 omega
theorem Tm.QcC {x:Tm} (h:x.atom=true):x.bulk≤300:=by
 have hx:=Tm.Cn h
 have hn:=Tm.As hx
 have h1:=Tm.Nz x.args fun y hy=>Tm.SQ y (Tm.Js hx hy)
 have h2:x.name.size≤6:=by
  rcases Tm.JU hx with h3 | ⟨h3,_⟩
  ·rw [Tm.EN] at h3
   split at h3
   ·rename_i hv; exact Vj hv
   ·rw [zP,zP] at h3; exact Vk h3.1.1
  ·unfold Tm.eqn at h3
   rw [At.1 h3]; decide
 rw [Tm.An] at hn
 rw [Tm.bulk_eq]
 omega
theorem Lt.TB:∀ xs:List Lt,(∀ x∈xs,x.atom.atom=true)→Lt.sumB xs≤300*xs.length
 | [],_=>by simp [Lt.sumB]
 | x :: xs,h=>by
  have h1:=Tm.QcC (h x (by simp))
  have h2:=Lt.TB xs fun y hy=>h y (by simp [hy])
  rw [Lt.sumB,Lt.bulk_eq,zQ]; omega
theorem Cl.Qfp {x:Cl} (h:x.ok=true):x.bulk≤2408:=by
 have h1:=Cl.ok_len h
 have h2:=Lt.TB x.lits (Cl.CP h)
 rw [Cl.bulk_eq]; omega
noncomputable def KB (l:List Cl) (c:Cl):List Cl:=bif dec (c∈l) then l else l++[c]
noncomputable def FE (l cs:List Cl):List Cl:=cs.foldl KB l
theorem Qec (l a b:List Cl):FE l (a++b)=FE (FE l a) b:=List.foldl_append
theorem Qed {l:List Cl} {c d:Cl}:d∈KB l c ↔ d∈l∨d=c:=by
 unfold KB
 by_cases h:c∈l
 ·rw [Ar h,cond_true]
  exact ⟨.inl,fun h'=>h'.elim id fun e=>e▸h⟩
 ·rw [Ax h,cond_false]
  simp
theorem Qee (l:List Cl) (c:Cl):(KB l c).length≤l.length+1:=by
 unfold KB
 cases dec (c∈l) <;> simp
theorem Zq:∀ (cs l:List Cl),(FE l cs).length≤l.length+cs.length
 | [],l=>by simp [FE]
 | c :: cs,l=>by
  have h:=Zq cs (KB l c)
  have h2:=Qee l c
  simp only [FE,List.foldl_cons,zQ] at h ⊢
  omega
theorem Zr:∀ {cs l:List Cl} {d:Cl},d∈FE l cs ↔ d∈l∨d∈cs
 | [],l,d=>by simp [FE]
 | c :: cs,l,d=>by
  have h:=Zr (cs:=cs) (l:=KB l c) (d:=d)
  simp only [FE,List.foldl_cons] at h ⊢
  rw [h,Qed]
  simp only [List.mem_cons]
  exact or_assoc
theorem Cl.QbH {x y:Cl}:x=y ↔ x.lits=y.lits:=by
 constructor
 ·intro h; rw [h]
 ·intro h
  cases x; cases y
  simpa using h
theorem Kf {p q:Prop} (h:p ↔ q):dec p=dec q:=by rw [show p=q from propext h]
theorem Zs {xs ys:List Lt} (hl:xs.length=ys.length) {k:Nat} (hk:k<xs.length):(xs.drop k=ys.drop k) ↔ (xs[k]=ys[k]'(by omega)∧xs.drop (k+1)=ys.drop (k+1)):=by
 rw [zE hk,zE (show k<ys.length by omega),List.cons.injEq]
theorem HU:K9 Tryz.prog 217=true:=by kernel_rfl
def A7:SC:=(.seq (.reg [⟨some 6,none,.mv (.c (.bool false))⟩]) (.seq (.seq (.reg [⟨some 10,none,.mv (.t 0)⟩,⟨some 11,none,.len false (.t 10)⟩,⟨some 12,none,.mv (.t 1)⟩,⟨some 13,none,.len false (.t 12)⟩,⟨some 14,none,.bin .neq false (.t 11) (.t 13)⟩]) (.cond (.t 14) (.seq (.reg [⟨some 6,none,.mv (.c (.bool false))⟩]) .ret) .skip)) (.seq (.seq (.reg [⟨some 15,none,.mv (.t 0)⟩,⟨some 16,none,.len false (.t 15)⟩,⟨some 17,none,.mv (.c (.int .i64 0))⟩]) (.block 0 (.loop [0,1,1,0,0,0,0,0,0,0,0,0,0,0,0,1,1,1,0,0,0,0,0,0,0,0,0,0,0,0,0,0] (.seq (.reg [⟨some 18,none,.bin .lss false (.t 17) (.t 16)⟩]) (.seq (.cond (.t 18) .skip (.exit 0)) (.seq (.block 1 (.seq (.reg [⟨some 19,none,.mv (.t 17)⟩,⟨some 20,none,.iaddr 3 (.t 15) (.t 17)⟩,⟨some 21,none,.load true 3 (.t 20)⟩,⟨(some 8),none,(.alloc 122 [(.bool false),(.str ⟨#[]⟩),.nil])⟩,⟨some 7,none,.mv (.t 19)⟩,⟨none,none,(.store 3 (.t 8) (.t 21))⟩]) (.seq (.reg [⟨some 22,none,.mv (.t 1)⟩,⟨some 23,none,.mv (.t 7)⟩,⟨some 24,none,.iaddr 3 (.t 22) (.t 23)⟩,⟨some 25,none,.load true 3 (.t 24)⟩,⟨(some 9),none,(.alloc 122 [(.bool false),(.str ⟨#[]⟩),.nil])⟩,⟨none,none,(.store 3 (.t 9) (.t 25))⟩]) (.seq (.reg [⟨some 26,none,.mv (.t 2)⟩,⟨some 27,none,.load true 3 (.t 8)⟩,⟨some 28,none,.load true 3 (.t 9)⟩,⟨some 29,none,.callv (.t 26) [(.t 27),(.t 28)]⟩,⟨some 30,none,.un .not (.t 29)⟩]) (.cond (.t 30) (.seq (.reg [⟨some 6,none,.mv (.c (.bool false))⟩]) .ret) .skip))))) (.reg [⟨some 31,none,.bin .add false (.t 17) (.c (.int .i64 1))⟩,⟨some 17,none,.mv (.t 31)⟩]))))))) (.seq (.reg [⟨some 6,none,.mv (.c (.bool true))⟩]) .ret))))
theorem AM:codeOf Tryz.prog 216=some ⟨32,A7,[(.tmp 6)]⟩:=by kernel_rfl
theorem A8:modes 216=⟨[],.asis,none,false⟩:=by unfold modes; rfl
def I9:SC:=(.seq (.reg [⟨some 2,none,.boxv 60 1 (.t 0)⟩,⟨some 3,none,.boxv 60 1 (.t 1)⟩,⟨some 4,none,.mv (.c (.bool false))⟩]) (.seq (.reg [⟨some 5,none,.faddr 0 (.t 2)⟩,⟨some 6,none,.load false 1 (.t 5)⟩,⟨some 7,none,.faddr 0 (.t 3)⟩,⟨some 8,none,.load false 1 (.t 7)⟩,⟨some 9,none,.call 216 [(.t 6),(.t 8),(.c (.fn 217 []))]⟩,⟨some 4,none,.mv (.t 9)⟩]) .ret))
theorem OU:codeOf Tryz.prog 156=some ⟨10,I9,[(.tmp 4)]⟩:=by kernel_rfl
theorem IA:modes 156=⟨[],.asis,none,false⟩:=by unfold modes; rfl
theorem Qef (xs ys:List Lt) (hx:xs.length≤1048576) (hy:ys.length≤1048576) (hnx:∀ x∈xs,x.atom.nodes≤1099511627776) (hny:∀ x∈ys,x.atom.nodes≤1099511627776):E 216 [.arr (xs.map Lt.d),.arr (ys.map Lt.d),.fn 217 []] []=some (.bool (dec (xs=ys)),[]):=by
 by_cases hl:xs.length=ys.length
 ·have hz:((xs.length:Int)=(ys.length:Int))=True:=eq_true (by omega)
  refine Ad AM A8 (of_decide_eq_true rfl) ?_
  simp (disch:=omega) only [A7,go_sem,Aa,hz]
  refine go_loop (α:=Int) (fun a=>⟨slots 32 0 [(1,.arr (ys.map Lt.d)),(2,.fn 217 []),(15,.arr (xs.map Lt.d)),(16,.int .i64 xs.length),(17,.int .i64 a)],[]⟩) (fun a=>∃ k:Nat,a=k∧k≤(xs).length∧dec (xs.drop k=ys.drop k)=dec (xs=ys)) (fun a=>(xs).length-(a).toNat) 0 ⟨0,rfl,zD _,by rw [zH,zH]⟩ (by simp (disch:=omega) only [go_sem,Aa]) ?_
  rintro i ⟨k,hi,hk,hR⟩
  have hni:i.toNat=k:=by omega
  have hni1:(i+1).toNat=k+1:=by omega
  rcases zA k (xs).length with hlt | hge
  ·have hg:=get_at Lt.d hlt
   have hlt2:k<ys.length:=by omega
   have hg2:=get_at Lt.d hlt2
   rw [Lt.d_eq] at hg hg2
   have hs:=Zs hl hlt
   have hc:=MP xs[k] ys[k] (hnx _ (zC hlt)) (hny _ (zC hlt2))
   have h1:xs[k].sv=.agg [.bool xs[k].pos,.str xs[k].atom.name,.arr (xs[k].atom.args.map Tm.d)]:=rfl
   have h2:ys[k].sv=.agg [.bool ys[k].pos,.str ys[k].atom.name,.arr (ys[k].atom.args.map Tm.d)]:=rfl
   rw [h1,h2] at hc
   by_cases he:xs[k]=ys[k]
   ·rw [Ar he] at hc
    rw [Kf hs,Kf (show (xs[k]=ys[k]∧xs.drop (k+1)=ys.drop (k+1)) ↔ xs.drop (k+1)=ys.drop (k+1) from ⟨fun h=>h.2,fun h=>⟨he,h⟩⟩)] at hR
    simp (disch:=omega) only [go_sem,Aa,hni,hg,hg2,hc,HU,Fh]
    exact ⟨i+1,⟨k+1,by omega,hlt,hR⟩,by omega,by first | trivial | rfl⟩
   ·rw [Ax he] at hc
    rw [Kf hs,Ax (fun h=>he h.1)] at hR
    rw [←hR]
    simp (disch:=omega) only [go_sem,Aa,hni,hg,hg2,hc,HU,Fh]
  ·rw [zB hge,zB (by omega:ys.length≤k),Ar rfl] at hR
   rw [←hR]
   simp (disch:=omega) only [go_sem,Aa,hni]
 ·have hz:((xs.length:Int)=(ys.length:Int))=False:=eq_false (by omega)
  have hne:dec (xs=ys)=false:=Ax fun h=>hl (by rw [h])
  rw [hne]
  refine Ad AM A8 (of_decide_eq_true rfl) ?_
  simp (disch:=omega) only [A7,go_sem,Aa,hz]
theorem Xi (x y:Cl) (hx:x.tame∧x.lits.length≤1048576) (hy:y.tame∧y.lits.length≤1048576):E 156 [x.sv,y.sv] []=some (.bool (dec (x=y)),[]):=by
 have h1:=Qef x.lits y.lits hx.2 hy.2 hx.1.2 hy.1.2
 have e1:x.sv=.agg [.arr (x.lits.map Lt.d)]:=rfl
 have e2:y.sv=.agg [.arr (y.lits.map Lt.d)]:=rfl
 rw [Kf Cl.QbH,e1,e2]
 refine Ad OU IA (of_decide_eq_true rfl) ?_
 simp (disch:=omega) only [I9,go_sem,Aa,h1,A8]
def BT:SC:=(.seq (.reg [⟨some 4,none,.mv (.c (.int .i64 0))⟩]) (.seq (.seq (.reg [⟨some 6,none,.mv (.t 0)⟩,⟨some 7,none,.len false (.t 6)⟩,⟨some 8,none,.mv (.c (.int .i64 0))⟩]) (.block 0 (.loop [1,1,0,0,0,0,0,1,1,0,0,0,0,0,0,0,0,0,0] (.seq (.reg [⟨some 9,none,.bin .lss false (.t 8) (.t 7)⟩]) (.seq (.cond (.t 9) .skip (.exit 0)) (.seq (.block 1 (.seq (.reg [⟨some 10,none,.mv (.t 8)⟩,⟨some 5,none,.mv (.t 10)⟩]) (.seq (.reg [⟨some 11,none,.mv (.t 1)⟩,⟨some 12,none,.mv (.t 0)⟩,⟨some 13,none,.mv (.t 5)⟩,⟨some 14,none,.iaddr 1 (.t 12) (.t 13)⟩,⟨some 15,none,.load true 1 (.t 14)⟩,⟨some 16,none,.callv (.t 11) [(.t 15)]⟩]) (.cond (.t 16) (.seq (.reg [⟨some 17,none,.mv (.t 5)⟩,⟨some 4,none,.mv (.t 17)⟩]) .ret) .skip)))) (.reg [⟨some 18,none,.bin .add false (.t 8) (.c (.int .i64 1))⟩,⟨some 8,none,.mv (.t 18)⟩]))))))) (.seq (.reg [⟨some 4,none,.mv (.c (.int .i64 (-(0+1))))⟩]) .ret)))
theorem DD:codeOf Tryz.prog 158=some ⟨19,BT,[(.tmp 4)]⟩:=by kernel_rfl
theorem BU:modes 158=⟨[],.asis,none,false⟩:=by unfold modes; rfl
def B8:SC:=(.seq (.reg [⟨some 4,none,.mv (.c (.bool false))⟩]) (.seq (.reg [⟨some 5,none,.mv (.t 0)⟩,⟨some 6,none,.mv (.t 1)⟩,⟨some 7,none,.call 158 [(.t 5),(.t 6)]⟩,⟨some 8,none,.bin .geq false (.t 7) (.c (.int .i64 0))⟩,⟨some 4,none,.mv (.t 8)⟩]) .ret))
theorem Dq:codeOf Tryz.prog 89=some ⟨9,B8,[(.tmp 4)]⟩:=by kernel_rfl
theorem B9:modes 89=⟨[],.asis,none,false⟩:=by unfold modes; rfl
def J6:SC:=(.seq (.reg [⟨some 3,none,.boxv 60 1 (.t 1)⟩,⟨some 4,none,.mv (.c (.bool false))⟩]) (.seq (.reg [⟨some 5,none,.mv (.t 0)⟩,⟨some 6,none,.mkfn 155 [(.t 3)]⟩,⟨some 7,none,.call 89 [(.t 5),(.t 6)]⟩,⟨some 4,none,.mv (.t 7)⟩]) .ret))
theorem PP:codeOf Tryz.prog 81=some ⟨8,J6,[(.tmp 4)]⟩:=by kernel_rfl
theorem Gh:modes 81=⟨[],.asis,none,false⟩:=by unfold modes; rfl
def HV:SC:=(.seq (.reg [⟨some 2,none,.boxv 60 1 (.t 0)⟩,⟨some 3,none,.mv (.c (.bool false))⟩]) (.seq (.reg [⟨some 4,none,.load true 1 (.t 2)⟩,⟨some 5,none,.load true 1 (.t 1)⟩,⟨some 6,none,.call 156 [(.t 4),(.t 5)]⟩,⟨some 3,none,.mv (.t 6)⟩]) .ret))
theorem N6:codeOf Tryz.prog 155=some ⟨7,HV,[(.tmp 3)]⟩:=by kernel_rfl
theorem Fj:modes 155=⟨[],.asis,none,false⟩:=by unfold modes; rfl
theorem HW:K9 Tryz.prog 155=true:=by kernel_rfl
theorem Qgd (c:Cl) (hc:c.tame∧c.lits.length≤1048576) (x:Cl) (hx:x.tame∧x.lits.length≤1048576):E 155 [x.sv,.ptr 0 0] [.box 60 [.arr (c.lits.map Lt.d)]]=some (.bool (dec (x=c)),[.box 60 [.arr (c.lits.map Lt.d)]]):=by
 have h1:=Xi x c hx hc
 have e1:x.sv=.agg [.arr (x.lits.map Lt.d)]:=rfl
 have e2:c.sv=.agg [.arr (c.lits.map Lt.d)]:=rfl
 rw [e1,e2] at h1
 rw [e1]
 refine Ad N6 Fj (of_decide_eq_true rfl) ?_
 simp (disch:=omega) only [HV,go_sem,Aa,h1,IA]
theorem Qeg (c:Cl) (xs:List Cl):dec (c∈xs)=dec (0≤E4 (fun s=>dec (s=c)) xs 0):=by
 rw [Oi]
 by_cases hm:c∈xs
 ·rw [Ar hm]
  exact (List.any_eq_true.2 ⟨c,hm,Ar rfl⟩).symm
 ·rw [Ax hm]
  refine Eq.symm (Bool.eq_false_iff.2 fun h=>?_)
  obtain ⟨x,h1,h2⟩:=List.any_eq_true.1 h
  have e:=At.1 h2
  subst e
  exact hm h1
theorem Qeh (c:Cl) (hc:c.tame∧c.lits.length≤1048576) (xs:List Cl) (hl:xs.length≤1048576) (hx:∀ x∈xs,x.tame∧x.lits.length≤1048576):E 158 [.arr (xs.map Cl.d),.fn 155 [.ptr 0 0]] [.box 60 [.arr (c.lits.map Lt.d)]]=some (.int .i64 (E4 (fun s=>dec (s=c)) xs 0),[.box 60 [.arr (c.lits.map Lt.d)]]):=by
 have hE:=Qgd c hc
 refine Ad DD BU (of_decide_eq_true rfl) ?_
 simp (disch:=omega) only [BT,go_sem,Aa]
 refine go_loop (α:=Int) (fun a=>⟨slots 19 0 [(0,.arr (xs.map Cl.d)),(1,.fn 155 [.ptr 0 0]),(7,.int .i64 xs.length),(8,.int .i64 a)],[.box 60 [.arr (c.lits.map Lt.d)]]⟩) (fun a=>∃ k:Nat,a=k∧k≤(xs).length∧E4 (fun s=>dec (s=c)) (xs.drop k) a=E4 (fun s=>dec (s=c)) xs 0) (fun a=>(xs).length-(a).toNat) 0 ⟨0,rfl,zD _,by rw [zH]⟩ (by simp (disch:=omega) only [go_sem,Aa]) ?_
 rintro i ⟨k,hi,hk,hR⟩
 have hni:i.toNat=k:=by omega
 have hni1:(i+1).toNat=k+1:=by omega
 rcases zA k (xs).length with hlt | hge
 ·have hg':=get_at Cl.d hlt
  rw [Cl.d_eq] at hg'
  have hc:=hE xs[k] (hx _ (zC hlt))
  rw [zE hlt,E4] at hR
  have e1:xs[k].sv=.agg [.arr (xs[k].lits.map Lt.d)]:=rfl
  rw [e1] at hc
  cases hp:dec (xs[k]=c) with
  | true =>
   rw [hp] at hc hR
   simp (disch:=omega) only [go_sem,Aa,hni,hg',hc,HW,Fj]
   simpa using hR
  | false =>
   rw [hp] at hc hR
   simp (disch:=omega) only [go_sem,Aa,hni,hg',hc,HW,Fj]
   exact ⟨i+1,⟨k+1,by omega,hlt,by simpa using hR⟩,by omega,by first | trivial | rfl⟩
 ·rw [zB hge,E4] at hR
  simp (disch:=omega) only [go_sem,Aa,hni]
  exact hR
theorem Zt (c:Cl) (hc:c.tame∧c.lits.length≤1048576) (xs:List Cl) (hl:xs.length≤1048576) (hx:∀ x∈xs,x.tame∧x.lits.length≤1048576):E 89 [.arr (xs.map Cl.d),.fn 155 [.ptr 0 0]] [.box 60 [.arr (c.lits.map Lt.d)]]=some (.bool (dec (c∈xs)),[.box 60 [.arr (c.lits.map Lt.d)]]):=by
 have h:=Qeh c hc xs hl hx
 rw [Qeg]
 refine Ad Dq B9 (of_decide_eq_true rfl) ?_
 simp (disch:=omega) only [B8,go_sem,Aa,h,BU]
theorem Zu (c:Cl) (hc:c.tame∧c.lits.length≤1048576) (xs:List Cl) (hl:xs.length≤1048576) (hx:∀ x∈xs,x.tame∧x.lits.length≤1048576):E 81 [.arr (xs.map Cl.d),c.sv] []=some (.bool (dec (c∈xs)),[]):=by
 have h:=Zt c hc xs hl hx
 have e2:c.sv=.agg [.arr (c.lits.map Lt.d)]:=rfl
 rw [e2]
 refine Ad PP Gh (of_decide_eq_true rfl) ?_
 simp (disch:=omega) only [J6,go_sem,Aa,h,B9]
def Cl.smallC (x:Cl):Prop:=x.tame∧x.lits.length≤1048576
def Cl.os (x:Cl):List OT:=[.sh (x.lits.map Lt.d)]
theorem Cl.os_eq (x:Cl):x.os=[.sh (x.lits.map Lt.d)]:=rfl
theorem Cl.Xj:∀ xs:List Cl,OT.AA (xs.map Cl.os)=true
 | []=>rfl
 | x :: xs=>by rw [List.map_cons,OT.AA,Cl.Xj xs]; rfl
theorem Cl.Qei:∀ xs:List Cl,OT.erss (xs.map Cl.os)=xs.map Cl.d
 | []=>rfl
 | x :: xs=>by rw [List.map_cons,OT.erss,Cl.Qei xs]; rfl
def IZ:SC:=(.seq (.reg [⟨some 2,none,.boxv 60 1 (.t 0)⟩,⟨some 3,none,.boxv 60 1 (.t 1)⟩,⟨some 4,none,.mv (.c (.bool false))⟩]) (.seq (.seq (.reg [⟨some 6,none,.faddr 0 (.t 2)⟩,⟨some 7,none,.load false 1 (.t 6)⟩,⟨some 8,none,.len false (.t 7)⟩,⟨some 9,none,.faddr 0 (.t 3)⟩,⟨some 10,none,.load false 1 (.t 9)⟩,⟨some 11,none,.len false (.t 10)⟩,⟨some 12,none,.bin .neq false (.t 8) (.t 11)⟩]) (.cond (.t 12) (.seq (.reg [⟨some 4,none,.mv (.c (.bool false))⟩]) .ret) .skip)) (.seq (.seq (.reg [⟨some 5,none,.mv (.c (.int .i64 0))⟩]) (.block 0 (.loop [0,0,1,1,0,1,0,0,0,0,0,0,0,0,0,0,0,0,0,0,0,0,0,0,0,0,0,0,0,0,0,0,0,0,0,0,0,0,0,0,0,0,0,0,0,0,0,0,0] (.seq (.seq (.reg [⟨some 13,none,.mv (.t 5)⟩,⟨some 14,none,.faddr 0 (.t 2)⟩,⟨some 15,none,.load false 1 (.t 14)⟩,⟨some 16,none,.len false (.t 15)⟩,⟨some 17,none,.bin .lss false (.t 13) (.t 16)⟩]) (.cond (.t 17) .skip (.exit 0))) (.seq (.block 1 (.seq (.dreg [[],[0],[],[1,0,2],[3,1,0,2],[4,3,1,0,2],[],[6],[],[7,6,8],[9,7,6,8],[10,9,7,6,8],[5,4,3,1,0,2,11,10,9,7,6,8],[12,5,4,3,1,0,2,11,10,9,7,6,8],[13,12,5,4,3,1,0,2,11,10,9,7,6,8],[14,13,12,5,4,3,1,0,2,11,10,9,7,6,8],[13,12,5,4,3,1,0,2,11,10,9,7,6,8],[15,14,13,12,5,4,3,1,0,2,11,10,9,7,6,8,16],[17,15,14,13,12,5,4,3,1,0,2,11,10,9,7,6,8,16],[18,17,15,14,13,12,5,4,3,1,0,2,11,10,9,7,6,8,16],[13,12,5,4,3,1,0,2,11,10,9,7,6,8],[20,13,12,5,4,3,1,0,2,11,10,9,7,6,8],[13,12,5,4,3,1,0,2,11,10,9,7,6,8],[21,20,13,12,5,4,3,1,0,2,11,10,9,7,6,8,22],[23,21,20,13,12,5,4,3,1,0,2,11,10,9,7,6,8,22],[24,23,21,20,13,12,5,4,3,1,0,2,11,10,9,7,6,8,22],[19,18,17,15,14,13,12,5,4,3,1,0,2,11,10,9,7,6,8,16,25,24,23,21,20,22],[26,19,18,17,15,14,13,12,5,4,3,1,0,2,11,10,9,7,6,8,16,25,24,23,21,20,22],[13,12,5,4,3,1,0,2,11,10,9,7,6,8,27,26,19,18,17,15,14,16,25,24,23,21,20,22]] [⟨some 20,none,.faddr 0 (.t 2)⟩,⟨some 21,none,.load false 1 (.t 20)⟩,⟨some 22,none,.mv (.t 5)⟩,⟨some 23,none,.iaddr 3 (.t 21) (.t 22)⟩,⟨some 24,none,.faddr 0 (.t 23)⟩,⟨some 25,none,.load false 1 (.t 24)⟩,⟨some 26,none,.faddr 0 (.t 3)⟩,⟨some 27,none,.load false 1 (.t 26)⟩,⟨some 28,none,.mv (.t 5)⟩,⟨some 29,none,.iaddr 3 (.t 27) (.t 28)⟩,⟨some 30,none,.faddr 0 (.t 29)⟩,⟨some 31,none,.load false 1 (.t 30)⟩,⟨some 32,none,.bin .neq true (.t 25) (.t 31)⟩,⟨some 33,none,.mv (.t 32)⟩,⟨(some 34),(some (33,false)),(.faddr 0 (.t 2))⟩,⟨(some 35),(some (33,false)),(.load false 1 (.t 34))⟩,⟨(some 36),(some (33,false)),(.mv (.t 5))⟩,⟨(some 37),(some (33,false)),(.iaddr 3 (.t 35) (.t 36))⟩,⟨(some 38),(some (33,false)),(.faddr 1 (.t 37))⟩,⟨(some 39),(some (33,false)),(.load true 2 (.t 38))⟩,⟨(some 40),(some (33,false)),(.faddr 0 (.t 3))⟩,⟨(some 41),(some (33,false)),(.load false 1 (.t 40))⟩,⟨(some 42),(some (33,false)),(.mv (.t 5))⟩,⟨(some 43),(some (33,false)),(.iaddr 3 (.t 41) (.t 42))⟩,⟨(some 44),(some (33,false)),(.faddr 1 (.t 43))⟩,⟨(some 45),(some (33,false)),(.load true 2 (.t 44))⟩,⟨(some 46),(some (33,false)),(.call 230 [(.t 39),(.t 45)])⟩,⟨(some 47),(some (33,false)),(.un .not (.t 46))⟩,⟨some 48,none,.pick (.t 33) (.c (.bool true)) (.t 47)⟩]) (.cond (.t 48) (.seq (.reg [⟨some 4,none,.mv (.c (.bool false))⟩]) .ret) .skip))) (.reg [⟨some 18,none,.mv (.t 5)⟩,⟨some 19,none,.bin .add false (.t 18) (.c (.int .i64 1))⟩,⟨some 5,none,.mv (.t 19)⟩])))))) (.seq (.reg [⟨some 4,none,.mv (.c (.bool true))⟩]) .ret))))
theorem Na:codeOf Tryz.prog 167=some ⟨49,IZ,[(.tmp 4)]⟩:=by kernel_rfl
theorem Gs:modes 167=⟨[],.asis,none,false⟩:=by unfold modes; rfl
theorem Qej (x y:Cl) (hx:x.smallC) (hy:y.smallC):E 167 [x.sv,y.sv] []=some (.bool (dec (x=y)),[]):=by
 have e1:x.sv=.agg [.arr (x.lits.map Lt.d)]:=rfl
 have e2:y.sv=.agg [.arr (y.lits.map Lt.d)]:=rfl
 rw [Kf Cl.QbH,e1,e2]
 obtain ⟨⟨hx1,hnx⟩,hx⟩:=hx
 obtain ⟨⟨hy1,hny⟩,hy⟩:=hy
 obtain ⟨xs,hxs⟩:∃ xs,xs=x.lits:=⟨_,rfl⟩
 obtain ⟨ys,hys⟩:∃ ys,ys=y.lits:=⟨_,rfl⟩
 rw [←hxs] at hx hnx ⊢
 rw [←hys] at hy hny ⊢
 clear e1 e2 hxs hys hx1 hy1
 by_cases hl:xs.length=ys.length
 ·have hz:((xs.length:Int)=(ys.length:Int))=True:=eq_true (by omega)
  refine Ad Na Gs (of_decide_eq_true rfl) ?_
  simp (disch:=omega) only [IZ,go_sem,Aa,hz]
  refine go_loop (α:=Int) (fun a=>⟨slots 49 0 [(2,.ptr 0 0),(3,.ptr 1 0),(5,.int .i64 a)],[.box 60 [.arr (xs.map Lt.d)],.box 60 [.arr (ys.map Lt.d)]]⟩) (fun a=>∃ k:Nat,a=k∧k≤(xs).length∧dec (xs.drop k=ys.drop k)=dec (xs=ys)) (fun a=>(xs).length-(a).toNat) 0 ⟨0,rfl,zD _,by rw [zH,zH]⟩ (by simp (disch:=omega) only [go_sem,Aa]) ?_
  rintro i ⟨k,hi,hk,hR⟩
  have hni:i.toNat=k:=by omega
  have hni1:(i+1).toNat=k+1:=by omega
  rcases zA k (xs).length with hlt | hge
  ·have hg:=get_at Lt.d hlt
   have hlt2:k<ys.length:=by omega
   have hg2:=get_at Lt.d hlt2
   rw [Lt.d_eq] at hg hg2
   have hs:=Zs hl hlt
   have hc:=Jm xs[k].atom ys[k].atom (hnx _ (zC hlt)) (hny _ (zC hlt2))
   have h1:xs[k].atom.sv=.agg [.str xs[k].atom.name,.arr (xs[k].atom.args.map Tm.d)]:=rfl
   have h2:ys[k].atom.sv=.agg [.str ys[k].atom.name,.arr (ys[k].atom.args.map Tm.d)]:=rfl
   rw [h1,h2] at hc
   have hq:(xs[k]=ys[k]) ↔ (xs[k].pos=ys[k].pos∧xs[k].atom=ys[k].atom):=by
    constructor
    ·intro h; rw [h]; exact ⟨rfl,rfl⟩
    ·rintro ⟨a,b⟩
     cases h3:xs[k]; cases h4:ys[k]
     rw [h3,h4] at a b
     simp only at a b
     rw [a,b]
   cases hp:xs[k].pos == ys[k].pos with
   | false =>
    have hpn:¬ xs[k].pos=ys[k].pos:=by simpa using hp
    rw [Kf hs,Ax (fun h=>hpn (hq.1 h.1).1)] at hR
    rw [←hR]
    simp (disch:=omega) only [go_sem,Aa,hni,hg,hg2,hp,Ai]
   | true =>
    have hpy:xs[k].pos=ys[k].pos:=by simpa using hp
    by_cases he:xs[k].atom=ys[k].atom
    ·have he2:=hq.2 ⟨hpy,he⟩
     rw [Ar he] at hc
     rw [Kf hs,Kf (show (xs[k]=ys[k]∧xs.drop (k+1)=ys.drop (k+1)) ↔ xs.drop (k+1)=ys.drop (k+1) from ⟨fun h=>h.2,fun h=>⟨he2,h⟩⟩)] at hR
     simp (disch:=omega) only [go_sem,Aa,hni,hg,hg2,hp,hc,Ai]
     exact ⟨i+1,⟨k+1,by omega,hlt,hR⟩,by omega,by first | trivial | rfl⟩
    ·rw [Ax he] at hc
     rw [Kf hs,Ax (fun h=>he (hq.1 h.1).2)] at hR
     rw [←hR]
     simp (disch:=omega) only [go_sem,Aa,hni,hg,hg2,hp,hc,Ai]
  ·rw [zB hge,zB (by omega:ys.length≤k),Ar rfl] at hR
   rw [←hR]
   simp (disch:=omega) only [go_sem,Aa,hni]
 ·have hz:((xs.length:Int)=(ys.length:Int))=False:=eq_false (by omega)
  have hne:dec (xs=ys)=false:=Ax fun h=>hl (by rw [h])
  rw [hne]
  refine Ad Na Gs (of_decide_eq_true rfl) ?_
  simp (disch:=omega) only [IZ,go_sem,Aa,hz]
def K4:SC:=(.seq (.reg [⟨some 2,none,.mv (.c .nil)⟩]) (.seq (.reg [⟨some 7,none,.mkrow 60 1 [.nil] 0 []⟩,⟨some 3,none,.mv (.t 7)⟩]) (.seq (.seq (.reg [⟨some 4,none,.mv (.c (.int .i64 0))⟩]) (.block 0 (.loop [1,0,0,1,1,0,0,0,0,0,0,0,0,0,0,0,0,0,0,0,0,0,0,0,0,0,0,0,0,0,0,0,0,0,0,0,0,0,0,0,0,0] (.seq (.seq (.reg [⟨some 8,none,.mv (.t 4)⟩,⟨some 9,none,.mv (.t 0)⟩,⟨some 10,none,.len false (.t 9)⟩,⟨some 11,none,.bin .lss false (.t 8) (.t 10)⟩]) (.cond (.t 11) .skip (.exit 0))) (.seq (.block 1 (.seq (.reg [⟨some 5,none,.mv (.c (.bool false))⟩]) (.seq (.seq (.reg [⟨some 6,none,.mv (.c (.int .i64 0))⟩]) (.block 2 (.loop [1,0,0,1,1,1,1,0,0,0,0,0,0,0,0,0,0,0,0,0,0,0,0,0,0,0,0,0,0,0,0,0,0,0,0,0,0,0,0,0,0,0] (.seq (.seq (.reg [⟨some 14,none,.mv (.t 6)⟩,⟨some 15,none,.mv (.t 3)⟩,⟨some 16,none,.len false (.t 15)⟩,⟨some 17,none,.bin .lss false (.t 14) (.t 16)⟩]) (.cond (.t 17) .skip (.exit 2))) (.seq (.block 3 (.dreg [[],[0],[1,0],[1,0],[2,1,0,3],[4,2,1,0,3],[1,0],[1,0],[6,1,0,7],[8,6,1,0,7],[5,4,2,1,0,3,9,8,6,7],[1,0,10,5,4,2,3,9,8,6,7],[11,1,0,10,5,4,2,3,9,8,6,7]] [⟨some 20,none,.mv (.t 5)⟩,⟨some 21,none,.mv (.t 20)⟩,⟨(some 22),(some (21,false)),(.mv (.t 3))⟩,⟨(some 23),(some (21,false)),(.mv (.t 6))⟩,⟨(some 24),(some (21,false)),(.iaddr 1 (.t 22) (.t 23))⟩,⟨(some 25),(some (21,false)),(.load true 1 (.t 24))⟩,⟨(some 26),(some (21,false)),(.mv (.t 0))⟩,⟨(some 27),(some (21,false)),(.mv (.t 4))⟩,⟨(some 28),(some (21,false)),(.iaddr 1 (.t 26) (.t 27))⟩,⟨(some 29),(some (21,false)),(.load true 1 (.t 28))⟩,⟨(some 30),(some (21,false)),(.call 167 [(.t 25),(.t 29)])⟩,⟨some 31,none,.pick (.t 21) (.c (.bool true)) (.t 30)⟩,⟨some 5,none,.mv (.t 31)⟩])) (.reg [⟨some 18,none,.mv (.t 6)⟩,⟨some 19,none,.bin .add false (.t 18) (.c (.int .i64 1))⟩,⟨some 6,none,.mv (.t 19)⟩])))))) (.seq (.reg [⟨some 32,none,.mv (.t 5)⟩,⟨some 33,none,.un .not (.t 32)⟩]) (.cond (.t 33) (.reg [⟨some 34,none,.mv (.t 3)⟩,⟨some 35,none,.mv (.t 0)⟩,⟨some 36,none,.mv (.t 4)⟩,⟨some 37,none,.iaddr 1 (.t 35) (.t 36)⟩,⟨some 38,none,.load true 1 (.t 37)⟩,⟨some 39,none,.mkrow 60 1 [.nil] 1 [(0,(.t 38))]⟩,⟨some 40,none,.append 60 1 24 [.nil] (.t 34) (.t 39)⟩,⟨some 3,none,.mv (.t 40)⟩]) .skip))))) (.reg [⟨some 12,none,.mv (.t 4)⟩,⟨some 13,none,.bin .add false (.t 12) (.c (.int .i64 1))⟩,⟨some 4,none,.mv (.t 13)⟩])))))) (.seq (.reg [⟨some 41,none,.mv (.t 3)⟩,⟨some 2,none,.mv (.t 41)⟩]) .ret))))
theorem QQ:codeOf Tryz.prog 102=some ⟨42,K4,[(.tmp 2)]⟩:=by kernel_rfl
theorem K5:modes 102=⟨[],.frz,none,false⟩:=by unfold modes; rfl
theorem Qek (c:Cl) {acc:List Cl} {k:Nat} (h:k<acc.length):dec (c∈acc.take (k+1))=(dec (c∈acc.take k) || dec (acc[k]=c)):=by
 rw [List.take_succ_eq_append_getElem h]
 by_cases h1:c∈acc.take k
 ·rw [Ar h1,Ar (zL.2 (.inl h1))]; rfl
 ·by_cases h2:acc[k]=c
  ·rw [Ar h2,Ar (zL.2 (.inr (by simp [h2]))),Bool.or_true]
  ·rw [Ax h1,Ax h2,Ax (fun h=>by rcases zL.1 h with h | h; exact h1 h; exact h2 (List.mem_singleton.1 h).symm)]; rfl
theorem QaA (cs:List Cl) (hl:cs.length≤1048576) (hx:∀ x∈cs,x.smallC):E 102 [.arr (cs.map Cl.d)] []=some (.arr ((FE [] cs).map Cl.d),[]):=by
 refine Ad QQ K5 (of_decide_eq_true rfl) ?_
 simp (disch:=omega) only [K4,go_sem,Aa]
 refine go_loop (α:=Int × (List Cl)) (fun a=>⟨slots 42 0 [(0,.arr (cs.map Cl.d)),(3,.ref 0),(4,.int .i64 (a.1))],[.row 60 1 ((a.2).map Cl.os)]⟩) (fun a=>∃ k:Nat,a.1=k∧k≤(cs).length∧FE (a.2) (cs.drop k)=FE [] cs∧(a.2).length≤k∧∀ x∈(a.2),x.smallC) (fun a=>(cs).length-(a.1).toNat) (0,[]) ⟨0,rfl,zD _,by rw [zH],zV _,fun x hx=>by simp at hx⟩ (by simp (disch:=omega) only [go_sem,Aa]) ?_
 rintro ⟨i,acc⟩ ⟨k,hi,hk,hR⟩
 dsimp only at hi hR
 have hni:i.toNat=k:=by omega
 have hni1:(i+1).toNat=k+1:=by omega
 rcases zA k (cs).length with hlt | hge
 ·obtain ⟨hR1,hR2,hR3⟩:=hR
  rw [zE hlt] at hR1
  have hg0:=get_at Cl.d hlt
  rw [Cl.d_eq] at hg0
  have hcm:=hx _ (zC hlt)
  obtain ⟨c,hc⟩:∃ c,c=cs[k]:=⟨_,rfl⟩
  rw [←hc] at hR1 hg0 hcm
  have hstep:FE (KB acc c) (cs.drop (k+1))=FE [] cs:=hR1
  have hio:=hi
  have hni0:=hni
  have hni10:=hni1
  generalize i=io at *
  simp (disch:=omega) only [go_sem,Aa,hni0]
  refine go_loop (α:=Int × (Bool)) (fun a=>⟨slots 42 0 [(0,.arr (cs.map Cl.d)),(3,.ref 0),(4,.int .i64 io),(5,.bool (a.2)),(6,.int .i64 (a.1))],[.row 60 1 (acc.map Cl.os)]⟩) (fun a=>∃ k:Nat,a.1=k∧k≤(acc).length∧(a.2)=dec (c∈acc.take k)) (fun a=>(acc).length-(a.1).toNat) (0,false) ⟨0,rfl,zD _,by rw [List.take_zero,Ax (by simp)]⟩ (by simp (disch:=omega) only [go_sem,Aa]) ?_
  rintro ⟨i,fd⟩ ⟨k,hi,hk,hR⟩
  dsimp only at hi hR
  have hni:i.toNat=k:=by omega
  have hni1:(i+1).toNat=k+1:=by omega
  rcases zA k (acc).length with hlt | hge
  ·have hg:=get_at Cl.os hlt
   rw [Cl.os_eq] at hg
   have hcs:=Qej acc[k] c (hR3 _ (zC hlt)) hcm
   have e1:acc[k].sv=.agg [.arr (acc[k].lits.map Lt.d)]:=rfl
   have e2:c.sv=.agg [.arr (c.lits.map Lt.d)]:=rfl
   rw [e1,e2] at hcs
   have ht:=Qek c hlt
   rw [←hR] at ht
   cases fd with
   | true =>
    simp (disch:=omega) only [go_sem,Aa,hni0,hni,hg,hg0,hcs,Gs]
    exact ⟨(i+1,true),⟨k+1,by dsimp only; omega,hlt,by rw [ht]; rfl⟩,by dsimp only; omega,by first | trivial | rfl⟩
   | false =>
    obtain ⟨b,hb⟩:∃ b,b=dec (acc[k]=c):=⟨_,rfl⟩
    rw [←hb] at hcs ht
    simp (disch:=omega) only [go_sem,Aa,hni0,hni,hg,hg0,hcs,Gs]
    exact ⟨(i+1,b),⟨k+1,by dsimp only; omega,hlt,by rw [ht]; rfl⟩,by dsimp only; omega,by first | trivial | rfl⟩
  ·rw [zG hge] at hR
   cases fd with
   | true =>
    have ha:KB acc c=acc:=by unfold KB; rw [←hR]; rfl
    rw [ha] at hstep
    simp (disch:=omega) only [go_sem,Aa,hni0,hni,hg0]
    exact ⟨(io+1,acc),⟨_,by dsimp only; omega,by assumption,hstep,by dsimp only; omega,hR3⟩,by dsimp only; omega,by first | trivial | rfl⟩
   | false =>
    have ha:KB acc c=acc++[c]:=by unfold KB; rw [←hR]; rfl
    rw [ha] at hstep
    have hap:acc.map Cl.os++[[OT.sh (c.lits.map Lt.d)]]=(acc++[c]).map Cl.os:=by rw [zM]; rfl
    simp (disch:=omega) only [go_sem,Aa,hni0,hni,hg0,hap]
    refine ⟨(io+1,acc++[c]),⟨_,by dsimp only; omega,by assumption,hstep,by simp only [zF,zQ,List.length_nil]; omega,fun x hx=>?_⟩,by dsimp only; omega,by first | trivial | rfl⟩
    rcases zL.1 hx with h | h
    ·exact hR3 x h
    ·rw [List.mem_singleton.1 h]; exact hcm
 ·obtain ⟨hR1,hR2,hR3⟩:=hR
  rw [zB hge] at hR1
  have hR1:acc=FE [] cs:=hR1
  have her:=Cl.Qei acc
  have hfu:=Cl.Xj acc
  rw [←hR1]
  simp (disch:=omega) only [go_sem,Aa,hni,her,hfu]
theorem Cl.QbI:∀ cs:List Cl,(∀ c∈cs,c.ok=true)→Cl.sumB cs≤2408*cs.length
 | [],_=>by simp [Cl.sumB]
 | c :: cs,h=>by
  have h1:=Cl.Qfp (h c (by simp))
  have h2:=Cl.QbI cs fun d hd=>h d (by simp [hd])
  rw [Cl.sumB,zQ]; omega
noncomputable def IB (f:Nat→Option Cl):Nat→List Cl
 | 0=>[]
 | k+1=>IB f k++(f k).toList
noncomputable def CF (g:Nat→List Cl):Nat→List Cl
 | 0=>[]
 | k+1=>CF g k++g k
theorem J7 (f:Nat→Option Cl):∀ k,(IB f k).length≤k
 | 0=>zV _
 | k+1=>by
  have h:=J7 f k
  rw [IB,zF]
  cases f k <;> simp <;> omega
theorem PQ {g:Nat→List Cl} {m:Nat} (h:∀ k,(g k).length≤m):∀ k,(CF g k).length≤m*k
 | 0=>zV _
 | k+1=>by
  have h1:=PQ h k
  have h2:=h k
  rw [CF,zF,Nat.mul_succ]; omega
theorem V8 {f:Nat→Option Cl} {x:Cl}:∀ {k},x∈IB f k→∃ j,f j=some x
 | 0,h=>by simp [IB] at h
 | k+1,h=>by
  rw [IB] at h
  rcases zL.1 h with h | h
  ·exact V8 h
  ·exact ⟨k,by simpa using h⟩
theorem V9 {g:Nat→List Cl} {x:Cl}:∀ {k},x∈CF g k→∃ j,x∈g j
 | 0,h=>by simp [CF] at h
 | k+1,h=>by
  rw [CF] at h
  rcases zL.1 h with h | h
  ·exact V9 h
  ·exact ⟨k,h⟩
theorem VA {f:Nat→Option Cl} {k:Nat} {x:Cl} (h:f k=some x):IB f (k+1)=IB f k++[x]:=by rw [IB,h]; rfl
theorem Zv {f:Nat→Option Cl} {k:Nat} (h:f k=none):IB f (k+1)=IB f k:=by rw [IB,h]; simp
theorem Qfq {s:Sb} {l:List Lt} (h:FO s l=true):(T6 s l).ok=true:=by
 rw [T7 h]
 unfold FO at h
 rw [zP] at h
 exact Qb5 10 (Qa8 h.1)
theorem TC {c:Cl} (h:c.ok=true):c.smallC:=⟨Zk h,by have:=Cl.ok_len h; omega⟩
theorem QbJ {c d:Cl} {i k:Int} (h:I5 c i d k=true):(N5 c i d k).ok=true:=by
 unfold I5 at h
 unfold N5
 cases hf:Xg c i d k with
 | none=>rw [hf] at h; cases h
 | some s=>rw [hf] at h; exact Qfq h
noncomputable def Qg0 (c:Cl) (i k:Int):Option Cl:=bif Qgz c i k then some (QgD c i k) else none
noncomputable def QaB (c:Cl) (i:Int) (d:Cl) (k:Int):Option Cl:=bif I5 c i d k then some (N5 c i d k) else none
theorem TD {c d:Cl} {i k:Int} (h:I5 c i d k=true):QaB c i d k=some (N5 c i d k):=by unfold QaB; rw [h]; rfl
theorem Xk {c d:Cl} {i k:Int} (h:I5 c i d k=false):QaB c i d k=none:=by unfold QaB; rw [h]; rfl
theorem Qfr {c d:Cl} {i k:Int} {x:Cl} (h:QaB c i d k=some x):x.ok=true:=by
 cases hf:I5 c i d k with
 | false=>rw [Xk hf] at h; cases h
 | true=>rw [TD hf] at h; obtain rfl:=Option.some.inj h; exact QbJ hf
noncomputable def Qfs (c:Cl) (i:Nat):Nat→List Cl:=IB fun k=>Qg0 c (i:Nat) (k:Nat)
noncomputable def Qft (c:Cl) (i:Nat):List Cl:=Qfs c i c.lits.length
noncomputable def GC (c d:Cl) (i:Nat):Nat→List Cl:=IB fun k=>QaB c (i:Nat) d (k:Nat)
noncomputable def Hh (c d:Cl) (i:Nat):List Cl:=GC c d i d.lits.length
noncomputable def Qg1 (c:Cl):List Cl:=CF (Qft c) c.lits.length
noncomputable def QR (c d:Cl):List Cl:=CF (Hh c d) c.lits.length
theorem Zw {c d x:Cl} {i k:Nat} (h:x∈GC c d i k):x.ok=true:=by
 obtain ⟨j,h⟩:=V8 h
 exact Qfr h
theorem TE {c d x:Cl} {n:Nat} (h:x∈CF (Hh c d) n):x.ok=true:=by
 obtain ⟨j,h⟩:=V9 h
 exact Zw h
theorem Qel {c:Cl} (hc:c.ok=true) (n k:Nat) (hn:n≤8) (hk:k≤8):(CF (Qft c) n++Qfs c n k).length≤72:=by
 have hl:=Cl.ok_len hc
 have h1:=PQ (g:=Qft c) (m:=8) (fun j=>Nat.le_trans (J7 _ _) hl) n
 have h2:=J7 (fun k=>Qg0 c (n:Nat) (k:Nat)) k
 rw [zF]
 unfold Qfs
 omega
theorem OV {c d:Cl} (hc:c.ok=true) (hd:d.ok=true) (n k:Nat) (hn:n≤8) (hk:k≤8):(CF (Hh c d) n++GC c d n k).length≤72:=by
 have hl:=Cl.ok_len hd
 have h1:=PQ (g:=Hh c d) (m:=8) (fun j=>Nat.le_trans (J7 _ _) hl) n
 have h2:=J7 (fun k=>QaB c (n:Nat) d (k:Nat)) k
 rw [zF]
 unfold GC
 omega
theorem TF {cs:List Cl} (h:∀ x∈cs,x.ok=true):∀ x∈FE [] cs,x.ok=true:=fun x hx=>by
 rcases Zr.1 hx with h1 | h1
 ·simp at h1
 ·exact h x h1
noncomputable def Xl (c d:Cl):List Cl:=bif (c.ok&&c.norm)&&(d.ok&&d.norm) then FE [] (QR c d) else []
theorem Zx {c d:Cl} (h:((c.ok&&c.norm)&&(d.ok&&d.norm))=false):Xl c d=[]:=by unfold Xl; rw [h]; rfl
theorem QaC {c d:Cl} (h:((c.ok&&c.norm)&&(d.ok&&d.norm))=true):Xl c d=FE [] (QR c d):=by unfold Xl; rw [h]; rfl
theorem Qg2 {c:Cl} (hc:c.ok=true):(Qg1 c).length≤72:=by
 have hcl:=Cl.ok_len hc
 have h:=Qel hc c.lits.length 0 hcl (by omega)
 have:CF (Qft c) c.lits.length++Qfs c c.lits.length 0=Qg1 c:=by show _++[]=_; rw [zR]; rfl
 rw [this] at h; exact h
theorem Qem {c d:Cl} (hc:c.ok=true) (hd:d.ok=true):(QR c d).length≤72:=by
 have hcl:=Cl.ok_len hc
 have h:=OV hc hd c.lits.length 0 hcl (by omega)
 have:CF (Hh c d) c.lits.length++GC c d c.lits.length 0=QR c d:=by show _++[]=_; rw [zR]; rfl
 rw [this] at h; exact h
theorem QbK {cs:List Cl} {n:Nat} (h:cs.length≤n):(FE [] cs).length≤n:=by
 have:=Zq cs []
 simp only [List.length_nil] at this
 omega
theorem Qen {l:List Cl} {c:Cl} (h:dec (c∈l)=true):KB l c=l:=by unfold KB; rw [h]; rfl
theorem Qfu {l:List Cl} {c:Cl} (h:dec (c∈l)=false):KB l c=l++[c]:=by unfold KB; rw [h]; rfl
theorem QcD (l cs:List Cl) (c:Cl):FE l (cs++[c])=KB (FE l cs) c:=by rw [Qec]; rfl
def Nb:SC:=(.seq (.reg [⟨some 2,none,.boxv 60 1 (.t 0)⟩,⟨some 3,none,.boxv 60 1 (.t 1)⟩,⟨some 4,none,.mv (.c .nil)⟩]) (.seq (.reg [⟨some 10,none,.mkrow 60 1 [.nil] 0 []⟩,⟨some 5,none,.mv (.t 10)⟩]) (.seq (.seq (.reg [⟨some 6,none,.mv (.c (.int .i64 0))⟩]) (.block 0 (.loop [0,0,1,1,0,1,1,0,0,0,0,0,0,0,0,0,0,0,0,0,0,0,0,0,0,0,0,0,0,0,0,0,0,0,0,0,0,0,0,0] (.seq (.seq (.reg [⟨some 11,none,.mv (.t 6)⟩,⟨some 12,none,.faddr 0 (.t 2)⟩,⟨some 13,none,.load false 1 (.t 12)⟩,⟨some 14,none,.len false (.t 13)⟩,⟨some 15,none,.bin .lss false (.t 11) (.t 14)⟩]) (.cond (.t 15) .skip (.exit 0))) (.seq (.block 1 (.seq (.reg [⟨some 7,none,.mv (.c (.int .i64 0))⟩]) (.block 2 (.loop [0,0,1,1,0,1,1,1,0,0,0,0,0,0,0,0,0,0,0,0,0,0,0,0,0,0,0,0,0,0,0,0,0,0,0,0,0,0,0,0] (.seq (.seq (.reg [⟨some 18,none,.mv (.t 7)⟩,⟨some 19,none,.faddr 0 (.t 3)⟩,⟨some 20,none,.load false 1 (.t 19)⟩,⟨some 21,none,.len false (.t 20)⟩,⟨some 22,none,.bin .lss false (.t 18) (.t 21)⟩]) (.cond (.t 22) .skip (.exit 2))) (.seq (.block 3 (.seq (.reg [⟨some 26,none,.load true 1 (.t 2)⟩,⟨some 27,none,.mv (.t 6)⟩,⟨some 28,none,.load true 1 (.t 3)⟩,⟨some 29,none,.mv (.t 7)⟩,⟨some 30,none,.call 145 [(.t 26),(.t 27),(.t 28),(.t 29)]⟩,⟨some 25,none,.mv (.t 30)⟩,⟨some 31,none,.ext (.t 25) 0⟩,⟨some 32,none,.ext (.t 25) 1⟩,⟨some 8,none,.alloc 60 [.nil]⟩,⟨none,none,(.store 1 (.t 8) (.t 31))⟩,⟨some 9,none,.mv (.t 32)⟩]) (.seq (.reg [⟨some 33,none,.mv (.t 9)⟩]) (.cond (.t 33) (.reg [⟨some 34,none,.mv (.t 5)⟩,⟨some 35,none,.load true 1 (.t 8)⟩,⟨some 36,none,.mkrow 60 1 [.nil] 1 [(0,(.t 35))]⟩,⟨some 37,none,.append 60 1 24 [.nil] (.t 34) (.t 36)⟩,⟨some 5,none,.mv (.t 37)⟩]) .skip)))) (.reg [⟨some 23,none,.mv (.t 7)⟩,⟨some 24,none,.bin .add false (.t 23) (.c (.int .i64 1))⟩,⟨some 7,none,.mv (.t 24)⟩]))))))) (.reg [⟨some 16,none,.mv (.t 6)⟩,⟨some 17,none,.bin .add false (.t 16) (.c (.int .i64 1))⟩,⟨some 6,none,.mv (.t 17)⟩])))))) (.seq (.reg [⟨some 38,none,.mv (.t 5)⟩,⟨some 39,none,.call 102 [(.t 38)]⟩,⟨some 4,none,.mv (.t 39)⟩]) .ret))))
theorem Un:codeOf Tryz.prog 77=some ⟨40,Nb,[(.tmp 4)]⟩:=by kernel_rfl
theorem Nc:modes 77=⟨[],.frz,none,false⟩:=by unfold modes; rfl
theorem Qeo (c d:Cl) (hc:c.ok=true) (hd:d.ok=true) (hdn:d.norm=true):E 77 [c.sv,d.sv] []=some (.arr ((FE [] (QR c d)).map Cl.d),[]):=by
 have hcl:=Cl.ok_len hc
 have hdl:=Cl.ok_len hd
 have hsv:∀ d:Cl,d.sv=.agg [.arr (d.lits.map Lt.d)]:=fun d=>rfl
 have hr0:=fun (i k:Int)=>Xh c hc i d hd hdn k
 simp only [hsv] at hr0
 rw [hsv,hsv]
 have hz0:(CF (Hh c d) 0)=[]:=rfl
 refine Ad Un Nc (of_decide_eq_true rfl) ?_
 simp (disch:=omega) only [Nb,go_sem,Aa]
 refine go_loop (α:=Int) (fun a=>⟨slots 40 0 [(2,.ptr 0 0),(3,.ptr 1 0),(5,.ref 2),(6,.int .i64 a)],[.box 60 [.arr (c.lits.map Lt.d)],.box 60 [.arr (d.lits.map Lt.d)],.row 60 1 ((CF (Hh c d) a.toNat).map Cl.os)]⟩) (fun a=>∃ k:Nat,a=k∧k≤(c.lits).length) (fun a=>(c.lits).length-(a).toNat) 0 ⟨0,rfl,zD _⟩ (by simp (disch:=omega) only [go_sem,Aa,hz0]) ?_
 rintro i ⟨k,hi,hk⟩
 have hni:i.toNat=k:=by omega
 have hni1:(i+1).toNat=k+1:=by omega
 rcases zA k (c.lits).length with hlt | hge
 ·have hio:=hi
  have hni0:=hni
  have hni10:=hni1
  have hlt0:=hlt
  have hz1:GC c d k 0=[]:=rfl
  have hz2:CF (Hh c d) (k+1)=CF (Hh c d) k++GC c d k d.lits.length:=rfl
  generalize i=io at *
  generalize k=ko at *
  simp (disch:=omega) only [go_sem,Aa,hni0]
  refine go_loop (α:=Int) (fun a=>⟨slots 40 0 [(2,.ptr 0 0),(3,.ptr 1 0),(5,.ref 2),(6,.int .i64 io),(7,.int .i64 a)],[.box 60 [.arr (c.lits.map Lt.d)],.box 60 [.arr (d.lits.map Lt.d)],.row 60 1 ((CF (Hh c d) ko++GC c d ko a.toNat).map Cl.os)]⟩) (fun a=>∃ k:Nat,a=k∧k≤(d.lits).length) (fun a=>(d.lits).length-(a).toNat) 0 ⟨0,rfl,zD _⟩ (by simp (disch:=omega) only [go_sem,Aa,hz1,zR,hni0]) ?_
  rintro i ⟨k,hi,hk⟩
  have hni:i.toNat=k:=by omega
  have hni1:(i+1).toNat=k+1:=by omega
  rcases zA k (d.lits).length with hlt | hge
  ·have hr:=hr0 io i
   have hlen:=OV hc hd ko k (by omega) (by omega)
   obtain ⟨r,hrr⟩:∃ r,r=N5 c io d i:=⟨_,rfl⟩
   rw [←hrr] at hr
   cases ho:I5 c io d i with
   | false =>
    rw [ho] at hr
    have hpn:GC c d ko (k+1)=GC c d ko k:=Zv (by rw [←hio,← hi]; exact Xk ho)
    simp (disch:=omega) only [go_sem,Aa,hni0,hni,hr,hlen,BS]
    refine ⟨i+1,⟨k+1,by omega,hlt⟩,by omega,?_⟩
    simp (disch:=omega) only [go_sem,Aa,hni1,hpn]
   | true =>
    rw [ho] at hr
    have hpn:GC c d ko (k+1)=GC c d ko k++[r]:=VA (by rw [←hio,← hi,hrr]; exact TD ho)
    have hap:(CF (Hh c d) ko++GC c d ko k).map Cl.os++[[OT.sh (r.lits.map Lt.d)]]=(CF (Hh c d) ko++GC c d ko (k+1)).map Cl.os:=by rw [hpn,← List.append_assoc,zM (l₂:=[r])]; rfl
    simp (disch:=omega) only [go_sem,Aa,hni0,hni,hr,hlen,BS]
    refine ⟨i+1,⟨k+1,by omega,hlt⟩,by omega,?_⟩
    simp (disch:=omega) only [go_sem,Aa,hni1,hap]
  ·have hke:k=d.lits.length:=by omega
   simp (disch:=omega) only [go_sem,Aa,hni,hke,hz2]
   refine ⟨io+1,⟨ko+1,by omega,hlt0⟩,by omega,?_⟩
   simp (disch:=omega) only [go_sem,Aa,hni10,hke,hz2]
 ·have hke:k=c.lits.length:=by omega
  have hu:=QaA (QR c d) (by
   have h:=OV hc hd c.lits.length 0 hcl (by omega)
   have:CF (Hh c d) c.lits.length++GC c d c.lits.length 0=QR c d:=by show _++[]=_; rw [zR]; rfl
   rw [this] at h; omega) fun x hx=>TC (TE hx)
  have her:=Cl.Qei (QR c d)
  have hfu:=Cl.Xj (QR c d)
  have hal:CF (Hh c d) c.lits.length=QR c d:=rfl
  simp (disch:=omega) only [go_sem,Aa,hni,hke,hal,hu,her,hfu,K5]
def Ed:SC:=(.seq (.reg [⟨some 2,none,.boxv 60 1 (.t 0)⟩,⟨some 3,none,.boxv 60 1 (.t 1)⟩,⟨some 4,none,.mv (.c .nil)⟩,⟨some 5,none,.mv (.c (.bool false))⟩]) (.seq (.seq (.reg [⟨some 6,none,.load true 1 (.t 2)⟩,⟨some 7,none,.call 76 [(.t 6)]⟩,⟨some 8,none,.un .not (.t 7)⟩,⟨some 9,none,.mv (.t 8)⟩,⟨(some 10),(some (9,false)),(.load true 1 (.t 3))⟩,⟨(some 11),(some (9,false)),(.call 76 [(.t 10)])⟩,⟨(some 12),(some (9,false)),(.un .not (.t 11))⟩,⟨some 13,none,.pick (.t 9) (.c (.bool true)) (.t 12)⟩]) (.cond (.t 13) (.seq (.reg [⟨some 14,none,.mkrow 60 1 [.nil] 0 []⟩,⟨some 4,none,.mv (.t 14)⟩,⟨some 5,none,.mv (.c (.bool false))⟩]) .ret) .skip)) (.seq (.reg [⟨some 15,none,.load true 1 (.t 2)⟩,⟨some 16,none,.load true 1 (.t 3)⟩,⟨some 17,none,.call 77 [(.t 15),(.t 16)]⟩,⟨some 4,none,.mv (.t 17)⟩,⟨some 5,none,.mv (.c (.bool true))⟩]) .ret)))
theorem FF:codeOf Tryz.prog 26=some ⟨18,Ed,[(.tmp 4),(.tmp 5)]⟩:=by kernel_rfl
theorem BV:modes 26=⟨[],.frz,none,false⟩:=by unfold modes; rfl
theorem PR (c d:Cl) (hct:c.tame) (hdt:d.tame):E 26 [c.sv,d.sv] []=some (.tup [.arr ((Xl c d).map Cl.d),.bool ((c.ok&&c.norm)&&(d.ok&&d.norm))],[]):=by
 have hsv:∀ d:Cl,d.sv=.agg [.arr (d.lits.map Lt.d)]:=fun d=>rfl
 have h2:=Te c hct
 have h3:=Te d hdt
 rw [hsv] at h2 h3
 rw [hsv,hsv]
 cases b2:c.ok&&c.norm with
 | false =>
  rw [b2] at h2
  rw [Zx (by rw [b2]; rfl)]
  refine Ad FF BV (of_decide_eq_true rfl) ?_
  simp (disch:=omega) only [Ed,go_sem,Aa,h2,h3,DN]
 | true =>
 rw [b2] at h2
 cases b3:d.ok&&d.norm with
 | false =>
  rw [b3] at h3
  rw [Zx (by rw [b2,b3]; rfl)]
  refine Ad FF BV (of_decide_eq_true rfl) ?_
  simp (disch:=omega) only [Ed,go_sem,Aa,h2,h3,DN]
 | true =>
 rw [b3] at h3
 rw [QaC (by rw [b2,b3]; rfl)]
 rw [zP] at b2 b3
 have ha:=Qeo c d b2.1 b3.1 b3.2
 rw [hsv,hsv] at ha
 refine Ad FF BV (of_decide_eq_true rfl) ?_
 simp (disch:=omega) only [Ed,go_sem,Aa,h2,h3,ha,DN,Nc]
def IC:SC:=(.seq (.reg [⟨some 1,none,.boxv 60 1 (.t 0)⟩,⟨some 2,none,.alloc 60 [.nil]⟩]) (.seq (.reg [⟨some 6,none,.build [.nil] []⟩,⟨some 3,none,.alloc 60 [.nil]⟩,⟨none,none,(.store 1 (.t 3) (.t 6))⟩]) (.seq (.seq (.reg [⟨some 7,none,.faddr 0 (.t 1)⟩,⟨some 8,none,.load false 1 (.t 7)⟩,⟨some 9,none,.len false (.t 8)⟩,⟨some 10,none,.mv (.c (.int .i64 0))⟩]) (.block 0 (.loop [0,0,1,1,0,0,0,0,1,1,1,0,0,0,0,0,0,0,0,0,0,0,0] (.seq (.reg [⟨some 11,none,.bin .lss false (.t 10) (.t 9)⟩]) (.seq (.cond (.t 11) .skip (.exit 0)) (.seq (.block 1 (.seq (.reg [⟨some 12,none,.iaddr 3 (.t 8) (.t 10)⟩,⟨some 13,none,.load true 3 (.t 12)⟩,⟨(some 5),none,(.alloc 122 [(.bool false),(.str ⟨#[]⟩),.nil])⟩,⟨none,none,(.store 3 (.t 5) (.t 13))⟩]) (.dreg [[],[0],[],[2],[3,2],[1,0,4,3,2],[0,1,2,3,4,5],[6,0,1,2,3,4,5]] [⟨some 14,none,.faddr 0 (.t 3)⟩,⟨some 15,none,.load false 1 (.t 14)⟩,⟨some 16,none,.load true 3 (.t 5)⟩,⟨some 17,none,.call 159 [(.t 16)]⟩,⟨(some 18),none,(.mkrow 122 3 [(.bool false),(.str ⟨#[]⟩),.nil] 1 [(0,(.t 17))])⟩,⟨(some 19),none,(.append 122 3 48 [(.bool false),(.str ⟨#[]⟩),.nil] (.t 15) (.t 18))⟩,⟨some 20,none,.faddr 0 (.t 3)⟩,⟨none,none,(.store 1 (.t 20) (.t 19))⟩]))) (.reg [⟨some 21,none,.bin .add false (.t 10) (.c (.int .i64 1))⟩,⟨some 10,none,.mv (.t 21)⟩]))))))) (.seq (.reg [⟨some 22,none,.load true 1 (.t 3)⟩,⟨none,none,(.store 1 (.t 2) (.t 22))⟩]) .ret))))
theorem OW:codeOf Tryz.prog 93=some ⟨23,IC,[(.cell 2 true 1)]⟩:=by kernel_rfl
theorem ID:modes 93=⟨[],.own [some (122,3)],none,false⟩:=by unfold modes; rfl
theorem Xm (c:Cl) (hl:c.lits.length≤1048576) (hf:∀ x∈c.lits,x.atom.nodes≤1099511627776):E 93 [c.sv] []=some (c.osv,c.obs):=by
 have h10:((1:Int)=0)=False:=by simp
 obtain ⟨l,hcl⟩:∃ l,l=c.lits:=⟨_,rfl⟩
 have e0:c.sv=.agg [.arr (l.map Lt.d)]:=by rw [hcl]; first | done | rfl
 have e1:c.osv=.agg [.ref 0]:=rfl
 have e2:c.obs=[.row 122 3 (l.map Lt.o)]:=by rw [hcl]; first | done | rfl
 rw [e0,e1,e2]
 rw [←hcl] at hl hf
 clear hcl e0 e1 e2
 refine Ad OW ID (of_decide_eq_true rfl) ?_
 simp (disch:=omega) only [IC,go_sem,Aa]
 refine go_loop (α:=Int) (fun a=>⟨slots 23 0 [(2,.ptr 0 0),(3,.ptr 1 0),(8,.arr (l.map Lt.d)),(9,.int .i64 l.length),(10,.int .i64 a)],(if a=0 then [.box 60 [.nil],.box 60 [.nil]] else [.box 60 [.nil],.box 60 [.ref 2],.row 122 3 ((l.take a.toNat).map Lt.o)])⟩) (fun a=>∃ k:Nat,a=k∧k≤(l).length) (fun a=>(l).length-(a).toNat) 0 ⟨0,rfl,zD _⟩ (by simp (disch:=omega) only [go_sem,Aa,eq_self,if_true]) ?_
 rintro i ⟨k,hi,hk⟩
 have hni:i.toNat=k:=by omega
 have hni1:(i+1).toNat=k+1:=by omega
 rcases zA k (l).length with hlt | hge
 ·have hg:=get_at Lt.d hlt
  rw [Lt.d_eq] at hg
  have hc:=MO l[k] (hf _ (zC hlt))
  have hs:=DK Lt.o hlt
  rw [Lt.o_eq] at hs
  rcases zK k with h0 | h0
  ·subst h0
   obtain rfl:i=0:=hi
   rw [List.take_zero,zO,List.nil_append] at hs
   simp (disch:=omega) only [go_sem,Aa,hni,hg,hc,CM,eq_self,if_true]
   refine ⟨1,⟨1,rfl,hlt⟩,by omega,?_⟩
   simp (disch:=omega) only [go_sem,Aa,h10,if_false,hs]
  ·have hi0:(i=0)=False:=by simp; omega
   have hi1:(i+1=0)=False:=by simp; omega
   have htl:(l.take k).length=k:=by rw [zT]; omega
   simp (disch:=omega) only [go_sem,Aa,hni,hg,hc,CM,hi0,if_false,htl]
   refine ⟨i+1,⟨k+1,by omega,hlt⟩,by omega,?_⟩
   simp (disch:=omega) only [go_sem,Aa,hni1,hi1,if_false,hs]
 ·obtain rfl:k=l.length:=by omega
  have ht:l.take l.length=l:=List.take_length
  rcases zK l.length with h0 | h0
  ·have hx:l=[]:=zJ h0
   obtain rfl:i=0:=by omega
   rw [hx]
   simp (disch:=omega) only [go_sem,Aa,hni,eq_self,if_true,zO]
  ·have hi0:(i=0)=False:=by simp; omega
   simp (disch:=omega) only [go_sem,Aa,hni,hi0,if_false,ht]
def GY:SC:=(.seq (.reg [⟨some 1,none,.boxv 60 1 (.t 0)⟩,⟨some 2,none,.mv (.c (.bool false))⟩]) (.seq (.seq (.reg [⟨some 5,none,.load true 1 (.t 1)⟩,⟨some 6,none,.call 204 [(.t 5)]⟩,⟨some 7,none,.len false (.t 6)⟩,⟨some 8,none,.mv (.c (.int .i64 0))⟩]) (.block 0 (.loop [0,0,0,0,0,0,1,1,1,0,0,0,0,0,0,0,0,0,0] (.seq (.reg [⟨some 9,none,.bin .lss false (.t 8) (.t 7)⟩]) (.seq (.cond (.t 9) .skip (.exit 0)) (.seq (.block 1 (.seq (.reg [⟨some 10,none,.mv (.t 8)⟩,⟨some 11,none,.iaddr 1 (.t 6) (.t 8)⟩,⟨some 12,none,.load false 1 (.t 11)⟩,⟨some 3,none,.mv (.t 10)⟩,⟨some 4,none,.mv (.t 12)⟩]) (.seq (.reg [⟨some 13,none,.mv (.t 4)⟩,⟨some 14,none,.mv (.t 3)⟩,⟨some 15,none,.call 189 [(.t 14)]⟩,⟨(some 16),none,(.bin .add false (.c (.str ⟨#[88]⟩)) (.t 15))⟩,⟨some 17,none,.bin .neq false (.t 13) (.t 16)⟩]) (.cond (.t 17) (.seq (.reg [⟨some 2,none,.mv (.c (.bool false))⟩]) .ret) .skip)))) (.reg [⟨some 18,none,.bin .add false (.t 8) (.c (.int .i64 1))⟩,⟨some 8,none,.mv (.t 18)⟩]))))))) (.seq (.reg [⟨some 2,none,.mv (.c (.bool true))⟩]) .ret)))
theorem M5:codeOf Tryz.prog 148=some ⟨19,GY,[(.tmp 2)]⟩:=by kernel_rfl
theorem C9:modes 148=⟨[],.asis,none,false⟩:=by unfold modes; rfl
theorem LI (c:Cl) (hc:c.ok=true):E 148 [c.sv] []=some (.bool c.norm,[]):=by
 have h1:=PA c hc
 have hn:=Cl.N0 hc
 have hcs:c.sv=.agg [.arr (c.lits.map Lt.d)]:=rfl
 obtain ⟨ns,hns⟩:∃ ns,ns=c.ns:=⟨_,rfl⟩
 rw [show C7 [] (Lt.vsL c.lits)=ns from hns.symm] at h1
 have hnm:c.norm=dec (O5 ns):=by unfold Cl.norm; rw [hns]
 rw [←hns] at hn
 rw [hnm]
 refine Ad M5 C9 (of_decide_eq_true rfl) ?_
 simp (disch:=omega) only [GY,go_sem,Aa,h1,Dy]
 refine go_loop (α:=Int) (fun a=>⟨slots 19 0 [(6,.ref 0),(7,.int .i64 ns.length),(8,.int .i64 a)],[.row 9 1 (ns.map fun s=>[OT.str s])]⟩) (fun a=>∃ k:Nat,a=k∧k≤(ns).length∧∀ (j:Nat),j<k→∀ hj:j<ns.length,ns[j]=pre M1 (j:Nat)) (fun a=>(ns).length-(a).toNat) 0 ⟨0,rfl,zD _,fun j hj=>absurd hj (Nat.not_lt_zero _)⟩ (by simp (disch:=omega) only [go_sem,Aa]) ?_
 rintro i ⟨k,hi,hk,hR⟩
 have hni:i.toNat=k:=by omega
 have hni1:(i+1).toNat=k+1:=by omega
 rcases zA k (ns).length with hlt | hge
 ·have hg:=get_at (fun s=>[OT.str s]) hlt
  have hit:=QdE i (by omega) (by omega)
  have hz:=FY (show 0≤i by omega) (show i≤1099511627776 by omega)
  have hb:dec ((#[88]:Array UInt8).size+(Fu i).size≤9223372036854775807)=true:=Ar (by simp; omega)
  by_cases he:ns[k]=pre M1 (k:Nat)
  ·have he':dec (ns[k]=(⟨#[88]⟩:ByteArray)++Fu i)=true:=Ar (by rw [he,hi]; rfl)
   simp (disch:=omega) only [go_sem,Aa,hni,hg,hit,hb,he',F7]
   refine ⟨i+1,⟨k+1,by omega,hlt,fun j hj hjl=>?_⟩,by omega,by first | trivial | rfl⟩
   rcases zA j k with h2 | h2
   ·exact hR j h2 hjl
   ·obtain rfl:j=k:=by omega
    exact he
  ·have he':dec (ns[k]=(⟨#[88]⟩:ByteArray)++Fu i)=false:=Ax (fun e=>he (by rw [e,hi]; rfl))
   have hno:dec (O5 ns)=false:=Ax fun h=>he (h k hlt)
   rw [hno]
   simp (disch:=omega) only [go_sem,Aa,hni,hg,hit,hb,he',F7]
 ·have hy:dec (O5 ns)=true:=Ar fun j hj=>hR j (by omega) hj
  rw [hy]
  simp (disch:=omega) only [go_sem,Aa,hni]
def GS:SC:=(.seq (.reg [⟨some 1,none,.boxv 60 1 (.t 0)⟩,⟨some 2,none,.mv (.c (.bool false))⟩]) (.seq (.reg [⟨some 3,none,.load true 1 (.t 1)⟩,⟨some 4,none,.call 147 [(.t 3)]⟩,⟨some 5,none,.mv (.t 4)⟩,⟨(some 6),(some (5,true)),(.load true 1 (.t 1))⟩,⟨(some 7),(some (5,true)),(.call 148 [(.t 6)])⟩,⟨some 8,none,.pick (.t 5) (.t 7) (.c (.bool false))⟩,⟨some 2,none,.mv (.t 8)⟩]) .ret))
theorem K6:codeOf Tryz.prog 79=some ⟨9,GS,[(.tmp 2)]⟩:=by kernel_rfl
theorem C4:modes 79=⟨[],.asis,none,false⟩:=by unfold modes; rfl
theorem N7 (c:Cl) (hc:c.tame):E 79 [c.sv] []=some (.bool (c.ok&&c.norm),[]):=by
 have h1:=GM c hc
 cases hv:c.ok with
 | false =>
  rw [hv] at h1
  refine Ad K6 C4 (of_decide_eq_true rfl) ?_
  simp (disch:=omega) only [GS,go_sem,Aa,h1,Cv]
 | true =>
  rw [hv] at h1
  have h2:=LI c hv
  refine Ad K6 C4 (of_decide_eq_true rfl) ?_
  simp (disch:=omega) only [GS,go_sem,Aa,h1,h2,Cv,C9]
def K7:SC:=(.seq (.reg [⟨some 4,none,.mv (.c (.mp true nomap))⟩]) (.seq (.reg [⟨some 8,none,.mkmap true none⟩,⟨some 5,none,.mv (.t 8)⟩]) (.seq (.seq (.reg [⟨some 9,none,.mv (.t 0)⟩,⟨some 10,none,.len false (.t 9)⟩,⟨some 11,none,.mv (.c (.int .i64 0))⟩]) (.block 0 (.loop [0,1,0,0,0,1,0,0,0,1,1,1,0,0,0,0,0,0,0,0,0,0,0,0] (.seq (.reg [⟨some 12,none,.bin .lss false (.t 11) (.t 10)⟩]) (.seq (.cond (.t 12) .skip (.exit 0)) (.seq (.block 1 (.seq (.reg [⟨some 13,none,.mv (.t 11)⟩,⟨some 14,none,.iaddr 1 (.t 9) (.t 11)⟩,⟨some 15,none,.load false 1 (.t 14)⟩,⟨some 6,none,.mv (.t 13)⟩,⟨some 7,none,.mv (.t 15)⟩]) (.reg [⟨some 16,none,.mv (.t 5)⟩,⟨some 17,none,.mv (.t 7)⟩,⟨some 18,none,.mv (.t 1)⟩,⟨some 19,none,.mv (.t 6)⟩,⟨some 20,none,.call 189 [(.t 19)]⟩,⟨some 21,none,.bin .add false (.t 18) (.t 20)⟩,⟨none,none,(.mset true (.t 16) (.t 17) (.t 21))⟩]))) (.reg [⟨some 22,none,.bin .add false (.t 11) (.c (.int .i64 1))⟩,⟨some 11,none,.mv (.t 22)⟩]))))))) (.seq (.reg [⟨some 23,none,.mv (.t 5)⟩,⟨some 4,none,.mv (.t 23)⟩]) .ret))))
theorem QS:codeOf Tryz.prog 226=some ⟨24,K7,[(.tmp 4)]⟩:=by kernel_rfl
theorem EY:modes 226=⟨[],.frz,none,false⟩:=by unfold modes; rfl
theorem Zy (p:ByteArray):Fk (Dz p [])=nomap:=Qaw
theorem QaD (ns:List ByteArray) (hn:ns.length≤1048576) (p:ByteArray) (hp:p.size≤1048576):E 226 [.arr (ns.map fun s=>[D.str s]),.str p] []=some (.mp true (Fk (Dz p ns)),[]):=by
 have h0:=Zy p
 refine Ad QS EY (of_decide_eq_true rfl) ?_
 simp (disch:=omega) only [K7,go_sem,Aa]
 refine go_loop (α:=Int) (fun a=>⟨slots 24 0 [(1,.str p),(5,.ref 0),(9,.arr (ns.map fun s=>[D.str s])),(10,.int .i64 ns.length),(11,.int .i64 a)],[.mp true (Fk (Dz p (ns.take a.toNat)))]⟩) (fun a=>∃ k:Nat,a=k∧k≤(ns).length) (fun a=>(ns).length-(a).toNat) 0 ⟨0,rfl,zD _⟩ (by simp (disch:=omega) only [go_sem,Aa,h0]) ?_
 rintro i ⟨k,hi,hk⟩
 have hni:i.toNat=k:=by omega
 have hni1:(i+1).toNat=k+1:=by omega
 rcases zA k (ns).length with hlt | hge
 ·have hg:=get_at (fun s=>[D.str s]) hlt
  have hit:=QdE i (by omega) (by omega)
  have hz:=FY (show 0≤i by omega) (show i≤1099511627776 by omega)
  have hb:dec (p.size+(Fu i).size≤9223372036854775807)=true:=Ar (by omega)
  have hs:Pd (Fk (Dz p (ns.take k))) (.str ns[k]) (false,[.str (p++Fu i)])=Fk (Dz p (ns.take (k+1))):=by
   rw [Vp,Mr p hlt,hi]; rfl
  simp (disch:=omega) only [go_sem,Aa,hni,hg,hit,hb,hs,F7]
  refine ⟨i+1,⟨k+1,by omega,hlt⟩,by omega,?_⟩
  simp (disch:=omega) only [go_sem,Aa,hni1]
 ·have ht:ns.take k=ns:=zG hge
  simp (disch:=omega) only [go_sem,Aa,hni,ht]
def GD:SC:=(.seq (.reg [⟨some 2,none,.boxv 60 1 (.t 0)⟩,⟨some 4,none,.alloc 60 [.nil]⟩]) (.seq (.reg [⟨(some 8),none,(.mkrow 122 3 [(.bool false),(.str ⟨#[]⟩),.nil] 0 [])⟩,⟨some 5,none,.mv (.t 8)⟩]) (.seq (.seq (.reg [⟨some 9,none,.faddr 0 (.t 2)⟩,⟨some 10,none,.load false 1 (.t 9)⟩,⟨some 11,none,.len false (.t 10)⟩,⟨some 12,none,.mv (.c (.int .i64 0))⟩]) (.block 0 (.loop [0,1,0,0,1,1,0,0,0,0,1,1,1,0,0,0,0,0,0,0,0,0,0,0,0,0,0,0,0] (.seq (.reg [⟨some 13,none,.bin .lss false (.t 12) (.t 11)⟩]) (.seq (.cond (.t 13) .skip (.exit 0)) (.seq (.block 1 (.seq (.reg [⟨some 14,none,.iaddr 3 (.t 10) (.t 12)⟩,⟨some 15,none,.load true 3 (.t 14)⟩,⟨(some 7),none,(.alloc 122 [(.bool false),(.str ⟨#[]⟩),.nil])⟩,⟨none,none,(.store 3 (.t 7) (.t 15))⟩]) (.dreg [[],[],[1],[],[3],[],[4,3,5],[2,1,6,4,3,5],[7,2,1,6,4,3,5],[0,8,7,2,1,6,4,3,5],[9,0,8,7,2,1,6,4,3,5]] [⟨some 16,none,.mv (.t 5)⟩,⟨some 17,none,.faddr 0 (.t 7)⟩,⟨some 18,none,.load false 1 (.t 17)⟩,⟨some 19,none,.faddr 1 (.t 7)⟩,⟨some 20,none,.load true 2 (.t 19)⟩,⟨some 21,none,.mv (.t 1)⟩,⟨some 22,none,.call 275 [(.t 20),(.t 21)]⟩,⟨(some 23),none,(.build [(.bool false),(.str ⟨#[]⟩),.nil] [(0,(1,(.t 18))),(1,(2,(.t 22)))])⟩,⟨(some 24),none,(.mkrow 122 3 [(.bool false),(.str ⟨#[]⟩),.nil] 1 [(0,(.t 23))])⟩,⟨(some 25),none,(.append 122 3 48 [(.bool false),(.str ⟨#[]⟩),.nil] (.t 16) (.t 24))⟩,⟨some 5,none,.mv (.t 25)⟩]))) (.reg [⟨some 26,none,.bin .add false (.t 12) (.c (.int .i64 1))⟩,⟨some 12,none,.mv (.t 26)⟩]))))))) (.seq (.reg [⟨some 27,none,.mv (.t 5)⟩,⟨some 28,none,.call 222 [(.t 27)]⟩,⟨none,none,(.store 1 (.t 4) (.t 28))⟩]) .ret))))
theorem LJ:codeOf Tryz.prog 206=some ⟨29,GD,[(.cell 4 true 1)]⟩:=by kernel_rfl
theorem Cy:modes 206=⟨[],.own [some (122,3)],none,false⟩:=by unfold modes; rfl
theorem K8 (c:Cl) (hc:c.ok=true) (e:SEnv) (he:O4 e):E 206 [c.sv,.mp true (Fk e)] []=some ((c.rn e).osv,(c.rn e).obs):=by
 have hl:=Cl.ok_len hc
 have hcs:c.sv=.agg [.arr (c.lits.map Lt.d)]:=rfl
 have hat:=Lt.Tc he (Cl.CP hc)
 have hco:=SE (c.lits.map (Lt.rn e)) (by rw [zI]; omega) (fun x hx=>PC (hat x hx))
 rw [show mkC (c.lits.map (Lt.rn e))=c.rn e from rfl] at hco
 have her:=Lt.erss (c.lits.map (Lt.rn e))
 refine Ad LJ Cy (of_decide_eq_true rfl) ?_
 simp (disch:=omega) only [GD,go_sem,Aa]
 refine go_loop (α:=Int) (fun a=>⟨slots 29 0 [(1,.mp true (Fk e)),(4,.ptr 0 0),(5,.ref 1),(10,.arr (c.lits.map Lt.d)),(11,.int .i64 c.lits.length),(12,.int .i64 a)],[.box 60 [.nil],.row 122 3 (((c.lits.map (Lt.rn e)).take a.toNat).map Lt.o)]⟩) (fun a=>∃ k:Nat,a=k∧k≤(c.lits).length) (fun a=>(c.lits).length-(a).toNat) 0 ⟨0,rfl,zD _⟩ (by simp (disch:=omega) only [go_sem,Aa]) ?_
 rintro i ⟨k,hi,hk⟩
 have hni:i.toNat=k:=by omega
 have hni1:(i+1).toNat=k+1:=by omega
 rcases zA k (c.lits).length with hlt | hge
 ·have hg:=get_at Lt.d hlt
  rw [Lt.d_eq] at hg
  have hnn:=Tm.CO (Cl.JV hc hlt)
  have hr:=Vt e c.lits[k].atom (by omega)
  unfold RnC at hr
  have hrs:c.lits[k].atom.sv=.agg [.str c.lits[k].atom.name,.arr (c.lits[k].atom.args.map Tm.d)]:=rfl
  have hlm:k<(c.lits.map (Lt.rn e)).length:=by rw [zI]; exact hlt
  have hs:=DK Lt.o hlm
  rw [Lt.o_eq,List.getElem_map] at hs
  have hs':((c.lits.map (Lt.rn e)).take k).map Lt.o++[[OT.bool c.lits[k].pos,OT.str (c.lits[k].atom.rn e).name,OT.ow ((c.lits[k].atom.rn e).args.map Tm.o)]]=((c.lits.map (Lt.rn e)).take (k+1)).map Lt.o:=hs
  have htl:((c.lits.map (Lt.rn e)).take k).length=k:=by rw [zT,zI]; omega
  simp (disch:=omega) only [go_sem,Aa,hni,hg,hr,hrs,htl,Tm.osv,Tm.obs,B6]
  refine ⟨i+1,⟨k+1,by omega,hlt⟩,by omega,?_⟩
  simp (disch:=omega) only [go_sem,Aa,hni1,hs']
 ·have ht:(c.lits.map (Lt.rn e)).take k=c.lits.map (Lt.rn e):=zG (by rw [zI]; exact hge)
  simp (disch:=omega) only [go_sem,Aa,hni,ht,hco,her,Lt.noss,Lt.fus,CX]
def J8:SC:=(.seq (.reg [⟨some 1,none,.boxv 60 1 (.t 0)⟩,⟨some 2,none,.alloc 60 [.nil]⟩]) (.seq (.reg [⟨some 5,none,.load true 1 (.t 1)⟩,⟨some 6,none,.call 93 [(.t 5)]⟩,⟨some 3,none,.alloc 60 [.nil]⟩,⟨none,none,(.store 1 (.t 3) (.t 6))⟩]) (.seq (.seq (.reg [⟨some 4,none,.mv (.c (.int .i64 0))⟩]) (.block 0 (.loop [0,0,1,1,1,0,0,0,0,0,0,0,0,0,0,0,0,0,0,0,0,0] (.seq (.seq (.reg [⟨some 7,none,.mv (.t 4)⟩,⟨some 8,none,.bin .lss false (.t 7) (.c (.int .i64 10))⟩,⟨some 9,none,.mv (.t 8)⟩,⟨(some 10),(some (9,true)),(.load true 1 (.t 3))⟩,⟨(some 11),(some (9,true)),(.call 148 [(.t 10)])⟩,⟨(some 12),(some (9,true)),(.un .not (.t 11))⟩,⟨some 13,none,.pick (.t 9) (.t 12) (.c (.bool false))⟩]) (.cond (.t 13) .skip (.exit 0))) (.seq (.block 1 (.dreg [[],[],[1],[2,1],[0,3,2,1],[4,0,3,2,1]] [⟨some 16,none,.load true 1 (.t 3)⟩,⟨some 17,none,.load true 1 (.t 3)⟩,⟨some 18,none,.call 204 [(.t 17)]⟩,⟨(some 19),none,(.call 226 [(.t 18),(.c (.str ⟨#[88]⟩))])⟩,⟨some 20,none,.call 206 [(.t 16),(.t 19)]⟩,⟨none,none,(.store 1 (.t 3) (.t 20))⟩])) (.reg [⟨some 14,none,.mv (.t 4)⟩,⟨some 15,none,.bin .add false (.t 14) (.c (.int .i64 1))⟩,⟨some 4,none,.mv (.t 15)⟩])))))) (.seq (.reg [⟨some 21,none,.load true 1 (.t 3)⟩,⟨none,none,(.store 1 (.t 2) (.t 21))⟩]) .ret))))
theorem PS:codeOf Tryz.prog 163=some ⟨22,J8,[(.cell 2 true 1)]⟩:=by kernel_rfl
theorem Gi:modes 163=⟨[],.own [some (122,3)],none,false⟩:=by unfold modes; rfl
theorem Zz (c:Cl) (hc:c.ok=true):E 163 [c.sv] []=some ((nz 10 c).osv,(nz 10 c).obs):=by
 have hl:=Cl.ok_len hc
 have h1:=Xm c (by omega) (fun x hx=>by have:=Tm.CO (Cl.CP hc x hx); omega)
 have hcs:∀ d:Cl,Cl.osv d=.agg [.ref 0]:=fun d=>rfl
 have hob:∀ d:Cl,Cl.obs d=[.row 122 3 (d.lits.map Lt.o)]:=fun d=>rfl
 have hsv:∀ d:Cl,d.sv=.agg [.arr (d.lits.map Lt.d)]:=fun d=>rfl
 rw [hcs,hob] at h1
 rw [hcs,hob]
 refine Ad PS Gi (of_decide_eq_true rfl) ?_
 simp (disch:=omega) only [J8,go_sem,Aa,h1,ID]
 refine go_loop (α:=Int × Cl) (fun a=>⟨slots 22 0 [(2,.ptr 0 0),(3,.ptr 1 0),(4,.int .i64 a.1)],[.box 60 [.nil],.box 60 [.ref 2],.row 122 3 (a.2.lits.map Lt.o)]⟩) (fun a=>∃ k:Nat,a.1=k∧k≤10∧a.2.ok=true∧nz (10-k) a.2=nz 10 c) (fun a=>10-a.1.toNat) (0,c) ⟨0,rfl,zD _,hc,rfl⟩ (by simp (disch:=omega) only [go_sem,Aa]) ?_
 rintro ⟨i,d⟩ ⟨k,hi,hk,hd,hR⟩
 dsimp only at hi hd hR
 have n1:=LI d hd
 have n2:=PA d hd
 have n3:=QaD d.ns (by have:=Cl.N0 hd; omega) ⟨#[88]⟩ (by decide +kernel)
 have n4:=K8 d hd (Dz ⟨#[88]⟩ d.ns) (Cl.xE hd)
 rw [show C7 [] (Lt.vsL d.lits)=d.ns from rfl] at n2
 rw [hcs,hob] at n4
 rw [hsv] at n1 n2 n4
 have her:=Lt.erss d.lits
 rcases zA k 10 with hlt | hge
 ·obtain ⟨m,hm⟩:∃ m,10-k=m+1:=⟨9-k,by omega⟩
  rw [hm,nz] at hR
  cases hn:d.norm with
  | true =>
   rw [hn,cond_true] at hR
   rw [hn] at n1
   rw [←hR]
   simp (disch:=omega) only [go_sem,Aa,n1,n2,n3,n4,her,Lt.noss,Lt.fus,C9,Dy,EY,Cy]
  | false =>
   rw [hn,cond_false] at hR
   rw [hn] at n1
   simp (disch:=omega) only [go_sem,Aa,n1,n2,n3,n4,her,Lt.noss,Lt.fus,C9,Dy,EY,Cy]
   refine ⟨(i+1,d.rn (Dz M1 d.ns)),⟨k+1,by dsimp only; omega,by omega,Cl.Qb4 (Cl.xE hd) hd,by rw [show 10-(k+1)=m by omega]; exact hR⟩,by dsimp only; omega,?_⟩
   first | trivial | rfl
 ·obtain rfl:k=10:=by omega
  have hR:d=nz 10 c:=hR
  rw [←hR]
  simp (disch:=omega) only [go_sem,Aa,n1,n2,n3,n4,her,Lt.noss,Lt.fus,C9,Dy,EY,Cy]
def OX:SC:=(.seq (.reg [⟨some 1,none,.boxv 60 1 (.t 0)⟩,⟨some 2,none,.alloc 60 [.nil]⟩]) (.seq (.reg [⟨some 6,none,.mkmap true none⟩,⟨some 3,none,.mv (.t 6)⟩]) (.seq (.seq (.reg [⟨some 7,none,.load true 1 (.t 1)⟩,⟨some 8,none,.call 204 [(.t 7)]⟩,⟨some 9,none,.len false (.t 8)⟩,⟨some 10,none,.mv (.c (.int .i64 0))⟩]) (.block 0 (.loop [0,1,1,1,0,0,0,0,1,1,1,0,0,0,0,0,0,0,0,0,0,0,0] (.seq (.reg [⟨some 11,none,.bin .lss false (.t 10) (.t 9)⟩]) (.seq (.cond (.t 11) .skip (.exit 0)) (.seq (.block 1 (.seq (.reg [⟨some 12,none,.iaddr 1 (.t 8) (.t 10)⟩,⟨some 13,none,.load false 1 (.t 12)⟩,⟨some 5,none,.mv (.t 13)⟩]) (.reg [⟨some 14,none,.mv (.t 3)⟩,⟨some 15,none,.mv (.t 5)⟩,⟨some 16,none,.mv (.t 5)⟩,⟨some 17,none,.slice true 0 (.t 16) (some (.c (.int .i64 1))) none⟩,⟨(some 18),none,(.bin .add false (.c (.str ⟨#[89]⟩)) (.t 17))⟩,⟨none,none,(.mset true (.t 14) (.t 15) (.t 18))⟩]))) (.reg [⟨some 19,none,.bin .add false (.t 10) (.c (.int .i64 1))⟩,⟨some 10,none,.mv (.t 19)⟩]))))))) (.seq (.reg [⟨some 20,none,.load true 1 (.t 1)⟩,⟨some 21,none,.mv (.t 3)⟩,⟨some 22,none,.call 206 [(.t 20),(.t 21)]⟩,⟨none,none,(.store 1 (.t 2) (.t 22))⟩]) .ret))))
theorem Xn:codeOf Tryz.prog 150=some ⟨23,OX,[(.cell 2 true 1)]⟩:=by kernel_rfl
theorem Kg:modes 150=⟨[],.frz,none,false⟩:=by unfold modes; rfl
theorem Qfv {p:ByteArray} (hp:p.size=1) (n:Int):(pre p n).extract 1 (pre p n).size=Fu n:=by
 unfold pre
 rw [zU,ByteArray.extract_append_eq_right hp.symm rfl]
theorem Qge {p:ByteArray} (hp:p.size=1) (n:Int):(pre p n).size=1+(Fu n).size:=by
 unfold pre
 rw [zU,hp]
theorem Qfw (c:Cl) (hc:c.ok=true) (hnm:c.norm=true):E 150 [c.sv] []=some ((c.rn (Dz G6 c.ns)).sv,[]):=by
 have hl:=Cl.ok_len hc
 have hnn:=Cl.N0 hc
 have n2:=PA c hc
 have n4:=K8 c hc (Dz G6 c.ns) (Cl.yE hc)
 have hnl:O5 c.ns:=At.1 hnm
 have hcs:∀ d:Cl,Cl.osv d=.agg [.ref 0]:=fun d=>rfl
 have hob:∀ d:Cl,Cl.obs d=[.row 122 3 (d.lits.map Lt.o)]:=fun d=>rfl
 have hsv:∀ d:Cl,d.sv=.agg [.arr (d.lits.map Lt.d)]:=fun d=>rfl
 rw [show C7 [] (Lt.vsL c.lits)=c.ns from rfl] at n2
 rw [hcs,hob] at n4
 have her:=Lt.erss (c.rn (Dz G6 c.ns)).lits
 rw [hsv] at n2 n4
 obtain ⟨ns,hns⟩:∃ ns,ns=c.ns:=⟨_,rfl⟩
 rw [←hns] at hnl hnn n2 n4 her ⊢
 have h0:=Zy G6
 rw [hsv,hsv]
 refine Ad Xn Kg (of_decide_eq_true rfl) ?_
 simp (disch:=omega) only [OX,go_sem,Aa,n2,Dy]
 refine go_loop (α:=Int) (fun a=>⟨slots 23 0 [(1,.ptr 0 0),(2,.ptr 1 0),(3,.ref 2),(8,.ref 3),(9,.int .i64 ns.length),(10,.int .i64 a)],[.box 60 [.arr (c.lits.map Lt.d)],.box 60 [.nil],.mp true (Fk (Dz G6 (ns.take a.toNat))),.row 9 1 (ns.map fun s=>[OT.str s])]⟩) (fun a=>∃ k:Nat,a=k∧k≤(ns).length) (fun a=>(ns).length-(a).toNat) 0 ⟨0,rfl,zD _⟩ (by simp (disch:=omega) only [go_sem,Aa,h0]) ?_
 rintro i ⟨k,hi,hk⟩
 have hni:i.toNat=k:=by omega
 have hni1:(i+1).toNat=k+1:=by omega
 rcases zA k (ns).length with hlt | hge
 ·have hg:=get_at (fun s=>[OT.str s]) hlt
  have hz:=FY (show 0≤i by omega) (show i≤1099511627776 by omega)
  have hcut:=Qfv (p:=M1) (by decide +kernel) i
  have hsz:=Qge (p:=M1) (by decide +kernel) i
  obtain ⟨nm,hnm'⟩:∃ nm,nm=ns[k]:=⟨_,rfl⟩
  have hk1:nm=pre M1 i:=by rw [hnm',hnl k hlt,hi]
  rw [←hk1] at hcut hsz
  rw [hsz] at hcut
  have hb:dec ((#[89]:Array UInt8).size+(Fu i).size≤9223372036854775807)=true:=Ar (by simp; omega)
  have hs:Pd (Fk (Dz G6 (ns.take k))) (.str nm) (false,[.str ((⟨#[89]⟩:ByteArray)++Fu i)])=Fk (Dz G6 (ns.take (k+1))):=by
   rw [Vp,Mr G6 hlt,hi,hnm']; rfl
  rw [←hnm'] at hg
  clear hk1 hnm'
  simp (disch:=omega) only [go_sem,Aa,hni,hg,hb,hs,hsz,hcut]
  refine ⟨i+1,⟨k+1,by omega,hlt⟩,by omega,?_⟩
  simp (disch:=omega) only [go_sem,Aa,hni1]
 ·have ht:ns.take k=ns:=zG hge
  simp (disch:=omega) only [go_sem,Aa,hni,ht,n4,her,Lt.noss,Lt.fus,Cy]
theorem VB {α β:Type} (g:α→β):∀ (l:List α) (i:Nat),(l.map g).eraseIdx i=(l.eraseIdx i).map g
 | [],i=>by cases i <;> rfl
 | a :: l,0=>rfl
 | a :: l,i+1=>by
  show g a :: (l.map g).eraseIdx i=g a :: (l.eraseIdx i).map g
  rw [VB g l i]
noncomputable def Lt.ds (l:List Lt):List (List OT):=l.map fun b=>b.d.map D.ot
theorem Lt.Qg3 (l:List Lt):OT.erss (Lt.ds l)=l.map Lt.d:=Lt.der l
theorem Lt.Qg4 (l:List Lt):OT.AA (Lt.ds l)=true:=Lt.dfu l
theorem Lt.Qgf (a b:List Lt):Lt.ds a++Lt.ds b=Lt.ds (a++b):=by unfold Lt.ds; rw [zM]
theorem Lt.Xo (a:List Lt):(Lt.ds a).length=a.length:=by unfold Lt.ds; rw [zI]
theorem Lt.Qgg (a:List Lt):((Lt.ds a).all fun l=>l.length == 3)=true:=by
 unfold Lt.ds
 rw [List.all_eq_true]
 intro e he
 obtain ⟨b,_,rfl⟩:=List.mem_map.1 he
 rfl
theorem Lt.Qg5 (a:List Lt):((a.map Lt.d).map fun x=>x.map D.ot)=Lt.ds a:=by unfold Lt.ds; rw [List.map_map]; rfl
theorem Ch:modes 215=⟨[],.asis,some Pw,false⟩:=by unfold modes; rfl
theorem Ca:modes 214=⟨[true],.asis,some LZ,false⟩:=by unfold modes; rfl
theorem AQ:modes 213=⟨[true],.asis,some Qv,false⟩:=by unfold modes; rfl
theorem QcE (xs:List Lt) (h0:xs≠[]) (h:xs.length≤1048576):E 215 [.arr (xs.map Lt.d)] []=some (.ref 0,[.row 122 3 (Lt.ds xs)]):=by
 rw [GI (g:=Pw) (congrArg FM.ext Ch)]
 unfold Pw
 simp only
 rw [Ar ⟨by simpa using h0,by simpa using h,fun e he=>by obtain ⟨b,_,rfl⟩:=List.mem_map.1 he; rfl⟩,cond_true,Lt.Qg5]
theorem QaE (xs:List Lt) (i:Int) (h0:0≤i) (h1:i.toNat<xs.length) (h:xs.length≤1048576):E 214 [.ref 0,.int .i64 i,.int .i64 (i+1)] [.row 122 3 (Lt.ds xs)]=some (.ref 1,[.gone,.row 122 3 (Lt.ds (xs.eraseIdx i.toNat))]):=by
 rw [GI (g:=LZ) (congrArg FM.ext Ca)]
 unfold LZ
 simp only
 rw [Ar ⟨trivial,h0,by rw [Lt.Xo]; exact h1,trivial,by rw [Lt.Xo]; omega⟩,cond_true]
 unfold Lt.ds
 rw [VB]
theorem Qep:E 213 [.nil,.int .i64 0] []=some (.nil,[]):=by
 rw [GI (g:=Qv) (congrArg FM.ext AQ)]
 unfold Qv
 simp only
 rw [Ar trivial,cond_true]
theorem Qeq (n:Int) (h:0<n) (h1:n≤1048576):E 213 [.nil,.int .i64 n] []=some (.ref 0,[.row 122 3 []]):=by
 rw [GI (g:=Qv) (congrArg FM.ext AQ)]
 unfold Qv
 simp only
 rw [Ax (by omega),cond_false,Ar ⟨h,h1⟩,cond_true]
def LK:SC:=(.seq (.reg [⟨some 2,none,.boxv 60 1 (.t 0)⟩,⟨some 4,none,.mv (.c .nil)⟩]) (.seq (.reg [⟨some 5,none,.faddr 0 (.t 2)⟩,⟨some 6,none,.load false 1 (.t 5)⟩,⟨some 7,none,.call 215 [(.t 6)]⟩,⟨some 8,none,.mv (.t 1)⟩,⟨some 9,none,.mv (.t 1)⟩,⟨some 10,none,.bin .add false (.t 9) (.c (.int .i64 1))⟩,⟨some 11,none,.call 214 [(.t 7),(.t 8),(.t 10)]⟩,⟨some 4,none,.mv (.t 11)⟩]) .ret))
theorem TG:codeOf Tryz.prog 154=some ⟨12,LK,[(.tmp 4)]⟩:=by kernel_rfl
theorem LL:modes 154=⟨[],.own [some (122,3)],none,false⟩:=by unfold modes; rfl
theorem VC (c:Cl) (hl:c.lits.length≤1048575) (i:Int) (h0:0≤i) (h1:i.toNat<c.lits.length):E 154 [c.sv,.int .i64 i] []=some (.ref 0,[.row 122 3 (Lt.ds (c.lits.eraseIdx i.toNat))]):=by
 have hcs:c.sv=.agg [.arr (c.lits.map Lt.d)]:=rfl
 have h2:=QcE c.lits (fun e=>by rw [e] at h1; simp at h1) (by omega)
 have h3:=QaE c.lits i h0 h1 (by omega)
 refine Ad TG LL (of_decide_eq_true rfl) ?_
 simp (disch:=omega) only [LK,go_sem,Aa,h2,h3,Ch,Ca]
def Cb:SC:=(.seq (.reg [⟨some 2,none,.mv (.c .nil)⟩]) (.seq (.reg [⟨some 3,none,.mv (.c (.int .i64 0))⟩]) (.seq (.seq (.reg [⟨some 9,none,.mv (.t 0)⟩,⟨some 10,none,.len false (.t 9)⟩,⟨some 11,none,.mv (.c (.int .i64 0))⟩]) (.block 0 (.loop [1,0,0,1,0,0,0,0,0,1,1,1,0,0,0,0,0,0,0,0,0,0,0,0,0,0,0,0,0,0,0,0,0,0,0,0] (.seq (.reg [⟨some 12,none,.bin .lss false (.t 11) (.t 10)⟩]) (.seq (.cond (.t 12) .skip (.exit 0)) (.seq (.block 1 (.seq (.reg [⟨some 13,none,.iaddr 1 (.t 9) (.t 11)⟩,⟨some 14,none,.load false 1 (.t 13)⟩,⟨some 5,none,.mv (.t 14)⟩]) (.seq (.reg [⟨some 15,none,.mv (.t 3)⟩,⟨some 16,none,.mv (.t 5)⟩,⟨some 17,none,.len false (.t 16)⟩,⟨some 18,none,.bin .add false (.t 15) (.t 17)⟩,⟨some 3,none,.mv (.t 18)⟩]) (.seq (.reg [⟨some 19,none,.mv (.t 3)⟩,⟨some 20,none,.bin .lss false (.t 19) (.c (.int .i64 0))⟩]) (.cond (.t 20) (.reg [⟨some 21,none,.un .neg (.c .nil)⟩,⟨none,none,(.un .neg (.c .nil))⟩]) .skip))))) (.reg [⟨some 22,none,.bin .add false (.t 11) (.c (.int .i64 1))⟩,⟨some 11,none,.mv (.t 22)⟩]))))))) (.seq (.reg [⟨some 23,none,.mv (.t 3)⟩,⟨some 24,none,.call 213 [(.c .nil),(.t 23)]⟩,⟨some 6,none,.mv (.t 24)⟩]) (.seq (.seq (.reg [⟨some 25,none,.mv (.t 0)⟩,⟨some 26,none,.len false (.t 25)⟩,⟨some 27,none,.mv (.c (.int .i64 0))⟩]) (.block 2 (.loop [0,0,0,0,0,0,1,0,0,0,0,0,0,0,0,0,0,0,0,0,0,0,0,0,0,1,1,1,0,0,0,0,0,0,0,0] (.seq (.reg [⟨some 28,none,.bin .lss false (.t 27) (.t 26)⟩]) (.seq (.cond (.t 28) .skip (.exit 2)) (.seq (.block 3 (.seq (.reg [⟨some 29,none,.iaddr 1 (.t 25) (.t 27)⟩,⟨some 30,none,.load false 1 (.t 29)⟩,⟨some 8,none,.mv (.t 30)⟩]) (.reg [⟨some 31,none,.mv (.t 6)⟩,⟨some 32,none,.mv (.t 8)⟩,⟨(some 33),none,(.append 122 3 48 [(.bool false),(.str ⟨#[]⟩),.nil] (.t 31) (.t 32))⟩,⟨some 6,none,.mv (.t 33)⟩]))) (.reg [⟨some 34,none,.bin .add false (.t 27) (.c (.int .i64 1))⟩,⟨some 27,none,.mv (.t 34)⟩]))))))) (.seq (.reg [⟨some 35,none,.mv (.t 6)⟩,⟨some 2,none,.mv (.t 35)⟩]) .ret))))))
theorem DR:codeOf Tryz.prog 153=some ⟨36,Cb,[(.tmp 2)]⟩:=by kernel_rfl
theorem Cc:modes 153=⟨[],.own [some (122,3)],none,false⟩:=by unfold modes; rfl
theorem Qer (xs:List (List Lt)) (hx:xs.length≤1024) (hs:xs.flatten.length≤1048576):E 153 [.arr (xs.map fun l=>[D.arr (l.map Lt.d)])] []=some (.ref 0,[.row 122 3 (Lt.ds xs.flatten)]):=by
 have hd0:Lt.ds []=[]:=rfl
 refine Ad DR Cc (of_decide_eq_true rfl) ?_
 simp (disch:=omega) only [Cb,go_sem,Aa]
 refine go_loop (α:=Int × (Int)) (fun a=>⟨slots 36 0 [(0,.arr (xs.map fun l=>[D.arr (l.map Lt.d)])),(3,.int .i64 (a.2)),(9,.arr (xs.map fun l=>[D.arr (l.map Lt.d)])),(10,.int .i64 xs.length),(11,.int .i64 (a.1))],[]⟩) (fun a=>∃ k:Nat,a.1=k∧k≤(xs).length∧(a.2)+((xs.drop k).flatten.length:Int)=xs.flatten.length∧0≤(a.2)) (fun a=>(xs).length-(a.1).toNat) (0,0) ⟨0,rfl,zD _,by rw [zH]; dsimp only; omega,Int.le_refl _⟩ (by simp (disch:=omega) only [go_sem,Aa]) ?_
 rintro ⟨i,n⟩ ⟨k,hi,hk,hR⟩
 dsimp only at hi hR
 have hni:i.toNat=k:=by omega
 have hni1:(i+1).toNat=k+1:=by omega
 rcases zA k (xs).length with hlt | hge
 ·have hg:=get_at (fun l:List Lt=>[D.arr (l.map Lt.d)]) hlt
  rw [zE hlt,List.flatten_cons,zF] at hR
  obtain ⟨hR1,hR2⟩:=hR
  have hge:dec (n+(xs[k].length:Int)<0)=false:=Ax (by omega)
  simp (disch:=omega) only [go_sem,Aa,hni,hg,hge]
  refine ⟨(i+1,n+xs[k].length),⟨k+1,by dsimp only; omega,hlt,by dsimp only; omega,by dsimp only; omega⟩,by dsimp only; omega,?_⟩
  first | trivial | rfl
 ·rw [zB hge] at hR
  obtain ⟨hR1,hR2⟩:=hR
  have hn:n=xs.flatten.length:=by simpa using hR1
  clear hR1 hR2
  rcases zK xs.flatten.length with hz | hz
  ·have hxe:∀ l∈xs,l=[]:=by
    have:=zJ hz
    rwa [List.flatten_eq_nil_iff] at this
   have hfe:xs.flatten=[]:=zJ hz
   obtain rfl:n=0:=by omega
   have hgr:=Qep
   rw [hfe]
   simp (disch:=omega) only [go_sem,Aa,hni,hgr,AQ]
   clear hi hni hni1 hk hge
   refine go_loop (α:=Int) (fun a=>⟨slots 36 0 [(6,(if a=0 then .nil else .ref 0)),(25,.arr (xs.map fun l=>[D.arr (l.map Lt.d)])),(26,.int .i64 xs.length),(27,.int .i64 a)],(if a=0 then [] else [.row 122 3 []])⟩) (fun a=>∃ k:Nat,a=k∧k≤(xs).length) (fun a=>(xs).length-(a).toNat) 0 ⟨0,rfl,zD _⟩ (by simp (disch:=omega) only [go_sem,Aa,eq_self,if_true]) ?_
   rintro i ⟨k,hi,hk⟩
   have hni:i.toNat=k:=by omega
   have hni1:(i+1).toNat=k+1:=by omega
   rcases zA k (xs).length with hlt | hge
   ·have hg:=get_at (fun l:List Lt=>[D.arr (l.map Lt.d)]) hlt
    rw [hxe _ (zC hlt)] at hg
    rcases zK k with h0 | h0
    ·subst h0
     obtain rfl:i=0:=hi
     simp (disch:=omega) only [go_sem,Aa,hg,eq_self,if_true]
     exact ⟨1,⟨1,rfl,hlt⟩,by omega,by first | trivial | rfl⟩
    ·have hi0:(i=0)=False:=by simp; omega
     have hi1:(i+1=0)=False:=by simp; omega
     simp (disch:=omega) only [go_sem,Aa,hni,hg,hi0,if_false]
     exact ⟨i+1,⟨k+1,by omega,hlt⟩,by omega,by simp only [hi1,if_false,and_self]⟩
   ·rcases zK k with h0 | h0
    ·subst h0
     obtain rfl:i=0:=hi
     simp (disch:=omega) only [go_sem,Aa,eq_self,if_true,hd0]
    ·have hi0:(i=0)=False:=by simp; omega
     simp (disch:=omega) only [go_sem,Aa,hni,hi0,if_false,hd0]
  ·have hgr:=Qeq n (by omega) (by omega)
   simp (disch:=omega) only [go_sem,Aa,hni,hgr,AQ]
   clear hi hni hni1 hk hge
   refine go_loop (α:=Int × (List Lt)) (fun a=>⟨slots 36 0 [(6,.ref 0),(25,.arr (xs.map fun l=>[D.arr (l.map Lt.d)])),(26,.int .i64 xs.length),(27,.int .i64 (a.1))],[.row 122 3 (Lt.ds (a.2))]⟩) (fun a=>∃ k:Nat,a.1=k∧k≤(xs).length∧(a.2)++(xs.drop k).flatten=xs.flatten) (fun a=>(xs).length-(a.1).toNat) (0,[]) ⟨0,rfl,zD _,by rw [zH]; rfl⟩ (by simp (disch:=omega) only [go_sem,Aa,hd0]) ?_
   rintro ⟨i,acc⟩ ⟨k,hi,hk,hR⟩
   dsimp only at hi hR
   have hni:i.toNat=k:=by omega
   have hni1:(i+1).toNat=k+1:=by omega
   rcases zA k (xs).length with hlt | hge
   ·have hg:=get_at (fun l:List Lt=>[D.arr (l.map Lt.d)]) hlt
    rw [zE hlt,List.flatten_cons,← List.append_assoc] at hR
    have hlen:=congrArg List.length hR
    rw [zF,zF] at hlen
    have hap:Lt.ds acc++Lt.ds xs[k]=Lt.ds (acc++xs[k]):=Lt.Qgf _ _
    have h1:=Lt.Qg5 xs[k]
    have h2:=Lt.Xo xs[k]
    have h3:=Lt.Xo acc
    have h4:=Lt.Qgg xs[k]
    simp (disch:=omega) only [go_sem,Aa,hni,hg,hap,h1,h2,h3,h4]
    refine ⟨(i+1,acc++xs[k]),⟨k+1,by dsimp only; omega,hlt,hR⟩,by dsimp only; omega,?_⟩
    first | trivial | rfl | simp only [hap]
   ·rw [zB hge] at hR
    have hR:acc=xs.flatten:=by simpa using hR
    rw [←hR]
    simp (disch:=omega) only [go_sem,Aa,hni]
abbrev u2b:SC:=(.seq (.seq (.reg [⟨some 22,none,.mv (.t 7)⟩,⟨some 23,none,.len false (.t 22)⟩,⟨some 24,none,.bin .gtr false (.t 23) (.c (.int .i64 0))⟩]) (.cond (.t 24) .skip (.exit 0))) (.block 1 (.seq (.dreg [[],[],[1],[2,1],[3,2,1],[0,4,3,2,1],[5,0,4,3,2,1],[6,5,0,4,3,2,1],[6,5,0,4,3,2,1],[],[9,7,6,5,0,4,3,2,1],[8,6,5,0,4,3,2,1,10,9,7]] [⟨some 26,none,.load true 1 (.t 6)⟩,⟨some 27,none,.mv (.t 7)⟩,⟨some 28,none,.iaddr 4 (.t 27) (.c (.int .i64 0))⟩,⟨some 29,none,.faddr 0 (.t 28)⟩,⟨some 30,none,.load true 2 (.t 29)⟩,⟨some 31,none,.call 207 [(.t 26),(.t 30)]⟩,⟨some 25,none,.mv (.t 31)⟩,⟨some 32,none,.ext (.t 25) 0⟩,⟨some 33,none,.ext (.t 25) 1⟩,⟨(some 8),none,(.alloc 33 [(.str ⟨#[]⟩),.nil])⟩,⟨none,none,(.store 2 (.t 8) (.t 32))⟩,⟨some 9,none,.mv (.t 33)⟩]) (.seq (.dreg [[],[],[1],[2,1],[3,2,1],[0,4,3,2,1],[5,0,4,3,2,1],[6,5,0,4,3,2,1],[6,5,0,4,3,2,1],[],[9,7,6,5,0,4,3,2,1],[8,6,5,0,4,3,2,1,10,9,7]] [⟨some 35,none,.load true 1 (.t 6)⟩,⟨some 36,none,.mv (.t 7)⟩,⟨some 37,none,.iaddr 4 (.t 36) (.c (.int .i64 0))⟩,⟨some 38,none,.faddr 2 (.t 37)⟩,⟨some 39,none,.load true 2 (.t 38)⟩,⟨some 40,none,.call 207 [(.t 35),(.t 39)]⟩,⟨some 34,none,.mv (.t 40)⟩,⟨some 41,none,.ext (.t 34) 0⟩,⟨some 42,none,.ext (.t 34) 1⟩,⟨(some 10),none,(.alloc 33 [(.str ⟨#[]⟩),.nil])⟩,⟨none,none,(.store 2 (.t 10) (.t 41))⟩,⟨some 11,none,.mv (.t 42)⟩]) (.seq (.reg [⟨some 43,none,.mv (.t 7)⟩,⟨some 44,none,.slice false 4 (.t 43) (some (.c (.int .i64 1))) none⟩,⟨some 7,none,.mv (.t 44)⟩]) (.block 2 (.seq (.reg [⟨some 69,none,.mv (.t 9)⟩,⟨some 70,none,.un .not (.t 69)⟩,⟨some 71,none,.mv (.t 70)⟩,⟨(some 72),(some (71,false)),(.mv (.t 11))⟩,⟨(some 73),(some (71,false)),(.un .not (.t 72))⟩,⟨some 74,none,.pick (.t 71) (.c (.bool true)) (.t 73)⟩,⟨some 68,none,.mv (.t 74)⟩]) (.cond (.t 68) (.seq (.reg [⟨some 75,none,.build [.nil] []⟩,⟨none,none,(.store 1 (.t 4) (.t 75))⟩,⟨some 5,none,.mv (.c (.bool false))⟩]) .ret) (.seq (.reg [⟨some 77,none,.load true 2 (.t 8)⟩,⟨some 78,none,.load true 2 (.t 10)⟩,⟨some 79,none,.call 208 [(.t 77),(.t 78)]⟩,⟨some 76,none,.mv (.t 79)⟩]) (.cond (.t 76) .skip (.seq (.reg [⟨some 81,none,.load true 2 (.t 8)⟩,⟨some 82,none,.call 209 [(.t 81)]⟩,⟨some 83,none,.mv (.t 82)⟩,⟨(some 84),(some (83,false)),(.load true 2 (.t 10))⟩,⟨(some 85),(some (83,false)),(.call 209 [(.t 84)])⟩,⟨some 86,none,.pick (.t 83) (.c (.bool true)) (.t 85)⟩,⟨some 80,none,.mv (.t 86)⟩]) (.cond (.t 80) (.seq (.reg [⟨some 88,none,.load true 2 (.t 8)⟩,⟨some 89,none,.load true 2 (.t 10)⟩,⟨(some 90),none,(.build [(.str ⟨#[]⟩),.nil,(.str ⟨#[]⟩),.nil] [(0,(2,(.t 88))),(2,(2,(.t 89)))])⟩,⟨some 91,none,.call 210 [(.t 90)]⟩,⟨some 87,none,.mv (.t 91)⟩,⟨some 92,none,.ext (.t 87) 0⟩,⟨some 93,none,.ext (.t 87) 1⟩,⟨some 12,none,.alloc 142 [.nil]⟩,⟨none,none,(.store 1 (.t 12) (.t 92))⟩,⟨some 13,none,.mv (.t 93)⟩]) (.seq (.seq (.reg [⟨some 94,none,.mv (.t 13)⟩,⟨some 95,none,.un .not (.t 94)⟩]) (.cond (.t 95) (.seq (.reg [⟨some 96,none,.build [.nil] []⟩,⟨none,none,(.store 1 (.t 4) (.t 96))⟩,⟨some 5,none,.mv (.c (.bool false))⟩]) .ret) .skip)) (.seq (.reg [⟨some 98,none,.load true 1 (.t 6)⟩,⟨some 99,none,.load true 1 (.t 12)⟩,⟨some 100,none,.call 211 [(.t 98),(.t 99)]⟩,⟨some 97,none,.mv (.t 100)⟩,⟨some 101,none,.ext (.t 97) 0⟩,⟨some 102,none,.ext (.t 97) 1⟩,⟨none,none,(.store 1 (.t 6) (.t 101))⟩,⟨some 13,none,.mv (.t 102)⟩]) (.seq (.reg [⟨some 103,none,.mv (.t 13)⟩,⟨some 104,none,.un .not (.t 103)⟩]) (.cond (.t 104) (.seq (.reg [⟨some 105,none,.build [.nil] []⟩,⟨none,none,(.store 1 (.t 4) (.t 105))⟩,⟨some 5,none,.mv (.c (.bool false))⟩]) .ret) .skip))))) (.seq (.reg [⟨some 107,none,.faddr 0 (.t 8)⟩,⟨some 108,none,.load false 1 (.t 107)⟩,⟨some 109,none,.faddr 0 (.t 10)⟩,⟨some 110,none,.load false 1 (.t 109)⟩,⟨some 111,none,.bin .neq false (.t 108) (.t 110)⟩,⟨some 112,none,.mv (.t 111)⟩,⟨(some 113),(some (112,false)),(.faddr 1 (.t 8))⟩,⟨(some 114),(some (112,false)),(.load false 1 (.t 113))⟩,⟨(some 115),(some (112,false)),(.len false (.t 114))⟩,⟨(some 116),(some (112,false)),(.faddr 1 (.t 10))⟩,⟨(some 117),(some (112,false)),(.load false 1 (.t 116))⟩,⟨(some 118),(some (112,false)),(.len false (.t 117))⟩,⟨(some 119),(some (112,false)),(.bin .neq false (.t 115) (.t 118))⟩,⟨some 120,none,.pick (.t 112) (.c (.bool true)) (.t 119)⟩,⟨some 106,none,.mv (.t 120)⟩]) (.cond (.t 106) (.seq (.reg [⟨some 121,none,.build [.nil] []⟩,⟨none,none,(.store 1 (.t 4) (.t 121))⟩,⟨some 5,none,.mv (.c (.bool false))⟩]) .ret) (.seq (.reg [⟨(some 45),none,(.mkrow 198 4 [(.str ⟨#[]⟩),.nil,(.str ⟨#[]⟩),.nil] 0 [])⟩,⟨some 14,none,.mv (.t 45)⟩]) (.seq (.seq (.reg [⟨some 46,none,.faddr 1 (.t 8)⟩,⟨some 47,none,.load false 1 (.t 46)⟩,⟨some 48,none,.len false (.t 47)⟩,⟨some 49,none,.mv (.c (.int .i64 0))⟩]) (.block 3 (.loop [0,0,0,0,1,0,1,1,0,0,1,0,0,0,1,0,0,0,0,0,0,0,0,0,0,0,0,0,0,0,0,0,0,0,0,0,0,0,0,0,0,0,0,0,0,0,0,1,1,1,0,0,0,0,0,0,0,0,0,0,0,0,0,0,0,0,0,0,0,0,0,0,0,0,0,0,0,0,0,0,0,0,0,0,0,0,0,0,0,0,0,0,0,0,0,0,0,0,0,0,0,0,0,0,0,0,0,0,0,0,0,0,0,0,0,0,0,0,0,0,0,0,0] (.seq (.reg [⟨some 50,none,.bin .lss false (.t 49) (.t 48)⟩]) (.seq (.cond (.t 50) .skip (.exit 3)) (.seq (.block 4 (.seq (.reg [⟨some 51,none,.mv (.t 49)⟩,⟨some 52,none,.iaddr 2 (.t 47) (.t 49)⟩,⟨some 53,none,.load true 2 (.t 52)⟩,⟨(some 16),none,(.alloc 33 [(.str ⟨#[]⟩),.nil])⟩,⟨some 15,none,.mv (.t 51)⟩,⟨none,none,(.store 2 (.t 16) (.t 53))⟩]) (.dreg [[],[],[],[2],[],[3,2,4],[5,3,2,4],[1,6,5,3,2,4],[7,1,6,5,3,2,4],[0,8,7,1,6,5,3,2,4],[9,0,8,7,1,6,5,3,2,4]] [⟨some 54,none,.mv (.t 14)⟩,⟨some 55,none,.load true 2 (.t 16)⟩,⟨some 56,none,.faddr 1 (.t 10)⟩,⟨some 57,none,.load false 1 (.t 56)⟩,⟨some 58,none,.mv (.t 15)⟩,⟨some 59,none,.iaddr 2 (.t 57) (.t 58)⟩,⟨some 60,none,.load true 2 (.t 59)⟩,⟨(some 61),none,(.build [(.str ⟨#[]⟩),.nil,(.str ⟨#[]⟩),.nil] [(0,(2,(.t 55))),(2,(2,(.t 60)))])⟩,⟨(some 62),none,(.mkrow 198 4 [(.str ⟨#[]⟩),.nil,(.str ⟨#[]⟩),.nil] 1 [(0,(.t 61))])⟩,⟨(some 63),none,(.append 198 4 80 [(.str ⟨#[]⟩),.nil,(.str ⟨#[]⟩),.nil] (.t 54) (.t 62))⟩,⟨some 14,none,.mv (.t 63)⟩]))) (.reg [⟨some 64,none,.bin .add false (.t 49) (.c (.int .i64 1))⟩,⟨some 49,none,.mv (.t 64)⟩]))))))) (.reg [⟨some 65,none,.mv (.t 14)⟩,⟨some 66,none,.mv (.t 7)⟩,⟨(some 67),none,(.append 198 4 80 [(.str ⟨#[]⟩),.nil,(.str ⟨#[]⟩),.nil] (.t 65) (.t 66))⟩,⟨some 7,none,.mv (.t 67)⟩])))))))))))))))))
abbrev u2r:SC:=(.seq (.reg [⟨some 122,none,.load true 1 (.t 6)⟩,⟨none,none,(.store 1 (.t 4) (.t 122))⟩,⟨some 5,none,.mv (.c (.bool true))⟩]) .ret)
def OY:SC:=(.seq (.reg [⟨some 2,none,.boxv 33 2 (.t 0)⟩,⟨some 3,none,.boxv 33 2 (.t 1)⟩,⟨some 4,none,.alloc 142 [.nil]⟩,⟨some 5,none,.mv (.c (.bool false))⟩]) (.seq (.reg [⟨some 17,none,.build [.nil] []⟩,⟨some 6,none,.alloc 142 [.nil]⟩,⟨none,none,(.store 1 (.t 6) (.t 17))⟩]) (.seq (.reg [⟨some 18,none,.load true 2 (.t 2)⟩,⟨some 19,none,.load true 2 (.t 3)⟩,⟨(some 20),none,(.build [(.str ⟨#[]⟩),.nil,(.str ⟨#[]⟩),.nil] [(0,(2,(.t 18))),(2,(2,(.t 19)))])⟩,⟨(some 21),none,(.mkrow 198 4 [(.str ⟨#[]⟩),.nil,(.str ⟨#[]⟩),.nil] 1 [(0,(.t 20))])⟩,⟨some 7,none,.mv (.t 21)⟩]) (.seq (.block 0 (.loop [0,0,0,0,1,0,1,1,0,0,0,0,0,0,0,0,0,0,0,0,0,0,0,0,0,0,0,0,0,0,0,0,0,0,0,0,0,0,0,0,0,0,0,0,0,0,0,0,0,0,0,0,0,0,0,0,0,0,0,0,0,0,0,0,0,0,0,0,0,0,0,0,0,0,0,0,0,0,0,0,0,0,0,0,0,0,0,0,0,0,0,0,0,0,0,0,0,0,0,0,0,0,0,0,0,0,0,0,0,0,0,0,0,0,0,0,0,0,0,0,0,0,0] u2b)) u2r))))
theorem Xp:codeOf Tryz.prog 151=some ⟨123,OY,[(.cell 4 true 1),(.tmp 5)]⟩:=by kernel_rfl
theorem Kh:modes 151=⟨[],.own [some (227,3),none],none,false⟩:=by unfold modes; rfl
abbrev u2H:Nat × Bool × Bool × Sb × List (Tm × Tm)→St:=fun a=>⟨slots 123 0 [(4,.ptr 0 0),(6,.ptr 1 0),(7,(bif a.2.2.1 then .ref 2 else .arr (a.2.2.2.2.map eqD)))],([.box 142 [.nil],.box 142 [bif a.2.1 then .nil else .ref (bif a.2.2.1 then 3 else 2)]]++((bif a.2.2.1 then [.row 198 4 (a.2.2.2.2.map eqO)] else [])++(bif a.2.1 then [] else [.row 227 3 (a.2.2.2.1.binds.map Bd.o)])))⟩
abbrev u2R (total:Option Sb):Nat × Bool × Bool × Sb × List (Tm × Tm)→Prop:=fun a=>uInv a.2.2.2.1 a.2.2.2.2∧BH a.1 a.2.2.2.1 a.2.2.2.2=some total∧(a.2.1=true→a.2.2.2.1.binds=[])
abbrev u2K (total:Option Sb):X→St→Prop:=blk 0 (Sy 0 u2r (TU (.own [some (227,3),none]) 0 [(.cell 4 true 1),(.tmp 5)] (.tup [(uTo total).osv,.bool (uOk total)],(uTo total).obs)))
abbrev LM:List Nat:=[0,0,0,0,1,0,1,1,0,0,0,0,0,0,0,0,0,0,0,0,0,0,0,0,0,0,0,0,0,0,0,0,0,0,0,0,0,0,0,0,0,0,0,0,0,0,0,0,0,0,0,0,0,0,0,0,0,0,0,0,0,0,0,0,0,0,0,0,0,0,0,0,0,0,0,0,0,0,0,0,0,0,0,0,0,0,0,0,0,0,0,0,0,0,0,0,0,0,0,0,0,0,0,0,0,0,0,0,0,0,0,0,0,0,0,0,0,0,0,0,0,0,0]
end Go.Proofs.YtepbennkcbmgoaaGreatDoor
