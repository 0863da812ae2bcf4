/-
  Texts of this claim, one behind the other, each built on those ahead of it. No condition.
-/
import Derived.Test.YtibdknkacmimgaaGreatDoorK48c
import Derived.Test.YtibdknkacmimgaaGreatDoorK48d
import Derived.Test.YtibdknkacmimgaaGreatDoorK48e
import Derived.Test.YtibdknkacmimgaaGreatDoorK48f
import Derived.Test.YtibdknkacmimgaaGreatDoorK48g
import Derived.Test.YtibdknkacmimgaaGreatDoorK48h
import Derived.Test.YtibdknkacmimgaaGreatDoorK48i
set_option maxHeartbeats 16000000
open List renaming getElem_mem → zA, drop_eq_nil_of_le → zC, drop_eq_getElem_cons → zD, length_append → zF, drop_zero → zG, take_of_length_le → zH, length_map → zI, eq_nil_of_length_eq_zero → zJ, mem_append → zL, map_append → zM, map_nil → zO, append_nil → zP, length_take → zR
open Nat renaming lt_or_ge → zB, zero_le → zE, eq_zero_or_pos → zK, le_refl → zT
open Option renaming isSome_some → zN
open Int renaming toNat_natCast → zQ
open ByteArray renaming size_append → zS
set_option maxRecDepth 100000
set_option linter.unusedSimpArgs false
set_option linter.unusedVariables false
set_option linter.unusedSectionVars false
namespace Go.Proofs.YtibdknkacmimgaaGreatDoor
open Go.RowKit
theorem Qby (a b:Tm) (ha:a.expr=true) (hb:b.expr=true) (n:Nat) (total:Option Sb) (hr:BM n ⟨[]⟩ [(a,b)]=some total):E 50 [a.sv,b.sv] []=some (.tup [(uTo total).sv,.bool (uOk total)],[]):=by
 have hres:∀ t:Sb,t.sv=.agg [.arr (t.binds.map Bd.d)]:=fun t=>rfl
 rw [hres]
 refine Ae S3 H7 (of_decide_eq_true rfl) ?_
 simp (disch:=omega) only [Lh,go_sem,Aa]
 refine go_loop (α:=Nat × Bool × Bool × Sb × List (Tm × Tm)) u5H (u5R total) (fun a=>a.1) (n,true,true,⟨[]⟩,[(a,b)]) ⟨uInv.start ha hb,hr,fun _=>rfl⟩ (by simp (disch:=omega) only [go_sem,Aa,u5H]; rfl) ?_
 clear hr ha hb
 rintro ⟨n,sn,lo,s,l⟩ ⟨hinv,hrun,hsn⟩
 dsimp only at hinv hrun hsn
 have hs:=hinv.ok
 have hst:=ET hs
 cases n with
 | zero=>rw [BM] at hrun; cases hrun
 | succ n =>
 cases l with
 | nil =>
  rw [BM] at hrun
  obtain rfl:=Option.some.inj hrun
  have hk:uTo (some s)=s:=rfl
  rw [hk]
  cases sn with
  | true =>
   obtain rfl:s=⟨[]⟩:=by obtain ⟨bs⟩:=s; have:=hsn rfl; rw [show bs=[] from this]
   cases lo with
   | true =>
    simp (disch:=omega) only [go_sem,Aa,u5H,u5b,u5r,uOk,zN,zO]
    try rfl
   | false =>
    simp (disch:=omega) only [go_sem,Aa,u5H,u5b,u5r,uOk,zN,zO]
    try rfl
  | false =>
   cases lo with
   | true =>
    simp (disch:=omega) only [go_sem,Aa,u5H,u5b,u5r,uOk,zN,zO]
    try rfl
   | false =>
    simp (disch:=omega) only [go_sem,Aa,u5H,u5b,u5r,uOk,zN,zO]
    try rfl
 | cons p l =>
  have hcmb:(sn=true∧lo=true)∨(sn=true∧lo=false)∨(sn=false∧lo=true)∨(sn=false∧lo=false):=by cases sn <;> cases lo <;> simp
  rcases hcmb with ⟨rfl,rfl⟩ | ⟨rfl,rfl⟩ | ⟨rfl,rfl⟩ | ⟨rfl,rfl⟩
  ·exact QeU total n s p l hinv hrun hsn
  ·exact QeV total n s p l hinv hrun hsn
  ·exact QeW total n s p l hinv hrun hsn
  ·exact QeX total n s p l hinv hrun hsn
def EM:SC:=(.seq (.reg [⟨some 6,none,.mv (.c (.bool false))⟩]) (.seq (.reg [⟨some 7,none,.mv (.t 0)⟩,⟨some 8,none,.mv (.t 1)⟩,⟨some 9,none,.bin .geq false (.t 7) (.t 8)⟩,⟨some 10,none,.mv (.t 9)⟩,⟨(some 11),(some (10,true)),(.mv (.t 0))⟩,⟨(some 12),(some (10,true)),(.mv (.t 2))⟩,⟨(some 13),(some (10,true)),(.bin .leq false (.t 11) (.t 12))⟩,⟨some 14,none,.pick (.t 10) (.t 13) (.c (.bool false))⟩,⟨some 6,none,.mv (.t 14)⟩]) .ret))
theorem Ge:codeOf Tryz.prog 86=some ⟨15,EM,[(.tmp 6)]⟩:=by kernel_rfl
theorem EN:modes 86=⟨[],.asis,none,false⟩:=by unfold modes; rfl
def Gy:SC:=(.seq (.reg [⟨some 6,none,.mv (.c (.bool false))⟩]) (.seq (.reg [⟨some 7,none,.mv (.t 0)⟩,⟨some 8,none,.mv (.t 1)⟩,⟨some 9,none,.bin .geq false (.t 7) (.t 8)⟩,⟨some 10,none,.mv (.t 9)⟩,⟨(some 11),(some (10,true)),(.mv (.t 0))⟩,⟨(some 12),(some (10,true)),(.mv (.t 2))⟩,⟨(some 13),(some (10,true)),(.bin .leq false (.t 11) (.t 12))⟩,⟨some 14,none,.pick (.t 10) (.t 13) (.c (.bool false))⟩,⟨some 6,none,.mv (.t 14)⟩]) .ret))
theorem Ih:codeOf Tryz.prog 49=some ⟨15,Gy,[(.tmp 6)]⟩:=by kernel_rfl
theorem Dd:modes 49=⟨[],.asis,none,false⟩:=by unfold modes; rfl
theorem Qbz (n lo hi:Int):E 86 [.int .i64 n,.int .i64 lo,.int .i64 hi] []=some (.bool (dec (lo≤n)&&dec (n≤hi)),[]):=by
 cases h1:dec (lo≤n)
 ·cases h2:dec (n≤hi)
  ·refine Ae Ge EN (of_decide_eq_true rfl) ?_
   simp (disch:=omega) only [EM,go_sem,Aa,h1,h2]
  ·refine Ae Ge EN (of_decide_eq_true rfl) ?_
   simp (disch:=omega) only [EM,go_sem,Aa,h1,h2]
 ·cases h2:dec (n≤hi)
  ·refine Ae Ge EN (of_decide_eq_true rfl) ?_
   simp (disch:=omega) only [EM,go_sem,Aa,h1,h2]
  ·refine Ae Ge EN (of_decide_eq_true rfl) ?_
   simp (disch:=omega) only [EM,go_sem,Aa,h1,h2]
theorem Qa6 (n lo hi:Int):E 49 [.int .i64 n,.int .i64 lo,.int .i64 hi] []=some (.bool (dec (lo≤n)&&dec (n≤hi)),[]):=by
 cases h1:dec (lo≤n)
 ·cases h2:dec (n≤hi)
  ·refine Ae Ih Dd (of_decide_eq_true rfl) ?_
   simp (disch:=omega) only [Gy,go_sem,Aa,h1,h2]
  ·refine Ae Ih Dd (of_decide_eq_true rfl) ?_
   simp (disch:=omega) only [Gy,go_sem,Aa,h1,h2]
 ·cases h2:dec (n≤hi)
  ·refine Ae Ih Dd (of_decide_eq_true rfl) ?_
   simp (disch:=omega) only [Gy,go_sem,Aa,h1,h2]
  ·refine Ae Ih Dd (of_decide_eq_true rfl) ?_
   simp (disch:=omega) only [Gy,go_sem,Aa,h1,h2]
def Ii:SC:=(.seq (.reg [⟨some 4,none,.mv (.c .nil)⟩]) (.seq (.dreg [[],[],[],[1,2],[0,3,1,2],[],[],[6],[5,7,6],[4,0,3,1,2,8,5,7,6],[9,4,0,3,1,2,8,5,7,6]] [⟨(some 5),none,(.mkrow 73 3 [(.bool false),(.str ⟨#[]⟩),.nil] 0 [])⟩,⟨some 6,none,.mv (.t 0)⟩,⟨some 7,none,.mv (.t 1)⟩,⟨some 8,none,.slice false 3 (.t 6) none (some (.t 7))⟩,⟨(some 9),none,(.append 73 3 48 [(.bool false),(.str ⟨#[]⟩),.nil] (.t 5) (.t 8))⟩,⟨some 10,none,.mv (.t 0)⟩,⟨some 11,none,.mv (.t 1)⟩,⟨some 12,none,.bin .add false (.t 11) (.c (.int .i64 1))⟩,⟨some 13,none,.slice false 3 (.t 10) (some (.t 12)) none⟩,⟨(some 14),none,(.append 73 3 48 [(.bool false),(.str ⟨#[]⟩),.nil] (.t 9) (.t 13))⟩,⟨some 4,none,.mv (.t 14)⟩]) .ret))
theorem NX:codeOf Tryz.prog 52=some ⟨15,Ii,[(.tmp 4)]⟩:=by kernel_rfl
theorem Ij:modes 52=⟨[],.asis,none,false⟩:=by unfold modes; rfl
theorem NY (l:List Lt) (hl:l.length≤1048575) (p:Nat) (h1:p<l.length):E 52 [.arr (l.map Lt.d),.int .i64 (p:Int)] []=some (.ref 0,[.row 73 3 ((l.eraseIdx p).map (fun b:Lt=>b.d.map D.ot))]):=by
 have tp:=zQ p
 have tp1:((p:Int)+1).toNat=p+1:=by omega
 have e1:=Lt.ot_take l p
 have e2:=Lt.ot_drop l (p+1)
 have e6:=Lt.ald3 l
 have e7:(l.map Lt.d).take l.length=l.map Lt.d:=zH (by rw [zI]; exact zT _)
 have e8:((l.map Lt.d).drop (p+1)).length=l.length-(p+1):=by rw [List.length_drop,zI]
 have e3:=Lt.al3 (l.take p)
 have e4:=Lt.al3 (l.drop (p+1))
 have hlt:(l.take p).length=p:=by rw [zR]; omega
 have hld:(l.drop (p+1)).length=l.length-(p+1):=List.length_drop
 have e5:(l.take p).map (fun b:Lt=>b.d.map D.ot)++(l.drop (p+1)).map (fun b:Lt=>b.d.map D.ot)=(l.eraseIdx p).map (fun b:Lt=>b.d.map D.ot):=by rw [←zM,List.eraseIdx_eq_take_drop_succ]
 refine Ae NX Ij (of_decide_eq_true rfl) ?_
 simp (disch:=omega) only [Ii,go_sem,Aa,tp,tp1,e1,e2,e3,e4,e5,e6,e7,e8,hlt,hld]
def E3:SC:=(.seq (.reg [⟨some 2,none,.boxv 76 1 (.t 0)⟩,⟨some 4,none,.alloc 28 [.nil]⟩,⟨some 5,none,.mv (.c (.bool false))⟩]) (.seq (.reg [⟨some 11,none,.load true 1 (.t 2)⟩,⟨some 12,none,.mv (.t 1)⟩,⟨some 13,none,.call 79 [(.t 11),(.t 12)]⟩,⟨some 10,none,.mv (.t 13)⟩,⟨some 14,none,.ext (.t 10) 0⟩,⟨some 15,none,.ext (.t 10) 1⟩,⟨some 6,none,.alloc 28 [.nil]⟩,⟨none,none,(.store 1 (.t 6) (.t 14))⟩,⟨some 7,none,.mv (.t 15)⟩]) (.seq (.seq (.reg [⟨some 16,none,.mv (.t 7)⟩,⟨some 17,none,.un .not (.t 16)⟩]) (.cond (.t 17) (.seq (.reg [⟨some 18,none,.build [.nil] []⟩,⟨none,none,(.store 1 (.t 4) (.t 18))⟩,⟨some 5,none,.mv (.c (.bool false))⟩]) .ret) .skip)) (.seq (.reg [⟨some 20,none,.load true 1 (.t 6)⟩,⟨some 21,none,.call 80 [(.t 20)]⟩,⟨some 19,none,.mv (.t 21)⟩,⟨some 22,none,.ext (.t 19) 0⟩,⟨some 23,none,.ext (.t 19) 1⟩,⟨some 8,none,.alloc 28 [.nil]⟩,⟨none,none,(.store 1 (.t 8) (.t 22))⟩,⟨some 9,none,.mv (.t 23)⟩]) (.seq (.seq (.reg [⟨some 24,none,.mv (.t 9)⟩,⟨some 25,none,.un .not (.t 24)⟩,⟨some 26,none,.mv (.t 25)⟩,⟨(some 27),(some (26,false)),(.load true 1 (.t 8))⟩,⟨(some 28),(some (26,false)),(.call 48 [(.t 27)])⟩,⟨(some 29),(some (26,false)),(.un .not (.t 28))⟩,⟨some 30,none,.pick (.t 26) (.c (.bool true)) (.t 29)⟩]) (.cond (.t 30) (.seq (.reg [⟨some 31,none,.build [.nil] []⟩,⟨none,none,(.store 1 (.t 4) (.t 31))⟩,⟨some 5,none,.mv (.c (.bool false))⟩]) .ret) .skip)) (.seq (.reg [⟨some 32,none,.load true 1 (.t 8)⟩,⟨none,none,(.store 1 (.t 4) (.t 32))⟩,⟨some 5,none,.mv (.c (.bool true))⟩]) .ret))))))
theorem FV:codeOf Tryz.prog 51=some ⟨33,E3,[(.cell 4 true 1),(.tmp 5)]⟩:=by kernel_rfl
theorem E4:modes 51=⟨[],.frz,none,false⟩:=by unfold modes; rfl
theorem XF (s:Sb) (hs:s.ok=true) (ht:s.tame) (l:List Lt) (hl:l.length≤1048576) (hal:∀ x∈l,x.atom.atom=true):E 51 [s.sv,.arr (l.map Lt.d)] []=some (.tup [(Sy s l).sv,.bool (FF s l)],[]):=by
 have h1:=Qbp s hs ht l hl hal
 have hsv:∀ d:Cl,d.sv=.agg [.arr (d.lits.map Lt.d)]:=fun d=>rfl
 have hss:s.sv=.agg [.arr (s.binds.map Bd.d)]:=rfl
 rw [hss,hsv] at h1
 rw [hss,hsv]
 cases hok:E9 s l with
 | false =>
  have ho:FF s l=false:=by unfold FF; rw [hok]; rfl
  have hz:(Cl.mk []).lits=[]:=rfl
  rw [OQ hok,hok] at h1
  rw [Qq ho,ho]
  refine Ae FV E4 (of_decide_eq_true rfl) ?_
  simp (disch:=omega) only [E3,go_sem,Aa,h1,Fz]
 | true =>
  have hc:=Zu hok
  obtain ⟨c,hcc⟩:∃ c,c=apC s l:=⟨_,rfl⟩
  rw [←hcc] at hc h1
  have h2:=Zo c hc
  have hn:=Qav 10 hc
  have h3:=JB (nz 10 c) hn
  rw [hok] at h1
  rw [hsv,hsv] at h2
  rw [hsv] at h3
  have hio:FF s l=(nz 10 c).norm:=by unfold FF; rw [hok,Bool.true_and,hcc]
  cases hm:(nz 10 c).norm with
  | false =>
   rw [hm] at h3 hio
   rw [Qq hio,hio]
   refine Ae FV E4 (of_decide_eq_true rfl) ?_
   simp (disch:=omega) only [E3,go_sem,Aa,h1,h2,h3,GE,BV,Fz]
  | true =>
   rw [hm] at h3 hio
   rw [Sz hio,hio,← hcc]
   refine Ae FV E4 (of_decide_eq_true rfl) ?_
   simp (disch:=omega) only [E3,go_sem,Aa,h1,h2,h3,GE,BV,Fz]
theorem Zv (a b:Tm) (ha:a.atom=true) (hb:b.atom=true):E 50 [a.sv,b.sv] []=some (.tup [(uTo (unR a b)).sv,.bool (uOk (unR a b))],[]):=by
 obtain ⟨n,hn⟩:=Sx (Tm.C5 ha) (Tm.C5 hb)
 exact Qby a b (Tm.C5 ha) (Tm.C5 hb) n _ hn
def C6:SC:=(.seq (.reg [⟨some 4,none,.boxv 28 1 (.t 0)⟩,⟨some 6,none,.boxv 28 1 (.t 2)⟩,⟨some 8,none,.alloc 28 [.nil]⟩,⟨some 9,none,.mv (.c (.bool false))⟩]) (.seq (.reg [⟨some 13,none,.load true 1 (.t 6)⟩,⟨some 14,none,.call 64 [(.t 13)]⟩,⟨some 10,none,.alloc 28 [.nil]⟩,⟨none,none,(.store 1 (.t 10) (.t 14))⟩]) (.seq (.seq (.dreg [[],[],[1],[2,1],[3,2,1],[0,4,3,2,1],[5,0,4,3,2,1],[6,5,0,4,3,2,1],[7,6,5,0,4,3,2,1],[7,6,5,0,4,3,2,1],[9,7,6,5,0,4,3,2,1],[10,9,7,6,5,0,4,3,2,1],[11,10,9,7,6,5,0,4,3,2,1],[8,7,6,5,0,4,3,2,1,12,11,10,9],[13,8,7,6,5,0,4,3,2,1,12,11,10,9],[7,6,5,0,4,3,2,1,14,13,8,12,11,10,9],[15,7,6,5,0,4,3,2,1,14,13,8,12,11,10,9],[16,15,7,6,5,0,4,3,2,1,14,13,8,12,11,10,9],[17,16,15,7,6,5,0,4,3,2,1,14,13,8,12,11,10,9],[16,15,7,6,5,0,4,3,2,1,14,13,8,12,11,10,9],[18,17,16,15,7,6,5,0,4,3,2,1,14,13,8,12,11,10,9,19],[20,18,17,16,15,7,6,5,0,4,3,2,1,14,13,8,12,11,10,9,19],[21,20,18,17,16,15,7,6,5,0,4,3,2,1,14,13,8,12,11,10,9,19],[16,15,7,6,5,0,4,3,2,1,14,13,8,12,11,10,9],[23,16,15,7,6,5,0,4,3,2,1,14,13,8,12,11,10,9],[16,15,7,6,5,0,4,3,2,1,14,13,8,12,11,10,9],[24,23,16,15,7,6,5,0,4,3,2,1,14,13,8,12,11,10,9,25],[26,24,23,16,15,7,6,5,0,4,3,2,1,14,13,8,12,11,10,9,25],[27,26,24,23,16,15,7,6,5,0,4,3,2,1,14,13,8,12,11,10,9,25],[22,21,20,18,17,16,15,7,6,5,0,4,3,2,1,14,13,8,12,11,10,9,19,28,27,26,24,23,25],[16,15,7,6,5,0,4,3,2,1,14,13,8,12,11,10,9,29,22,21,20,18,17,19,28,27,26,24,23,25]] [⟨some 15,none,.mv (.t 1)⟩,⟨some 16,none,.faddr 0 (.t 4)⟩,⟨some 17,none,.load false 1 (.t 16)⟩,⟨some 18,none,.len false (.t 17)⟩,⟨some 19,none,.bin .sub false (.t 18) (.c (.int .i64 1))⟩,⟨some 20,none,.call 49 [(.t 15),(.c (.int .i64 0)),(.t 19)]⟩,⟨some 21,none,.un .not (.t 20)⟩,⟨some 22,none,.mv (.t 21)⟩,⟨(some 23),(some (22,false)),(.mv (.t 3))⟩,⟨(some 24),(some (22,false)),(.faddr 0 (.t 10))⟩,⟨(some 25),(some (22,false)),(.load false 1 (.t 24))⟩,⟨(some 26),(some (22,false)),(.len false (.t 25))⟩,⟨(some 27),(some (22,false)),(.bin .sub false (.t 26) (.c (.int .i64 1)))⟩,⟨(some 28),(some (22,false)),(.call 49 [(.t 23),(.c (.int .i64 0)),(.t 27)])⟩,⟨(some 29),(some (22,false)),(.un .not (.t 28))⟩,⟨some 30,none,.pick (.t 22) (.c (.bool true)) (.t 29)⟩,⟨some 31,none,.mv (.t 30)⟩,⟨(some 32),(some (31,false)),(.faddr 0 (.t 4))⟩,⟨(some 33),(some (31,false)),(.load false 1 (.t 32))⟩,⟨(some 34),(some (31,false)),(.mv (.t 1))⟩,⟨(some 35),(some (31,false)),(.iaddr 3 (.t 33) (.t 34))⟩,⟨(some 36),(some (31,false)),(.faddr 0 (.t 35))⟩,⟨(some 37),(some (31,false)),(.load false 1 (.t 36))⟩,⟨(some 38),(some (31,false)),(.faddr 0 (.t 10))⟩,⟨(some 39),(some (31,false)),(.load false 1 (.t 38))⟩,⟨(some 40),(some (31,false)),(.mv (.t 3))⟩,⟨(some 41),(some (31,false)),(.iaddr 3 (.t 39) (.t 40))⟩,⟨(some 42),(some (31,false)),(.faddr 0 (.t 41))⟩,⟨(some 43),(some (31,false)),(.load false 1 (.t 42))⟩,⟨(some 44),(some (31,false)),(.bin .eql true (.t 37) (.t 43))⟩,⟨some 45,none,.pick (.t 31) (.c (.bool true)) (.t 44)⟩]) (.cond (.t 45) (.seq (.reg [⟨some 46,none,.build [.nil] []⟩,⟨none,none,(.store 1 (.t 8) (.t 46))⟩,⟨some 9,none,.mv (.c (.bool false))⟩]) .ret) .skip)) (.seq (.dreg [[],[0],[],[1,0,2],[3,1,0,2],[4,3,1,0,2],[],[6],[],[7,6,8],[9,7,6,8],[10,9,7,6,8],[5,4,3,1,0,2,11,10,9,7,6,8],[12,5,4,3,1,0,2,11,10,9,7,6,8],[13,12,5,4,3,1,0,2,11,10,9,7,6,8],[13,12,5,4,3,1,0,2,11,10,9,7,6,8],[],[16,14,13,12,5,4,3,1,0,2,11,10,9,7,6,8],[15,13,12,5,4,3,1,0,2,11,10,9,7,6,8,17,16,14]] [⟨some 48,none,.faddr 0 (.t 4)⟩,⟨some 49,none,.load false 1 (.t 48)⟩,⟨some 50,none,.mv (.t 1)⟩,⟨some 51,none,.iaddr 3 (.t 49) (.t 50)⟩,⟨some 52,none,.faddr 1 (.t 51)⟩,⟨some 53,none,.load true 2 (.t 52)⟩,⟨some 54,none,.faddr 0 (.t 10)⟩,⟨some 55,none,.load false 1 (.t 54)⟩,⟨some 56,none,.mv (.t 3)⟩,⟨some 57,none,.iaddr 3 (.t 55) (.t 56)⟩,⟨some 58,none,.faddr 1 (.t 57)⟩,⟨some 59,none,.load true 2 (.t 58)⟩,⟨some 60,none,.call 50 [(.t 53),(.t 59)]⟩,⟨some 47,none,.mv (.t 60)⟩,⟨some 61,none,.ext (.t 47) 0⟩,⟨some 62,none,.ext (.t 47) 1⟩,⟨some 11,none,.alloc 76 [.nil]⟩,⟨none,none,(.store 1 (.t 11) (.t 61))⟩,⟨some 12,none,.mv (.t 62)⟩]) (.seq (.seq (.reg [⟨some 63,none,.mv (.t 12)⟩,⟨some 64,none,.un .not (.t 63)⟩]) (.cond (.t 64) (.seq (.reg [⟨some 65,none,.build [.nil] []⟩,⟨none,none,(.store 1 (.t 8) (.t 65))⟩,⟨some 9,none,.mv (.c (.bool false))⟩]) .ret) .skip)) (.seq (.dreg [[],[],[1],[],[2,1,3],[],[5],[],[6,5,7,4,2,1,3],[4,2,1,3,8,6,5,7],[0,9,4,2,1,3,8,6,5,7],[10,0,9,4,2,1,3,8,6,5,7],[10,0,9,4,2,1,3,8,6,5,7],[11,10,0,9,4,2,1,3,8,6,5,7,12],[12,10,0,9,4,2,1,3,8,6,5,7,13,11]] [⟨some 66,none,.load true 1 (.t 11)⟩,⟨some 67,none,.faddr 0 (.t 4)⟩,⟨some 68,none,.load false 1 (.t 67)⟩,⟨some 69,none,.mv (.t 1)⟩,⟨some 70,none,.call 52 [(.t 68),(.t 69)]⟩,⟨some 71,none,.faddr 0 (.t 10)⟩,⟨some 72,none,.load false 1 (.t 71)⟩,⟨some 73,none,.mv (.t 3)⟩,⟨some 74,none,.call 52 [(.t 72),(.t 73)]⟩,⟨(some 75),none,(.append 73 3 48 [(.bool false),(.str ⟨#[]⟩),.nil] (.t 70) (.t 74))⟩,⟨some 76,none,.call 51 [(.t 66),(.t 75)]⟩,⟨some 77,none,.ext (.t 76) 0⟩,⟨some 78,none,.ext (.t 76) 1⟩,⟨none,none,(.store 1 (.t 8) (.t 77))⟩,⟨some 9,none,.mv (.t 78)⟩]) .ret))))))
theorem De:codeOf Tryz.prog 37=some ⟨79,C6,[(.cell 8 true 1),(.tmp 9)]⟩:=by kernel_rfl
theorem BX:modes 37=⟨[],.frz,none,false⟩:=by unfold modes; rfl
theorem Vu (c:Cl) (hc:c.ok=true) (i:Int) (d:Cl) (hd:d.ok=true) (hdn:d.norm=true) (k:Int):E 37 [c.sv,.int .i64 i,d.sv,.int .i64 k] []=some (.tup [(MN c i d k).sv,.bool (Ig c i d k)],[]):=by
 have hl:=Cl.ok_len hc
 have hld:=Cl.ok_len hd
 have hsv:∀ d:Cl,d.sv=.agg [.arr (d.lits.map Lt.d)]:=fun d=>rfl
 have h0:=Qbr d hd
 have ho:=Cl.Qa4 hd
 have hal:=Cl.Vs hd hdn
 have hahb:=Cl.Qek hd hdn k
 have hapo:∀ q:Nat,q<d.lits.length→(LM d.ap q).pos=(LM d q).pos:=fun q hq=>Cl.QeT hd hdn hq
 obtain ⟨e,hee⟩:∃ e,e=d.ap:=⟨_,rfl⟩
 rw [show d.rn (Dv Gt d.ns)=e from hee.symm] at h0
 rw [←hee] at ho hal hahb hapo
 have hle:=Cl.ok_len ho
 have h1:=Qa6 i 0 ((c.lits.length:Int)-1)
 have h2:=Qa6 k 0 ((e.lits.length:Int)-1)
 rw [show (dec (0≤i)&&dec (i≤(c.lits.length:Int)-1))=hasB c i from rfl] at h1
 rw [show (dec (0≤k)&&dec (k≤(e.lits.length:Int)-1))=hasB e k from rfl,hahb] at h2
 rw [hsv,hsv] at h0
 rw [hsv,hsv,hsv]
 cases hi:hasB c i with
 | false =>
  obtain ⟨e1,e2⟩:=Lg (LI (show JF c i d k=false by unfold JF; rw [hi]; rfl))
  rw [hi] at h1
  rw [e1,e2]
  refine Ae De BX (of_decide_eq_true rfl) ?_
  simp (disch:=omega) only [C6,go_sem,Aa,h0,h1,h2,Dd,Dx]
 | true =>
 rw [hi] at h1
 cases hk:hasB d k with
 | false =>
  obtain ⟨e1,e2⟩:=Lg (LI (show JF c i d k=false by unfold JF; rw [hk,Bool.false_and,Bool.and_false]))
  rw [hk] at h2
  rw [e1,e2]
  refine Ae De BX (of_decide_eq_true rfl) ?_
  simp (disch:=omega) only [C6,go_sem,Aa,h0,h1,h2,Dd,Dx]
 | true =>
 rw [hk] at h2
 obtain ⟨p,rfl,hp⟩:=Qr hi
 obtain ⟨q,rfl,hq⟩:=Qr hk
 have hqe:q<e.lits.length:=by omega
 have hgp:=get_at Lt.d hp
 have hgq:=get_at Lt.d hqe
 rw [Lt.d_eq] at hgp hgq
 have tp:=zQ p
 have tq:=zQ q
 have ap:=Cl.Dc hc _ (zA hp)
 have aq:=Cl.Dc ho _ (zA hqe)
 have lp:=JE hp
 have lq:=JE hqe
 have hpe:=hapo q hq
 rw [lq] at hpe
 cases hpp:c.lits[p].pos == e.lits[q].pos with
 | true =>
  obtain ⟨e1,e2⟩:=Lg (LI (show JF c p d q=false by unfold JF; rw [lp,← hpe,hpp]; simp))
  rw [e1,e2]
  refine Ae De BX (of_decide_eq_true rfl) ?_
  simp (disch:=omega) only [C6,go_sem,Aa,h0,h1,h2,Dd,Dx,hgp,hgq,tp,tq,hpp]
 | false =>
  have hT:=XD (show JF c p d q=true by unfold JF; rw [hi,hk,lp,← hpe,hpp]; rfl)
  have hrl:S1 c p d q=c.lits.eraseIdx p++e.lits.eraseIdx q:=by unfold S1; rw [tp,tq,hee]
  have hla:=S2 hc hd p q
  have hll:=XE hc hd p q
  rw [hrl] at hla hll
  rw [←hee,lp,lq] at hT
  have h3:=Zv _ _ ap aq
  have hsp:c.lits[p].atom.sv=.agg [.str c.lits[p].atom.name,.arr (c.lits[p].atom.args.map Tm.d)]:=rfl
  have hsq:e.lits[q].atom.sv=.agg [.str e.lits[q].atom.name,.arr (e.lits[q].atom.args.map Tm.d)]:=rfl
  rw [hsp,hsq] at h3
  cases hu:unR c.lits[p].atom e.lits[q].atom with
  | none =>
   rw [hu] at hT h3
   have hus:uTo none=⟨[]⟩:=rfl
   have huo:uOk none=false:=rfl
   have hso:(Sb.mk []).sv=.agg [.arr []]:=rfl
   rw [hus,huo,hso] at h3
   obtain ⟨e1,e2⟩:=Lg hT
   rw [e1,e2]
   refine Ae De BX (of_decide_eq_true rfl) ?_
   simp (disch:=omega) only [C6,go_sem,Aa,h0,h1,h2,Dd,Dx,hgp,hgq,tp,tq,hpp,h3,H7]
  | some s =>
   have hs:=QcW (Tm.C5 ap) (Tm.C5 aq) hu
   rw [hu] at hT h3
   obtain ⟨e1,e2⟩:=XC hT
   rw [hrl] at e1 e2
   rw [e1,e2]
   have h4:=NY c.lits (by omega) p hp
   have h6:=NY e.lits (by omega) q hqe
   have h5:=XF s hs (ET hs) (c.lits.eraseIdx p++e.lits.eraseIdx q) (by omega) hla
   have her:=Lt.der (c.lits.eraseIdx p++e.lits.eraseIdx q)
   have hfu:=Lt.dfu (c.lits.eraseIdx p++e.lits.eraseIdx q)
   have hap:(c.lits.eraseIdx p).map (fun b:Lt=>b.d.map D.ot)++(e.lits.eraseIdx q).map (fun b:Lt=>b.d.map D.ot)=(c.lits.eraseIdx p++e.lits.eraseIdx q).map (fun b:Lt=>b.d.map D.ot):=by rw [zM]
   have hl3:=Lt.al3 (e.lits.eraseIdx q)
   have hc1:(c.lits.eraseIdx p).length=c.lits.length-1:=by rw [List.length_eraseIdx]; simp [hp]
   have hc2:(e.lits.eraseIdx q).length=e.lits.length-1:=by rw [List.length_eraseIdx]; simp [hqe]
   have hus:uTo (some s)=s:=rfl
   have huo:uOk (some s)=true:=rfl
   have hss:s.sv=.agg [.arr (s.binds.map Bd.d)]:=rfl
   rw [hus,huo,hss] at h3
   rw [hss,hsv] at h5
   refine Ae De BX (of_decide_eq_true rfl) ?_
   simp (disch:=omega) only [C6,go_sem,Aa,h0,h1,h2,Dd,Dx,hgp,hgq,tp,tq,hpp,h3,h4,h6,h5,her,hfu,hap,hl3,hc1,hc2,H7,Ij,E4]
theorem Cl.S4 (x:Cl) (h:x.bulk≤1048576):x.tame:=by
 rw [Cl.bulk_eq] at h
 refine ⟨by omega,fun y hy=>?_⟩
 obtain ⟨k,hk,rfl⟩:=List.getElem_of_mem hy
 have h1:=Lt.bulk_le x.lits k hk
 have h2:=Tm.RK x.lits[k].atom
 rw [Lt.bulk_eq] at h1
 omega
noncomputable def Kj (l:List Cl) (c:Cl):List Cl:=bif dec (c∈l) then l else l++[c]
noncomputable def EC (l cs:List Cl):List Cl:=cs.foldl Kj l
theorem QcX (l a b:List Cl):EC l (a++b)=EC (EC l a) b:=List.foldl_append
theorem QcY {l:List Cl} {c d:Cl}:d∈Kj l c ↔ d∈l∨d=c:=by
 unfold Kj
 by_cases h:c∈l
 ·rw [As h,cond_true]
  exact ⟨.inl,fun h'=>h'.elim id fun e=>e▸h⟩
 ·rw [Ay h,cond_false]
  simp
theorem QcZ (l:List Cl) (c:Cl):(Kj l c).length≤l.length+1:=by
 unfold Kj
 cases dec (c∈l) <;> simp
theorem XG:∀ (cs l:List Cl),(EC l cs).length≤l.length+cs.length
 | [],l=>by simp [EC]
 | c :: cs,l=>by
  have h:=XG cs (Kj l c)
  have h2:=QcZ l c
  simp only [EC,List.foldl_cons,List.length_cons] at h ⊢
  omega
theorem XH:∀ {cs l:List Cl} {d:Cl},d∈EC l cs ↔ d∈l∨d∈cs
 | [],l,d=>by simp [EC]
 | c :: cs,l,d=>by
  have h:=XH (cs:=cs) (l:=Kj l c) (d:=d)
  simp only [EC,List.foldl_cons] at h ⊢
  rw [h,QcY]
  simp only [List.mem_cons]
  exact or_assoc
theorem Cl.Qa7 {x y:Cl}:x=y ↔ x.lits=y.lits:=by
 constructor
 ·intro h; rw [h]
 ·intro h
  cases x; cases y
  simpa using h
theorem ID {p q:Prop} (h:p ↔ q):dec p=dec q:=by rw [show p=q from propext h]
theorem XI {xs ys:List Lt} (hl:xs.length=ys.length) {k:Nat} (hk:k<xs.length):(xs.drop k=ys.drop k) ↔ (xs[k]=ys[k]'(by omega)∧xs.drop (k+1)=ys.drop (k+1)):=by
 rw [zD hk,zD (show k<ys.length by omega),List.cons.injEq]
theorem H8:Kg Tryz.prog 101=true:=by kernel_rfl
def A9:SC:=(.seq (.reg [⟨some 6,none,.mv (.c (.bool false))⟩]) (.seq (.seq (.reg [⟨some 10,none,.mv (.t 0)⟩,⟨some 11,none,.len false (.t 10)⟩,⟨some 12,none,.mv (.t 1)⟩,⟨some 13,none,.len false (.t 12)⟩,⟨some 14,none,.bin .neq false (.t 11) (.t 13)⟩]) (.cond (.t 14) (.seq (.reg [⟨some 6,none,.mv (.c (.bool false))⟩]) .ret) .skip)) (.seq (.seq (.reg [⟨some 15,none,.mv (.t 0)⟩,⟨some 16,none,.len false (.t 15)⟩,⟨some 17,none,.mv (.c (.int .i64 0))⟩]) (.block 0 (.loop [0,1,1,0,0,0,0,0,0,0,0,0,0,0,0,1,1,1,0,0,0,0,0,0,0,0,0,0,0,0,0,0] (.seq (.reg [⟨some 18,none,.bin .lss false (.t 17) (.t 16)⟩]) (.seq (.cond (.t 18) .skip (.exit 0)) (.seq (.block 1 (.seq (.reg [⟨some 19,none,.mv (.t 17)⟩,⟨some 20,none,.iaddr 3 (.t 15) (.t 17)⟩,⟨some 21,none,.load true 3 (.t 20)⟩,⟨(some 8),none,(.alloc 73 [(.bool false),(.str ⟨#[]⟩),.nil])⟩,⟨some 7,none,.mv (.t 19)⟩,⟨none,none,(.store 3 (.t 8) (.t 21))⟩]) (.seq (.reg [⟨some 22,none,.mv (.t 1)⟩,⟨some 23,none,.mv (.t 7)⟩,⟨some 24,none,.iaddr 3 (.t 22) (.t 23)⟩,⟨some 25,none,.load true 3 (.t 24)⟩,⟨(some 9),none,(.alloc 73 [(.bool false),(.str ⟨#[]⟩),.nil])⟩,⟨none,none,(.store 3 (.t 9) (.t 25))⟩]) (.seq (.reg [⟨some 26,none,.mv (.t 2)⟩,⟨some 27,none,.load true 3 (.t 8)⟩,⟨some 28,none,.load true 3 (.t 9)⟩,⟨some 29,none,.callv (.t 26) [(.t 27),(.t 28)]⟩,⟨some 30,none,.un .not (.t 29)⟩]) (.cond (.t 30) (.seq (.reg [⟨some 6,none,.mv (.c (.bool false))⟩]) .ret) .skip))))) (.reg [⟨some 31,none,.bin .add false (.t 17) (.c (.int .i64 1))⟩,⟨some 17,none,.mv (.t 31)⟩]))))))) (.seq (.reg [⟨some 6,none,.mv (.c (.bool true))⟩]) .ret))))
theorem AN:codeOf Tryz.prog 100=some ⟨32,A9,[(.tmp 6)]⟩:=by kernel_rfl
theorem AA:modes 100=⟨[],.asis,none,false⟩:=by unfold modes; rfl
def Ik:SC:=(.seq (.reg [⟨some 2,none,.boxv 28 1 (.t 0)⟩,⟨some 3,none,.boxv 28 1 (.t 1)⟩,⟨some 4,none,.mv (.c (.bool false))⟩]) (.seq (.reg [⟨some 5,none,.faddr 0 (.t 2)⟩,⟨some 6,none,.load false 1 (.t 5)⟩,⟨some 7,none,.faddr 0 (.t 3)⟩,⟨some 8,none,.load false 1 (.t 7)⟩,⟨some 9,none,.call 100 [(.t 6),(.t 8),(.c (.fn 101 []))]⟩,⟨some 4,none,.mv (.t 9)⟩]) .ret))
theorem NZ:codeOf Tryz.prog 70=some ⟨10,Ik,[(.tmp 4)]⟩:=by kernel_rfl
theorem Il:modes 70=⟨[],.asis,none,false⟩:=by unfold modes; rfl
theorem Qda (xs ys:List Lt) (hx:xs.length≤1048576) (hy:ys.length≤1048576) (hnx:∀ x∈xs,x.atom.nodes≤1099511627776) (hny:∀ x∈ys,x.atom.nodes≤1099511627776):E 100 [.arr (xs.map Lt.d),.arr (ys.map Lt.d),.fn 101 []] []=some (.bool (dec (xs=ys)),[]):=by
 by_cases hl:xs.length=ys.length
 ·have hz:((xs.length:Int)=(ys.length:Int))=True:=eq_true (by omega)
  refine Ae AN AA (of_decide_eq_true rfl) ?_
  simp (disch:=omega) only [A9,go_sem,Aa,hz]
  refine go_loop (α:=Int) (fun a=>⟨slots 32 0 [(1,.arr (ys.map Lt.d)),(2,.fn 101 []),(15,.arr (xs.map Lt.d)),(16,.int .i64 xs.length),(17,.int .i64 a)],[]⟩) (fun a=>∃ k:Nat,a=k∧k≤(xs).length∧dec (xs.drop k=ys.drop k)=dec (xs=ys)) (fun a=>(xs).length-(a).toNat) 0 ⟨0,rfl,zE _,by rw [zG,zG]⟩ (by simp (disch:=omega) only [go_sem,Aa]) ?_
  rintro i ⟨k,hi,hk,hR⟩
  have hni:i.toNat=k:=by omega
  have hni1:(i+1).toNat=k+1:=by omega
  rcases zB k (xs).length with hlt | hge
  ·have hg:=get_at Lt.d hlt
   have hlt2:k<ys.length:=by omega
   have hg2:=get_at Lt.d hlt2
   rw [Lt.d_eq] at hg hg2
   have hs:=XI hl hlt
   have hc:=Mc xs[k] ys[k] (hnx _ (zA hlt)) (hny _ (zA hlt2))
   have h1:xs[k].sv=.agg [.bool xs[k].pos,.str xs[k].atom.name,.arr (xs[k].atom.args.map Tm.d)]:=rfl
   have h2:ys[k].sv=.agg [.bool ys[k].pos,.str ys[k].atom.name,.arr (ys[k].atom.args.map Tm.d)]:=rfl
   rw [h1,h2] at hc
   by_cases he:xs[k]=ys[k]
   ·rw [As he] at hc
    rw [ID hs,ID (show (xs[k]=ys[k]∧xs.drop (k+1)=ys.drop (k+1)) ↔ xs.drop (k+1)=ys.drop (k+1) from ⟨fun h=>h.2,fun h=>⟨he,h⟩⟩)] at hR
    simp (disch:=omega) only [go_sem,Aa,hni,hg,hg2,hc,H8,Fd]
    exact ⟨i+1,⟨k+1,by omega,hlt,hR⟩,by omega,by first | trivial | rfl⟩
   ·rw [Ay he] at hc
    rw [ID hs,Ay (fun h=>he h.1)] at hR
    rw [←hR]
    simp (disch:=omega) only [go_sem,Aa,hni,hg,hg2,hc,H8,Fd]
  ·rw [zC hge,zC (by omega:ys.length≤k),As rfl] at hR
   rw [←hR]
   simp (disch:=omega) only [go_sem,Aa,hni]
 ·have hz:((xs.length:Int)=(ys.length:Int))=False:=eq_false (by omega)
  have hne:dec (xs=ys)=false:=Ay fun h=>hl (by rw [h])
  rw [hne]
  refine Ae AN AA (of_decide_eq_true rfl) ?_
  simp (disch:=omega) only [A9,go_sem,Aa,hz]
theorem Vv (x y:Cl) (hx:x.tame∧x.lits.length≤1048576) (hy:y.tame∧y.lits.length≤1048576):E 70 [x.sv,y.sv] []=some (.bool (dec (x=y)),[]):=by
 have h1:=Qda x.lits y.lits hx.2 hy.2 hx.1.2 hy.1.2
 have e1:x.sv=.agg [.arr (x.lits.map Lt.d)]:=rfl
 have e2:y.sv=.agg [.arr (y.lits.map Lt.d)]:=rfl
 rw [ID Cl.Qa7,e1,e2]
 refine Ae NZ Il (of_decide_eq_true rfl) ?_
 simp (disch:=omega) only [Ik,go_sem,Aa,h1,AA]
def BY:SC:=(.seq (.reg [⟨some 4,none,.mv (.c (.int .i64 0))⟩]) (.seq (.seq (.reg [⟨some 6,none,.mv (.t 0)⟩,⟨some 7,none,.len false (.t 6)⟩,⟨some 8,none,.mv (.c (.int .i64 0))⟩]) (.block 0 (.loop [1,1,0,0,0,0,0,1,1,0,0,0,0,0,0,0,0,0,0] (.seq (.reg [⟨some 9,none,.bin .lss false (.t 8) (.t 7)⟩]) (.seq (.cond (.t 9) .skip (.exit 0)) (.seq (.block 1 (.seq (.reg [⟨some 10,none,.mv (.t 8)⟩,⟨some 5,none,.mv (.t 10)⟩]) (.seq (.reg [⟨some 11,none,.mv (.t 1)⟩,⟨some 12,none,.mv (.t 0)⟩,⟨some 13,none,.mv (.t 5)⟩,⟨some 14,none,.iaddr 1 (.t 12) (.t 13)⟩,⟨some 15,none,.load true 1 (.t 14)⟩,⟨some 16,none,.callv (.t 11) [(.t 15)]⟩]) (.cond (.t 16) (.seq (.reg [⟨some 17,none,.mv (.t 5)⟩,⟨some 4,none,.mv (.t 17)⟩]) .ret) .skip)))) (.reg [⟨some 18,none,.bin .add false (.t 8) (.c (.int .i64 1))⟩,⟨some 8,none,.mv (.t 18)⟩]))))))) (.seq (.reg [⟨some 4,none,.mv (.c (.int .i64 (-(0+1))))⟩]) .ret)))
theorem DA:codeOf Tryz.prog 65=some ⟨19,BY,[(.tmp 4)]⟩:=by kernel_rfl
theorem BZ:modes 65=⟨[],.asis,none,false⟩:=by unfold modes; rfl
def BE:SC:=(.seq (.reg [⟨some 4,none,.mv (.c (.bool false))⟩]) (.seq (.reg [⟨some 5,none,.mv (.t 0)⟩,⟨some 6,none,.mv (.t 1)⟩,⟨some 7,none,.call 65 [(.t 5),(.t 6)]⟩,⟨some 8,none,.bin .geq false (.t 7) (.c (.int .i64 0))⟩,⟨some 4,none,.mv (.t 8)⟩]) .ret))
theorem Do:codeOf Tryz.prog 38=some ⟨9,BE,[(.tmp 4)]⟩:=by kernel_rfl
theorem BF:modes 38=⟨[],.asis,none,false⟩:=by unfold modes; rfl
def Jj:SC:=(.seq (.reg [⟨some 3,none,.boxv 28 1 (.t 1)⟩,⟨some 4,none,.mv (.c (.bool false))⟩]) (.seq (.reg [⟨some 5,none,.mv (.t 0)⟩,⟨some 6,none,.mkfn 69 [(.t 3)]⟩,⟨some 7,none,.call 38 [(.t 5),(.t 6)]⟩,⟨some 4,none,.mv (.t 7)⟩]) .ret))
theorem Pf:codeOf Tryz.prog 44=some ⟨8,Jj,[(.tmp 4)]⟩:=by kernel_rfl
theorem E5:modes 44=⟨[],.asis,none,false⟩:=by unfold modes; rfl
def H9:SC:=(.seq (.reg [⟨some 2,none,.boxv 28 1 (.t 0)⟩,⟨some 3,none,.mv (.c (.bool false))⟩]) (.seq (.reg [⟨some 4,none,.load true 1 (.t 2)⟩,⟨some 5,none,.load true 1 (.t 1)⟩,⟨some 6,none,.call 70 [(.t 4),(.t 5)]⟩,⟨some 3,none,.mv (.t 6)⟩]) .ret))
theorem MO:codeOf Tryz.prog 69=some ⟨7,H9,[(.tmp 3)]⟩:=by kernel_rfl
theorem Fe:modes 69=⟨[],.asis,none,false⟩:=by unfold modes; rfl
theorem HD:Kg Tryz.prog 69=true:=by kernel_rfl
theorem QeY (c:Cl) (hc:c.tame∧c.lits.length≤1048576) (x:Cl) (hx:x.tame∧x.lits.length≤1048576):E 69 [x.sv,.ptr 0 0] [.box 28 [.arr (c.lits.map Lt.d)]]=some (.bool (dec (x=c)),[.box 28 [.arr (c.lits.map Lt.d)]]):=by
 have h1:=Vv x c hx hc
 have e1:x.sv=.agg [.arr (x.lits.map Lt.d)]:=rfl
 have e2:c.sv=.agg [.arr (c.lits.map Lt.d)]:=rfl
 rw [e1,e2] at h1
 rw [e1]
 refine Ae MO Fe (of_decide_eq_true rfl) ?_
 simp (disch:=omega) only [H9,go_sem,Aa,h1,Il]
theorem Qdb (c:Cl) (xs:List Cl):dec (c∈xs)=dec (0≤Ey (fun s=>dec (s=c)) xs 0):=by
 rw [Nv]
 by_cases hm:c∈xs
 ·rw [As hm]
  exact (List.any_eq_true.2 ⟨c,hm,As rfl⟩).symm
 ·rw [Ay hm]
  refine Eq.symm (Bool.eq_false_iff.2 fun h=>?_)
  obtain ⟨x,h1,h2⟩:=List.any_eq_true.1 h
  have e:=Av.1 h2
  subst e
  exact hm h1
theorem Qdc (c:Cl) (hc:c.tame∧c.lits.length≤1048576) (xs:List Cl) (hl:xs.length≤1048576) (hx:∀ x∈xs,x.tame∧x.lits.length≤1048576):E 65 [.arr (xs.map Cl.d),.fn 69 [.ptr 0 0]] [.box 28 [.arr (c.lits.map Lt.d)]]=some (.int .i64 (Ey (fun s=>dec (s=c)) xs 0),[.box 28 [.arr (c.lits.map Lt.d)]]):=by
 have hE:=QeY c hc
 refine Ae DA BZ (of_decide_eq_true rfl) ?_
 simp (disch:=omega) only [BY,go_sem,Aa]
 refine go_loop (α:=Int) (fun a=>⟨slots 19 0 [(0,.arr (xs.map Cl.d)),(1,.fn 69 [.ptr 0 0]),(7,.int .i64 xs.length),(8,.int .i64 a)],[.box 28 [.arr (c.lits.map Lt.d)]]⟩) (fun a=>∃ k:Nat,a=k∧k≤(xs).length∧Ey (fun s=>dec (s=c)) (xs.drop k) a=Ey (fun s=>dec (s=c)) xs 0) (fun a=>(xs).length-(a).toNat) 0 ⟨0,rfl,zE _,by rw [zG]⟩ (by simp (disch:=omega) only [go_sem,Aa]) ?_
 rintro i ⟨k,hi,hk,hR⟩
 have hni:i.toNat=k:=by omega
 have hni1:(i+1).toNat=k+1:=by omega
 rcases zB k (xs).length with hlt | hge
 ·have hg':=get_at Cl.d hlt
  rw [Cl.d_eq] at hg'
  have hc:=hE xs[k] (hx _ (zA hlt))
  rw [zD hlt,Ey] at hR
  have e1:xs[k].sv=.agg [.arr (xs[k].lits.map Lt.d)]:=rfl
  rw [e1] at hc
  cases hp:dec (xs[k]=c) with
  | true =>
   rw [hp] at hc hR
   simp (disch:=omega) only [go_sem,Aa,hni,hg',hc,HD,Fe]
   simpa using hR
  | false =>
   rw [hp] at hc hR
   simp (disch:=omega) only [go_sem,Aa,hni,hg',hc,HD,Fe]
   exact ⟨i+1,⟨k+1,by omega,hlt,by simpa using hR⟩,by omega,by first | trivial | rfl⟩
 ·rw [zC hge,Ey] at hR
  simp (disch:=omega) only [go_sem,Aa,hni]
  exact hR
theorem XJ (c:Cl) (hc:c.tame∧c.lits.length≤1048576) (xs:List Cl) (hl:xs.length≤1048576) (hx:∀ x∈xs,x.tame∧x.lits.length≤1048576):E 38 [.arr (xs.map Cl.d),.fn 69 [.ptr 0 0]] [.box 28 [.arr (c.lits.map Lt.d)]]=some (.bool (dec (c∈xs)),[.box 28 [.arr (c.lits.map Lt.d)]]):=by
 have h:=Qdc c hc xs hl hx
 rw [Qdb]
 refine Ae Do BF (of_decide_eq_true rfl) ?_
 simp (disch:=omega) only [BE,go_sem,Aa,h,BZ]
theorem PF (c:Cl) (hc:c.tame∧c.lits.length≤1048576) (xs:List Cl) (hl:xs.length≤1048576) (hx:∀ x∈xs,x.tame∧x.lits.length≤1048576):E 44 [.arr (xs.map Cl.d),c.sv] []=some (.bool (dec (c∈xs)),[]):=by
 have h:=XJ c hc xs hl hx
 have e2:c.sv=.agg [.arr (c.lits.map Lt.d)]:=rfl
 rw [e2]
 refine Ae Pf E5 (of_decide_eq_true rfl) ?_
 simp (disch:=omega) only [Jj,go_sem,Aa,h,BF]
def Cl.smallC (x:Cl):Prop:=x.tame∧x.lits.length≤1048576
def Cl.os (x:Cl):List OT:=[.sh (x.lits.map Lt.d)]
theorem Cl.os_eq (x:Cl):x.os=[.sh (x.lits.map Lt.d)]:=rfl
theorem Cl.Vw:∀ xs:List Cl,OT.AO (xs.map Cl.os)=true
 | []=>rfl
 | x :: xs=>by rw [List.map_cons,OT.AO,Cl.Vw xs]; rfl
theorem Cl.Qdd:∀ xs:List Cl,OT.erss (xs.map Cl.os)=xs.map Cl.d
 | []=>rfl
 | x :: xs=>by rw [List.map_cons,OT.erss,Cl.Qdd xs]; rfl
def IE:SC:=(.seq (.reg [⟨some 2,none,.boxv 28 1 (.t 0)⟩,⟨some 3,none,.boxv 28 1 (.t 1)⟩,⟨some 4,none,.mv (.c (.bool false))⟩]) (.seq (.seq (.reg [⟨some 6,none,.faddr 0 (.t 2)⟩,⟨some 7,none,.load false 1 (.t 6)⟩,⟨some 8,none,.len false (.t 7)⟩,⟨some 9,none,.faddr 0 (.t 3)⟩,⟨some 10,none,.load false 1 (.t 9)⟩,⟨some 11,none,.len false (.t 10)⟩,⟨some 12,none,.bin .neq false (.t 8) (.t 11)⟩]) (.cond (.t 12) (.seq (.reg [⟨some 4,none,.mv (.c (.bool false))⟩]) .ret) .skip)) (.seq (.seq (.reg [⟨some 5,none,.mv (.c (.int .i64 0))⟩]) (.block 0 (.loop [0,0,1,1,0,1,0,0,0,0,0,0,0,0,0,0,0,0,0,0,0,0,0,0,0,0,0,0,0,0,0,0,0,0,0,0,0,0,0,0,0,0,0,0,0,0,0,0,0] (.seq (.seq (.reg [⟨some 13,none,.mv (.t 5)⟩,⟨some 14,none,.faddr 0 (.t 2)⟩,⟨some 15,none,.load false 1 (.t 14)⟩,⟨some 16,none,.len false (.t 15)⟩,⟨some 17,none,.bin .lss false (.t 13) (.t 16)⟩]) (.cond (.t 17) .skip (.exit 0))) (.seq (.block 1 (.seq (.dreg [[],[0],[],[1,0,2],[3,1,0,2],[4,3,1,0,2],[],[6],[],[7,6,8],[9,7,6,8],[10,9,7,6,8],[5,4,3,1,0,2,11,10,9,7,6,8],[12,5,4,3,1,0,2,11,10,9,7,6,8],[13,12,5,4,3,1,0,2,11,10,9,7,6,8],[14,13,12,5,4,3,1,0,2,11,10,9,7,6,8],[13,12,5,4,3,1,0,2,11,10,9,7,6,8],[15,14,13,12,5,4,3,1,0,2,11,10,9,7,6,8,16],[17,15,14,13,12,5,4,3,1,0,2,11,10,9,7,6,8,16],[18,17,15,14,13,12,5,4,3,1,0,2,11,10,9,7,6,8,16],[13,12,5,4,3,1,0,2,11,10,9,7,6,8],[20,13,12,5,4,3,1,0,2,11,10,9,7,6,8],[13,12,5,4,3,1,0,2,11,10,9,7,6,8],[21,20,13,12,5,4,3,1,0,2,11,10,9,7,6,8,22],[23,21,20,13,12,5,4,3,1,0,2,11,10,9,7,6,8,22],[24,23,21,20,13,12,5,4,3,1,0,2,11,10,9,7,6,8,22],[19,18,17,15,14,13,12,5,4,3,1,0,2,11,10,9,7,6,8,16,25,24,23,21,20,22],[26,19,18,17,15,14,13,12,5,4,3,1,0,2,11,10,9,7,6,8,16,25,24,23,21,20,22],[13,12,5,4,3,1,0,2,11,10,9,7,6,8,27,26,19,18,17,15,14,16,25,24,23,21,20,22]] [⟨some 20,none,.faddr 0 (.t 2)⟩,⟨some 21,none,.load false 1 (.t 20)⟩,⟨some 22,none,.mv (.t 5)⟩,⟨some 23,none,.iaddr 3 (.t 21) (.t 22)⟩,⟨some 24,none,.faddr 0 (.t 23)⟩,⟨some 25,none,.load false 1 (.t 24)⟩,⟨some 26,none,.faddr 0 (.t 3)⟩,⟨some 27,none,.load false 1 (.t 26)⟩,⟨some 28,none,.mv (.t 5)⟩,⟨some 29,none,.iaddr 3 (.t 27) (.t 28)⟩,⟨some 30,none,.faddr 0 (.t 29)⟩,⟨some 31,none,.load false 1 (.t 30)⟩,⟨some 32,none,.bin .neq true (.t 25) (.t 31)⟩,⟨some 33,none,.mv (.t 32)⟩,⟨(some 34),(some (33,false)),(.faddr 0 (.t 2))⟩,⟨(some 35),(some (33,false)),(.load false 1 (.t 34))⟩,⟨(some 36),(some (33,false)),(.mv (.t 5))⟩,⟨(some 37),(some (33,false)),(.iaddr 3 (.t 35) (.t 36))⟩,⟨(some 38),(some (33,false)),(.faddr 1 (.t 37))⟩,⟨(some 39),(some (33,false)),(.load true 2 (.t 38))⟩,⟨(some 40),(some (33,false)),(.faddr 0 (.t 3))⟩,⟨(some 41),(some (33,false)),(.load false 1 (.t 40))⟩,⟨(some 42),(some (33,false)),(.mv (.t 5))⟩,⟨(some 43),(some (33,false)),(.iaddr 3 (.t 41) (.t 42))⟩,⟨(some 44),(some (33,false)),(.faddr 1 (.t 43))⟩,⟨(some 45),(some (33,false)),(.load true 2 (.t 44))⟩,⟨(some 46),(some (33,false)),(.call 68 [(.t 39),(.t 45)])⟩,⟨(some 47),(some (33,false)),(.un .not (.t 46))⟩,⟨some 48,none,.pick (.t 33) (.c (.bool true)) (.t 47)⟩]) (.cond (.t 48) (.seq (.reg [⟨some 4,none,.mv (.c (.bool false))⟩]) .ret) .skip))) (.reg [⟨some 18,none,.mv (.t 5)⟩,⟨some 19,none,.bin .add false (.t 18) (.c (.int .i64 1))⟩,⟨some 5,none,.mv (.t 19)⟩])))))) (.seq (.reg [⟨some 4,none,.mv (.c (.bool true))⟩]) .ret))))
theorem Mn:codeOf Tryz.prog 42=some ⟨49,IE,[(.tmp 4)]⟩:=by kernel_rfl
theorem DT:modes 42=⟨[],.asis,none,false⟩:=by unfold modes; rfl
theorem XK (x y:Cl) (hx:x.smallC) (hy:y.smallC):E 42 [x.sv,y.sv] []=some (.bool (dec (x=y)),[]):=by
 have e1:x.sv=.agg [.arr (x.lits.map Lt.d)]:=rfl
 have e2:y.sv=.agg [.arr (y.lits.map Lt.d)]:=rfl
 rw [ID Cl.Qa7,e1,e2]
 obtain ⟨⟨hx1,hnx⟩,hx⟩:=hx
 obtain ⟨⟨hy1,hny⟩,hy⟩:=hy
 obtain ⟨xs,hxs⟩:∃ xs,xs=x.lits:=⟨_,rfl⟩
 obtain ⟨ys,hys⟩:∃ ys,ys=y.lits:=⟨_,rfl⟩
 rw [←hxs] at hx hnx ⊢
 rw [←hys] at hy hny ⊢
 clear e1 e2 hxs hys hx1 hy1
 by_cases hl:xs.length=ys.length
 ·have hz:((xs.length:Int)=(ys.length:Int))=True:=eq_true (by omega)
  refine Ae Mn DT (of_decide_eq_true rfl) ?_
  simp (disch:=omega) only [IE,go_sem,Aa,hz]
  refine go_loop (α:=Int) (fun a=>⟨slots 49 0 [(2,.ptr 0 0),(3,.ptr 1 0),(5,.int .i64 a)],[.box 28 [.arr (xs.map Lt.d)],.box 28 [.arr (ys.map Lt.d)]]⟩) (fun a=>∃ k:Nat,a=k∧k≤(xs).length∧dec (xs.drop k=ys.drop k)=dec (xs=ys)) (fun a=>(xs).length-(a).toNat) 0 ⟨0,rfl,zE _,by rw [zG,zG]⟩ (by simp (disch:=omega) only [go_sem,Aa]) ?_
  rintro i ⟨k,hi,hk,hR⟩
  have hni:i.toNat=k:=by omega
  have hni1:(i+1).toNat=k+1:=by omega
  rcases zB k (xs).length with hlt | hge
  ·have hg:=get_at Lt.d hlt
   have hlt2:k<ys.length:=by omega
   have hg2:=get_at Lt.d hlt2
   rw [Lt.d_eq] at hg hg2
   have hs:=XI hl hlt
   have hc:=IT xs[k].atom ys[k].atom (hnx _ (zA hlt)) (hny _ (zA hlt2))
   have h1:xs[k].atom.sv=.agg [.str xs[k].atom.name,.arr (xs[k].atom.args.map Tm.d)]:=rfl
   have h2:ys[k].atom.sv=.agg [.str ys[k].atom.name,.arr (ys[k].atom.args.map Tm.d)]:=rfl
   rw [h1,h2] at hc
   have hq:(xs[k]=ys[k]) ↔ (xs[k].pos=ys[k].pos∧xs[k].atom=ys[k].atom):=by
    constructor
    ·intro h; rw [h]; exact ⟨rfl,rfl⟩
    ·rintro ⟨a,b⟩
     cases h3:xs[k]; cases h4:ys[k]
     rw [h3,h4] at a b
     simp only at a b
     rw [a,b]
   cases hp:xs[k].pos == ys[k].pos with
   | false =>
    have hpn:¬ xs[k].pos=ys[k].pos:=by simpa using hp
    rw [ID hs,Ay (fun h=>hpn (hq.1 h.1).1)] at hR
    rw [←hR]
    simp (disch:=omega) only [go_sem,Aa,hni,hg,hg2,hp,Ai]
   | true =>
    have hpy:xs[k].pos=ys[k].pos:=by simpa using hp
    by_cases he:xs[k].atom=ys[k].atom
    ·have he2:=hq.2 ⟨hpy,he⟩
     rw [As he] at hc
     rw [ID hs,ID (show (xs[k]=ys[k]∧xs.drop (k+1)=ys.drop (k+1)) ↔ xs.drop (k+1)=ys.drop (k+1) from ⟨fun h=>h.2,fun h=>⟨he2,h⟩⟩)] at hR
     simp (disch:=omega) only [go_sem,Aa,hni,hg,hg2,hp,hc,Ai]
     exact ⟨i+1,⟨k+1,by omega,hlt,hR⟩,by omega,by first | trivial | rfl⟩
    ·rw [Ay he] at hc
     rw [ID hs,Ay (fun h=>he (hq.1 h.1).2)] at hR
     rw [←hR]
     simp (disch:=omega) only [go_sem,Aa,hni,hg,hg2,hp,hc,Ai]
  ·rw [zC hge,zC (by omega:ys.length≤k),As rfl] at hR
   rw [←hR]
   simp (disch:=omega) only [go_sem,Aa,hni]
 ·have hz:((xs.length:Int)=(ys.length:Int))=False:=eq_false (by omega)
  have hne:dec (xs=ys)=false:=Ay fun h=>hl (by rw [h])
  rw [hne]
  refine Ae Mn DT (of_decide_eq_true rfl) ?_
  simp (disch:=omega) only [IE,go_sem,Aa,hz]
def Kb:SC:=(.seq (.reg [⟨some 2,none,.mv (.c .nil)⟩]) (.seq (.reg [⟨some 7,none,.mkrow 28 1 [.nil] 0 []⟩,⟨some 3,none,.mv (.t 7)⟩]) (.seq (.seq (.reg [⟨some 4,none,.mv (.c (.int .i64 0))⟩]) (.block 0 (.loop [1,0,0,1,1,0,0,0,0,0,0,0,0,0,0,0,0,0,0,0,0,0,0,0,0,0,0,0,0,0,0,0,0,0,0,0,0,0,0,0,0,0] (.seq (.seq (.reg [⟨some 8,none,.mv (.t 4)⟩,⟨some 9,none,.mv (.t 0)⟩,⟨some 10,none,.len false (.t 9)⟩,⟨some 11,none,.bin .lss false (.t 8) (.t 10)⟩]) (.cond (.t 11) .skip (.exit 0))) (.seq (.block 1 (.seq (.reg [⟨some 5,none,.mv (.c (.bool false))⟩]) (.seq (.seq (.reg [⟨some 6,none,.mv (.c (.int .i64 0))⟩]) (.block 2 (.loop [1,0,0,1,1,1,1,0,0,0,0,0,0,0,0,0,0,0,0,0,0,0,0,0,0,0,0,0,0,0,0,0,0,0,0,0,0,0,0,0,0,0] (.seq (.seq (.reg [⟨some 14,none,.mv (.t 6)⟩,⟨some 15,none,.mv (.t 3)⟩,⟨some 16,none,.len false (.t 15)⟩,⟨some 17,none,.bin .lss false (.t 14) (.t 16)⟩]) (.cond (.t 17) .skip (.exit 2))) (.seq (.block 3 (.dreg [[],[0],[1,0],[1,0],[2,1,0,3],[4,2,1,0,3],[1,0],[1,0],[6,1,0,7],[8,6,1,0,7],[5,4,2,1,0,3,9,8,6,7],[1,0,10,5,4,2,3,9,8,6,7],[11,1,0,10,5,4,2,3,9,8,6,7]] [⟨some 20,none,.mv (.t 5)⟩,⟨some 21,none,.mv (.t 20)⟩,⟨(some 22),(some (21,false)),(.mv (.t 3))⟩,⟨(some 23),(some (21,false)),(.mv (.t 6))⟩,⟨(some 24),(some (21,false)),(.iaddr 1 (.t 22) (.t 23))⟩,⟨(some 25),(some (21,false)),(.load true 1 (.t 24))⟩,⟨(some 26),(some (21,false)),(.mv (.t 0))⟩,⟨(some 27),(some (21,false)),(.mv (.t 4))⟩,⟨(some 28),(some (21,false)),(.iaddr 1 (.t 26) (.t 27))⟩,⟨(some 29),(some (21,false)),(.load true 1 (.t 28))⟩,⟨(some 30),(some (21,false)),(.call 42 [(.t 25),(.t 29)])⟩,⟨some 31,none,.pick (.t 21) (.c (.bool true)) (.t 30)⟩,⟨some 5,none,.mv (.t 31)⟩])) (.reg [⟨some 18,none,.mv (.t 6)⟩,⟨some 19,none,.bin .add false (.t 18) (.c (.int .i64 1))⟩,⟨some 6,none,.mv (.t 19)⟩])))))) (.seq (.reg [⟨some 32,none,.mv (.t 5)⟩,⟨some 33,none,.un .not (.t 32)⟩]) (.cond (.t 33) (.reg [⟨some 34,none,.mv (.t 3)⟩,⟨some 35,none,.mv (.t 0)⟩,⟨some 36,none,.mv (.t 4)⟩,⟨some 37,none,.iaddr 1 (.t 35) (.t 36)⟩,⟨some 38,none,.load true 1 (.t 37)⟩,⟨some 39,none,.mkrow 28 1 [.nil] 1 [(0,(.t 38))]⟩,⟨some 40,none,.append 28 1 24 [.nil] (.t 34) (.t 39)⟩,⟨some 3,none,.mv (.t 40)⟩]) .skip))))) (.reg [⟨some 12,none,.mv (.t 4)⟩,⟨some 13,none,.bin .add false (.t 12) (.c (.int .i64 1))⟩,⟨some 4,none,.mv (.t 13)⟩])))))) (.seq (.reg [⟨some 41,none,.mv (.t 3)⟩,⟨some 2,none,.mv (.t 41)⟩]) .ret))))
theorem PZ:codeOf Tryz.prog 45=some ⟨42,Kb,[(.tmp 2)]⟩:=by kernel_rfl
theorem Kc:modes 45=⟨[],.frz,none,false⟩:=by unfold modes; rfl
theorem Qde (c:Cl) {acc:List Cl} {k:Nat} (h:k<acc.length):dec (c∈acc.take (k+1))=(dec (c∈acc.take k) || dec (acc[k]=c)):=by
 rw [List.take_succ_eq_append_getElem h]
 by_cases h1:c∈acc.take k
 ·rw [As h1,As (zL.2 (.inl h1))]; rfl
 ·by_cases h2:acc[k]=c
  ·rw [As h2,As (zL.2 (.inr (by simp [h2]))),Bool.or_true]
  ·rw [Ay h1,Ay h2,Ay (fun h=>by rcases zL.1 h with h | h; exact h1 h; exact h2 (List.mem_singleton.1 h).symm)]; rfl
theorem Zw (cs:List Cl) (hl:cs.length≤1048576) (hx:∀ x∈cs,x.smallC):E 45 [.arr (cs.map Cl.d)] []=some (.arr ((EC [] cs).map Cl.d),[]):=by
 refine Ae PZ Kc (of_decide_eq_true rfl) ?_
 simp (disch:=omega) only [Kb,go_sem,Aa]
 refine go_loop (α:=Int × (List Cl)) (fun a=>⟨slots 42 0 [(0,.arr (cs.map Cl.d)),(3,.ref 0),(4,.int .i64 (a.1))],[.row 28 1 ((a.2).map Cl.os)]⟩) (fun a=>∃ k:Nat,a.1=k∧k≤(cs).length∧EC (a.2) (cs.drop k)=EC [] cs∧(a.2).length≤k∧∀ x∈(a.2),x.smallC) (fun a=>(cs).length-(a.1).toNat) (0,[]) ⟨0,rfl,zE _,by rw [zG],zT _,fun x hx=>by simp at hx⟩ (by simp (disch:=omega) only [go_sem,Aa]) ?_
 rintro ⟨i,acc⟩ ⟨k,hi,hk,hR⟩
 dsimp only at hi hR
 have hni:i.toNat=k:=by omega
 have hni1:(i+1).toNat=k+1:=by omega
 rcases zB k (cs).length with hlt | hge
 ·obtain ⟨hR1,hR2,hR3⟩:=hR
  rw [zD hlt] at hR1
  have hg0:=get_at Cl.d hlt
  rw [Cl.d_eq] at hg0
  have hcm:=hx _ (zA hlt)
  obtain ⟨c,hc⟩:∃ c,c=cs[k]:=⟨_,rfl⟩
  rw [←hc] at hR1 hg0 hcm
  have hstep:EC (Kj acc c) (cs.drop (k+1))=EC [] cs:=hR1
  have hio:=hi
  have hni0:=hni
  have hni10:=hni1
  generalize i=io at *
  simp (disch:=omega) only [go_sem,Aa,hni0]
  refine go_loop (α:=Int × (Bool)) (fun a=>⟨slots 42 0 [(0,.arr (cs.map Cl.d)),(3,.ref 0),(4,.int .i64 io),(5,.bool (a.2)),(6,.int .i64 (a.1))],[.row 28 1 (acc.map Cl.os)]⟩) (fun a=>∃ k:Nat,a.1=k∧k≤(acc).length∧(a.2)=dec (c∈acc.take k)) (fun a=>(acc).length-(a.1).toNat) (0,false) ⟨0,rfl,zE _,by rw [List.take_zero,Ay (by simp)]⟩ (by simp (disch:=omega) only [go_sem,Aa]) ?_
  rintro ⟨i,fd⟩ ⟨k,hi,hk,hR⟩
  dsimp only at hi hR
  have hni:i.toNat=k:=by omega
  have hni1:(i+1).toNat=k+1:=by omega
  rcases zB k (acc).length with hlt | hge
  ·have hg:=get_at Cl.os hlt
   rw [Cl.os_eq] at hg
   have hcs:=XK acc[k] c (hR3 _ (zA hlt)) hcm
   have e1:acc[k].sv=.agg [.arr (acc[k].lits.map Lt.d)]:=rfl
   have e2:c.sv=.agg [.arr (c.lits.map Lt.d)]:=rfl
   rw [e1,e2] at hcs
   have ht:=Qde c hlt
   rw [←hR] at ht
   cases fd with
   | true =>
    simp (disch:=omega) only [go_sem,Aa,hni0,hni,hg,hg0,hcs,DT]
    exact ⟨(i+1,true),⟨k+1,by dsimp only; omega,hlt,by rw [ht]; rfl⟩,by dsimp only; omega,by first | trivial | rfl⟩
   | false =>
    obtain ⟨b,hb⟩:∃ b,b=dec (acc[k]=c):=⟨_,rfl⟩
    rw [←hb] at hcs ht
    simp (disch:=omega) only [go_sem,Aa,hni0,hni,hg,hg0,hcs,DT]
    exact ⟨(i+1,b),⟨k+1,by dsimp only; omega,hlt,by rw [ht]; rfl⟩,by dsimp only; omega,by first | trivial | rfl⟩
  ·rw [zH hge] at hR
   cases fd with
   | true =>
    have ha:Kj acc c=acc:=by unfold Kj; rw [←hR]; rfl
    rw [ha] at hstep
    simp (disch:=omega) only [go_sem,Aa,hni0,hni,hg0]
    exact ⟨(io+1,acc),⟨_,by dsimp only; omega,by assumption,hstep,by dsimp only; omega,hR3⟩,by dsimp only; omega,by first | trivial | rfl⟩
   | false =>
    have ha:Kj acc c=acc++[c]:=by unfold Kj; rw [←hR]; rfl
    rw [ha] at hstep
    have hap:acc.map Cl.os++[[OT.sh (c.lits.map Lt.d)]]=(acc++[c]).map Cl.os:=by rw [zM]; rfl
    simp (disch:=omega) only [go_sem,Aa,hni0,hni,hg0,hap]
    refine ⟨(io+1,acc++[c]),⟨_,by dsimp only; omega,by assumption,hstep,by simp only [zF,List.length_cons,List.length_nil]; omega,fun x hx=>?_⟩,by dsimp only; omega,by first | trivial | rfl⟩
    rcases zL.1 hx with h | h
    ·exact hR3 x h
    ·rw [List.mem_singleton.1 h]; exact hcm
 ·obtain ⟨hR1,hR2,hR3⟩:=hR
  rw [zC hge] at hR1
  have hR1:acc=EC [] cs:=hR1
  have her:=Cl.Qdd acc
  have hfu:=Cl.Vw acc
  rw [←hR1]
  simp (disch:=omega) only [go_sem,Aa,hni,her,hfu]
noncomputable def Im (f:Nat→Option Cl):Nat→List Cl
 | 0=>[]
 | k+1=>Im f k++(f k).toList
noncomputable def CJ (g:Nat→List Cl):Nat→List Cl
 | 0=>[]
 | k+1=>CJ g k++g k
theorem Jk (f:Nat→Option Cl):∀ k,(Im f k).length≤k
 | 0=>zT _
 | k+1=>by
  have h:=Jk f k
  rw [Im,zF]
  cases f k <;> simp <;> omega
theorem Pg {g:Nat→List Cl} {m:Nat} (h:∀ k,(g k).length≤m):∀ k,(CJ g k).length≤m*k
 | 0=>zT _
 | k+1=>by
  have h1:=Pg h k
  have h2:=h k
  rw [CJ,zF,Nat.mul_succ]; omega
theorem Um {f:Nat→Option Cl} {x:Cl}:∀ {k},x∈Im f k→∃ j,f j=some x
 | 0,h=>by simp [Im] at h
 | k+1,h=>by
  rw [Im] at h
  rcases zL.1 h with h | h
  ·exact Um h
  ·exact ⟨k,by simpa using h⟩
theorem Un {g:Nat→List Cl} {x:Cl}:∀ {k},x∈CJ g k→∃ j,x∈g j
 | 0,h=>by simp [CJ] at h
 | k+1,h=>by
  rw [CJ] at h
  rcases zL.1 h with h | h
  ·exact Un h
  ·exact ⟨k,h⟩
theorem Uo {f:Nat→Option Cl} {k:Nat} {x:Cl} (h:f k=some x):Im f (k+1)=Im f k++[x]:=by rw [Im,h]; rfl
theorem XL {f:Nat→Option Cl} {k:Nat} (h:f k=none):Im f (k+1)=Im f k:=by rw [Im,h]; simp
theorem Qel {s:Sb} {l:List Lt} (h:FF s l=true):(Sy s l).ok=true:=by
 rw [Sz h]
 unfold FF at h
 rw [Bool.and_eq_true] at h
 exact Qav 10 (Zu h.1)
theorem HF {c:Cl} (h:c.ok=true):c.smallC:=⟨XB h,by have:=Cl.ok_len h; omega⟩
theorem Qa8 {c d:Cl} {i k:Int} (h:Ig c i d k=true):(MN c i d k).ok=true:=by
 unfold Ig at h
 unfold MN
 cases hf:Vt c i d k with
 | none=>rw [hf] at h; cases h
 | some s=>rw [hf] at h; exact Qel h
noncomputable def Qft (c:Cl) (i k:Int):Option Cl:=bif Qfs c i k then some (Qf3 c i k) else none
noncomputable def Zx (c:Cl) (i:Int) (d:Cl) (k:Int):Option Cl:=bif Ig c i d k then some (MN c i d k) else none
theorem S5 {c d:Cl} {i k:Int} (h:Ig c i d k=true):Zx c i d k=some (MN c i d k):=by unfold Zx; rw [h]; rfl
theorem Vx {c d:Cl} {i k:Int} (h:Ig c i d k=false):Zx c i d k=none:=by unfold Zx; rw [h]; rfl
theorem Qem {c d:Cl} {i k:Int} {x:Cl} (h:Zx c i d k=some x):x.ok=true:=by
 cases hf:Ig c i d k with
 | false=>rw [Vx hf] at h; cases h
 | true=>rw [S5 hf] at h; obtain rfl:=Option.some.inj h; exact Qa8 hf
noncomputable def Qen (c:Cl) (i:Nat):Nat→List Cl:=Im fun k=>Qft c (i:Nat) (k:Nat)
noncomputable def Qeo (c:Cl) (i:Nat):List Cl:=Qen c i c.lits.length
noncomputable def Gz (c d:Cl) (i:Nat):Nat→List Cl:=Im fun k=>Zx c (i:Nat) d (k:Nat)
noncomputable def GP (c d:Cl) (i:Nat):List Cl:=Gz c d i d.lits.length
noncomputable def Qfu (c:Cl):List Cl:=CJ (Qeo c) c.lits.length
noncomputable def LN (c d:Cl):List Cl:=CJ (GP c d) c.lits.length
theorem XM {c d x:Cl} {i k:Nat} (h:x∈Gz c d i k):x.ok=true:=by
 obtain ⟨j,h⟩:=Um h
 exact Qem h
theorem Oa {c d x:Cl} {n:Nat} (h:x∈CJ (GP c d) n):x.ok=true:=by
 obtain ⟨j,h⟩:=Un h
 exact XM h
theorem Qdf {c:Cl} (hc:c.ok=true) (n k:Nat) (hn:n≤8) (hk:k≤8):(CJ (Qeo c) n++Qen c n k).length≤72:=by
 have hl:=Cl.ok_len hc
 have h1:=Pg (g:=Qeo c) (m:=8) (fun j=>Nat.le_trans (Jk _ _) hl) n
 have h2:=Jk (fun k=>Qft c (n:Nat) (k:Nat)) k
 rw [zF]
 unfold Qen
 omega
theorem Oc {c d:Cl} (hc:c.ok=true) (hd:d.ok=true) (n k:Nat) (hn:n≤8) (hk:k≤8):(CJ (GP c d) n++Gz c d n k).length≤72:=by
 have hl:=Cl.ok_len hd
 have h1:=Pg (g:=GP c d) (m:=8) (fun j=>Nat.le_trans (Jk _ _) hl) n
 have h2:=Jk (fun k=>Zx c (n:Nat) d (k:Nat)) k
 rw [zF]
 unfold Gz
 omega
theorem MP {cs:List Cl} (h:∀ x∈cs,x.ok=true):∀ x∈EC [] cs,x.ok=true:=fun x hx=>by
 rcases XH.1 hx with h1 | h1
 ·simp at h1
 ·exact h x h1
noncomputable def Qb0 (c d:Cl):List Cl:=bif (c.ok&&c.norm)&&(d.ok&&d.norm) then EC [] (LN c d) else []
theorem Qe3 {c d:Cl} (h:((c.ok&&c.norm)&&(d.ok&&d.norm))=false):Qb0 c d=[]:=by unfold Qb0; rw [h]; rfl
theorem Qdg {c d:Cl} (h:((c.ok&&c.norm)&&(d.ok&&d.norm))=true):Qb0 c d=EC [] (LN c d):=by unfold Qb0; rw [h]; rfl
theorem Qfv {c:Cl} (hc:c.ok=true):(Qfu c).length≤72:=by
 have hcl:=Cl.ok_len hc
 have h:=Qdf hc c.lits.length 0 hcl (by omega)
 have:CJ (Qeo c) c.lits.length++Qen c c.lits.length 0=Qfu c:=by show _++[]=_; rw [zP]; rfl
 rw [this] at h; exact h
theorem XN {c d:Cl} (hc:c.ok=true) (hd:d.ok=true):(LN c d).length≤72:=by
 have hcl:=Cl.ok_len hc
 have h:=Oc hc hd c.lits.length 0 hcl (by omega)
 have:CJ (GP c d) c.lits.length++Gz c d c.lits.length 0=LN c d:=by show _++[]=_; rw [zP]; rfl
 rw [this] at h; exact h
theorem Vy {cs:List Cl} {n:Nat} (h:cs.length≤n):(EC [] cs).length≤n:=by
 have:=XG cs []
 simp only [List.length_nil] at this
 omega
noncomputable def Jl (r c d:Cl):Bool:=((r.ok&&r.norm)&&(c.ok&&c.norm))&&(d.ok&&d.norm)
noncomputable def Zy (r c d:Cl):Bool:=Jl r c d&&dec (r∈EC [] (LN c d))
theorem XO {r c d:Cl} (h:Jl r c d=false):Zy r c d=false:=by unfold Zy; rw [h]; rfl
theorem Qdh {r c d:Cl} (h:Jl r c d=true):Zy r c d=dec (r∈EC [] (LN c d)):=by unfold Zy; rw [h]; rfl
theorem Qdi {l:List Cl} {c:Cl} (h:dec (c∈l)=true):Kj l c=l:=by unfold Kj; rw [h]; rfl
theorem Qep {l:List Cl} {c:Cl} (h:dec (c∈l)=false):Kj l c=l++[c]:=by unfold Kj; rw [h]; rfl
theorem Qb1 (l cs:List Cl) (c:Cl):EC l (cs++[c])=Kj (EC l cs) c:=by rw [QcX]; rfl
def Mo:SC:=(.seq (.reg [⟨some 2,none,.boxv 28 1 (.t 0)⟩,⟨some 3,none,.boxv 28 1 (.t 1)⟩,⟨some 4,none,.mv (.c .nil)⟩]) (.seq (.reg [⟨some 10,none,.mkrow 28 1 [.nil] 0 []⟩,⟨some 5,none,.mv (.t 10)⟩]) (.seq (.seq (.reg [⟨some 6,none,.mv (.c (.int .i64 0))⟩]) (.block 0 (.loop [0,0,1,1,0,1,1,0,0,0,0,0,0,0,0,0,0,0,0,0,0,0,0,0,0,0,0,0,0,0,0,0,0,0,0,0,0,0,0,0] (.seq (.seq (.reg [⟨some 11,none,.mv (.t 6)⟩,⟨some 12,none,.faddr 0 (.t 2)⟩,⟨some 13,none,.load false 1 (.t 12)⟩,⟨some 14,none,.len false (.t 13)⟩,⟨some 15,none,.bin .lss false (.t 11) (.t 14)⟩]) (.cond (.t 15) .skip (.exit 0))) (.seq (.block 1 (.seq (.reg [⟨some 7,none,.mv (.c (.int .i64 0))⟩]) (.block 2 (.loop [0,0,1,1,0,1,1,1,0,0,0,0,0,0,0,0,0,0,0,0,0,0,0,0,0,0,0,0,0,0,0,0,0,0,0,0,0,0,0,0] (.seq (.seq (.reg [⟨some 18,none,.mv (.t 7)⟩,⟨some 19,none,.faddr 0 (.t 3)⟩,⟨some 20,none,.load false 1 (.t 19)⟩,⟨some 21,none,.len false (.t 20)⟩,⟨some 22,none,.bin .lss false (.t 18) (.t 21)⟩]) (.cond (.t 22) .skip (.exit 2))) (.seq (.block 3 (.seq (.reg [⟨some 26,none,.load true 1 (.t 2)⟩,⟨some 27,none,.mv (.t 6)⟩,⟨some 28,none,.load true 1 (.t 3)⟩,⟨some 29,none,.mv (.t 7)⟩,⟨some 30,none,.call 37 [(.t 26),(.t 27),(.t 28),(.t 29)]⟩,⟨some 25,none,.mv (.t 30)⟩,⟨some 31,none,.ext (.t 25) 0⟩,⟨some 32,none,.ext (.t 25) 1⟩,⟨some 8,none,.alloc 28 [.nil]⟩,⟨none,none,(.store 1 (.t 8) (.t 31))⟩,⟨some 9,none,.mv (.t 32)⟩]) (.seq (.reg [⟨some 33,none,.mv (.t 9)⟩]) (.cond (.t 33) (.reg [⟨some 34,none,.mv (.t 5)⟩,⟨some 35,none,.load true 1 (.t 8)⟩,⟨some 36,none,.mkrow 28 1 [.nil] 1 [(0,(.t 35))]⟩,⟨some 37,none,.append 28 1 24 [.nil] (.t 34) (.t 36)⟩,⟨some 5,none,.mv (.t 37)⟩]) .skip)))) (.reg [⟨some 23,none,.mv (.t 7)⟩,⟨some 24,none,.bin .add false (.t 23) (.c (.int .i64 1))⟩,⟨some 7,none,.mv (.t 24)⟩]))))))) (.reg [⟨some 16,none,.mv (.t 6)⟩,⟨some 17,none,.bin .add false (.t 16) (.c (.int .i64 1))⟩,⟨some 6,none,.mv (.t 17)⟩])))))) (.seq (.reg [⟨some 38,none,.mv (.t 5)⟩,⟨some 39,none,.call 45 [(.t 38)]⟩,⟨some 4,none,.mv (.t 39)⟩]) .ret))))
theorem Tg:codeOf Tryz.prog 41=some ⟨40,Mo,[(.tmp 4)]⟩:=by kernel_rfl
theorem Mp:modes 41=⟨[],.frz,none,false⟩:=by unfold modes; rfl
theorem Qdj (c d:Cl) (hc:c.ok=true) (hd:d.ok=true) (hdn:d.norm=true):E 41 [c.sv,d.sv] []=some (.arr ((EC [] (LN c d)).map Cl.d),[]):=by
 have hcl:=Cl.ok_len hc
 have hdl:=Cl.ok_len hd
 have hsv:∀ d:Cl,d.sv=.agg [.arr (d.lits.map Lt.d)]:=fun d=>rfl
 have hr0:=fun (i k:Int)=>Vu c hc i d hd hdn k
 simp only [hsv] at hr0
 rw [hsv,hsv]
 have hz0:(CJ (GP c d) 0)=[]:=rfl
 refine Ae Tg Mp (of_decide_eq_true rfl) ?_
 simp (disch:=omega) only [Mo,go_sem,Aa]
 refine go_loop (α:=Int) (fun a=>⟨slots 40 0 [(2,.ptr 0 0),(3,.ptr 1 0),(5,.ref 2),(6,.int .i64 a)],[.box 28 [.arr (c.lits.map Lt.d)],.box 28 [.arr (d.lits.map Lt.d)],.row 28 1 ((CJ (GP c d) a.toNat).map Cl.os)]⟩) (fun a=>∃ k:Nat,a=k∧k≤(c.lits).length) (fun a=>(c.lits).length-(a).toNat) 0 ⟨0,rfl,zE _⟩ (by simp (disch:=omega) only [go_sem,Aa,hz0]) ?_
 rintro i ⟨k,hi,hk⟩
 have hni:i.toNat=k:=by omega
 have hni1:(i+1).toNat=k+1:=by omega
 rcases zB k (c.lits).length with hlt | hge
 ·have hio:=hi
  have hni0:=hni
  have hni10:=hni1
  have hlt0:=hlt
  have hz1:Gz c d k 0=[]:=rfl
  have hz2:CJ (GP c d) (k+1)=CJ (GP c d) k++Gz c d k d.lits.length:=rfl
  generalize i=io at *
  generalize k=ko at *
  simp (disch:=omega) only [go_sem,Aa,hni0]
  refine go_loop (α:=Int) (fun a=>⟨slots 40 0 [(2,.ptr 0 0),(3,.ptr 1 0),(5,.ref 2),(6,.int .i64 io),(7,.int .i64 a)],[.box 28 [.arr (c.lits.map Lt.d)],.box 28 [.arr (d.lits.map Lt.d)],.row 28 1 ((CJ (GP c d) ko++Gz c d ko a.toNat).map Cl.os)]⟩) (fun a=>∃ k:Nat,a=k∧k≤(d.lits).length) (fun a=>(d.lits).length-(a).toNat) 0 ⟨0,rfl,zE _⟩ (by simp (disch:=omega) only [go_sem,Aa,hz1,zP,hni0]) ?_
  rintro i ⟨k,hi,hk⟩
  have hni:i.toNat=k:=by omega
  have hni1:(i+1).toNat=k+1:=by omega
  rcases zB k (d.lits).length with hlt | hge
  ·have hr:=hr0 io i
   have hlen:=Oc hc hd ko k (by omega) (by omega)
   obtain ⟨r,hrr⟩:∃ r,r=MN c io d i:=⟨_,rfl⟩
   rw [←hrr] at hr
   cases ho:Ig c io d i with
   | false =>
    rw [ho] at hr
    have hpn:Gz c d ko (k+1)=Gz c d ko k:=XL (by rw [←hio,← hi]; exact Vx ho)
    simp (disch:=omega) only [go_sem,Aa,hni0,hni,hr,hlen,BX]
    refine ⟨i+1,⟨k+1,by omega,hlt⟩,by omega,?_⟩
    simp (disch:=omega) only [go_sem,Aa,hni1,hpn]
   | true =>
    rw [ho] at hr
    have hpn:Gz c d ko (k+1)=Gz c d ko k++[r]:=Uo (by rw [←hio,← hi,hrr]; exact S5 ho)
    have hap:(CJ (GP c d) ko++Gz c d ko k).map Cl.os++[[OT.sh (r.lits.map Lt.d)]]=(CJ (GP c d) ko++Gz c d ko (k+1)).map Cl.os:=by rw [hpn,← List.append_assoc,zM (l₂:=[r])]; rfl
    simp (disch:=omega) only [go_sem,Aa,hni0,hni,hr,hlen,BX]
    refine ⟨i+1,⟨k+1,by omega,hlt⟩,by omega,?_⟩
    simp (disch:=omega) only [go_sem,Aa,hni1,hap]
  ·have hke:k=d.lits.length:=by omega
   simp (disch:=omega) only [go_sem,Aa,hni,hke,hz2]
   refine ⟨io+1,⟨ko+1,by omega,hlt0⟩,by omega,?_⟩
   simp (disch:=omega) only [go_sem,Aa,hni10,hke,hz2]
 ·have hke:k=c.lits.length:=by omega
  have hu:=Zw (LN c d) (by
   have h:=Oc hc hd c.lits.length 0 hcl (by omega)
   have:CJ (GP c d) c.lits.length++Gz c d c.lits.length 0=LN c d:=by show _++[]=_; rw [zP]; rfl
   rw [this] at h; omega) fun x hx=>HF (Oa hx)
  have her:=Cl.Qdd (LN c d)
  have hfu:=Cl.Vw (LN c d)
  have hal:CJ (GP c d) c.lits.length=LN c d:=rfl
  simp (disch:=omega) only [go_sem,Aa,hni,hke,hal,hu,her,hfu,Kc]
def CS:SC:=(.seq (.reg [⟨some 3,none,.boxv 28 1 (.t 0)⟩,⟨some 4,none,.boxv 28 1 (.t 1)⟩,⟨some 5,none,.boxv 28 1 (.t 2)⟩,⟨some 6,none,.mv (.c (.bool false))⟩,⟨some 7,none,.mv (.c (.bool false))⟩]) (.seq (.seq (.reg [⟨some 10,none,.load true 1 (.t 3)⟩,⟨some 11,none,.call 29 [(.t 10)]⟩,⟨some 12,none,.un .not (.t 11)⟩,⟨some 13,none,.mv (.t 12)⟩,⟨(some 14),(some (13,false)),(.load true 1 (.t 4))⟩,⟨(some 15),(some (13,false)),(.call 29 [(.t 14)])⟩,⟨(some 16),(some (13,false)),(.un .not (.t 15))⟩,⟨some 17,none,.pick (.t 13) (.c (.bool true)) (.t 16)⟩,⟨some 18,none,.mv (.t 17)⟩,⟨(some 19),(some (18,false)),(.load true 1 (.t 5))⟩,⟨(some 20),(some (18,false)),(.call 29 [(.t 19)])⟩,⟨(some 21),(some (18,false)),(.un .not (.t 20))⟩,⟨some 22,none,.pick (.t 18) (.c (.bool true)) (.t 21)⟩]) (.cond (.t 22) (.seq (.reg [⟨some 6,none,.mv (.c (.bool false))⟩,⟨some 7,none,.mv (.c (.bool false))⟩]) .ret) .skip)) (.seq (.reg [⟨some 23,none,.load true 1 (.t 4)⟩,⟨some 24,none,.load true 1 (.t 5)⟩,⟨some 25,none,.call 41 [(.t 23),(.t 24)]⟩,⟨some 8,none,.mv (.t 25)⟩]) (.seq (.seq (.reg [⟨some 9,none,.mv (.c (.int .i64 0))⟩]) (.block 0 (.loop [0,0,0,1,0,0,0,0,1,1,0,0,0,0,0,0,0,0,0,0,0,0,0,0,0,0,0,0,0,0,0,0,0,0,0,0,0,0] (.seq (.seq (.reg [⟨some 26,none,.mv (.t 9)⟩,⟨some 27,none,.mv (.t 8)⟩,⟨some 28,none,.len false (.t 27)⟩,⟨some 29,none,.bin .lss false (.t 26) (.t 28)⟩]) (.cond (.t 29) .skip (.exit 0))) (.seq (.block 1 (.seq (.dreg [[],[],[0,1],[2,0,1],[],[3,2,0,1,4]] [⟨some 32,none,.mv (.t 8)⟩,⟨some 33,none,.mv (.t 9)⟩,⟨some 34,none,.iaddr 1 (.t 32) (.t 33)⟩,⟨some 35,none,.load true 1 (.t 34)⟩,⟨some 36,none,.load true 1 (.t 3)⟩,⟨some 37,none,.call 42 [(.t 35),(.t 36)]⟩]) (.cond (.t 37) (.seq (.reg [⟨some 6,none,.mv (.c (.bool true))⟩,⟨some 7,none,.mv (.c (.bool true))⟩]) .ret) .skip))) (.reg [⟨some 30,none,.mv (.t 9)⟩,⟨some 31,none,.bin .add false (.t 30) (.c (.int .i64 1))⟩,⟨some 9,none,.mv (.t 31)⟩])))))) (.seq (.reg [⟨some 6,none,.mv (.c (.bool false))⟩,⟨some 7,none,.mv (.c (.bool true))⟩]) .ret)))))
theorem DB:codeOf Tryz.prog 20=some ⟨38,CS,[(.tmp 6),(.tmp 7)]⟩:=by kernel_rfl
theorem Bz:modes 20=⟨[],.asis,none,false⟩:=by unfold modes; rfl
theorem Od (r c d:Cl) (hr:r.tame) (hc:c.tame) (hd:d.tame):E 20 [r.sv,c.sv,d.sv] []=some (.tup [.bool (Zy r c d),.bool (Jl r c d)],[]):=by
 have hsv:∀ d:Cl,d.sv=.agg [.arr (d.lits.map Lt.d)]:=fun d=>rfl
 have h1:=MG r hr
 have h2:=MG c hc
 have h3:=MG d hd
 rw [hsv] at h1 h2 h3
 rw [hsv,hsv,hsv]
 cases b1:r.ok&&r.norm with
 | false =>
  have ho:Jl r c d=false:=by unfold Jl; rw [b1]; rfl
  rw [XO ho,ho]
  rw [b1] at h1
  refine Ae DB Bz (of_decide_eq_true rfl) ?_
  simp (disch:=omega) only [CS,go_sem,Aa,h1,h2,h3,CY]
 | true =>
 rw [b1] at h1
 cases b2:c.ok&&c.norm with
 | false =>
  have ho:Jl r c d=false:=by unfold Jl; rw [b1,b2]; rfl
  rw [XO ho,ho]
  rw [b2] at h2
  refine Ae DB Bz (of_decide_eq_true rfl) ?_
  simp (disch:=omega) only [CS,go_sem,Aa,h1,h2,h3,CY]
 | true =>
 rw [b2] at h2
 cases b3:d.ok&&d.norm with
 | false =>
  have ho:Jl r c d=false:=by unfold Jl; rw [b1,b2,b3]; rfl
  rw [XO ho,ho]
  rw [b3] at h3
  refine Ae DB Bz (of_decide_eq_true rfl) ?_
  simp (disch:=omega) only [CS,go_sem,Aa,h1,h2,h3,CY]
 | true =>
 rw [b3] at h3
 have ho:Jl r c d=true:=by unfold Jl; rw [b1,b2,b3]; rfl
 rw [Qdh ho,ho]
 rw [Bool.and_eq_true] at b1 b2 b3
 have ha:=Qdj c d b2.1 b3.1 b3.2
 rw [hsv,hsv] at ha
 have hlen:=Vy (XN b2.1 b3.1)
 have hsm:∀ x∈EC [] (LN c d),x.smallC:=fun x hx=>HF (MP (fun y hy=>Oa hy) x hx)
 have hrs:=HF b1.1
 obtain ⟨us,hus⟩:∃ us,us=EC [] (LN c d):=⟨_,rfl⟩
 rw [←hus] at ha hlen hsm ⊢
 refine Ae DB Bz (of_decide_eq_true rfl) ?_
 simp (disch:=omega) only [CS,go_sem,Aa,h1,h2,h3,ha,CY,Mp]
 refine go_loop (α:=Int) (fun a=>⟨slots 38 0 [(3,.ptr 0 0),(8,.arr (us.map Cl.d)),(9,.int .i64 a)],[.box 28 [.arr (r.lits.map Lt.d)]]⟩) (fun a=>∃ k:Nat,a=k∧k≤(us).length∧dec (r∈us.drop k)=dec (r∈us)) (fun a=>(us).length-(a).toNat) 0 ⟨0,rfl,zE _,by rw [zG]⟩ (by simp (disch:=omega) only [go_sem,Aa]) ?_
 rintro i ⟨k,hi,hk,hR⟩
 have hni:i.toNat=k:=by omega
 have hni1:(i+1).toNat=k+1:=by omega
 rcases zB k (us).length with hlt | hge
 ·have hg:=get_at Cl.d hlt
  rw [Cl.d_eq] at hg
  have hs:=XK us[k] r (hsm _ (zA hlt)) hrs
  rw [hsv,hsv] at hs
  rw [zD hlt] at hR
  by_cases hp:us[k]=r
  ·have ht:dec (r∈us)=true:=As (hp▸zA hlt)
   rw [As hp] at hs
   rw [ht]
   simp (disch:=omega) only [go_sem,Aa,hni,hg,hs,DT]
  ·rw [Ay hp] at hs
   have hR:dec (r∈us.drop (k+1))=dec (r∈us):=by
    rw [←hR]
    exact ID (by simp only [List.mem_cons]; exact ⟨.inr,fun h=>h.elim (fun e=>absurd e.symm hp) id⟩)
   simp (disch:=omega) only [go_sem,Aa,hni,hg,hs,DT]
   exact ⟨i+1,⟨k+1,by omega,hlt,hR⟩,by omega,by first | trivial | rfl⟩
 ·rw [zC hge,Ay (by simp)] at hR
  rw [←hR]
  simp (disch:=omega) only [go_sem,Aa,hni]
def In:SC:=(.seq (.reg [⟨some 1,none,.boxv 28 1 (.t 0)⟩,⟨some 2,none,.alloc 28 [.nil]⟩]) (.seq (.reg [⟨some 6,none,.build [.nil] []⟩,⟨some 3,none,.alloc 28 [.nil]⟩,⟨none,none,(.store 1 (.t 3) (.t 6))⟩]) (.seq (.seq (.reg [⟨some 7,none,.faddr 0 (.t 1)⟩,⟨some 8,none,.load false 1 (.t 7)⟩,⟨some 9,none,.len false (.t 8)⟩,⟨some 10,none,.mv (.c (.int .i64 0))⟩]) (.block 0 (.loop [0,0,1,1,0,0,0,0,1,1,1,0,0,0,0,0,0,0,0,0,0,0,0] (.seq (.reg [⟨some 11,none,.bin .lss false (.t 10) (.t 9)⟩]) (.seq (.cond (.t 11) .skip (.exit 0)) (.seq (.block 1 (.seq (.reg [⟨some 12,none,.iaddr 3 (.t 8) (.t 10)⟩,⟨some 13,none,.load true 3 (.t 12)⟩,⟨(some 5),none,(.alloc 73 [(.bool false),(.str ⟨#[]⟩),.nil])⟩,⟨none,none,(.store 3 (.t 5) (.t 13))⟩]) (.dreg [[],[0],[],[2],[3,2],[1,0,4,3,2],[0,1,2,3,4,5],[6,0,1,2,3,4,5]] [⟨some 14,none,.faddr 0 (.t 3)⟩,⟨some 15,none,.load false 1 (.t 14)⟩,⟨some 16,none,.load true 3 (.t 5)⟩,⟨some 17,none,.call 169 [(.t 16)]⟩,⟨(some 18),none,(.mkrow 73 3 [(.bool false),(.str ⟨#[]⟩),.nil] 1 [(0,(.t 17))])⟩,⟨(some 19),none,(.append 73 3 48 [(.bool false),(.str ⟨#[]⟩),.nil] (.t 15) (.t 18))⟩,⟨some 20,none,.faddr 0 (.t 3)⟩,⟨none,none,(.store 1 (.t 20) (.t 19))⟩]))) (.reg [⟨some 21,none,.bin .add false (.t 10) (.c (.int .i64 1))⟩,⟨some 10,none,.mv (.t 21)⟩]))))))) (.seq (.reg [⟨some 22,none,.load true 1 (.t 3)⟩,⟨none,none,(.store 1 (.t 2) (.t 22))⟩]) .ret))))
theorem Oe:codeOf Tryz.prog 139=some ⟨23,In,[(.cell 2 true 1)]⟩:=by kernel_rfl
theorem Io:modes 139=⟨[],.own [some (73,3)],none,false⟩:=by unfold modes; rfl
theorem Vz (c:Cl) (hl:c.lits.length≤1048576) (hf:∀ x∈c.lits,x.atom.nodes≤1099511627776):E 139 [c.sv] []=some (c.osv,c.obs):=by
 have h10:((1:Int)=0)=False:=by simp
 obtain ⟨l,hcl⟩:∃ l,l=c.lits:=⟨_,rfl⟩
 have e0:c.sv=.agg [.arr (l.map Lt.d)]:=by rw [hcl]; first | done | rfl
 have e1:c.osv=.agg [.ref 0]:=rfl
 have e2:c.obs=[.row 73 3 (l.map Lt.o)]:=by rw [hcl]; first | done | rfl
 rw [e0,e1,e2]
 rw [←hcl] at hl hf
 clear hcl e0 e1 e2
 refine Ae Oe Io (of_decide_eq_true rfl) ?_
 simp (disch:=omega) only [In,go_sem,Aa]
 refine go_loop (α:=Int) (fun a=>⟨slots 23 0 [(2,.ptr 0 0),(3,.ptr 1 0),(8,.arr (l.map Lt.d)),(9,.int .i64 l.length),(10,.int .i64 a)],(if a=0 then [.box 28 [.nil],.box 28 [.nil]] else [.box 28 [.nil],.box 28 [.ref 2],.row 73 3 ((l.take a.toNat).map Lt.o)])⟩) (fun a=>∃ k:Nat,a=k∧k≤(l).length) (fun a=>(l).length-(a).toNat) 0 ⟨0,rfl,zE _⟩ (by simp (disch:=omega) only [go_sem,Aa,eq_self,if_true]) ?_
 rintro i ⟨k,hi,hk⟩
 have hni:i.toNat=k:=by omega
 have hni1:(i+1).toNat=k+1:=by omega
 rcases zB k (l).length with hlt | hge
 ·have hg:=get_at Lt.d hlt
  rw [Lt.d_eq] at hg
  have hc:=Mb l[k] (hf _ (zA hlt))
  have hs:=DJ Lt.o hlt
  rw [Lt.o_eq] at hs
  rcases zK k with h0 | h0
  ·subst h0
   obtain rfl:i=0:=hi
   rw [List.take_zero,zO,List.nil_append] at hs
   simp (disch:=omega) only [go_sem,Aa,hni,hg,hc,CO,eq_self,if_true]
   refine ⟨1,⟨1,rfl,hlt⟩,by omega,?_⟩
   simp (disch:=omega) only [go_sem,Aa,h10,if_false,hs]
  ·have hi0:(i=0)=False:=by simp; omega
   have hi1:(i+1=0)=False:=by simp; omega
   have htl:(l.take k).length=k:=by rw [zR]; omega
   simp (disch:=omega) only [go_sem,Aa,hni,hg,hc,CO,hi0,if_false,htl]
   refine ⟨i+1,⟨k+1,by omega,hlt⟩,by omega,?_⟩
   simp (disch:=omega) only [go_sem,Aa,hni1,hi1,if_false,hs]
 ·obtain rfl:k=l.length:=by omega
  have ht:l.take l.length=l:=List.take_length
  rcases zK l.length with h0 | h0
  ·have hx:l=[]:=zJ h0
   obtain rfl:i=0:=by omega
   rw [hx]
   simp (disch:=omega) only [go_sem,Aa,hni,eq_self,if_true,zO]
  ·have hi0:(i=0)=False:=by simp; omega
   simp (disch:=omega) only [go_sem,Aa,hni,hi0,if_false,ht]
def GH:SC:=(.seq (.reg [⟨some 1,none,.boxv 28 1 (.t 0)⟩,⟨some 2,none,.mv (.c (.bool false))⟩]) (.seq (.seq (.reg [⟨some 5,none,.load true 1 (.t 1)⟩,⟨some 6,none,.call 84 [(.t 5)]⟩,⟨some 7,none,.len false (.t 6)⟩,⟨some 8,none,.mv (.c (.int .i64 0))⟩]) (.block 0 (.loop [0,0,0,0,0,0,1,1,1,0,0,0,0,0,0,0,0,0,0] (.seq (.reg [⟨some 9,none,.bin .lss false (.t 8) (.t 7)⟩]) (.seq (.cond (.t 9) .skip (.exit 0)) (.seq (.block 1 (.seq (.reg [⟨some 10,none,.mv (.t 8)⟩,⟨some 11,none,.iaddr 1 (.t 6) (.t 8)⟩,⟨some 12,none,.load false 1 (.t 11)⟩,⟨some 3,none,.mv (.t 10)⟩,⟨some 4,none,.mv (.t 12)⟩]) (.seq (.reg [⟨some 13,none,.mv (.t 4)⟩,⟨some 14,none,.mv (.t 3)⟩,⟨some 15,none,.call 85 [(.t 14)]⟩,⟨(some 16),none,(.bin .add false (.c (.str ⟨#[88]⟩)) (.t 15))⟩,⟨some 17,none,.bin .neq false (.t 13) (.t 16)⟩]) (.cond (.t 17) (.seq (.reg [⟨some 2,none,.mv (.c (.bool false))⟩]) .ret) .skip)))) (.reg [⟨some 18,none,.bin .add false (.t 8) (.c (.int .i64 1))⟩,⟨some 8,none,.mv (.t 18)⟩]))))))) (.seq (.reg [⟨some 2,none,.mv (.c (.bool true))⟩]) .ret)))
theorem LO:codeOf Tryz.prog 55=some ⟨19,GH,[(.tmp 2)]⟩:=by kernel_rfl
theorem CD:modes 55=⟨[],.asis,none,false⟩:=by unfold modes; rfl
theorem Lj (c:Cl) (hc:c.ok=true):E 55 [c.sv] []=some (.bool c.norm,[]):=by
 have h1:=OS c hc
 have hn:=Cl.ME hc
 have hcs:c.sv=.agg [.arr (c.lits.map Lt.d)]:=rfl
 obtain ⟨ns,hns⟩:∃ ns,ns=c.ns:=⟨_,rfl⟩
 rw [show CB [] (Lt.vsL c.lits)=ns from hns.symm] at h1
 have hnm:c.norm=dec (NG ns):=by unfold Cl.norm; rw [hns]
 rw [←hns] at hn
 rw [hnm]
 refine Ae LO CD (of_decide_eq_true rfl) ?_
 simp (disch:=omega) only [GH,go_sem,Aa,h1,Du]
 refine go_loop (α:=Int) (fun a=>⟨slots 19 0 [(6,.ref 0),(7,.int .i64 ns.length),(8,.int .i64 a)],[.row 9 1 (ns.map fun s=>[OT.str s])]⟩) (fun a=>∃ k:Nat,a=k∧k≤(ns).length∧∀ (j:Nat),j<k→∀ hj:j<ns.length,ns[j]=pre LL (j:Nat)) (fun a=>(ns).length-(a).toNat) 0 ⟨0,rfl,zE _,fun j hj=>absurd hj (Nat.not_lt_zero _)⟩ (by simp (disch:=omega) only [go_sem,Aa]) ?_
 rintro i ⟨k,hi,hk,hR⟩
 have hni:i.toNat=k:=by omega
 have hni1:(i+1).toNat=k+1:=by omega
 rcases zB k (ns).length with hlt | hge
 ·have hg:=get_at (fun s=>[OT.str s]) hlt
  have hit:=QcA i (by omega) (by omega)
  have hz:=FP (show 0≤i by omega) (show i≤1099511627776 by omega)
  have hb:dec ((#[88]:Array UInt8).size+(Fn i).size≤9223372036854775807)=true:=As (by simp; omega)
  by_cases he:ns[k]=pre LL (k:Nat)
  ·have he':dec (ns[k]=(⟨#[88]⟩:ByteArray)++Fn i)=true:=As (by rw [he,hi]; rfl)
   simp (disch:=omega) only [go_sem,Aa,hni,hg,hit,hb,he',F1]
   refine ⟨i+1,⟨k+1,by omega,hlt,fun j hj hjl=>?_⟩,by omega,by first | trivial | rfl⟩
   rcases zB j k with h2 | h2
   ·exact hR j h2 hjl
   ·obtain rfl:j=k:=by omega
    exact he
  ·have he':dec (ns[k]=(⟨#[88]⟩:ByteArray)++Fn i)=false:=Ay (fun e=>he (by rw [e,hi]; rfl))
   have hno:dec (NG ns)=false:=Ay fun h=>he (h k hlt)
   rw [hno]
   simp (disch:=omega) only [go_sem,Aa,hni,hg,hit,hb,he',F1]
 ·have hy:dec (NG ns)=true:=As fun j hj=>hR j (by omega) hj
  rw [hy]
  simp (disch:=omega) only [go_sem,Aa,hni]
def GF:SC:=(.seq (.reg [⟨some 1,none,.boxv 28 1 (.t 0)⟩,⟨some 2,none,.mv (.c (.bool false))⟩]) (.seq (.reg [⟨some 3,none,.load true 1 (.t 1)⟩,⟨some 4,none,.call 54 [(.t 3)]⟩,⟨some 5,none,.mv (.t 4)⟩,⟨(some 6),(some (5,true)),(.load true 1 (.t 1))⟩,⟨(some 7),(some (5,true)),(.call 55 [(.t 6)])⟩,⟨some 8,none,.pick (.t 5) (.t 7) (.c (.bool false))⟩,⟨some 2,none,.mv (.t 8)⟩]) .ret))
theorem Kd:codeOf Tryz.prog 32=some ⟨9,GF,[(.tmp 2)]⟩:=by kernel_rfl
theorem B4:modes 32=⟨[],.asis,none,false⟩:=by unfold modes; rfl
theorem JG (c:Cl) (hc:c.tame):E 32 [c.sv] []=some (.bool (c.ok&&c.norm),[]):=by
 have h1:=G9 c hc
 cases hv:c.ok with
 | false =>
  rw [hv] at h1
  refine Ae Kd B4 (of_decide_eq_true rfl) ?_
  simp (disch:=omega) only [GF,go_sem,Aa,h1,Cz]
 | true =>
  rw [hv] at h1
  have h2:=Lj c hv
  refine Ae Kd B4 (of_decide_eq_true rfl) ?_
  simp (disch:=omega) only [GF,go_sem,Aa,h1,h2,Cz,CD]
def Ke:SC:=(.seq (.reg [⟨some 4,none,.mv (.c (.mp true nomap))⟩]) (.seq (.reg [⟨some 8,none,.mkmap true none⟩,⟨some 5,none,.mv (.t 8)⟩]) (.seq (.seq (.reg [⟨some 9,none,.mv (.t 0)⟩,⟨some 10,none,.len false (.t 9)⟩,⟨some 11,none,.mv (.c (.int .i64 0))⟩]) (.block 0 (.loop [0,1,0,0,0,1,0,0,0,1,1,1,0,0,0,0,0,0,0,0,0,0,0,0] (.seq (.reg [⟨some 12,none,.bin .lss false (.t 11) (.t 10)⟩]) (.seq (.cond (.t 12) .skip (.exit 0)) (.seq (.block 1 (.seq (.reg [⟨some 13,none,.mv (.t 11)⟩,⟨some 14,none,.iaddr 1 (.t 9) (.t 11)⟩,⟨some 15,none,.load false 1 (.t 14)⟩,⟨some 6,none,.mv (.t 13)⟩,⟨some 7,none,.mv (.t 15)⟩]) (.reg [⟨some 16,none,.mv (.t 5)⟩,⟨some 17,none,.mv (.t 7)⟩,⟨some 18,none,.mv (.t 1)⟩,⟨some 19,none,.mv (.t 6)⟩,⟨some 20,none,.call 85 [(.t 19)]⟩,⟨some 21,none,.bin .add false (.t 18) (.t 20)⟩,⟨none,none,(.mset true (.t 16) (.t 17) (.t 21))⟩]))) (.reg [⟨some 22,none,.bin .add false (.t 11) (.c (.int .i64 1))⟩,⟨some 11,none,.mv (.t 22)⟩]))))))) (.seq (.reg [⟨some 23,none,.mv (.t 5)⟩,⟨some 4,none,.mv (.t 23)⟩]) .ret))))
theorem Qa:codeOf Tryz.prog 140=some ⟨24,Ke,[(.tmp 4)]⟩:=by kernel_rfl
theorem EU:modes 140=⟨[],.frz,none,false⟩:=by unfold modes; rfl
theorem XP (p:ByteArray):Fh (Dv p [])=nomap:=Zj
theorem Zz (ns:List ByteArray) (hn:ns.length≤1048576) (p:ByteArray) (hp:p.size≤1048576):E 140 [.arr (ns.map fun s=>[D.str s]),.str p] []=some (.mp true (Fh (Dv p ns)),[]):=by
 have h0:=XP p
 refine Ae Qa EU (of_decide_eq_true rfl) ?_
 simp (disch:=omega) only [Ke,go_sem,Aa]
 refine go_loop (α:=Int) (fun a=>⟨slots 24 0 [(1,.str p),(5,.ref 0),(9,.arr (ns.map fun s=>[D.str s])),(10,.int .i64 ns.length),(11,.int .i64 a)],[.mp true (Fh (Dv p (ns.take a.toNat)))]⟩) (fun a=>∃ k:Nat,a=k∧k≤(ns).length) (fun a=>(ns).length-(a).toNat) 0 ⟨0,rfl,zE _⟩ (by simp (disch:=omega) only [go_sem,Aa,h0]) ?_
 rintro i ⟨k,hi,hk⟩
 have hni:i.toNat=k:=by omega
 have hni1:(i+1).toNat=k+1:=by omega
 rcases zB k (ns).length with hlt | hge
 ·have hg:=get_at (fun s=>[D.str s]) hlt
  have hit:=QcA i (by omega) (by omega)
  have hz:=FP (show 0≤i by omega) (show i≤1099511627776 by omega)
  have hb:dec (p.size+(Fn i).size≤9223372036854775807)=true:=As (by omega)
  have hs:Om (Fh (Dv p (ns.take k))) (.str ns[k]) (false,[.str (p++Fn i)])=Fh (Dv p (ns.take (k+1))):=by
   rw [TY,LF p hlt,hi]; rfl
  simp (disch:=omega) only [go_sem,Aa,hni,hg,hit,hb,hs,F1]
  refine ⟨i+1,⟨k+1,by omega,hlt⟩,by omega,?_⟩
  simp (disch:=omega) only [go_sem,Aa,hni1]
 ·have ht:ns.take k=ns:=zH hge
  simp (disch:=omega) only [go_sem,Aa,hni,ht]
def G0:SC:=(.seq (.reg [⟨some 2,none,.boxv 28 1 (.t 0)⟩,⟨some 4,none,.alloc 28 [.nil]⟩]) (.seq (.reg [⟨(some 8),none,(.mkrow 73 3 [(.bool false),(.str ⟨#[]⟩),.nil] 0 [])⟩,⟨some 5,none,.mv (.t 8)⟩]) (.seq (.seq (.reg [⟨some 9,none,.faddr 0 (.t 2)⟩,⟨some 10,none,.load false 1 (.t 9)⟩,⟨some 11,none,.len false (.t 10)⟩,⟨some 12,none,.mv (.c (.int .i64 0))⟩]) (.block 0 (.loop [0,1,0,0,1,1,0,0,0,0,1,1,1,0,0,0,0,0,0,0,0,0,0,0,0,0,0,0,0] (.seq (.reg [⟨some 13,none,.bin .lss false (.t 12) (.t 11)⟩]) (.seq (.cond (.t 13) .skip (.exit 0)) (.seq (.block 1 (.seq (.reg [⟨some 14,none,.iaddr 3 (.t 10) (.t 12)⟩,⟨some 15,none,.load true 3 (.t 14)⟩,⟨(some 7),none,(.alloc 73 [(.bool false),(.str ⟨#[]⟩),.nil])⟩,⟨none,none,(.store 3 (.t 7) (.t 15))⟩]) (.dreg [[],[],[1],[],[3],[],[4,3,5],[2,1,6,4,3,5],[7,2,1,6,4,3,5],[0,8,7,2,1,6,4,3,5],[9,0,8,7,2,1,6,4,3,5]] [⟨some 16,none,.mv (.t 5)⟩,⟨some 17,none,.faddr 0 (.t 7)⟩,⟨some 18,none,.load false 1 (.t 17)⟩,⟨some 19,none,.faddr 1 (.t 7)⟩,⟨some 20,none,.load true 2 (.t 19)⟩,⟨some 21,none,.mv (.t 1)⟩,⟨some 22,none,.call 143 [(.t 20),(.t 21)]⟩,⟨(some 23),none,(.build [(.bool false),(.str ⟨#[]⟩),.nil] [(0,(1,(.t 18))),(1,(2,(.t 22)))])⟩,⟨(some 24),none,(.mkrow 73 3 [(.bool false),(.str ⟨#[]⟩),.nil] 1 [(0,(.t 23))])⟩,⟨(some 25),none,(.append 73 3 48 [(.bool false),(.str ⟨#[]⟩),.nil] (.t 16) (.t 24))⟩,⟨some 5,none,.mv (.t 25)⟩]))) (.reg [⟨some 26,none,.bin .add false (.t 12) (.c (.int .i64 1))⟩,⟨some 12,none,.mv (.t 26)⟩]))))))) (.seq (.reg [⟨some 27,none,.mv (.t 5)⟩,⟨some 28,none,.call 138 [(.t 27)]⟩,⟨none,none,(.store 1 (.t 4) (.t 28))⟩]) .ret))))
theorem Lk:codeOf Tryz.prog 98=some ⟨29,G0,[(.cell 4 true 1)]⟩:=by kernel_rfl
theorem C2:modes 98=⟨[],.own [some (73,3)],none,false⟩:=by unfold modes; rfl
theorem Kf (c:Cl) (hc:c.ok=true) (e:SEnv) (he:NF e):E 98 [c.sv,.mp true (Fh e)] []=some ((c.rn e).osv,(c.rn e).obs):=by
 have hl:=Cl.ok_len hc
 have hcs:c.sv=.agg [.arr (c.lits.map Lt.d)]:=rfl
 have hat:=Lt.RU he (Cl.Dc hc)
 have hco:=R9 (c.lits.map (Lt.rn e)) (by rw [zI]; omega) (fun x hx=>OV (hat x hx))
 rw [show mkC (c.lits.map (Lt.rn e))=c.rn e from rfl] at hco
 have her:=Lt.erss (c.lits.map (Lt.rn e))
 refine Ae Lk C2 (of_decide_eq_true rfl) ?_
 simp (disch:=omega) only [G0,go_sem,Aa]
 refine go_loop (α:=Int) (fun a=>⟨slots 29 0 [(1,.mp true (Fh e)),(4,.ptr 0 0),(5,.ref 1),(10,.arr (c.lits.map Lt.d)),(11,.int .i64 c.lits.length),(12,.int .i64 a)],[.box 28 [.nil],.row 73 3 (((c.lits.map (Lt.rn e)).take a.toNat).map Lt.o)]⟩) (fun a=>∃ k:Nat,a=k∧k≤(c.lits).length) (fun a=>(c.lits).length-(a).toNat) 0 ⟨0,rfl,zE _⟩ (by simp (disch:=omega) only [go_sem,Aa]) ?_
 rintro i ⟨k,hi,hk⟩
 have hni:i.toNat=k:=by omega
 have hni1:(i+1).toNat=k+1:=by omega
 rcases zB k (c.lits).length with hlt | hge
 ·have hg:=get_at Lt.d hlt
  rw [Lt.d_eq] at hg
  have hnn:=Tm.CQ (Cl.J8 hc hlt)
  have hr:=Uc e c.lits[k].atom (by omega)
  unfold RnC at hr
  have hrs:c.lits[k].atom.sv=.agg [.str c.lits[k].atom.name,.arr (c.lits[k].atom.args.map Tm.d)]:=rfl
  have hlm:k<(c.lits.map (Lt.rn e)).length:=by rw [zI]; exact hlt
  have hs:=DJ Lt.o hlm
  rw [Lt.o_eq,List.getElem_map] at hs
  have hs':((c.lits.map (Lt.rn e)).take k).map Lt.o++[[OT.bool c.lits[k].pos,OT.str (c.lits[k].atom.rn e).name,OT.ow ((c.lits[k].atom.rn e).args.map Tm.o)]]=((c.lits.map (Lt.rn e)).take (k+1)).map Lt.o:=hs
  have htl:((c.lits.map (Lt.rn e)).take k).length=k:=by rw [zR,zI]; omega
  simp (disch:=omega) only [go_sem,Aa,hni,hg,hr,hrs,htl,Tm.osv,Tm.obs,BB]
  refine ⟨i+1,⟨k+1,by omega,hlt⟩,by omega,?_⟩
  simp (disch:=omega) only [go_sem,Aa,hni1,hs']
 ·have ht:(c.lits.map (Lt.rn e)).take k=c.lits.map (Lt.rn e):=zH (by rw [zI]; exact hge)
  simp (disch:=omega) only [go_sem,Aa,hni,ht,hco,her,Lt.noss,Lt.fus,CW]
def Jm:SC:=(.seq (.reg [⟨some 1,none,.boxv 28 1 (.t 0)⟩,⟨some 2,none,.alloc 28 [.nil]⟩]) (.seq (.reg [⟨some 5,none,.load true 1 (.t 1)⟩,⟨some 6,none,.call 139 [(.t 5)]⟩,⟨some 3,none,.alloc 28 [.nil]⟩,⟨none,none,(.store 1 (.t 3) (.t 6))⟩]) (.seq (.seq (.reg [⟨some 4,none,.mv (.c (.int .i64 0))⟩]) (.block 0 (.loop [0,0,1,1,1,0,0,0,0,0,0,0,0,0,0,0,0,0,0,0,0,0] (.seq (.seq (.reg [⟨some 7,none,.mv (.t 4)⟩,⟨some 8,none,.bin .lss false (.t 7) (.c (.int .i64 10))⟩,⟨some 9,none,.mv (.t 8)⟩,⟨(some 10),(some (9,true)),(.load true 1 (.t 3))⟩,⟨(some 11),(some (9,true)),(.call 55 [(.t 10)])⟩,⟨(some 12),(some (9,true)),(.un .not (.t 11))⟩,⟨some 13,none,.pick (.t 9) (.t 12) (.c (.bool false))⟩]) (.cond (.t 13) .skip (.exit 0))) (.seq (.block 1 (.dreg [[],[],[1],[2,1],[0,3,2,1],[4,0,3,2,1]] [⟨some 16,none,.load true 1 (.t 3)⟩,⟨some 17,none,.load true 1 (.t 3)⟩,⟨some 18,none,.call 84 [(.t 17)]⟩,⟨(some 19),none,(.call 140 [(.t 18),(.c (.str ⟨#[88]⟩))])⟩,⟨some 20,none,.call 98 [(.t 16),(.t 19)]⟩,⟨none,none,(.store 1 (.t 3) (.t 20))⟩])) (.reg [⟨some 14,none,.mv (.t 4)⟩,⟨some 15,none,.bin .add false (.t 14) (.c (.int .i64 1))⟩,⟨some 4,none,.mv (.t 15)⟩])))))) (.seq (.reg [⟨some 21,none,.load true 1 (.t 3)⟩,⟨none,none,(.store 1 (.t 2) (.t 21))⟩]) .ret))))
theorem Ph:codeOf Tryz.prog 93=some ⟨22,Jm,[(.cell 2 true 1)]⟩:=by kernel_rfl
theorem FW:modes 93=⟨[],.own [some (73,3)],none,false⟩:=by unfold modes; rfl
theorem XQ (c:Cl) (hc:c.ok=true):E 93 [c.sv] []=some ((nz 10 c).osv,(nz 10 c).obs):=by
 have hl:=Cl.ok_len hc
 have h1:=Vz c (by omega) (fun x hx=>by have:=Tm.CQ (Cl.Dc hc x hx); omega)
 have hcs:∀ d:Cl,Cl.osv d=.agg [.ref 0]:=fun d=>rfl
 have hob:∀ d:Cl,Cl.obs d=[.row 73 3 (d.lits.map Lt.o)]:=fun d=>rfl
 have hsv:∀ d:Cl,d.sv=.agg [.arr (d.lits.map Lt.d)]:=fun d=>rfl
 rw [hcs,hob] at h1
 rw [hcs,hob]
 refine Ae Ph FW (of_decide_eq_true rfl) ?_
 simp (disch:=omega) only [Jm,go_sem,Aa,h1,Io]
 refine go_loop (α:=Int × Cl) (fun a=>⟨slots 22 0 [(2,.ptr 0 0),(3,.ptr 1 0),(4,.int .i64 a.1)],[.box 28 [.nil],.box 28 [.ref 2],.row 73 3 (a.2.lits.map Lt.o)]⟩) (fun a=>∃ k:Nat,a.1=k∧k≤10∧a.2.ok=true∧nz (10-k) a.2=nz 10 c) (fun a=>10-a.1.toNat) (0,c) ⟨0,rfl,zE _,hc,rfl⟩ (by simp (disch:=omega) only [go_sem,Aa]) ?_
 rintro ⟨i,d⟩ ⟨k,hi,hk,hd,hR⟩
 dsimp only at hi hd hR
 have n1:=Lj d hd
 have n2:=OS d hd
 have n3:=Zz d.ns (by have:=Cl.ME hd; omega) ⟨#[88]⟩ (by decide +kernel)
 have n4:=Kf d hd (Dv ⟨#[88]⟩ d.ns) (Cl.xE hd)
 rw [show CB [] (Lt.vsL d.lits)=d.ns from rfl] at n2
 rw [hcs,hob] at n4
 rw [hsv] at n1 n2 n4
 have her:=Lt.erss d.lits
 rcases zB k 10 with hlt | hge
 ·obtain ⟨m,hm⟩:∃ m,10-k=m+1:=⟨9-k,by omega⟩
  rw [hm,nz] at hR
  cases hn:d.norm with
  | true =>
   rw [hn,cond_true] at hR
   rw [hn] at n1
   rw [←hR]
   simp (disch:=omega) only [go_sem,Aa,n1,n2,n3,n4,her,Lt.noss,Lt.fus,CD,Du,EU,C2]
  | false =>
   rw [hn,cond_false] at hR
   rw [hn] at n1
   simp (disch:=omega) only [go_sem,Aa,n1,n2,n3,n4,her,Lt.noss,Lt.fus,CD,Du,EU,C2]
   refine ⟨(i+1,d.rn (Dv LL d.ns)),⟨k+1,by dsimp only; omega,by omega,Cl.Qau (Cl.xE hd) hd,by rw [show 10-(k+1)=m by omega]; exact hR⟩,by dsimp only; omega,?_⟩
   first | trivial | rfl
 ·obtain rfl:k=10:=by omega
  have hR:d=nz 10 c:=hR
  rw [←hR]
  simp (disch:=omega) only [go_sem,Aa,n1,n2,n3,n4,her,Lt.noss,Lt.fus,CD,Du,EU,C2]
def Of:SC:=(.seq (.reg [⟨some 1,none,.boxv 28 1 (.t 0)⟩,⟨some 2,none,.alloc 28 [.nil]⟩]) (.seq (.reg [⟨some 6,none,.mkmap true none⟩,⟨some 3,none,.mv (.t 6)⟩]) (.seq (.seq (.reg [⟨some 7,none,.load true 1 (.t 1)⟩,⟨some 8,none,.call 84 [(.t 7)]⟩,⟨some 9,none,.len false (.t 8)⟩,⟨some 10,none,.mv (.c (.int .i64 0))⟩]) (.block 0 (.loop [0,1,1,1,0,0,0,0,1,1,1,0,0,0,0,0,0,0,0,0,0,0,0] (.seq (.reg [⟨some 11,none,.bin .lss false (.t 10) (.t 9)⟩]) (.seq (.cond (.t 11) .skip (.exit 0)) (.seq (.block 1 (.seq (.reg [⟨some 12,none,.iaddr 1 (.t 8) (.t 10)⟩,⟨some 13,none,.load false 1 (.t 12)⟩,⟨some 5,none,.mv (.t 13)⟩]) (.reg [⟨some 14,none,.mv (.t 3)⟩,⟨some 15,none,.mv (.t 5)⟩,⟨some 16,none,.mv (.t 5)⟩,⟨some 17,none,.slice true 0 (.t 16) (some (.c (.int .i64 1))) none⟩,⟨(some 18),none,(.bin .add false (.c (.str ⟨#[89]⟩)) (.t 17))⟩,⟨none,none,(.mset true (.t 14) (.t 15) (.t 18))⟩]))) (.reg [⟨some 19,none,.bin .add false (.t 10) (.c (.int .i64 1))⟩,⟨some 10,none,.mv (.t 19)⟩]))))))) (.seq (.reg [⟨some 20,none,.load true 1 (.t 1)⟩,⟨some 21,none,.mv (.t 3)⟩,⟨some 22,none,.call 98 [(.t 20),(.t 21)]⟩,⟨none,none,(.store 1 (.t 2) (.t 22))⟩]) .ret))))
theorem V3:codeOf Tryz.prog 66=some ⟨23,Of,[(.cell 2 true 1)]⟩:=by kernel_rfl
theorem JH:modes 66=⟨[],.frz,none,false⟩:=by unfold modes; rfl
theorem Qeq {p:ByteArray} (hp:p.size=1) (n:Int):(pre p n).extract 1 (pre p n).size=Fn n:=by
 unfold pre
 rw [zS,ByteArray.extract_append_eq_right hp.symm rfl]
theorem QeZ {p:ByteArray} (hp:p.size=1) (n:Int):(pre p n).size=1+(Fn n).size:=by
 unfold pre
 rw [zS,hp]
theorem Qer (c:Cl) (hc:c.ok=true) (hnm:c.norm=true):E 66 [c.sv] []=some ((c.rn (Dv Gt c.ns)).sv,[]):=by
 have hl:=Cl.ok_len hc
 have hnn:=Cl.ME hc
 have n2:=OS c hc
 have n4:=Kf c hc (Dv Gt c.ns) (Cl.yE hc)
 have hnl:NG c.ns:=Av.1 hnm
 have hcs:∀ d:Cl,Cl.osv d=.agg [.ref 0]:=fun d=>rfl
 have hob:∀ d:Cl,Cl.obs d=[.row 73 3 (d.lits.map Lt.o)]:=fun d=>rfl
 have hsv:∀ d:Cl,d.sv=.agg [.arr (d.lits.map Lt.d)]:=fun d=>rfl
 rw [show CB [] (Lt.vsL c.lits)=c.ns from rfl] at n2
 rw [hcs,hob] at n4
 have her:=Lt.erss (c.rn (Dv Gt c.ns)).lits
 rw [hsv] at n2 n4
 obtain ⟨ns,hns⟩:∃ ns,ns=c.ns:=⟨_,rfl⟩
 rw [←hns] at hnl hnn n2 n4 her ⊢
 have h0:=XP Gt
 rw [hsv,hsv]
 refine Ae V3 JH (of_decide_eq_true rfl) ?_
 simp (disch:=omega) only [Of,go_sem,Aa,n2,Du]
 refine go_loop (α:=Int) (fun a=>⟨slots 23 0 [(1,.ptr 0 0),(2,.ptr 1 0),(3,.ref 2),(8,.ref 3),(9,.int .i64 ns.length),(10,.int .i64 a)],[.box 28 [.arr (c.lits.map Lt.d)],.box 28 [.nil],.mp true (Fh (Dv Gt (ns.take a.toNat))),.row 9 1 (ns.map fun s=>[OT.str s])]⟩) (fun a=>∃ k:Nat,a=k∧k≤(ns).length) (fun a=>(ns).length-(a).toNat) 0 ⟨0,rfl,zE _⟩ (by simp (disch:=omega) only [go_sem,Aa,h0]) ?_
 rintro i ⟨k,hi,hk⟩
 have hni:i.toNat=k:=by omega
 have hni1:(i+1).toNat=k+1:=by omega
 rcases zB k (ns).length with hlt | hge
 ·have hg:=get_at (fun s=>[OT.str s]) hlt
  have hz:=FP (show 0≤i by omega) (show i≤1099511627776 by omega)
  have hcut:=Qeq (p:=LL) (by decide +kernel) i
  have hsz:=QeZ (p:=LL) (by decide +kernel) i
  obtain ⟨nm,hnm'⟩:∃ nm,nm=ns[k]:=⟨_,rfl⟩
  have hk1:nm=pre LL i:=by rw [hnm',hnl k hlt,hi]
  rw [←hk1] at hcut hsz
  rw [hsz] at hcut
  have hb:dec ((#[89]:Array UInt8).size+(Fn i).size≤9223372036854775807)=true:=As (by simp; omega)
  have hs:Om (Fh (Dv Gt (ns.take k))) (.str nm) (false,[.str ((⟨#[89]⟩:ByteArray)++Fn i)])=Fh (Dv Gt (ns.take (k+1))):=by
   rw [TY,LF Gt hlt,hi,hnm']; rfl
  rw [←hnm'] at hg
  clear hk1 hnm'
  simp (disch:=omega) only [go_sem,Aa,hni,hg,hb,hs,hsz,hcut]
  refine ⟨i+1,⟨k+1,by omega,hlt⟩,by omega,?_⟩
  simp (disch:=omega) only [go_sem,Aa,hni1]
 ·have ht:ns.take k=ns:=zH hge
  simp (disch:=omega) only [go_sem,Aa,hni,ht,n4,her,Lt.noss,Lt.fus,C2]
theorem Up {α β:Type} (g:α→β):∀ (l:List α) (i:Nat),(l.map g).eraseIdx i=(l.eraseIdx i).map g
 | [],i=>by cases i <;> rfl
 | a :: l,0=>rfl
 | a :: l,i+1=>by
  show g a :: (l.map g).eraseIdx i=g a :: (l.eraseIdx i).map g
  rw [Up g l i]
noncomputable def Lt.ds (l:List Lt):List (List OT):=l.map fun b=>b.d.map D.ot
theorem Lt.Qfw (l:List Lt):OT.erss (Lt.ds l)=l.map Lt.d:=Lt.der l
theorem Lt.Qfx (l:List Lt):OT.AO (Lt.ds l)=true:=Lt.dfu l
theorem Lt.Qfa (a b:List Lt):Lt.ds a++Lt.ds b=Lt.ds (a++b):=by unfold Lt.ds; rw [zM]
theorem Lt.V4 (a:List Lt):(Lt.ds a).length=a.length:=by unfold Lt.ds; rw [zI]
theorem Lt.Qfb (a:List Lt):((Lt.ds a).all fun l=>l.length == 3)=true:=by
 unfold Lt.ds
 rw [List.all_eq_true]
 intro e he
 obtain ⟨b,_,rfl⟩:=List.mem_map.1 he
 rfl
theorem Lt.Qfy (a:List Lt):((a.map Lt.d).map fun x=>x.map D.ot)=Lt.ds a:=by unfold Lt.ds; rw [List.map_map]; rfl
theorem Cn:modes 95=⟨[],.asis,some O8,false⟩:=by unfold modes; rfl
theorem Ce:modes 94=⟨[true],.asis,some L3,false⟩:=by unfold modes; rfl
theorem AR:modes 99=⟨[true],.asis,some P4,false⟩:=by unfold modes; rfl
theorem Qb2 (xs:List Lt) (h0:xs≠[]) (h:xs.length≤1048576):E 95 [.arr (xs.map Lt.d)] []=some (.ref 0,[.row 73 3 (Lt.ds xs)]):=by
 rw [Ho (g:=O8) (congrArg FM.ext Cn)]
 unfold O8
 simp only
 rw [As ⟨by simpa using h0,by simpa using h,fun e he=>by obtain ⟨b,_,rfl⟩:=List.mem_map.1 he; rfl⟩,cond_true,Lt.Qfy]
theorem Z0 (xs:List Lt) (i:Int) (h0:0≤i) (h1:i.toNat<xs.length) (h:xs.length≤1048576):E 94 [.ref 0,.int .i64 i,.int .i64 (i+1)] [.row 73 3 (Lt.ds xs)]=some (.ref 1,[.gone,.row 73 3 (Lt.ds (xs.eraseIdx i.toNat))]):=by
 rw [Ho (g:=L3) (congrArg FM.ext Ce)]
 unfold L3
 simp only
 rw [As ⟨trivial,h0,by rw [Lt.V4]; exact h1,trivial,by rw [Lt.V4]; omega⟩,cond_true]
 unfold Lt.ds
 rw [Up]
theorem Qdk:E 99 [.nil,.int .i64 0] []=some (.nil,[]):=by
 rw [Ho (g:=P4) (congrArg FM.ext AR)]
 unfold P4
 simp only
 rw [As trivial,cond_true]
theorem Qdl (n:Int) (h:0<n) (h1:n≤1048576):E 99 [.nil,.int .i64 n] []=some (.ref 0,[.row 73 3 []]):=by
 rw [Ho (g:=P4) (congrArg FM.ext AR)]
 unfold P4
 simp only
 rw [Ay (by omega),cond_false,As ⟨h,h1⟩,cond_true]
def Ll:SC:=(.seq (.reg [⟨some 2,none,.boxv 28 1 (.t 0)⟩,⟨some 4,none,.mv (.c .nil)⟩]) (.seq (.reg [⟨some 5,none,.faddr 0 (.t 2)⟩,⟨some 6,none,.load false 1 (.t 5)⟩,⟨some 7,none,.call 95 [(.t 6)]⟩,⟨some 8,none,.mv (.t 1)⟩,⟨some 9,none,.mv (.t 1)⟩,⟨some 10,none,.bin .add false (.t 9) (.c (.int .i64 1))⟩,⟨some 11,none,.call 94 [(.t 7),(.t 8),(.t 10)]⟩,⟨some 4,none,.mv (.t 11)⟩]) .ret))
theorem S6:codeOf Tryz.prog 59=some ⟨12,Ll,[(.tmp 4)]⟩:=by kernel_rfl
theorem Lm:modes 59=⟨[],.own [some (73,3)],none,false⟩:=by unfold modes; rfl
theorem Uq (c:Cl) (hl:c.lits.length≤1048575) (i:Int) (h0:0≤i) (h1:i.toNat<c.lits.length):E 59 [c.sv,.int .i64 i] []=some (.ref 0,[.row 73 3 (Lt.ds (c.lits.eraseIdx i.toNat))]):=by
 have hcs:c.sv=.agg [.arr (c.lits.map Lt.d)]:=rfl
 have h2:=Qb2 c.lits (fun e=>by rw [e] at h1; simp at h1) (by omega)
 have h3:=Z0 c.lits i h0 h1 (by omega)
 refine Ae S6 Lm (of_decide_eq_true rfl) ?_
 simp (disch:=omega) only [Ll,go_sem,Aa,h2,h3,Cn,Ce]
def Cf:SC:=(.seq (.reg [⟨some 2,none,.mv (.c .nil)⟩]) (.seq (.reg [⟨some 3,none,.mv (.c (.int .i64 0))⟩]) (.seq (.seq (.reg [⟨some 9,none,.mv (.t 0)⟩,⟨some 10,none,.len false (.t 9)⟩,⟨some 11,none,.mv (.c (.int .i64 0))⟩]) (.block 0 (.loop [1,0,0,1,0,0,0,0,0,1,1,1,0,0,0,0,0,0,0,0,0,0,0,0,0,0,0,0,0,0,0,0,0,0,0,0] (.seq (.reg [⟨some 12,none,.bin .lss false (.t 11) (.t 10)⟩]) (.seq (.cond (.t 12) .skip (.exit 0)) (.seq (.block 1 (.seq (.reg [⟨some 13,none,.iaddr 1 (.t 9) (.t 11)⟩,⟨some 14,none,.load false 1 (.t 13)⟩,⟨some 5,none,.mv (.t 14)⟩]) (.seq (.reg [⟨some 15,none,.mv (.t 3)⟩,⟨some 16,none,.mv (.t 5)⟩,⟨some 17,none,.len false (.t 16)⟩,⟨some 18,none,.bin .add false (.t 15) (.t 17)⟩,⟨some 3,none,.mv (.t 18)⟩]) (.seq (.reg [⟨some 19,none,.mv (.t 3)⟩,⟨some 20,none,.bin .lss false (.t 19) (.c (.int .i64 0))⟩]) (.cond (.t 20) (.reg [⟨some 21,none,.un .neg (.c .nil)⟩,⟨none,none,(.un .neg (.c .nil))⟩]) .skip))))) (.reg [⟨some 22,none,.bin .add false (.t 11) (.c (.int .i64 1))⟩,⟨some 11,none,.mv (.t 22)⟩]))))))) (.seq (.reg [⟨some 23,none,.mv (.t 3)⟩,⟨some 24,none,.call 99 [(.c .nil),(.t 23)]⟩,⟨some 6,none,.mv (.t 24)⟩]) (.seq (.seq (.reg [⟨some 25,none,.mv (.t 0)⟩,⟨some 26,none,.len false (.t 25)⟩,⟨some 27,none,.mv (.c (.int .i64 0))⟩]) (.block 2 (.loop [0,0,0,0,0,0,1,0,0,0,0,0,0,0,0,0,0,0,0,0,0,0,0,0,0,1,1,1,0,0,0,0,0,0,0,0] (.seq (.reg [⟨some 28,none,.bin .lss false (.t 27) (.t 26)⟩]) (.seq (.cond (.t 28) .skip (.exit 2)) (.seq (.block 3 (.seq (.reg [⟨some 29,none,.iaddr 1 (.t 25) (.t 27)⟩,⟨some 30,none,.load false 1 (.t 29)⟩,⟨some 8,none,.mv (.t 30)⟩]) (.reg [⟨some 31,none,.mv (.t 6)⟩,⟨some 32,none,.mv (.t 8)⟩,⟨(some 33),none,(.append 73 3 48 [(.bool false),(.str ⟨#[]⟩),.nil] (.t 31) (.t 32))⟩,⟨some 6,none,.mv (.t 33)⟩]))) (.reg [⟨some 34,none,.bin .add false (.t 27) (.c (.int .i64 1))⟩,⟨some 27,none,.mv (.t 34)⟩]))))))) (.seq (.reg [⟨some 35,none,.mv (.t 6)⟩,⟨some 2,none,.mv (.t 35)⟩]) .ret))))))
theorem DQ:codeOf Tryz.prog 67=some ⟨36,Cf,[(.tmp 2)]⟩:=by kernel_rfl
theorem Cg:modes 67=⟨[],.own [some (73,3)],none,false⟩:=by unfold modes; rfl
theorem Qdm (xs:List (List Lt)) (hx:xs.length≤1024) (hs:xs.flatten.length≤1048576):E 67 [.arr (xs.map fun l=>[D.arr (l.map Lt.d)])] []=some (.ref 0,[.row 73 3 (Lt.ds xs.flatten)]):=by
 have hd0:Lt.ds []=[]:=rfl
 refine Ae DQ Cg (of_decide_eq_true rfl) ?_
 simp (disch:=omega) only [Cf,go_sem,Aa]
 refine go_loop (α:=Int × (Int)) (fun a=>⟨slots 36 0 [(0,.arr (xs.map fun l=>[D.arr (l.map Lt.d)])),(3,.int .i64 (a.2)),(9,.arr (xs.map fun l=>[D.arr (l.map Lt.d)])),(10,.int .i64 xs.length),(11,.int .i64 (a.1))],[]⟩) (fun a=>∃ k:Nat,a.1=k∧k≤(xs).length∧(a.2)+((xs.drop k).flatten.length:Int)=xs.flatten.length∧0≤(a.2)) (fun a=>(xs).length-(a.1).toNat) (0,0) ⟨0,rfl,zE _,by rw [zG]; dsimp only; omega,Int.le_refl _⟩ (by simp (disch:=omega) only [go_sem,Aa]) ?_
 rintro ⟨i,n⟩ ⟨k,hi,hk,hR⟩
 dsimp only at hi hR
 have hni:i.toNat=k:=by omega
 have hni1:(i+1).toNat=k+1:=by omega
 rcases zB k (xs).length with hlt | hge
 ·have hg:=get_at (fun l:List Lt=>[D.arr (l.map Lt.d)]) hlt
  rw [zD hlt,List.flatten_cons,zF] at hR
  obtain ⟨hR1,hR2⟩:=hR
  have hge:dec (n+(xs[k].length:Int)<0)=false:=Ay (by omega)
  simp (disch:=omega) only [go_sem,Aa,hni,hg,hge]
  refine ⟨(i+1,n+xs[k].length),⟨k+1,by dsimp only; omega,hlt,by dsimp only; omega,by dsimp only; omega⟩,by dsimp only; omega,?_⟩
  first | trivial | rfl
 ·rw [zC hge] at hR
  obtain ⟨hR1,hR2⟩:=hR
  have hn:n=xs.flatten.length:=by simpa using hR1
  clear hR1 hR2
  rcases zK xs.flatten.length with hz | hz
  ·have hxe:∀ l∈xs,l=[]:=by
    have:=zJ hz
    rwa [List.flatten_eq_nil_iff] at this
   have hfe:xs.flatten=[]:=zJ hz
   obtain rfl:n=0:=by omega
   have hgr:=Qdk
   rw [hfe]
   simp (disch:=omega) only [go_sem,Aa,hni,hgr,AR]
   clear hi hni hni1 hk hge
   refine go_loop (α:=Int) (fun a=>⟨slots 36 0 [(6,(if a=0 then .nil else .ref 0)),(25,.arr (xs.map fun l=>[D.arr (l.map Lt.d)])),(26,.int .i64 xs.length),(27,.int .i64 a)],(if a=0 then [] else [.row 73 3 []])⟩) (fun a=>∃ k:Nat,a=k∧k≤(xs).length) (fun a=>(xs).length-(a).toNat) 0 ⟨0,rfl,zE _⟩ (by simp (disch:=omega) only [go_sem,Aa,eq_self,if_true]) ?_
   rintro i ⟨k,hi,hk⟩
   have hni:i.toNat=k:=by omega
   have hni1:(i+1).toNat=k+1:=by omega
   rcases zB k (xs).length with hlt | hge
   ·have hg:=get_at (fun l:List Lt=>[D.arr (l.map Lt.d)]) hlt
    rw [hxe _ (zA hlt)] at hg
    rcases zK k with h0 | h0
    ·subst h0
     obtain rfl:i=0:=hi
     simp (disch:=omega) only [go_sem,Aa,hg,eq_self,if_true]
     exact ⟨1,⟨1,rfl,hlt⟩,by omega,by first | trivial | rfl⟩
    ·have hi0:(i=0)=False:=by simp; omega
     have hi1:(i+1=0)=False:=by simp; omega
     simp (disch:=omega) only [go_sem,Aa,hni,hg,hi0,if_false]
     exact ⟨i+1,⟨k+1,by omega,hlt⟩,by omega,by simp only [hi1,if_false,and_self]⟩
   ·rcases zK k with h0 | h0
    ·subst h0
     obtain rfl:i=0:=hi
     simp (disch:=omega) only [go_sem,Aa,eq_self,if_true,hd0]
    ·have hi0:(i=0)=False:=by simp; omega
     simp (disch:=omega) only [go_sem,Aa,hni,hi0,if_false,hd0]
  ·have hgr:=Qdl n (by omega) (by omega)
   simp (disch:=omega) only [go_sem,Aa,hni,hgr,AR]
   clear hi hni hni1 hk hge
   refine go_loop (α:=Int × (List Lt)) (fun a=>⟨slots 36 0 [(6,.ref 0),(25,.arr (xs.map fun l=>[D.arr (l.map Lt.d)])),(26,.int .i64 xs.length),(27,.int .i64 (a.1))],[.row 73 3 (Lt.ds (a.2))]⟩) (fun a=>∃ k:Nat,a.1=k∧k≤(xs).length∧(a.2)++(xs.drop k).flatten=xs.flatten) (fun a=>(xs).length-(a.1).toNat) (0,[]) ⟨0,rfl,zE _,by rw [zG]; rfl⟩ (by simp (disch:=omega) only [go_sem,Aa,hd0]) ?_
   rintro ⟨i,acc⟩ ⟨k,hi,hk,hR⟩
   dsimp only at hi hR
   have hni:i.toNat=k:=by omega
   have hni1:(i+1).toNat=k+1:=by omega
   rcases zB k (xs).length with hlt | hge
   ·have hg:=get_at (fun l:List Lt=>[D.arr (l.map Lt.d)]) hlt
    rw [zD hlt,List.flatten_cons,← List.append_assoc] at hR
    have hlen:=congrArg List.length hR
    rw [zF,zF] at hlen
    have hap:Lt.ds acc++Lt.ds xs[k]=Lt.ds (acc++xs[k]):=Lt.Qfa _ _
    have h1:=Lt.Qfy xs[k]
    have h2:=Lt.V4 xs[k]
    have h3:=Lt.V4 acc
    have h4:=Lt.Qfb xs[k]
    simp (disch:=omega) only [go_sem,Aa,hni,hg,hap,h1,h2,h3,h4]
    refine ⟨(i+1,acc++xs[k]),⟨k+1,by dsimp only; omega,hlt,hR⟩,by dsimp only; omega,?_⟩
    first | trivial | rfl | simp only [hap]
   ·rw [zC hge] at hR
    have hR:acc=xs.flatten:=by simpa using hR
    rw [←hR]
    simp (disch:=omega) only [go_sem,Aa,hni]
abbrev u2b:SC:=(.seq (.seq (.reg [⟨some 22,none,.mv (.t 7)⟩,⟨some 23,none,.len false (.t 22)⟩,⟨some 24,none,.bin .gtr false (.t 23) (.c (.int .i64 0))⟩]) (.cond (.t 24) .skip (.exit 0))) (.block 1 (.seq (.dreg [[],[],[1],[2,1],[3,2,1],[0,4,3,2,1],[5,0,4,3,2,1],[6,5,0,4,3,2,1],[6,5,0,4,3,2,1],[],[9,7,6,5,0,4,3,2,1],[8,6,5,0,4,3,2,1,10,9,7]] [⟨some 26,none,.load true 1 (.t 6)⟩,⟨some 27,none,.mv (.t 7)⟩,⟨some 28,none,.iaddr 4 (.t 27) (.c (.int .i64 0))⟩,⟨some 29,none,.faddr 0 (.t 28)⟩,⟨some 30,none,.load true 2 (.t 29)⟩,⟨some 31,none,.call 87 [(.t 26),(.t 30)]⟩,⟨some 25,none,.mv (.t 31)⟩,⟨some 32,none,.ext (.t 25) 0⟩,⟨some 33,none,.ext (.t 25) 1⟩,⟨(some 8),none,(.alloc 71 [(.str ⟨#[]⟩),.nil])⟩,⟨none,none,(.store 2 (.t 8) (.t 32))⟩,⟨some 9,none,.mv (.t 33)⟩]) (.seq (.dreg [[],[],[1],[2,1],[3,2,1],[0,4,3,2,1],[5,0,4,3,2,1],[6,5,0,4,3,2,1],[6,5,0,4,3,2,1],[],[9,7,6,5,0,4,3,2,1],[8,6,5,0,4,3,2,1,10,9,7]] [⟨some 35,none,.load true 1 (.t 6)⟩,⟨some 36,none,.mv (.t 7)⟩,⟨some 37,none,.iaddr 4 (.t 36) (.c (.int .i64 0))⟩,⟨some 38,none,.faddr 2 (.t 37)⟩,⟨some 39,none,.load true 2 (.t 38)⟩,⟨some 40,none,.call 87 [(.t 35),(.t 39)]⟩,⟨some 34,none,.mv (.t 40)⟩,⟨some 41,none,.ext (.t 34) 0⟩,⟨some 42,none,.ext (.t 34) 1⟩,⟨(some 10),none,(.alloc 71 [(.str ⟨#[]⟩),.nil])⟩,⟨none,none,(.store 2 (.t 10) (.t 41))⟩,⟨some 11,none,.mv (.t 42)⟩]) (.seq (.reg [⟨some 43,none,.mv (.t 7)⟩,⟨some 44,none,.slice false 4 (.t 43) (some (.c (.int .i64 1))) none⟩,⟨some 7,none,.mv (.t 44)⟩]) (.block 2 (.seq (.reg [⟨some 69,none,.mv (.t 9)⟩,⟨some 70,none,.un .not (.t 69)⟩,⟨some 71,none,.mv (.t 70)⟩,⟨(some 72),(some (71,false)),(.mv (.t 11))⟩,⟨(some 73),(some (71,false)),(.un .not (.t 72))⟩,⟨some 74,none,.pick (.t 71) (.c (.bool true)) (.t 73)⟩,⟨some 68,none,.mv (.t 74)⟩]) (.cond (.t 68) (.seq (.reg [⟨some 75,none,.build [.nil] []⟩,⟨none,none,(.store 1 (.t 4) (.t 75))⟩,⟨some 5,none,.mv (.c (.bool false))⟩]) .ret) (.seq (.reg [⟨some 77,none,.load true 2 (.t 8)⟩,⟨some 78,none,.load true 2 (.t 10)⟩,⟨some 79,none,.call 88 [(.t 77),(.t 78)]⟩,⟨some 76,none,.mv (.t 79)⟩]) (.cond (.t 76) .skip (.seq (.reg [⟨some 81,none,.load true 2 (.t 8)⟩,⟨some 82,none,.call 89 [(.t 81)]⟩,⟨some 83,none,.mv (.t 82)⟩,⟨(some 84),(some (83,false)),(.load true 2 (.t 10))⟩,⟨(some 85),(some (83,false)),(.call 89 [(.t 84)])⟩,⟨some 86,none,.pick (.t 83) (.c (.bool true)) (.t 85)⟩,⟨some 80,none,.mv (.t 86)⟩]) (.cond (.t 80) (.seq (.reg [⟨some 88,none,.load true 2 (.t 8)⟩,⟨some 89,none,.load true 2 (.t 10)⟩,⟨(some 90),none,(.build [(.str ⟨#[]⟩),.nil,(.str ⟨#[]⟩),.nil] [(0,(2,(.t 88))),(2,(2,(.t 89)))])⟩,⟨some 91,none,.call 90 [(.t 90)]⟩,⟨some 87,none,.mv (.t 91)⟩,⟨some 92,none,.ext (.t 87) 0⟩,⟨some 93,none,.ext (.t 87) 1⟩,⟨some 12,none,.alloc 76 [.nil]⟩,⟨none,none,(.store 1 (.t 12) (.t 92))⟩,⟨some 13,none,.mv (.t 93)⟩]) (.seq (.seq (.reg [⟨some 94,none,.mv (.t 13)⟩,⟨some 95,none,.un .not (.t 94)⟩]) (.cond (.t 95) (.seq (.reg [⟨some 96,none,.build [.nil] []⟩,⟨none,none,(.store 1 (.t 4) (.t 96))⟩,⟨some 5,none,.mv (.c (.bool false))⟩]) .ret) .skip)) (.seq (.reg [⟨some 98,none,.load true 1 (.t 6)⟩,⟨some 99,none,.load true 1 (.t 12)⟩,⟨some 100,none,.call 91 [(.t 98),(.t 99)]⟩,⟨some 97,none,.mv (.t 100)⟩,⟨some 101,none,.ext (.t 97) 0⟩,⟨some 102,none,.ext (.t 97) 1⟩,⟨none,none,(.store 1 (.t 6) (.t 101))⟩,⟨some 13,none,.mv (.t 102)⟩]) (.seq (.reg [⟨some 103,none,.mv (.t 13)⟩,⟨some 104,none,.un .not (.t 103)⟩]) (.cond (.t 104) (.seq (.reg [⟨some 105,none,.build [.nil] []⟩,⟨none,none,(.store 1 (.t 4) (.t 105))⟩,⟨some 5,none,.mv (.c (.bool false))⟩]) .ret) .skip))))) (.seq (.reg [⟨some 107,none,.faddr 0 (.t 8)⟩,⟨some 108,none,.load false 1 (.t 107)⟩,⟨some 109,none,.faddr 0 (.t 10)⟩,⟨some 110,none,.load false 1 (.t 109)⟩,⟨some 111,none,.bin .neq false (.t 108) (.t 110)⟩,⟨some 112,none,.mv (.t 111)⟩,⟨(some 113),(some (112,false)),(.faddr 1 (.t 8))⟩,⟨(some 114),(some (112,false)),(.load false 1 (.t 113))⟩,⟨(some 115),(some (112,false)),(.len false (.t 114))⟩,⟨(some 116),(some (112,false)),(.faddr 1 (.t 10))⟩,⟨(some 117),(some (112,false)),(.load false 1 (.t 116))⟩,⟨(some 118),(some (112,false)),(.len false (.t 117))⟩,⟨(some 119),(some (112,false)),(.bin .neq false (.t 115) (.t 118))⟩,⟨some 120,none,.pick (.t 112) (.c (.bool true)) (.t 119)⟩,⟨some 106,none,.mv (.t 120)⟩]) (.cond (.t 106) (.seq (.reg [⟨some 121,none,.build [.nil] []⟩,⟨none,none,(.store 1 (.t 4) (.t 121))⟩,⟨some 5,none,.mv (.c (.bool false))⟩]) .ret) (.seq (.reg [⟨(some 45),none,(.mkrow 107 4 [(.str ⟨#[]⟩),.nil,(.str ⟨#[]⟩),.nil] 0 [])⟩,⟨some 14,none,.mv (.t 45)⟩]) (.seq (.seq (.reg [⟨some 46,none,.faddr 1 (.t 8)⟩,⟨some 47,none,.load false 1 (.t 46)⟩,⟨some 48,none,.len false (.t 47)⟩,⟨some 49,none,.mv (.c (.int .i64 0))⟩]) (.block 3 (.loop [0,0,0,0,1,0,1,1,0,0,1,0,0,0,1,0,0,0,0,0,0,0,0,0,0,0,0,0,0,0,0,0,0,0,0,0,0,0,0,0,0,0,0,0,0,0,0,1,1,1,0,0,0,0,0,0,0,0,0,0,0,0,0,0,0,0,0,0,0,0,0,0,0,0,0,0,0,0,0,0,0,0,0,0,0,0,0,0,0,0,0,0,0,0,0,0,0,0,0,0,0,0,0,0,0,0,0,0,0,0,0,0,0,0,0,0,0,0,0,0,0,0,0] (.seq (.reg [⟨some 50,none,.bin .lss false (.t 49) (.t 48)⟩]) (.seq (.cond (.t 50) .skip (.exit 3)) (.seq (.block 4 (.seq (.reg [⟨some 51,none,.mv (.t 49)⟩,⟨some 52,none,.iaddr 2 (.t 47) (.t 49)⟩,⟨some 53,none,.load true 2 (.t 52)⟩,⟨(some 16),none,(.alloc 71 [(.str ⟨#[]⟩),.nil])⟩,⟨some 15,none,.mv (.t 51)⟩,⟨none,none,(.store 2 (.t 16) (.t 53))⟩]) (.dreg [[],[],[],[2],[],[3,2,4],[5,3,2,4],[1,6,5,3,2,4],[7,1,6,5,3,2,4],[0,8,7,1,6,5,3,2,4],[9,0,8,7,1,6,5,3,2,4]] [⟨some 54,none,.mv (.t 14)⟩,⟨some 55,none,.load true 2 (.t 16)⟩,⟨some 56,none,.faddr 1 (.t 10)⟩,⟨some 57,none,.load false 1 (.t 56)⟩,⟨some 58,none,.mv (.t 15)⟩,⟨some 59,none,.iaddr 2 (.t 57) (.t 58)⟩,⟨some 60,none,.load true 2 (.t 59)⟩,⟨(some 61),none,(.build [(.str ⟨#[]⟩),.nil,(.str ⟨#[]⟩),.nil] [(0,(2,(.t 55))),(2,(2,(.t 60)))])⟩,⟨(some 62),none,(.mkrow 107 4 [(.str ⟨#[]⟩),.nil,(.str ⟨#[]⟩),.nil] 1 [(0,(.t 61))])⟩,⟨(some 63),none,(.append 107 4 80 [(.str ⟨#[]⟩),.nil,(.str ⟨#[]⟩),.nil] (.t 54) (.t 62))⟩,⟨some 14,none,.mv (.t 63)⟩]))) (.reg [⟨some 64,none,.bin .add false (.t 49) (.c (.int .i64 1))⟩,⟨some 49,none,.mv (.t 64)⟩]))))))) (.reg [⟨some 65,none,.mv (.t 14)⟩,⟨some 66,none,.mv (.t 7)⟩,⟨(some 67),none,(.append 107 4 80 [(.str ⟨#[]⟩),.nil,(.str ⟨#[]⟩),.nil] (.t 65) (.t 66))⟩,⟨some 7,none,.mv (.t 67)⟩])))))))))))))))))
abbrev u2r:SC:=(.seq (.reg [⟨some 122,none,.load true 1 (.t 6)⟩,⟨none,none,(.store 1 (.t 4) (.t 122))⟩,⟨some 5,none,.mv (.c (.bool true))⟩]) .ret)
def Og:SC:=(.seq (.reg [⟨some 2,none,.boxv 71 2 (.t 0)⟩,⟨some 3,none,.boxv 71 2 (.t 1)⟩,⟨some 4,none,.alloc 76 [.nil]⟩,⟨some 5,none,.mv (.c (.bool false))⟩]) (.seq (.reg [⟨some 17,none,.build [.nil] []⟩,⟨some 6,none,.alloc 76 [.nil]⟩,⟨none,none,(.store 1 (.t 6) (.t 17))⟩]) (.seq (.reg [⟨some 18,none,.load true 2 (.t 2)⟩,⟨some 19,none,.load true 2 (.t 3)⟩,⟨(some 20),none,(.build [(.str ⟨#[]⟩),.nil,(.str ⟨#[]⟩),.nil] [(0,(2,(.t 18))),(2,(2,(.t 19)))])⟩,⟨(some 21),none,(.mkrow 107 4 [(.str ⟨#[]⟩),.nil,(.str ⟨#[]⟩),.nil] 1 [(0,(.t 20))])⟩,⟨some 7,none,.mv (.t 21)⟩]) (.seq (.block 0 (.loop [0,0,0,0,1,0,1,1,0,0,0,0,0,0,0,0,0,0,0,0,0,0,0,0,0,0,0,0,0,0,0,0,0,0,0,0,0,0,0,0,0,0,0,0,0,0,0,0,0,0,0,0,0,0,0,0,0,0,0,0,0,0,0,0,0,0,0,0,0,0,0,0,0,0,0,0,0,0,0,0,0,0,0,0,0,0,0,0,0,0,0,0,0,0,0,0,0,0,0,0,0,0,0,0,0,0,0,0,0,0,0,0,0,0,0,0,0,0,0,0,0,0,0] u2b)) u2r))))
theorem V5:codeOf Tryz.prog 57=some ⟨123,Og,[(.cell 4 true 1),(.tmp 5)]⟩:=by kernel_rfl
theorem JI:modes 57=⟨[],.own [some (139,3),none],none,false⟩:=by unfold modes; rfl
abbrev u2H:Nat × Bool × Bool × Sb × List (Tm × Tm)→St:=fun a=>⟨slots 123 0 [(4,.ptr 0 0),(6,.ptr 1 0),(7,(bif a.2.2.1 then .ref 2 else .arr (a.2.2.2.2.map eqD)))],([.box 76 [.nil],.box 76 [bif a.2.1 then .nil else .ref (bif a.2.2.1 then 3 else 2)]]++((bif a.2.2.1 then [.row 107 4 (a.2.2.2.2.map eqO)] else [])++(bif a.2.1 then [] else [.row 139 3 (a.2.2.2.1.binds.map Bd.o)])))⟩
abbrev u2R (total:Option Sb):Nat × Bool × Bool × Sb × List (Tm × Tm)→Prop:=fun a=>uInv a.2.2.2.1 a.2.2.2.2∧BM a.1 a.2.2.2.1 a.2.2.2.2=some total∧(a.2.1=true→a.2.2.2.1.binds=[])
abbrev u2K (total:Option Sb):X→St→Prop:=blk 0 (Rn 0 u2r (SJ (.own [some (139,3),none]) 0 [(.cell 4 true 1),(.tmp 5)] (.tup [(uTo total).osv,.bool (uOk total)],(uTo total).obs)))
abbrev Ln:List Nat:=[0,0,0,0,1,0,1,1,0,0,0,0,0,0,0,0,0,0,0,0,0,0,0,0,0,0,0,0,0,0,0,0,0,0,0,0,0,0,0,0,0,0,0,0,0,0,0,0,0,0,0,0,0,0,0,0,0,0,0,0,0,0,0,0,0,0,0,0,0,0,0,0,0,0,0,0,0,0,0,0,0,0,0,0,0,0,0,0,0,0,0,0,0,0,0,0,0,0,0,0,0,0,0,0,0,0,0,0,0,0,0,0,0,0,0,0,0,0,0,0,0,0,0]
end Go.Proofs.YtibdknkacmimgaaGreatDoor
