/-
  Texts of this claim, one behind the other, each built on those ahead of it. No condition.
-/
import Derived.Test.YtibdknkacmimgaaGreatDoorK50c
import Derived.Test.YtibdknkacmimgaaGreatDoorK50d
import Derived.Test.YtibdknkacmimgaaGreatDoorK50e
import Derived.Test.YtibdknkacmimgaaGreatDoorK50f
import Derived.Test.YtibdknkacmimgaaGreatDoorK50g
import Derived.Test.YtibdknkacmimgaaGreatDoorK50h
import Derived.Test.YtibdknkacmimgaaGreatDoorK50i
set_option maxHeartbeats 16000000
open List renaming getElem_mem → zA, drop_eq_nil_of_le → zC, drop_eq_getElem_cons → zE, length_map → zF, take_of_length_le → zG, mem_append → zH, drop_zero → zI, length_append → zL, map_nil → zM, length_cons → zN, length_take → zQ, map_append → zR
open Nat renaming lt_or_ge → zB, zero_le → zD, le_refl → zO
open Bool renaming and_eq_true → zJ, and_false → zS
open Option renaming isSome_some → zK
open Int renaming toNat_natCast → zP
set_option maxRecDepth 100000
set_option linter.unusedSimpArgs false
set_option linter.unusedVariables false
set_option linter.unusedSectionVars false
namespace Go.Proofs.YtibdknkacmimgaaGreatDoor
open Go.RowKit
theorem QbE (a b:Tm) (ha:a.expr=true) (hb:b.expr=true) (n:Nat) (total:Option Sb) (hr:BE n ⟨[]⟩ [(a,b)]=some total):E 50 [a.sv,b.sv] []=some (.tup [(uTo total).sv,.bool (uOk total)],[]):=by
 have hres:∀ t:Sb,t.sv=.agg [.arr (t.binds.map Bd.d)]:=fun t=>rfl
 rw [hres]
 refine Af Sz H0 (of_decide_eq_true rfl) ?_
 simp (disch:=omega) only [Lo,go_sem,Aa]
 refine go_loop (α:=Nat × Bool × Bool × Sb × List (Tm × Tm)) u5H (u5R total) (fun a=>a.1) (n,true,true,⟨[]⟩,[(a,b)]) ⟨uInv.start ha hb,hr,fun _=>rfl⟩ (by simp (disch:=omega) only [go_sem,Aa,u5H]; rfl) ?_
 clear hr ha hb
 rintro ⟨n,sn,lo,s,l⟩ ⟨hinv,hrun,hsn⟩
 dsimp only at hinv hrun hsn
 have hs:=hinv.ok
 have hst:=ED hs
 cases n with
 | zero=>rw [BE] at hrun; cases hrun
 | succ n =>
 cases l with
 | nil =>
  rw [BE] at hrun
  obtain rfl:=Option.some.inj hrun
  have hk:uTo (some s)=s:=rfl
  rw [hk]
  cases sn with
  | true =>
   obtain rfl:s=⟨[]⟩:=by obtain ⟨bs⟩:=s; have:=hsn rfl; rw [show bs=[] from this]
   cases lo with
   | true =>
    simp (disch:=omega) only [go_sem,Aa,u5H,u5b,u5r,uOk,zK,zM]
    try rfl
   | false =>
    simp (disch:=omega) only [go_sem,Aa,u5H,u5b,u5r,uOk,zK,zM]
    try rfl
  | false =>
   cases lo with
   | true =>
    simp (disch:=omega) only [go_sem,Aa,u5H,u5b,u5r,uOk,zK,zM]
    try rfl
   | false =>
    simp (disch:=omega) only [go_sem,Aa,u5H,u5b,u5r,uOk,zK,zM]
    try rfl
 | cons p l =>
  have hcmb:(sn=true∧lo=true)∨(sn=true∧lo=false)∨(sn=false∧lo=true)∨(sn=false∧lo=false):=by cases sn <;> cases lo <;> simp
  rcases hcmb with ⟨rfl,rfl⟩ | ⟨rfl,rfl⟩ | ⟨rfl,rfl⟩ | ⟨rfl,rfl⟩
  ·exact Qfg total n s p l hinv hrun hsn
  ·exact Qfh total n s p l hinv hrun hsn
  ·exact Qfi total n s p l hinv hrun hsn
  ·exact Qfj total n s p l hinv hrun hsn
def E4:SC:=(.seq (.reg [⟨some 6,none,.mv (.c (.bool false))⟩]) (.seq (.reg [⟨some 7,none,.mv (.t 0)⟩,⟨some 8,none,.mv (.t 1)⟩,⟨some 9,none,.bin .geq false (.t 7) (.t 8)⟩,⟨some 10,none,.mv (.t 9)⟩,⟨(some 11),(some (10,true)),(.mv (.t 0))⟩,⟨(some 12),(some (10,true)),(.mv (.t 2))⟩,⟨(some 13),(some (10,true)),(.bin .leq false (.t 11) (.t 12))⟩,⟨some 14,none,.pick (.t 10) (.t 13) (.c (.bool false))⟩,⟨some 6,none,.mv (.t 14)⟩]) .ret))
theorem FR:codeOf Tryz.prog 86=some ⟨15,E4,[(.tmp 6)]⟩:=by kernel_rfl
theorem E5:modes 86=⟨[],.asis,none,false⟩:=by unfold modes; rfl
def Gl:SC:=(.seq (.reg [⟨some 6,none,.mv (.c (.bool false))⟩]) (.seq (.reg [⟨some 7,none,.mv (.t 0)⟩,⟨some 8,none,.mv (.t 1)⟩,⟨some 9,none,.bin .geq false (.t 7) (.t 8)⟩,⟨some 10,none,.mv (.t 9)⟩,⟨(some 11),(some (10,true)),(.mv (.t 0))⟩,⟨(some 12),(some (10,true)),(.mv (.t 2))⟩,⟨(some 13),(some (10,true)),(.bin .leq false (.t 11) (.t 12))⟩,⟨some 14,none,.pick (.t 10) (.t 13) (.c (.bool false))⟩,⟨some 6,none,.mv (.t 14)⟩]) .ret))
theorem Im:codeOf Tryz.prog 49=some ⟨15,Gl,[(.tmp 6)]⟩:=by kernel_rfl
theorem CR:modes 49=⟨[],.asis,none,false⟩:=by unfold modes; rfl
theorem QbF (n lo hi:Int):E 86 [.int .i64 n,.int .i64 lo,.int .i64 hi] []=some (.bool (dec (lo≤n)&&dec (n≤hi)),[]):=by
 cases h1:dec (lo≤n)
 ·cases h2:dec (n≤hi)
  ·refine Af FR E5 (of_decide_eq_true rfl) ?_
   simp (disch:=omega) only [E4,go_sem,Aa,h1,h2]
  ·refine Af FR E5 (of_decide_eq_true rfl) ?_
   simp (disch:=omega) only [E4,go_sem,Aa,h1,h2]
 ·cases h2:dec (n≤hi)
  ·refine Af FR E5 (of_decide_eq_true rfl) ?_
   simp (disch:=omega) only [E4,go_sem,Aa,h1,h2]
  ·refine Af FR E5 (of_decide_eq_true rfl) ?_
   simp (disch:=omega) only [E4,go_sem,Aa,h1,h2]
theorem QaH (n lo hi:Int):E 49 [.int .i64 n,.int .i64 lo,.int .i64 hi] []=some (.bool (dec (lo≤n)&&dec (n≤hi)),[]):=by
 cases h1:dec (lo≤n)
 ·cases h2:dec (n≤hi)
  ·refine Af Im CR (of_decide_eq_true rfl) ?_
   simp (disch:=omega) only [Gl,go_sem,Aa,h1,h2]
  ·refine Af Im CR (of_decide_eq_true rfl) ?_
   simp (disch:=omega) only [Gl,go_sem,Aa,h1,h2]
 ·cases h2:dec (n≤hi)
  ·refine Af Im CR (of_decide_eq_true rfl) ?_
   simp (disch:=omega) only [Gl,go_sem,Aa,h1,h2]
  ·refine Af Im CR (of_decide_eq_true rfl) ?_
   simp (disch:=omega) only [Gl,go_sem,Aa,h1,h2]
def In:SC:=(.seq (.reg [⟨some 4,none,.mv (.c .nil)⟩]) (.seq (.dreg [[],[],[],[1,2],[0,3,1,2],[],[],[6],[5,7,6],[4,0,3,1,2,8,5,7,6],[9,4,0,3,1,2,8,5,7,6]] [⟨(some 5),none,(.mkrow 73 3 [(.bool false),(.str ⟨#[]⟩),.nil] 0 [])⟩,⟨some 6,none,.mv (.t 0)⟩,⟨some 7,none,.mv (.t 1)⟩,⟨some 8,none,.slice false 3 (.t 6) none (some (.t 7))⟩,⟨(some 9),none,(.append 73 3 48 [(.bool false),(.str ⟨#[]⟩),.nil] (.t 5) (.t 8))⟩,⟨some 10,none,.mv (.t 0)⟩,⟨some 11,none,.mv (.t 1)⟩,⟨some 12,none,.bin .add false (.t 11) (.c (.int .i64 1))⟩,⟨some 13,none,.slice false 3 (.t 10) (some (.t 12)) none⟩,⟨(some 14),none,(.append 73 3 48 [(.bool false),(.str ⟨#[]⟩),.nil] (.t 9) (.t 13))⟩,⟨some 4,none,.mv (.t 14)⟩]) .ret))
theorem Oc:codeOf Tryz.prog 52=some ⟨15,In,[(.tmp 4)]⟩:=by kernel_rfl
theorem Io:modes 52=⟨[],.asis,none,false⟩:=by unfold modes; rfl
theorem VB (l:List Lt) (hl:l.length≤1048575) (p:Nat) (h1:p<l.length):E 52 [.arr (l.map Lt.d),.int .i64 (p:Int)] []=some (.ref 0,[.row 73 3 ((l.eraseIdx p).map (fun b:Lt=>b.d.map D.ot))]):=by
 have tp:=zP p
 have tp1:((p:Int)+1).toNat=p+1:=by omega
 have e1:=Lt.ot_take l p
 have e2:=Lt.ot_drop l (p+1)
 have e6:=Lt.ald3 l
 have e7:(l.map Lt.d).take l.length=l.map Lt.d:=zG (by rw [zF]; exact zO _)
 have e8:((l.map Lt.d).drop (p+1)).length=l.length-(p+1):=by rw [List.length_drop,zF]
 have e3:=Lt.al3 (l.take p)
 have e4:=Lt.al3 (l.drop (p+1))
 have hlt:(l.take p).length=p:=by rw [zQ]; omega
 have hld:(l.drop (p+1)).length=l.length-(p+1):=List.length_drop
 have e5:(l.take p).map (fun b:Lt=>b.d.map D.ot)++(l.drop (p+1)).map (fun b:Lt=>b.d.map D.ot)=(l.eraseIdx p).map (fun b:Lt=>b.d.map D.ot):=by rw [←zR,List.eraseIdx_eq_take_drop_succ]
 refine Af Oc Io (of_decide_eq_true rfl) ?_
 simp (disch:=omega) only [In,go_sem,Aa,tp,tp1,e1,e2,e3,e4,e5,e6,e7,e8,hlt,hld]
def En:SC:=(.seq (.reg [⟨some 2,none,.boxv 76 1 (.t 0)⟩,⟨some 4,none,.alloc 28 [.nil]⟩,⟨some 5,none,.mv (.c (.bool false))⟩]) (.seq (.reg [⟨some 11,none,.load true 1 (.t 2)⟩,⟨some 12,none,.mv (.t 1)⟩,⟨some 13,none,.call 79 [(.t 11),(.t 12)]⟩,⟨some 10,none,.mv (.t 13)⟩,⟨some 14,none,.ext (.t 10) 0⟩,⟨some 15,none,.ext (.t 10) 1⟩,⟨some 6,none,.alloc 28 [.nil]⟩,⟨none,none,(.store 1 (.t 6) (.t 14))⟩,⟨some 7,none,.mv (.t 15)⟩]) (.seq (.seq (.reg [⟨some 16,none,.mv (.t 7)⟩,⟨some 17,none,.un .not (.t 16)⟩]) (.cond (.t 17) (.seq (.reg [⟨some 18,none,.build [.nil] []⟩,⟨none,none,(.store 1 (.t 4) (.t 18))⟩,⟨some 5,none,.mv (.c (.bool false))⟩]) .ret) .skip)) (.seq (.reg [⟨some 20,none,.load true 1 (.t 6)⟩,⟨some 21,none,.call 80 [(.t 20)]⟩,⟨some 19,none,.mv (.t 21)⟩,⟨some 22,none,.ext (.t 19) 0⟩,⟨some 23,none,.ext (.t 19) 1⟩,⟨some 8,none,.alloc 28 [.nil]⟩,⟨none,none,(.store 1 (.t 8) (.t 22))⟩,⟨some 9,none,.mv (.t 23)⟩]) (.seq (.seq (.reg [⟨some 24,none,.mv (.t 9)⟩,⟨some 25,none,.un .not (.t 24)⟩,⟨some 26,none,.mv (.t 25)⟩,⟨(some 27),(some (26,false)),(.load true 1 (.t 8))⟩,⟨(some 28),(some (26,false)),(.call 48 [(.t 27)])⟩,⟨(some 29),(some (26,false)),(.un .not (.t 28))⟩,⟨some 30,none,.pick (.t 26) (.c (.bool true)) (.t 29)⟩]) (.cond (.t 30) (.seq (.reg [⟨some 31,none,.build [.nil] []⟩,⟨none,none,(.store 1 (.t 4) (.t 31))⟩,⟨some 5,none,.mv (.c (.bool false))⟩]) .ret) .skip)) (.seq (.reg [⟨some 32,none,.load true 1 (.t 8)⟩,⟨none,none,(.store 1 (.t 4) (.t 32))⟩,⟨some 5,none,.mv (.c (.bool true))⟩]) .ret))))))
theorem FG:codeOf Tryz.prog 51=some ⟨33,En,[(.cell 4 true 1),(.tmp 5)]⟩:=by kernel_rfl
theorem Eo:modes 51=⟨[],.frz,none,false⟩:=by unfold modes; rfl
theorem XP (s:Sb) (hs:s.ok=true) (ht:s.tame) (l:List Lt) (hl:l.length≤1048576) (hal:∀ x∈l,x.atom.atom=true):E 51 [s.sv,.arr (l.map Lt.d)] []=some (.tup [(Tk s l).sv,.bool (Gk s l)],[]):=by
 have h1:=Qb3 s hs ht l hl hal
 have hsv:∀ d:Cl,d.sv=.agg [.arr (d.lits.map Lt.d)]:=fun d=>rfl
 have hss:s.sv=.agg [.arr (s.binds.map Bd.d)]:=rfl
 rw [hss,hsv] at h1
 rw [hss,hsv]
 cases hok:Et s l with
 | false =>
  have ho:Gk s l=false:=by unfold Gk; rw [hok]; rfl
  have hz:(Cl.mk []).lits=[]:=rfl
  rw [ON hok,hok] at h1
  rw [Qq ho,ho]
  refine Af FG Eo (of_decide_eq_true rfl) ?_
  simp (disch:=omega) only [En,go_sem,Aa,h1,Fj]
 | true =>
  have hc:=Z7 hok
  obtain ⟨c,hcc⟩:∃ c,c=apC s l:=⟨_,rfl⟩
  rw [←hcc] at hc h1
  have h2:=Zz c hc
  have hn:=Qa9 10 hc
  have h3:=JJ (nz 10 c) hn
  rw [hok] at h1
  rw [hsv,hsv] at h2
  rw [hsv] at h3
  have hio:Gk s l=(nz 10 c).norm:=by unfold Gk; rw [hok,Bool.true_and,hcc]
  cases hm:(nz 10 c).norm with
  | false =>
   rw [hm] at h3 hio
   rw [Qq hio,hio]
   refine Af FG Eo (of_decide_eq_true rfl) ?_
   simp (disch:=omega) only [En,go_sem,Aa,h1,h2,h3,G0,BO,Fj]
  | true =>
   rw [hm] at h3 hio
   rw [Sy hio,hio,← hcc]
   refine Af FG Eo (of_decide_eq_true rfl) ?_
   simp (disch:=omega) only [En,go_sem,Aa,h1,h2,h3,G0,BO,Fj]
theorem Z8 (a b:Tm) (ha:a.atom=true) (hb:b.atom=true):E 50 [a.sv,b.sv] []=some (.tup [(uTo (unR a b)).sv,.bool (uOk (unR a b))],[]):=by
 obtain ⟨n,hn⟩:=Sx (Tm.Cf ha) (Tm.Cf hb)
 exact QbE a b (Tm.Cf ha) (Tm.Cf hb) n _ hn
theorem QbG (c:Cl) (i k:Int) (hi:hasB c i=true):(dec (i+1≤k)&&dec (k≤(c.lits.length:Int)-1))=(hasB c k&&dec (i<k)):=by
 obtain ⟨p,rfl,hp⟩:=Oa hi
 unfold hasB
 by_cases h1:(p:Int)+1≤k
 ·rw [As h1,As (show (p:Int)<k by omega),As (show 0≤k by omega)]
  simp
 ·rw [Az h1,Az (show ¬ (p:Int)<k by omega)]
  simp
def C5:SC:=(.seq (.reg [⟨some 3,none,.boxv 28 1 (.t 0)⟩,⟨some 6,none,.alloc 28 [.nil]⟩,⟨some 7,none,.mv (.c (.bool false))⟩]) (.seq (.seq (.dreg [[],[],[1],[2,1],[3,2,1],[0,4,3,2,1],[5,0,4,3,2,1],[6,5,0,4,3,2,1],[7,6,5,0,4,3,2,1],[7,6,5,0,4,3,2,1],[9,7,6,5,0,4,3,2,1],[7,6,5,0,4,3,2,1],[11,7,6,5,0,4,3,2,1],[12,11,7,6,5,0,4,3,2,1],[13,12,11,7,6,5,0,4,3,2,1],[8,7,6,5,0,4,3,2,1,10,9,14,13,12,11],[15,8,7,6,5,0,4,3,2,1,10,9,14,13,12,11],[7,6,5,0,4,3,2,1,16,15,8,10,9,14,13,12,11],[17,7,6,5,0,4,3,2,1,16,15,8,10,9,14,13,12,11],[18,17,7,6,5,0,4,3,2,1,16,15,8,10,9,14,13,12,11],[19,18,17,7,6,5,0,4,3,2,1,16,15,8,10,9,14,13,12,11],[18,17,7,6,5,0,4,3,2,1,16,15,8,10,9,14,13,12,11],[20,19,18,17,7,6,5,0,4,3,2,1,16,15,8,10,9,14,13,12,11,21],[22,20,19,18,17,7,6,5,0,4,3,2,1,16,15,8,10,9,14,13,12,11,21],[23,22,20,19,18,17,7,6,5,0,4,3,2,1,16,15,8,10,9,14,13,12,11,21],[18,17,7,6,5,0,4,3,2,1,16,15,8,10,9,14,13,12,11],[25,18,17,7,6,5,0,4,3,2,1,16,15,8,10,9,14,13,12,11],[18,17,7,6,5,0,4,3,2,1,16,15,8,10,9,14,13,12,11],[26,25,18,17,7,6,5,0,4,3,2,1,16,15,8,10,9,14,13,12,11,27],[28,26,25,18,17,7,6,5,0,4,3,2,1,16,15,8,10,9,14,13,12,11,27],[29,28,26,25,18,17,7,6,5,0,4,3,2,1,16,15,8,10,9,14,13,12,11,27],[24,23,22,20,19,18,17,7,6,5,0,4,3,2,1,16,15,8,10,9,14,13,12,11,21,30,29,28,26,25,27],[18,17,7,6,5,0,4,3,2,1,16,15,8,10,9,14,13,12,11,31,24,23,22,20,19,21,30,29,28,26,25,27]] [⟨some 10,none,.mv (.t 1)⟩,⟨some 11,none,.faddr 0 (.t 3)⟩,⟨some 12,none,.load false 1 (.t 11)⟩,⟨some 13,none,.len false (.t 12)⟩,⟨some 14,none,.bin .sub false (.t 13) (.c (.int .i64 1))⟩,⟨some 15,none,.call 49 [(.t 10),(.c (.int .i64 0)),(.t 14)]⟩,⟨some 16,none,.un .not (.t 15)⟩,⟨some 17,none,.mv (.t 16)⟩,⟨(some 18),(some (17,false)),(.mv (.t 2))⟩,⟨(some 19),(some (17,false)),(.mv (.t 1))⟩,⟨(some 20),(some (17,false)),(.bin .add false (.t 19) (.c (.int .i64 1)))⟩,⟨(some 21),(some (17,false)),(.faddr 0 (.t 3))⟩,⟨(some 22),(some (17,false)),(.load false 1 (.t 21))⟩,⟨(some 23),(some (17,false)),(.len false (.t 22))⟩,⟨(some 24),(some (17,false)),(.bin .sub false (.t 23) (.c (.int .i64 1)))⟩,⟨(some 25),(some (17,false)),(.call 49 [(.t 18),(.t 20),(.t 24)])⟩,⟨(some 26),(some (17,false)),(.un .not (.t 25))⟩,⟨some 27,none,.pick (.t 17) (.c (.bool true)) (.t 26)⟩,⟨some 28,none,.mv (.t 27)⟩,⟨(some 29),(some (28,false)),(.faddr 0 (.t 3))⟩,⟨(some 30),(some (28,false)),(.load false 1 (.t 29))⟩,⟨(some 31),(some (28,false)),(.mv (.t 1))⟩,⟨(some 32),(some (28,false)),(.iaddr 3 (.t 30) (.t 31))⟩,⟨(some 33),(some (28,false)),(.faddr 0 (.t 32))⟩,⟨(some 34),(some (28,false)),(.load false 1 (.t 33))⟩,⟨(some 35),(some (28,false)),(.faddr 0 (.t 3))⟩,⟨(some 36),(some (28,false)),(.load false 1 (.t 35))⟩,⟨(some 37),(some (28,false)),(.mv (.t 2))⟩,⟨(some 38),(some (28,false)),(.iaddr 3 (.t 36) (.t 37))⟩,⟨(some 39),(some (28,false)),(.faddr 0 (.t 38))⟩,⟨(some 40),(some (28,false)),(.load false 1 (.t 39))⟩,⟨(some 41),(some (28,false)),(.bin .neq true (.t 34) (.t 40))⟩,⟨some 42,none,.pick (.t 28) (.c (.bool true)) (.t 41)⟩]) (.cond (.t 42) (.seq (.reg [⟨some 43,none,.build [.nil] []⟩,⟨none,none,(.store 1 (.t 6) (.t 43))⟩,⟨some 7,none,.mv (.c (.bool false))⟩]) .ret) .skip)) (.seq (.dreg [[],[0],[],[1,0,2],[3,1,0,2],[4,3,1,0,2],[],[6],[],[7,6,8],[9,7,6,8],[10,9,7,6,8],[5,4,3,1,0,2,11,10,9,7,6,8],[12,5,4,3,1,0,2,11,10,9,7,6,8],[13,12,5,4,3,1,0,2,11,10,9,7,6,8],[13,12,5,4,3,1,0,2,11,10,9,7,6,8],[],[16,14,13,12,5,4,3,1,0,2,11,10,9,7,6,8],[15,13,12,5,4,3,1,0,2,11,10,9,7,6,8,17,16,14]] [⟨some 45,none,.faddr 0 (.t 3)⟩,⟨some 46,none,.load false 1 (.t 45)⟩,⟨some 47,none,.mv (.t 1)⟩,⟨some 48,none,.iaddr 3 (.t 46) (.t 47)⟩,⟨some 49,none,.faddr 1 (.t 48)⟩,⟨some 50,none,.load true 2 (.t 49)⟩,⟨some 51,none,.faddr 0 (.t 3)⟩,⟨some 52,none,.load false 1 (.t 51)⟩,⟨some 53,none,.mv (.t 2)⟩,⟨some 54,none,.iaddr 3 (.t 52) (.t 53)⟩,⟨some 55,none,.faddr 1 (.t 54)⟩,⟨some 56,none,.load true 2 (.t 55)⟩,⟨some 57,none,.call 50 [(.t 50),(.t 56)]⟩,⟨some 44,none,.mv (.t 57)⟩,⟨some 58,none,.ext (.t 44) 0⟩,⟨some 59,none,.ext (.t 44) 1⟩,⟨some 8,none,.alloc 76 [.nil]⟩,⟨none,none,(.store 1 (.t 8) (.t 58))⟩,⟨some 9,none,.mv (.t 59)⟩]) (.seq (.seq (.reg [⟨some 60,none,.mv (.t 9)⟩,⟨some 61,none,.un .not (.t 60)⟩]) (.cond (.t 61) (.seq (.reg [⟨some 62,none,.build [.nil] []⟩,⟨none,none,(.store 1 (.t 6) (.t 62))⟩,⟨some 7,none,.mv (.c (.bool false))⟩]) .ret) .skip)) (.seq (.dreg [[],[],[1],[],[2,1,3],[0,4,2,1,3],[5,0,4,2,1,3],[5,0,4,2,1,3],[6,5,0,4,2,1,3,7],[7,5,0,4,2,1,3,8,6]] [⟨some 63,none,.load true 1 (.t 8)⟩,⟨some 64,none,.faddr 0 (.t 3)⟩,⟨some 65,none,.load false 1 (.t 64)⟩,⟨some 66,none,.mv (.t 2)⟩,⟨some 67,none,.call 52 [(.t 65),(.t 66)]⟩,⟨some 68,none,.call 51 [(.t 63),(.t 67)]⟩,⟨some 69,none,.ext (.t 68) 0⟩,⟨some 70,none,.ext (.t 68) 1⟩,⟨none,none,(.store 1 (.t 6) (.t 69))⟩,⟨some 7,none,.mv (.t 70)⟩]) .ret)))))
theorem Dn:codeOf Tryz.prog 30=some ⟨71,C5,[(.cell 6 true 1),(.tmp 7)]⟩:=by kernel_rfl
theorem Cg:modes 30=⟨[],.frz,none,false⟩:=by unfold modes; rfl
theorem XQ (c:Cl) (hc:c.ok=true) (i k:Int):E 30 [c.sv,.int .i64 i,.int .i64 k] []=some (.tup [(MP c i k).sv,.bool (Ik c i k)],[]):=by
 have hl:=Cl.ok_len hc
 have hsv:∀ d:Cl,d.sv=.agg [.arr (d.lits.map Lt.d)]:=fun d=>rfl
 have h1:=QaH i 0 ((c.lits.length:Int)-1)
 have h2:=QaH k (i+1) ((c.lits.length:Int)-1)
 rw [show (dec (0≤i)&&dec (i≤(c.lits.length:Int)-1))=hasB c i from rfl] at h1
 rw [hsv,hsv]
 cases hi:hasB c i with
 | false =>
  obtain ⟨e1,e2⟩:=IH (Il (show IG c i k=false by unfold IG; rw [hi]; rfl))
  rw [hi] at h1
  rw [e1,e2]
  refine Af Dn Cg (of_decide_eq_true rfl) ?_
  simp (disch:=omega) only [C5,go_sem,Aa,h1,h2,CR]
 | true =>
 rw [hi] at h1
 rw [QbG c i k hi] at h2
 obtain ⟨p,rfl,hp⟩:=Oa hi
 have hP:IG c p k=((hasB c k&&dec ((p:Int)<k))&&((Tl c p).pos == (Tl c k).pos)):=by unfold IG; rw [hi,Bool.true_and,Bool.and_assoc]
 cases hk:hasB c k&&dec ((p:Int)<k) with
 | false =>
  obtain ⟨e1,e2⟩:=IH (Il (show IG c p k=false by rw [hP,hk]; rfl))
  rw [hk] at h2
  rw [e1,e2]
  refine Af Dn Cg (of_decide_eq_true rfl) ?_
  simp (disch:=omega) only [C5,go_sem,Aa,h1,h2,CR]
 | true =>
 rw [hk] at h2
 have hk':=hk
 rw [zJ] at hk'
 obtain ⟨q,rfl,hq⟩:=Oa hk'.1
 have hgp:=get_at Lt.d hp
 have hgq:=get_at Lt.d hq
 rw [Lt.d_eq] at hgp hgq
 have tp:=zP p
 have tq:=zP q
 have ap:=Cl.Dl hc _ (zA hp)
 have aq:=Cl.Dl hc _ (zA hq)
 have lp:=Qr hp
 have lq:=Qr hq
 cases hpp:c.lits[p].pos == c.lits[q].pos with
 | false =>
  obtain ⟨e1,e2⟩:=IH (Il (show IG c p q=false by rw [hP,lp,lq,hpp,zS]))
  rw [e1,e2]
  refine Af Dn Cg (of_decide_eq_true rfl) ?_
  simp (disch:=omega) only [C5,go_sem,Aa,h1,h2,CR,hgp,hgq,tp,tq,hpp]
 | true =>
  have hT:=XO (show IG c p q=true by rw [hP,hk,lp,lq,hpp]; rfl)
  rw [lp,lq] at hT
  have h3:=Z8 _ _ ap aq
  have hsp:c.lits[p].atom.sv=.agg [.str c.lits[p].atom.name,.arr (c.lits[p].atom.args.map Tm.d)]:=rfl
  have hsq:c.lits[q].atom.sv=.agg [.str c.lits[q].atom.name,.arr (c.lits[q].atom.args.map Tm.d)]:=rfl
  rw [hsp,hsq] at h3
  cases hu:unR c.lits[p].atom c.lits[q].atom with
  | none =>
   rw [hu] at hT h3
   have hus:uTo none=⟨[]⟩:=rfl
   have huo:uOk none=false:=rfl
   have hso:(Sb.mk []).sv=.agg [.arr []]:=rfl
   rw [hus,huo,hso] at h3
   obtain ⟨e1,e2⟩:=IH hT
   rw [e1,e2]
   refine Af Dn Cg (of_decide_eq_true rfl) ?_
   simp (disch:=omega) only [C5,go_sem,Aa,h1,h2,CR,hgp,hgq,tp,tq,hpp,h3,H0]
  | some s =>
   have hs:=Qdo (Tm.Cf ap) (Tm.Cf aq) hu
   rw [hu] at hT h3
   obtain ⟨e1,e2⟩:=XN hT
   rw [tq] at e1 e2
   rw [e1,e2]
   have h4:=VB c.lits (by omega) q hq
   have h5:=XP s hs (ED hs) (c.lits.eraseIdx q) (by have:=Uy hc q; omega) (PD hc q)
   have her:=Lt.der (c.lits.eraseIdx q)
   have hfu:=Lt.dfu (c.lits.eraseIdx q)
   have hus:uTo (some s)=s:=rfl
   have huo:uOk (some s)=true:=rfl
   have hss:s.sv=.agg [.arr (s.binds.map Bd.d)]:=rfl
   rw [hus,huo,hss] at h3
   rw [hss,hsv] at h5
   refine Af Dn Cg (of_decide_eq_true rfl) ?_
   simp (disch:=omega) only [C5,go_sem,Aa,h1,h2,CR,hgp,hgq,tp,tq,hpp,h3,h4,h5,her,hfu,H0,Io,Eo]
theorem Cl.Qdp (x:Cl) (h:x.bulk≤1048576):x.tame:=by
 rw [Cl.bulk_eq] at h
 refine ⟨by omega,fun y hy=>?_⟩
 obtain ⟨k,hk,rfl⟩:=List.getElem_of_mem hy
 have h1:=Lt.bulk_le x.lits k hk
 have h2:=Tm.RJ x.lits[k].atom
 rw [Lt.bulk_eq] at h1
 omega
theorem Tm.QbH {x:Tm} (h:x.atom=true):x.bulk≤300:=by
 have hx:=Tm.Cf h
 have hn:=Tm.Ar hx
 have h1:=Tm.ML x.args fun y hy=>Tm.RK y (Tm.Jc hx hy)
 have h2:x.name.size≤6:=by
  rcases Tm.JG hx with h3 | ⟨h3,_⟩
  ·rw [Tm.E0] at h3
   split at h3
   ·rename_i hv; exact Ug hv
   ·rw [zJ,zJ] at h3; exact Uh h3.1.1
  ·unfold Tm.eqn at h3
   rw [Ax.1 h3]; decide
 rw [Tm.An] at hn
 rw [Tm.bulk_eq]
 omega
theorem Lt.S1:∀ xs:List Lt,(∀ x∈xs,x.atom.atom=true)→Lt.sumB xs≤300*xs.length
 | [],_=>by simp [Lt.sumB]
 | x :: xs,h=>by
  have h1:=Tm.QbH (h x (by simp))
  have h2:=Lt.S1 xs fun y hy=>h y (by simp [hy])
  rw [Lt.sumB,Lt.bulk_eq,zN]; omega
theorem Cl.Qe2 {x:Cl} (h:x.ok=true):x.bulk≤2408:=by
 have h1:=Cl.ok_len h
 have h2:=Lt.S1 x.lits (Cl.Dl h)
 rw [Cl.bulk_eq]; omega
noncomputable def Kn (l:List Cl) (c:Cl):List Cl:=bif dec (c∈l) then l else l++[c]
noncomputable def Fu (l cs:List Cl):List Cl:=cs.foldl Kn l
theorem Qdq (l a b:List Cl):Fu l (a++b)=Fu (Fu l a) b:=List.foldl_append
theorem Qdr {l:List Cl} {c d:Cl}:d∈Kn l c ↔ d∈l∨d=c:=by
 unfold Kn
 by_cases h:c∈l
 ·rw [As h,cond_true]
  exact ⟨.inl,fun h'=>h'.elim id fun e=>e▸h⟩
 ·rw [Az h,cond_false]
  simp
theorem Qds (l:List Cl) (c:Cl):(Kn l c).length≤l.length+1:=by
 unfold Kn
 cases dec (c∈l) <;> simp
theorem XR:∀ (cs l:List Cl),(Fu l cs).length≤l.length+cs.length
 | [],l=>by simp [Fu]
 | c :: cs,l=>by
  have h:=XR cs (Kn l c)
  have h2:=Qds l c
  simp only [Fu,List.foldl_cons,zN] at h ⊢
  omega
theorem XS:∀ {cs l:List Cl} {d:Cl},d∈Fu l cs ↔ d∈l∨d∈cs
 | [],l,d=>by simp [Fu]
 | c :: cs,l,d=>by
  have h:=XS (cs:=cs) (l:=Kn l c) (d:=d)
  simp only [Fu,List.foldl_cons] at h ⊢
  rw [h,Qdr]
  simp only [List.mem_cons]
  exact or_assoc
theorem Cl.QaI {x y:Cl}:x=y ↔ x.lits=y.lits:=by
 constructor
 ·intro h; rw [h]
 ·intro h
  cases x; cases y
  simpa using h
theorem JM {p q:Prop} (h:p ↔ q):dec p=dec q:=by rw [show p=q from propext h]
theorem XT {xs ys:List Lt} (hl:xs.length=ys.length) {k:Nat} (hk:k<xs.length):(xs.drop k=ys.drop k) ↔ (xs[k]=ys[k]'(by omega)∧xs.drop (k+1)=ys.drop (k+1)):=by
 rw [zE hk,zE (show k<ys.length by omega),List.cons.injEq]
theorem H3:Kk Tryz.prog 101=true:=by kernel_rfl
def A7:SC:=(.seq (.reg [⟨some 6,none,.mv (.c (.bool false))⟩]) (.seq (.seq (.reg [⟨some 10,none,.mv (.t 0)⟩,⟨some 11,none,.len false (.t 10)⟩,⟨some 12,none,.mv (.t 1)⟩,⟨some 13,none,.len false (.t 12)⟩,⟨some 14,none,.bin .neq false (.t 11) (.t 13)⟩]) (.cond (.t 14) (.seq (.reg [⟨some 6,none,.mv (.c (.bool false))⟩]) .ret) .skip)) (.seq (.seq (.reg [⟨some 15,none,.mv (.t 0)⟩,⟨some 16,none,.len false (.t 15)⟩,⟨some 17,none,.mv (.c (.int .i64 0))⟩]) (.block 0 (.loop [0,1,1,0,0,0,0,0,0,0,0,0,0,0,0,1,1,1,0,0,0,0,0,0,0,0,0,0,0,0,0,0] (.seq (.reg [⟨some 18,none,.bin .lss false (.t 17) (.t 16)⟩]) (.seq (.cond (.t 18) .skip (.exit 0)) (.seq (.block 1 (.seq (.reg [⟨some 19,none,.mv (.t 17)⟩,⟨some 20,none,.iaddr 3 (.t 15) (.t 17)⟩,⟨some 21,none,.load true 3 (.t 20)⟩,⟨(some 8),none,(.alloc 73 [(.bool false),(.str ⟨#[]⟩),.nil])⟩,⟨some 7,none,.mv (.t 19)⟩,⟨none,none,(.store 3 (.t 8) (.t 21))⟩]) (.seq (.reg [⟨some 22,none,.mv (.t 1)⟩,⟨some 23,none,.mv (.t 7)⟩,⟨some 24,none,.iaddr 3 (.t 22) (.t 23)⟩,⟨some 25,none,.load true 3 (.t 24)⟩,⟨(some 9),none,(.alloc 73 [(.bool false),(.str ⟨#[]⟩),.nil])⟩,⟨none,none,(.store 3 (.t 9) (.t 25))⟩]) (.seq (.reg [⟨some 26,none,.mv (.t 2)⟩,⟨some 27,none,.load true 3 (.t 8)⟩,⟨some 28,none,.load true 3 (.t 9)⟩,⟨some 29,none,.callv (.t 26) [(.t 27),(.t 28)]⟩,⟨some 30,none,.un .not (.t 29)⟩]) (.cond (.t 30) (.seq (.reg [⟨some 6,none,.mv (.c (.bool false))⟩]) .ret) .skip))))) (.reg [⟨some 31,none,.bin .add false (.t 17) (.c (.int .i64 1))⟩,⟨some 17,none,.mv (.t 31)⟩]))))))) (.seq (.reg [⟨some 6,none,.mv (.c (.bool true))⟩]) .ret))))
theorem AL:codeOf Tryz.prog 100=some ⟨32,A7,[(.tmp 6)]⟩:=by kernel_rfl
theorem A8:modes 100=⟨[],.asis,none,false⟩:=by unfold modes; rfl
def Ip:SC:=(.seq (.reg [⟨some 2,none,.boxv 28 1 (.t 0)⟩,⟨some 3,none,.boxv 28 1 (.t 1)⟩,⟨some 4,none,.mv (.c (.bool false))⟩]) (.seq (.reg [⟨some 5,none,.faddr 0 (.t 2)⟩,⟨some 6,none,.load false 1 (.t 5)⟩,⟨some 7,none,.faddr 0 (.t 3)⟩,⟨some 8,none,.load false 1 (.t 7)⟩,⟨some 9,none,.call 100 [(.t 6),(.t 8),(.c (.fn 101 []))]⟩,⟨some 4,none,.mv (.t 9)⟩]) .ret))
theorem Od:codeOf Tryz.prog 70=some ⟨10,Ip,[(.tmp 4)]⟩:=by kernel_rfl
theorem Iq:modes 70=⟨[],.asis,none,false⟩:=by unfold modes; rfl
theorem Qdt (xs ys:List Lt) (hx:xs.length≤1048576) (hy:ys.length≤1048576) (hnx:∀ x∈xs,x.atom.nodes≤1099511627776) (hny:∀ x∈ys,x.atom.nodes≤1099511627776):E 100 [.arr (xs.map Lt.d),.arr (ys.map Lt.d),.fn 101 []] []=some (.bool (dec (xs=ys)),[]):=by
 by_cases hl:xs.length=ys.length
 ·have hz:((xs.length:Int)=(ys.length:Int))=True:=eq_true (by omega)
  refine Af AL A8 (of_decide_eq_true rfl) ?_
  simp (disch:=omega) only [A7,go_sem,Aa,hz]
  refine go_loop (α:=Int) (fun a=>⟨slots 32 0 [(1,.arr (ys.map Lt.d)),(2,.fn 101 []),(15,.arr (xs.map Lt.d)),(16,.int .i64 xs.length),(17,.int .i64 a)],[]⟩) (fun a=>∃ k:Nat,a=k∧k≤(xs).length∧dec (xs.drop k=ys.drop k)=dec (xs=ys)) (fun a=>(xs).length-(a).toNat) 0 ⟨0,rfl,zD _,by rw [zI,zI]⟩ (by simp (disch:=omega) only [go_sem,Aa]) ?_
  rintro i ⟨k,hi,hk,hR⟩
  have hni:i.toNat=k:=by omega
  have hni1:(i+1).toNat=k+1:=by omega
  rcases zB k (xs).length with hlt | hge
  ·have hg:=get_at Lt.d hlt
   have hlt2:k<ys.length:=by omega
   have hg2:=get_at Lt.d hlt2
   rw [Lt.d_eq] at hg hg2
   have hs:=XT hl hlt
   have hc:=Mi xs[k] ys[k] (hnx _ (zA hlt)) (hny _ (zA hlt2))
   have h1:xs[k].sv=.agg [.bool xs[k].pos,.str xs[k].atom.name,.arr (xs[k].atom.args.map Tm.d)]:=rfl
   have h2:ys[k].sv=.agg [.bool ys[k].pos,.str ys[k].atom.name,.arr (ys[k].atom.args.map Tm.d)]:=rfl
   rw [h1,h2] at hc
   by_cases he:xs[k]=ys[k]
   ·rw [As he] at hc
    rw [JM hs,JM (show (xs[k]=ys[k]∧xs.drop (k+1)=ys.drop (k+1)) ↔ xs.drop (k+1)=ys.drop (k+1) from ⟨fun h=>h.2,fun h=>⟨he,h⟩⟩)] at hR
    simp (disch:=omega) only [go_sem,Aa,hni,hg,hg2,hc,H3,EP]
    exact ⟨i+1,⟨k+1,by omega,hlt,hR⟩,by omega,by first | trivial | rfl⟩
   ·rw [Az he] at hc
    rw [JM hs,Az (fun h=>he h.1)] at hR
    rw [←hR]
    simp (disch:=omega) only [go_sem,Aa,hni,hg,hg2,hc,H3,EP]
  ·rw [zC hge,zC (by omega:ys.length≤k),As rfl] at hR
   rw [←hR]
   simp (disch:=omega) only [go_sem,Aa,hni]
 ·have hz:((xs.length:Int)=(ys.length:Int))=False:=eq_false (by omega)
  have hne:dec (xs=ys)=false:=Az fun h=>hl (by rw [h])
  rw [hne]
  refine Af AL A8 (of_decide_eq_true rfl) ?_
  simp (disch:=omega) only [A7,go_sem,Aa,hz]
theorem VC (x y:Cl) (hx:x.tame∧x.lits.length≤1048576) (hy:y.tame∧y.lits.length≤1048576):E 70 [x.sv,y.sv] []=some (.bool (dec (x=y)),[]):=by
 have h1:=Qdt x.lits y.lits hx.2 hy.2 hx.1.2 hy.1.2
 have e1:x.sv=.agg [.arr (x.lits.map Lt.d)]:=rfl
 have e2:y.sv=.agg [.arr (y.lits.map Lt.d)]:=rfl
 rw [JM Cl.QaI,e1,e2]
 refine Af Od Iq (of_decide_eq_true rfl) ?_
 simp (disch:=omega) only [Ip,go_sem,Aa,h1,A8]
def BQ:SC:=(.seq (.reg [⟨some 4,none,.mv (.c (.int .i64 0))⟩]) (.seq (.seq (.reg [⟨some 6,none,.mv (.t 0)⟩,⟨some 7,none,.len false (.t 6)⟩,⟨some 8,none,.mv (.c (.int .i64 0))⟩]) (.block 0 (.loop [1,1,0,0,0,0,0,1,1,0,0,0,0,0,0,0,0,0,0] (.seq (.reg [⟨some 9,none,.bin .lss false (.t 8) (.t 7)⟩]) (.seq (.cond (.t 9) .skip (.exit 0)) (.seq (.block 1 (.seq (.reg [⟨some 10,none,.mv (.t 8)⟩,⟨some 5,none,.mv (.t 10)⟩]) (.seq (.reg [⟨some 11,none,.mv (.t 1)⟩,⟨some 12,none,.mv (.t 0)⟩,⟨some 13,none,.mv (.t 5)⟩,⟨some 14,none,.iaddr 1 (.t 12) (.t 13)⟩,⟨some 15,none,.load true 1 (.t 14)⟩,⟨some 16,none,.callv (.t 11) [(.t 15)]⟩]) (.cond (.t 16) (.seq (.reg [⟨some 17,none,.mv (.t 5)⟩,⟨some 4,none,.mv (.t 17)⟩]) .ret) .skip)))) (.reg [⟨some 18,none,.bin .add false (.t 8) (.c (.int .i64 1))⟩,⟨some 8,none,.mv (.t 18)⟩]))))))) (.seq (.reg [⟨some 4,none,.mv (.c (.int .i64 (-(0+1))))⟩]) .ret)))
theorem D2:codeOf Tryz.prog 65=some ⟨19,BQ,[(.tmp 4)]⟩:=by kernel_rfl
theorem BR:modes 65=⟨[],.asis,none,false⟩:=by unfold modes; rfl
def B7:SC:=(.seq (.reg [⟨some 4,none,.mv (.c (.bool false))⟩]) (.seq (.reg [⟨some 5,none,.mv (.t 0)⟩,⟨some 6,none,.mv (.t 1)⟩,⟨some 7,none,.call 65 [(.t 5),(.t 6)]⟩,⟨some 8,none,.bin .geq false (.t 7) (.c (.int .i64 0))⟩,⟨some 4,none,.mv (.t 8)⟩]) .ret))
theorem Dd:codeOf Tryz.prog 38=some ⟨9,B7,[(.tmp 4)]⟩:=by kernel_rfl
theorem B8:modes 38=⟨[],.asis,none,false⟩:=by unfold modes; rfl
def Jr:SC:=(.seq (.reg [⟨some 3,none,.boxv 28 1 (.t 1)⟩,⟨some 4,none,.mv (.c (.bool false))⟩]) (.seq (.reg [⟨some 5,none,.mv (.t 0)⟩,⟨some 6,none,.mkfn 69 [(.t 3)]⟩,⟨some 7,none,.call 38 [(.t 5),(.t 6)]⟩,⟨some 4,none,.mv (.t 7)⟩]) .ret))
theorem Pe:codeOf Tryz.prog 44=some ⟨8,Jr,[(.tmp 4)]⟩:=by kernel_rfl
theorem FH:modes 44=⟨[],.asis,none,false⟩:=by unfold modes; rfl
def H4:SC:=(.seq (.reg [⟨some 2,none,.boxv 28 1 (.t 0)⟩,⟨some 3,none,.mv (.c (.bool false))⟩]) (.seq (.reg [⟨some 4,none,.load true 1 (.t 2)⟩,⟨some 5,none,.load true 1 (.t 1)⟩,⟨some 6,none,.call 70 [(.t 4),(.t 5)]⟩,⟨some 3,none,.mv (.t 6)⟩]) .ret))
theorem MQ:codeOf Tryz.prog 69=some ⟨7,H4,[(.tmp 3)]⟩:=by kernel_rfl
theorem EQ:modes 69=⟨[],.asis,none,false⟩:=by unfold modes; rfl
theorem H5:Kk Tryz.prog 69=true:=by kernel_rfl
theorem Qfk (c:Cl) (hc:c.tame∧c.lits.length≤1048576) (x:Cl) (hx:x.tame∧x.lits.length≤1048576):E 69 [x.sv,.ptr 0 0] [.box 28 [.arr (c.lits.map Lt.d)]]=some (.bool (dec (x=c)),[.box 28 [.arr (c.lits.map Lt.d)]]):=by
 have h1:=VC x c hx hc
 have e1:x.sv=.agg [.arr (x.lits.map Lt.d)]:=rfl
 have e2:c.sv=.agg [.arr (c.lits.map Lt.d)]:=rfl
 rw [e1,e2] at h1
 rw [e1]
 refine Af MQ EQ (of_decide_eq_true rfl) ?_
 simp (disch:=omega) only [H4,go_sem,Aa,h1,Iq]
theorem Qdu (c:Cl) (xs:List Cl):dec (c∈xs)=dec (0≤Ek (fun s=>dec (s=c)) xs 0):=by
 rw [Nw]
 by_cases hm:c∈xs
 ·rw [As hm]
  exact (List.any_eq_true.2 ⟨c,hm,As rfl⟩).symm
 ·rw [Az hm]
  refine Eq.symm (Bool.eq_false_iff.2 fun h=>?_)
  obtain ⟨x,h1,h2⟩:=List.any_eq_true.1 h
  have e:=Ax.1 h2
  subst e
  exact hm h1
theorem Qdv (c:Cl) (hc:c.tame∧c.lits.length≤1048576) (xs:List Cl) (hl:xs.length≤1048576) (hx:∀ x∈xs,x.tame∧x.lits.length≤1048576):E 65 [.arr (xs.map Cl.d),.fn 69 [.ptr 0 0]] [.box 28 [.arr (c.lits.map Lt.d)]]=some (.int .i64 (Ek (fun s=>dec (s=c)) xs 0),[.box 28 [.arr (c.lits.map Lt.d)]]):=by
 have hE:=Qfk c hc
 refine Af D2 BR (of_decide_eq_true rfl) ?_
 simp (disch:=omega) only [BQ,go_sem,Aa]
 refine go_loop (α:=Int) (fun a=>⟨slots 19 0 [(0,.arr (xs.map Cl.d)),(1,.fn 69 [.ptr 0 0]),(7,.int .i64 xs.length),(8,.int .i64 a)],[.box 28 [.arr (c.lits.map Lt.d)]]⟩) (fun a=>∃ k:Nat,a=k∧k≤(xs).length∧Ek (fun s=>dec (s=c)) (xs.drop k) a=Ek (fun s=>dec (s=c)) xs 0) (fun a=>(xs).length-(a).toNat) 0 ⟨0,rfl,zD _,by rw [zI]⟩ (by simp (disch:=omega) only [go_sem,Aa]) ?_
 rintro i ⟨k,hi,hk,hR⟩
 have hni:i.toNat=k:=by omega
 have hni1:(i+1).toNat=k+1:=by omega
 rcases zB k (xs).length with hlt | hge
 ·have hg':=get_at Cl.d hlt
  rw [Cl.d_eq] at hg'
  have hc:=hE xs[k] (hx _ (zA hlt))
  rw [zE hlt,Ek] at hR
  have e1:xs[k].sv=.agg [.arr (xs[k].lits.map Lt.d)]:=rfl
  rw [e1] at hc
  cases hp:dec (xs[k]=c) with
  | true =>
   rw [hp] at hc hR
   simp (disch:=omega) only [go_sem,Aa,hni,hg',hc,H5,EQ]
   simpa using hR
  | false =>
   rw [hp] at hc hR
   simp (disch:=omega) only [go_sem,Aa,hni,hg',hc,H5,EQ]
   exact ⟨i+1,⟨k+1,by omega,hlt,by simpa using hR⟩,by omega,by first | trivial | rfl⟩
 ·rw [zC hge,Ek] at hR
  simp (disch:=omega) only [go_sem,Aa,hni]
  exact hR
theorem XU (c:Cl) (hc:c.tame∧c.lits.length≤1048576) (xs:List Cl) (hl:xs.length≤1048576) (hx:∀ x∈xs,x.tame∧x.lits.length≤1048576):E 38 [.arr (xs.map Cl.d),.fn 69 [.ptr 0 0]] [.box 28 [.arr (c.lits.map Lt.d)]]=some (.bool (dec (c∈xs)),[.box 28 [.arr (c.lits.map Lt.d)]]):=by
 have h:=Qdv c hc xs hl hx
 rw [Qdu]
 refine Af Dd B8 (of_decide_eq_true rfl) ?_
 simp (disch:=omega) only [B7,go_sem,Aa,h,BR]
theorem XV (c:Cl) (hc:c.tame∧c.lits.length≤1048576) (xs:List Cl) (hl:xs.length≤1048576) (hx:∀ x∈xs,x.tame∧x.lits.length≤1048576):E 44 [.arr (xs.map Cl.d),c.sv] []=some (.bool (dec (c∈xs)),[]):=by
 have h:=XU c hc xs hl hx
 have e2:c.sv=.agg [.arr (c.lits.map Lt.d)]:=rfl
 rw [e2]
 refine Af Pe FH (of_decide_eq_true rfl) ?_
 simp (disch:=omega) only [Jr,go_sem,Aa,h,B8]
def Cl.smallC (x:Cl):Prop:=x.tame∧x.lits.length≤1048576
def Cl.os (x:Cl):List OT:=[.sh (x.lits.map Lt.d)]
theorem Cl.os_eq (x:Cl):x.os=[.sh (x.lits.map Lt.d)]:=rfl
theorem Cl.VD:∀ xs:List Cl,OT.AM (xs.map Cl.os)=true
 | []=>rfl
 | x :: xs=>by rw [List.map_cons,OT.AM,Cl.VD xs]; rfl
theorem Cl.Qdw:∀ xs:List Cl,OT.erss (xs.map Cl.os)=xs.map Cl.d
 | []=>rfl
 | x :: xs=>by rw [List.map_cons,OT.erss,Cl.Qdw xs]; rfl
def II:SC:=(.seq (.reg [⟨some 2,none,.boxv 28 1 (.t 0)⟩,⟨some 3,none,.boxv 28 1 (.t 1)⟩,⟨some 4,none,.mv (.c (.bool false))⟩]) (.seq (.seq (.reg [⟨some 6,none,.faddr 0 (.t 2)⟩,⟨some 7,none,.load false 1 (.t 6)⟩,⟨some 8,none,.len false (.t 7)⟩,⟨some 9,none,.faddr 0 (.t 3)⟩,⟨some 10,none,.load false 1 (.t 9)⟩,⟨some 11,none,.len false (.t 10)⟩,⟨some 12,none,.bin .neq false (.t 8) (.t 11)⟩]) (.cond (.t 12) (.seq (.reg [⟨some 4,none,.mv (.c (.bool false))⟩]) .ret) .skip)) (.seq (.seq (.reg [⟨some 5,none,.mv (.c (.int .i64 0))⟩]) (.block 0 (.loop [0,0,1,1,0,1,0,0,0,0,0,0,0,0,0,0,0,0,0,0,0,0,0,0,0,0,0,0,0,0,0,0,0,0,0,0,0,0,0,0,0,0,0,0,0,0,0,0,0] (.seq (.seq (.reg [⟨some 13,none,.mv (.t 5)⟩,⟨some 14,none,.faddr 0 (.t 2)⟩,⟨some 15,none,.load false 1 (.t 14)⟩,⟨some 16,none,.len false (.t 15)⟩,⟨some 17,none,.bin .lss false (.t 13) (.t 16)⟩]) (.cond (.t 17) .skip (.exit 0))) (.seq (.block 1 (.seq (.dreg [[],[0],[],[1,0,2],[3,1,0,2],[4,3,1,0,2],[],[6],[],[7,6,8],[9,7,6,8],[10,9,7,6,8],[5,4,3,1,0,2,11,10,9,7,6,8],[12,5,4,3,1,0,2,11,10,9,7,6,8],[13,12,5,4,3,1,0,2,11,10,9,7,6,8],[14,13,12,5,4,3,1,0,2,11,10,9,7,6,8],[13,12,5,4,3,1,0,2,11,10,9,7,6,8],[15,14,13,12,5,4,3,1,0,2,11,10,9,7,6,8,16],[17,15,14,13,12,5,4,3,1,0,2,11,10,9,7,6,8,16],[18,17,15,14,13,12,5,4,3,1,0,2,11,10,9,7,6,8,16],[13,12,5,4,3,1,0,2,11,10,9,7,6,8],[20,13,12,5,4,3,1,0,2,11,10,9,7,6,8],[13,12,5,4,3,1,0,2,11,10,9,7,6,8],[21,20,13,12,5,4,3,1,0,2,11,10,9,7,6,8,22],[23,21,20,13,12,5,4,3,1,0,2,11,10,9,7,6,8,22],[24,23,21,20,13,12,5,4,3,1,0,2,11,10,9,7,6,8,22],[19,18,17,15,14,13,12,5,4,3,1,0,2,11,10,9,7,6,8,16,25,24,23,21,20,22],[26,19,18,17,15,14,13,12,5,4,3,1,0,2,11,10,9,7,6,8,16,25,24,23,21,20,22],[13,12,5,4,3,1,0,2,11,10,9,7,6,8,27,26,19,18,17,15,14,16,25,24,23,21,20,22]] [⟨some 20,none,.faddr 0 (.t 2)⟩,⟨some 21,none,.load false 1 (.t 20)⟩,⟨some 22,none,.mv (.t 5)⟩,⟨some 23,none,.iaddr 3 (.t 21) (.t 22)⟩,⟨some 24,none,.faddr 0 (.t 23)⟩,⟨some 25,none,.load false 1 (.t 24)⟩,⟨some 26,none,.faddr 0 (.t 3)⟩,⟨some 27,none,.load false 1 (.t 26)⟩,⟨some 28,none,.mv (.t 5)⟩,⟨some 29,none,.iaddr 3 (.t 27) (.t 28)⟩,⟨some 30,none,.faddr 0 (.t 29)⟩,⟨some 31,none,.load false 1 (.t 30)⟩,⟨some 32,none,.bin .neq true (.t 25) (.t 31)⟩,⟨some 33,none,.mv (.t 32)⟩,⟨(some 34),(some (33,false)),(.faddr 0 (.t 2))⟩,⟨(some 35),(some (33,false)),(.load false 1 (.t 34))⟩,⟨(some 36),(some (33,false)),(.mv (.t 5))⟩,⟨(some 37),(some (33,false)),(.iaddr 3 (.t 35) (.t 36))⟩,⟨(some 38),(some (33,false)),(.faddr 1 (.t 37))⟩,⟨(some 39),(some (33,false)),(.load true 2 (.t 38))⟩,⟨(some 40),(some (33,false)),(.faddr 0 (.t 3))⟩,⟨(some 41),(some (33,false)),(.load false 1 (.t 40))⟩,⟨(some 42),(some (33,false)),(.mv (.t 5))⟩,⟨(some 43),(some (33,false)),(.iaddr 3 (.t 41) (.t 42))⟩,⟨(some 44),(some (33,false)),(.faddr 1 (.t 43))⟩,⟨(some 45),(some (33,false)),(.load true 2 (.t 44))⟩,⟨(some 46),(some (33,false)),(.call 68 [(.t 39),(.t 45)])⟩,⟨(some 47),(some (33,false)),(.un .not (.t 46))⟩,⟨some 48,none,.pick (.t 33) (.c (.bool true)) (.t 47)⟩]) (.cond (.t 48) (.seq (.reg [⟨some 4,none,.mv (.c (.bool false))⟩]) .ret) .skip))) (.reg [⟨some 18,none,.mv (.t 5)⟩,⟨some 19,none,.bin .add false (.t 18) (.c (.int .i64 1))⟩,⟨some 5,none,.mv (.t 19)⟩])))))) (.seq (.reg [⟨some 4,none,.mv (.c (.bool true))⟩]) .ret))))
theorem Ms:codeOf Tryz.prog 42=some ⟨49,II,[(.tmp 4)]⟩:=by kernel_rfl
theorem FS:modes 42=⟨[],.asis,none,false⟩:=by unfold modes; rfl
theorem Qdx (x y:Cl) (hx:x.smallC) (hy:y.smallC):E 42 [x.sv,y.sv] []=some (.bool (dec (x=y)),[]):=by
 have e1:x.sv=.agg [.arr (x.lits.map Lt.d)]:=rfl
 have e2:y.sv=.agg [.arr (y.lits.map Lt.d)]:=rfl
 rw [JM Cl.QaI,e1,e2]
 obtain ⟨⟨hx1,hnx⟩,hx⟩:=hx
 obtain ⟨⟨hy1,hny⟩,hy⟩:=hy
 obtain ⟨xs,hxs⟩:∃ xs,xs=x.lits:=⟨_,rfl⟩
 obtain ⟨ys,hys⟩:∃ ys,ys=y.lits:=⟨_,rfl⟩
 rw [←hxs] at hx hnx ⊢
 rw [←hys] at hy hny ⊢
 clear e1 e2 hxs hys hx1 hy1
 by_cases hl:xs.length=ys.length
 ·have hz:((xs.length:Int)=(ys.length:Int))=True:=eq_true (by omega)
  refine Af Ms FS (of_decide_eq_true rfl) ?_
  simp (disch:=omega) only [II,go_sem,Aa,hz]
  refine go_loop (α:=Int) (fun a=>⟨slots 49 0 [(2,.ptr 0 0),(3,.ptr 1 0),(5,.int .i64 a)],[.box 28 [.arr (xs.map Lt.d)],.box 28 [.arr (ys.map Lt.d)]]⟩) (fun a=>∃ k:Nat,a=k∧k≤(xs).length∧dec (xs.drop k=ys.drop k)=dec (xs=ys)) (fun a=>(xs).length-(a).toNat) 0 ⟨0,rfl,zD _,by rw [zI,zI]⟩ (by simp (disch:=omega) only [go_sem,Aa]) ?_
  rintro i ⟨k,hi,hk,hR⟩
  have hni:i.toNat=k:=by omega
  have hni1:(i+1).toNat=k+1:=by omega
  rcases zB k (xs).length with hlt | hge
  ·have hg:=get_at Lt.d hlt
   have hlt2:k<ys.length:=by omega
   have hg2:=get_at Lt.d hlt2
   rw [Lt.d_eq] at hg hg2
   have hs:=XT hl hlt
   have hc:=IW xs[k].atom ys[k].atom (hnx _ (zA hlt)) (hny _ (zA hlt2))
   have h1:xs[k].atom.sv=.agg [.str xs[k].atom.name,.arr (xs[k].atom.args.map Tm.d)]:=rfl
   have h2:ys[k].atom.sv=.agg [.str ys[k].atom.name,.arr (ys[k].atom.args.map Tm.d)]:=rfl
   rw [h1,h2] at hc
   have hq:(xs[k]=ys[k]) ↔ (xs[k].pos=ys[k].pos∧xs[k].atom=ys[k].atom):=by
    constructor
    ·intro h; rw [h]; exact ⟨rfl,rfl⟩
    ·rintro ⟨a,b⟩
     cases h3:xs[k]; cases h4:ys[k]
     rw [h3,h4] at a b
     simp only at a b
     rw [a,b]
   cases hp:xs[k].pos == ys[k].pos with
   | false =>
    have hpn:¬ xs[k].pos=ys[k].pos:=by simpa using hp
    rw [JM hs,Az (fun h=>hpn (hq.1 h.1).1)] at hR
    rw [←hR]
    simp (disch:=omega) only [go_sem,Aa,hni,hg,hg2,hp,Ai]
   | true =>
    have hpy:xs[k].pos=ys[k].pos:=by simpa using hp
    by_cases he:xs[k].atom=ys[k].atom
    ·have he2:=hq.2 ⟨hpy,he⟩
     rw [As he] at hc
     rw [JM hs,JM (show (xs[k]=ys[k]∧xs.drop (k+1)=ys.drop (k+1)) ↔ xs.drop (k+1)=ys.drop (k+1) from ⟨fun h=>h.2,fun h=>⟨he2,h⟩⟩)] at hR
     simp (disch:=omega) only [go_sem,Aa,hni,hg,hg2,hp,hc,Ai]
     exact ⟨i+1,⟨k+1,by omega,hlt,hR⟩,by omega,by first | trivial | rfl⟩
    ·rw [Az he] at hc
     rw [JM hs,Az (fun h=>he (hq.1 h.1).2)] at hR
     rw [←hR]
     simp (disch:=omega) only [go_sem,Aa,hni,hg,hg2,hp,hc,Ai]
  ·rw [zC hge,zC (by omega:ys.length≤k),As rfl] at hR
   rw [←hR]
   simp (disch:=omega) only [go_sem,Aa,hni]
 ·have hz:((xs.length:Int)=(ys.length:Int))=False:=eq_false (by omega)
  have hne:dec (xs=ys)=false:=Az fun h=>hl (by rw [h])
  rw [hne]
  refine Af Ms FS (of_decide_eq_true rfl) ?_
  simp (disch:=omega) only [II,go_sem,Aa,hz]
def Kg:SC:=(.seq (.reg [⟨some 2,none,.mv (.c .nil)⟩]) (.seq (.reg [⟨some 7,none,.mkrow 28 1 [.nil] 0 []⟩,⟨some 3,none,.mv (.t 7)⟩]) (.seq (.seq (.reg [⟨some 4,none,.mv (.c (.int .i64 0))⟩]) (.block 0 (.loop [1,0,0,1,1,0,0,0,0,0,0,0,0,0,0,0,0,0,0,0,0,0,0,0,0,0,0,0,0,0,0,0,0,0,0,0,0,0,0,0,0,0] (.seq (.seq (.reg [⟨some 8,none,.mv (.t 4)⟩,⟨some 9,none,.mv (.t 0)⟩,⟨some 10,none,.len false (.t 9)⟩,⟨some 11,none,.bin .lss false (.t 8) (.t 10)⟩]) (.cond (.t 11) .skip (.exit 0))) (.seq (.block 1 (.seq (.reg [⟨some 5,none,.mv (.c (.bool false))⟩]) (.seq (.seq (.reg [⟨some 6,none,.mv (.c (.int .i64 0))⟩]) (.block 2 (.loop [1,0,0,1,1,1,1,0,0,0,0,0,0,0,0,0,0,0,0,0,0,0,0,0,0,0,0,0,0,0,0,0,0,0,0,0,0,0,0,0,0,0] (.seq (.seq (.reg [⟨some 14,none,.mv (.t 6)⟩,⟨some 15,none,.mv (.t 3)⟩,⟨some 16,none,.len false (.t 15)⟩,⟨some 17,none,.bin .lss false (.t 14) (.t 16)⟩]) (.cond (.t 17) .skip (.exit 2))) (.seq (.block 3 (.dreg [[],[0],[1,0],[1,0],[2,1,0,3],[4,2,1,0,3],[1,0],[1,0],[6,1,0,7],[8,6,1,0,7],[5,4,2,1,0,3,9,8,6,7],[1,0,10,5,4,2,3,9,8,6,7],[11,1,0,10,5,4,2,3,9,8,6,7]] [⟨some 20,none,.mv (.t 5)⟩,⟨some 21,none,.mv (.t 20)⟩,⟨(some 22),(some (21,false)),(.mv (.t 3))⟩,⟨(some 23),(some (21,false)),(.mv (.t 6))⟩,⟨(some 24),(some (21,false)),(.iaddr 1 (.t 22) (.t 23))⟩,⟨(some 25),(some (21,false)),(.load true 1 (.t 24))⟩,⟨(some 26),(some (21,false)),(.mv (.t 0))⟩,⟨(some 27),(some (21,false)),(.mv (.t 4))⟩,⟨(some 28),(some (21,false)),(.iaddr 1 (.t 26) (.t 27))⟩,⟨(some 29),(some (21,false)),(.load true 1 (.t 28))⟩,⟨(some 30),(some (21,false)),(.call 42 [(.t 25),(.t 29)])⟩,⟨some 31,none,.pick (.t 21) (.c (.bool true)) (.t 30)⟩,⟨some 5,none,.mv (.t 31)⟩])) (.reg [⟨some 18,none,.mv (.t 6)⟩,⟨some 19,none,.bin .add false (.t 18) (.c (.int .i64 1))⟩,⟨some 6,none,.mv (.t 19)⟩])))))) (.seq (.reg [⟨some 32,none,.mv (.t 5)⟩,⟨some 33,none,.un .not (.t 32)⟩]) (.cond (.t 33) (.reg [⟨some 34,none,.mv (.t 3)⟩,⟨some 35,none,.mv (.t 0)⟩,⟨some 36,none,.mv (.t 4)⟩,⟨some 37,none,.iaddr 1 (.t 35) (.t 36)⟩,⟨some 38,none,.load true 1 (.t 37)⟩,⟨some 39,none,.mkrow 28 1 [.nil] 1 [(0,(.t 38))]⟩,⟨some 40,none,.append 28 1 24 [.nil] (.t 34) (.t 39)⟩,⟨some 3,none,.mv (.t 40)⟩]) .skip))))) (.reg [⟨some 12,none,.mv (.t 4)⟩,⟨some 13,none,.bin .add false (.t 12) (.c (.int .i64 1))⟩,⟨some 4,none,.mv (.t 13)⟩])))))) (.seq (.reg [⟨some 41,none,.mv (.t 3)⟩,⟨some 2,none,.mv (.t 41)⟩]) .ret))))
theorem PY:codeOf Tryz.prog 45=some ⟨42,Kg,[(.tmp 2)]⟩:=by kernel_rfl
theorem Kh:modes 45=⟨[],.frz,none,false⟩:=by unfold modes; rfl
theorem Qdy (c:Cl) {acc:List Cl} {k:Nat} (h:k<acc.length):dec (c∈acc.take (k+1))=(dec (c∈acc.take k) || dec (acc[k]=c)):=by
 rw [List.take_succ_eq_append_getElem h]
 by_cases h1:c∈acc.take k
 ·rw [As h1,As (zH.2 (.inl h1))]; rfl
 ·by_cases h2:acc[k]=c
  ·rw [As h2,As (zH.2 (.inr (by simp [h2]))),Bool.or_true]
  ·rw [Az h1,Az h2,Az (fun h=>by rcases zH.1 h with h | h; exact h1 h; exact h2 (List.mem_singleton.1 h).symm)]; rfl
theorem Z9 (cs:List Cl) (hl:cs.length≤1048576) (hx:∀ x∈cs,x.smallC):E 45 [.arr (cs.map Cl.d)] []=some (.arr ((Fu [] cs).map Cl.d),[]):=by
 refine Af PY Kh (of_decide_eq_true rfl) ?_
 simp (disch:=omega) only [Kg,go_sem,Aa]
 refine go_loop (α:=Int × (List Cl)) (fun a=>⟨slots 42 0 [(0,.arr (cs.map Cl.d)),(3,.ref 0),(4,.int .i64 (a.1))],[.row 28 1 ((a.2).map Cl.os)]⟩) (fun a=>∃ k:Nat,a.1=k∧k≤(cs).length∧Fu (a.2) (cs.drop k)=Fu [] cs∧(a.2).length≤k∧∀ x∈(a.2),x.smallC) (fun a=>(cs).length-(a.1).toNat) (0,[]) ⟨0,rfl,zD _,by rw [zI],zO _,fun x hx=>by simp at hx⟩ (by simp (disch:=omega) only [go_sem,Aa]) ?_
 rintro ⟨i,acc⟩ ⟨k,hi,hk,hR⟩
 dsimp only at hi hR
 have hni:i.toNat=k:=by omega
 have hni1:(i+1).toNat=k+1:=by omega
 rcases zB k (cs).length with hlt | hge
 ·obtain ⟨hR1,hR2,hR3⟩:=hR
  rw [zE hlt] at hR1
  have hg0:=get_at Cl.d hlt
  rw [Cl.d_eq] at hg0
  have hcm:=hx _ (zA hlt)
  obtain ⟨c,hc⟩:∃ c,c=cs[k]:=⟨_,rfl⟩
  rw [←hc] at hR1 hg0 hcm
  have hstep:Fu (Kn acc c) (cs.drop (k+1))=Fu [] cs:=hR1
  have hio:=hi
  have hni0:=hni
  have hni10:=hni1
  generalize i=io at *
  simp (disch:=omega) only [go_sem,Aa,hni0]
  refine go_loop (α:=Int × (Bool)) (fun a=>⟨slots 42 0 [(0,.arr (cs.map Cl.d)),(3,.ref 0),(4,.int .i64 io),(5,.bool (a.2)),(6,.int .i64 (a.1))],[.row 28 1 (acc.map Cl.os)]⟩) (fun a=>∃ k:Nat,a.1=k∧k≤(acc).length∧(a.2)=dec (c∈acc.take k)) (fun a=>(acc).length-(a.1).toNat) (0,false) ⟨0,rfl,zD _,by rw [List.take_zero,Az (by simp)]⟩ (by simp (disch:=omega) only [go_sem,Aa]) ?_
  rintro ⟨i,fd⟩ ⟨k,hi,hk,hR⟩
  dsimp only at hi hR
  have hni:i.toNat=k:=by omega
  have hni1:(i+1).toNat=k+1:=by omega
  rcases zB k (acc).length with hlt | hge
  ·have hg:=get_at Cl.os hlt
   rw [Cl.os_eq] at hg
   have hcs:=Qdx acc[k] c (hR3 _ (zA hlt)) hcm
   have e1:acc[k].sv=.agg [.arr (acc[k].lits.map Lt.d)]:=rfl
   have e2:c.sv=.agg [.arr (c.lits.map Lt.d)]:=rfl
   rw [e1,e2] at hcs
   have ht:=Qdy c hlt
   rw [←hR] at ht
   cases fd with
   | true =>
    simp (disch:=omega) only [go_sem,Aa,hni0,hni,hg,hg0,hcs,FS]
    exact ⟨(i+1,true),⟨k+1,by dsimp only; omega,hlt,by rw [ht]; rfl⟩,by dsimp only; omega,by first | trivial | rfl⟩
   | false =>
    obtain ⟨b,hb⟩:∃ b,b=dec (acc[k]=c):=⟨_,rfl⟩
    rw [←hb] at hcs ht
    simp (disch:=omega) only [go_sem,Aa,hni0,hni,hg,hg0,hcs,FS]
    exact ⟨(i+1,b),⟨k+1,by dsimp only; omega,hlt,by rw [ht]; rfl⟩,by dsimp only; omega,by first | trivial | rfl⟩
  ·rw [zG hge] at hR
   cases fd with
   | true =>
    have ha:Kn acc c=acc:=by unfold Kn; rw [←hR]; rfl
    rw [ha] at hstep
    simp (disch:=omega) only [go_sem,Aa,hni0,hni,hg0]
    exact ⟨(io+1,acc),⟨_,by dsimp only; omega,by assumption,hstep,by dsimp only; omega,hR3⟩,by dsimp only; omega,by first | trivial | rfl⟩
   | false =>
    have ha:Kn acc c=acc++[c]:=by unfold Kn; rw [←hR]; rfl
    rw [ha] at hstep
    have hap:acc.map Cl.os++[[OT.sh (c.lits.map Lt.d)]]=(acc++[c]).map Cl.os:=by rw [zR]; rfl
    simp (disch:=omega) only [go_sem,Aa,hni0,hni,hg0,hap]
    refine ⟨(io+1,acc++[c]),⟨_,by dsimp only; omega,by assumption,hstep,by simp only [zL,zN,List.length_nil]; omega,fun x hx=>?_⟩,by dsimp only; omega,by first | trivial | rfl⟩
    rcases zH.1 hx with h | h
    ·exact hR3 x h
    ·rw [List.mem_singleton.1 h]; exact hcm
 ·obtain ⟨hR1,hR2,hR3⟩:=hR
  rw [zC hge] at hR1
  have hR1:acc=Fu [] cs:=hR1
  have her:=Cl.Qdw acc
  have hfu:=Cl.VD acc
  rw [←hR1]
  simp (disch:=omega) only [go_sem,Aa,hni,her,hfu]
theorem Cl.QaJ:∀ cs:List Cl,(∀ c∈cs,c.ok=true)→Cl.sumB cs≤2408*cs.length
 | [],_=>by simp [Cl.sumB]
 | c :: cs,h=>by
  have h1:=Cl.Qe2 (h c (by simp))
  have h2:=Cl.QaJ cs fun d hd=>h d (by simp [hd])
  rw [Cl.sumB,zN]; omega
noncomputable def H6 (f:Nat→Option Cl):Nat→List Cl
 | 0=>[]
 | k+1=>H6 f k++(f k).toList
noncomputable def Db (g:Nat→List Cl):Nat→List Cl
 | 0=>[]
 | k+1=>Db g k++g k
theorem Pf (f:Nat→Option Cl):∀ k,(H6 f k).length≤k
 | 0=>zO _
 | k+1=>by
  have h:=Pf f k
  rw [H6,zL]
  cases f k <;> simp <;> omega
theorem Uz {g:Nat→List Cl} {m:Nat} (h:∀ k,(g k).length≤m):∀ k,(Db g k).length≤m*k
 | 0=>zO _
 | k+1=>by
  have h1:=Uz h k
  have h2:=h k
  rw [Db,zL,Nat.mul_succ]; omega
theorem U0 {f:Nat→Option Cl} {x:Cl}:∀ {k},x∈H6 f k→∃ j,f j=some x
 | 0,h=>by simp [H6] at h
 | k+1,h=>by
  rw [H6] at h
  rcases zH.1 h with h | h
  ·exact U0 h
  ·exact ⟨k,by simpa using h⟩
theorem U1 {g:Nat→List Cl} {x:Cl}:∀ {k},x∈Db g k→∃ j,x∈g j
 | 0,h=>by simp [Db] at h
 | k+1,h=>by
  rw [Db] at h
  rcases zH.1 h with h | h
  ·exact U1 h
  ·exact ⟨k,h⟩
theorem S2 {f:Nat→Option Cl}:∀ {k},(∀ j,j<k→f j=none)→H6 f k=[]
 | 0,_=>rfl
 | k+1,h=>by rw [H6,S2 fun j hj=>h j (by omega),h k (by omega)]; rfl
theorem U2 {f:Nat→Option Cl} {k:Nat} {x:Cl} (h:f k=some x):H6 f (k+1)=H6 f k++[x]:=by rw [H6,h]; rfl
theorem XW {f:Nat→Option Cl} {k:Nat} (h:f k=none):H6 f (k+1)=H6 f k:=by rw [H6,h]; simp
theorem Qe3 {s:Sb} {l:List Lt} (h:Gk s l=true):(Tk s l).ok=true:=by
 rw [Sy h]
 unfold Gk at h
 rw [zJ] at h
 exact Qa9 10 (Z7 h.1)
theorem S3 {c:Cl} (h:c.ok=true):c.smallC:=⟨XM h,by have:=Cl.ok_len h; omega⟩
theorem QaK {c:Cl} {i k:Int} (h:Ik c i k=true):(MP c i k).ok=true:=by
 unfold Ik at h
 unfold MP
 cases hf:VA c i k with
 | none=>rw [hf] at h; cases h
 | some s=>rw [hf] at h; exact Qe3 h
noncomputable def XX (c:Cl) (i k:Int):Option Cl:=bif Ik c i k then some (MP c i k) else none
theorem S4 {c:Cl} {i k:Int} (h:Ik c i k=true):XX c i k=some (MP c i k):=by unfold XX; rw [h]; rfl
theorem Qs {c:Cl} {i k:Int} (h:Ik c i k=false):XX c i k=none:=by unfold XX; rw [h]; rfl
theorem Qe4 {c:Cl} {i k:Int} {x:Cl} (h:XX c i k=some x):x.ok=true:=by
 cases hf:Ik c i k with
 | false=>rw [Qs hf] at h; cases h
 | true=>rw [S4 hf] at h; obtain rfl:=Option.some.inj h; exact QaK hf
theorem Qdz {c:Cl} {i k:Int} (h:k≤i):XX c i k=none:=by
 refine Qs (IH (Il ?_)).1
 unfold IG
 rw [Az (show ¬ i<k by omega),Bool.false_and,zS,zS]
noncomputable def Gm (c:Cl) (i:Nat):Nat→List Cl:=H6 fun k=>XX c (i:Nat) (k:Nat)
noncomputable def H7 (c:Cl) (i:Nat):List Cl:=Gm c i c.lits.length
noncomputable def Tn (c:Cl):List Cl:=Db (H7 c) c.lits.length
theorem XY {c x:Cl} {i k:Nat} (h:x∈Gm c i k):x.ok=true:=by
 obtain ⟨j,h⟩:=U0 h
 exact Qe4 h
theorem S5 {c x:Cl} {n:Nat} (h:x∈Db (H7 c) n):x.ok=true:=by
 obtain ⟨j,h⟩:=U1 h
 exact XY h
theorem S6 {c:Cl} (hc:c.ok=true) (n k:Nat) (hn:n≤8) (hk:k≤8):(Db (H7 c) n++Gm c n k).length≤72:=by
 have hl:=Cl.ok_len hc
 have h1:=Uz (g:=H7 c) (m:=8) (fun j=>Nat.le_trans (Pf _ _) hl) n
 have h2:=Pf (fun k=>XX c (n:Nat) (k:Nat)) k
 rw [zL]
 unfold Gm
 omega
theorem S7 {cs:List Cl} (h:∀ x∈cs,x.ok=true):∀ x∈Fu [] cs,x.ok=true:=fun x hx=>by
 rcases XS.1 hx with h1 | h1
 ·simp at h1
 ·exact h x h1
noncomputable def VE (c:Cl):List Cl:=bif c.ok&&c.norm then Fu [] (Tn c) else []
theorem Qd0 {c:Cl} (h:(c.ok&&c.norm)=false):VE c=[]:=by unfold VE; rw [h]; rfl
theorem ZA {c:Cl} (h:(c.ok&&c.norm)=true):VE c=Fu [] (Tn c):=by unfold VE; rw [h]; rfl
theorem XZ {c:Cl} (hc:c.ok=true):(Tn c).length≤72:=by
 have hcl:=Cl.ok_len hc
 have h:=S6 hc c.lits.length 0 hcl (by omega)
 have:Db (H7 c) c.lits.length++Gm c c.lits.length 0=Tn c:=by show _++[]=_; rw [List.append_nil]; rfl
 rw [this] at h; exact h
theorem QaL {cs:List Cl} {n:Nat} (h:cs.length≤n):(Fu [] cs).length≤n:=by
 have:=XR cs []
 simp only [List.length_nil] at this
 omega
theorem Qd1 (c:Cl) (i k:Nat) (h:k≤i+1):Gm c i k=[]:=S2 fun j hj=>Qdz (by omega)
theorem Qd2 {l:List Cl} {c:Cl} (h:dec (c∈l)=true):Kn l c=l:=by unfold Kn; rw [h]; rfl
theorem Qe5 {l:List Cl} {c:Cl} (h:dec (c∈l)=false):Kn l c=l++[c]:=by unfold Kn; rw [h]; rfl
theorem QbI (l cs:List Cl) (c:Cl):Fu l (cs++[c])=Kn (Fu l cs) c:=by rw [Qdq]; rfl
def H8:SC:=(.seq (.reg [⟨some 1,none,.boxv 28 1 (.t 0)⟩,⟨some 2,none,.mv (.c .nil)⟩,⟨some 3,none,.mv (.c (.bool false))⟩]) (.seq (.reg [⟨some 9,none,.mkrow 28 1 [.nil] 0 []⟩,⟨some 4,none,.mv (.t 9)⟩]) (.seq (.seq (.reg [⟨some 10,none,.load true 1 (.t 1)⟩,⟨some 11,none,.call 29 [(.t 10)]⟩,⟨some 12,none,.un .not (.t 11)⟩]) (.cond (.t 12) (.seq (.reg [⟨some 13,none,.mv (.t 4)⟩,⟨some 2,none,.mv (.t 13)⟩,⟨some 3,none,.mv (.c (.bool false))⟩]) .ret) .skip)) (.seq (.seq (.reg [⟨some 5,none,.mv (.c (.int .i64 0))⟩]) (.block 0 (.loop [0,1,0,0,1,1,0,0,0,0,0,0,0,0,0,0,0,0,0,0,0,0,0,0,0,0,0,0,0,0,0,0,0,0,0,0,0,0,0,0,0,0,0,0] (.seq (.seq (.reg [⟨some 14,none,.mv (.t 5)⟩,⟨some 15,none,.faddr 0 (.t 1)⟩,⟨some 16,none,.load false 1 (.t 15)⟩,⟨some 17,none,.len false (.t 16)⟩,⟨some 18,none,.bin .lss false (.t 14) (.t 17)⟩]) (.cond (.t 18) .skip (.exit 0))) (.seq (.block 1 (.seq (.reg [⟨some 21,none,.mv (.t 5)⟩,⟨some 22,none,.bin .add false (.t 21) (.c (.int .i64 1))⟩,⟨some 6,none,.mv (.t 22)⟩]) (.block 2 (.loop [0,1,0,0,1,1,1,0,0,0,0,0,0,0,0,0,0,0,0,0,0,0,0,0,0,0,0,0,0,0,0,0,0,0,0,0,0,0,0,0,0,0,0,0] (.seq (.seq (.reg [⟨some 23,none,.mv (.t 6)⟩,⟨some 24,none,.faddr 0 (.t 1)⟩,⟨some 25,none,.load false 1 (.t 24)⟩,⟨some 26,none,.len false (.t 25)⟩,⟨some 27,none,.bin .lss false (.t 23) (.t 26)⟩]) (.cond (.t 27) .skip (.exit 2))) (.seq (.block 3 (.seq (.reg [⟨some 31,none,.load true 1 (.t 1)⟩,⟨some 32,none,.mv (.t 5)⟩,⟨some 33,none,.mv (.t 6)⟩,⟨some 34,none,.call 30 [(.t 31),(.t 32),(.t 33)]⟩,⟨some 30,none,.mv (.t 34)⟩,⟨some 35,none,.ext (.t 30) 0⟩,⟨some 36,none,.ext (.t 30) 1⟩,⟨some 7,none,.alloc 28 [.nil]⟩,⟨none,none,(.store 1 (.t 7) (.t 35))⟩,⟨some 8,none,.mv (.t 36)⟩]) (.seq (.reg [⟨some 37,none,.mv (.t 8)⟩]) (.cond (.t 37) (.reg [⟨some 38,none,.mv (.t 4)⟩,⟨some 39,none,.load true 1 (.t 7)⟩,⟨some 40,none,.mkrow 28 1 [.nil] 1 [(0,(.t 39))]⟩,⟨some 41,none,.append 28 1 24 [.nil] (.t 38) (.t 40)⟩,⟨some 4,none,.mv (.t 41)⟩]) .skip)))) (.reg [⟨some 28,none,.mv (.t 6)⟩,⟨some 29,none,.bin .add false (.t 28) (.c (.int .i64 1))⟩,⟨some 6,none,.mv (.t 29)⟩]))))))) (.reg [⟨some 19,none,.mv (.t 5)⟩,⟨some 20,none,.bin .add false (.t 19) (.c (.int .i64 1))⟩,⟨some 5,none,.mv (.t 20)⟩])))))) (.seq (.reg [⟨some 42,none,.mv (.t 4)⟩,⟨some 43,none,.call 45 [(.t 42)]⟩,⟨some 2,none,.mv (.t 43)⟩,⟨some 3,none,.mv (.c (.bool true))⟩]) .ret)))))
theorem Lr:codeOf Tryz.prog 24=some ⟨44,H8,[(.tmp 2),(.tmp 3)]⟩:=by kernel_rfl
theorem Do:modes 24=⟨[],.frz,none,false⟩:=by unfold modes; rfl
theorem To (c:Cl) (hct:c.tame):E 24 [c.sv] []=some (.tup [.arr ((VE c).map Cl.d),.bool (c.ok&&c.norm)],[]):=by
 have hsv:∀ d:Cl,d.sv=.agg [.arr (d.lits.map Lt.d)]:=fun d=>rfl
 have hrd:=Zx c hct
 rw [hsv] at hrd
 rw [hsv]
 cases hrn:c.ok&&c.norm with
 | false =>
  rw [hrn] at hrd
  rw [Qd0 hrn]
  refine Af Lr Do (of_decide_eq_true rfl) ?_
  simp (disch:=omega) only [H8,go_sem,Aa,hrd,EB]
 | true =>
 rw [hrn] at hrd
 rw [ZA hrn]
 rw [zJ] at hrn
 have hc:=hrn.1
 have hcl:=Cl.ok_len hc
 have hr0:=fun (i k:Int)=>XQ c hc i k
 simp only [hsv] at hr0
 have hz0:(Db (H7 c) 0)=[]:=rfl
 refine Af Lr Do (of_decide_eq_true rfl) ?_
 simp (disch:=omega) only [H8,go_sem,Aa,hrd,EB]
 refine go_loop (α:=Int) (fun a=>⟨slots 44 0 [(1,.ptr 0 0),(4,.ref 1),(5,.int .i64 a)],[.box 28 [.arr (c.lits.map Lt.d)],.row 28 1 ((Db (H7 c) a.toNat).map Cl.os)]⟩) (fun a=>∃ k:Nat,a=k∧k≤(c.lits).length) (fun a=>(c.lits).length-(a).toNat) 0 ⟨0,rfl,zD _⟩ (by simp (disch:=omega) only [go_sem,Aa,hz0]) ?_
 rintro i ⟨k,hi,hk⟩
 have hni:i.toNat=k:=by omega
 have hni1:(i+1).toNat=k+1:=by omega
 rcases zB k (c.lits).length with hlt | hge
 ·have hio:=hi
  have hni0:=hni
  have hni10:=hni1
  have hlt0:=hlt
  have hz1:Gm c k (k+1)=[]:=Qd1 c k (k+1) (zO _)
  have hz2:Db (H7 c) (k+1)=Db (H7 c) k++Gm c k c.lits.length:=rfl
  clear hni hni1 hlt
  generalize i=io at *
  generalize k=ko at *
  simp (disch:=omega) only [go_sem,Aa,hni0]
  refine go_loop (α:=Int) (fun a=>⟨slots 44 0 [(1,.ptr 0 0),(4,.ref 1),(5,.int .i64 io),(6,.int .i64 a)],[.box 28 [.arr (c.lits.map Lt.d)],.row 28 1 ((Db (H7 c) ko++Gm c ko a.toNat).map Cl.os)]⟩) (fun a=>∃ k:Nat,a=k∧ko+1≤k∧k≤c.lits.length) (fun a=>c.lits.length-a.toNat) (io+1) ⟨ko+1,by omega,zO _,by omega⟩ (by simp (disch:=omega) only [go_sem,Aa,hz1,List.append_nil,hni0,hni10]) ?_
  rintro i ⟨k,hi,hlo,hk⟩
  have hni:i.toNat=k:=by omega
  have hni1:(i+1).toNat=k+1:=by omega
  rcases zB k c.lits.length with hlt | hge
  ·have hr:=hr0 io i
   have hlen:=S6 hc ko k (by omega) (by omega)
   obtain ⟨r,hrr⟩:∃ r,r=MP c io i:=⟨_,rfl⟩
   rw [←hrr] at hr
   cases ho:Ik c io i with
   | false =>
    rw [ho] at hr
    have hpn:Gm c ko (k+1)=Gm c ko k:=XW (by rw [←hio,← hi]; exact Qs ho)
    simp (disch:=omega) only [go_sem,Aa,hni0,hni,hr,hlen,Cg]
    refine ⟨i+1,⟨k+1,by omega,by omega,hlt⟩,by omega,?_⟩
    simp (disch:=omega) only [go_sem,Aa,hni1,hpn]
   | true =>
    rw [ho] at hr
    have hpn:Gm c ko (k+1)=Gm c ko k++[r]:=U2 (by rw [←hio,← hi,hrr]; exact S4 ho)
    have hap:(Db (H7 c) ko++Gm c ko k).map Cl.os++[[OT.sh (r.lits.map Lt.d)]]=(Db (H7 c) ko++Gm c ko (k+1)).map Cl.os:=by rw [hpn,← List.append_assoc,zR (l₂:=[r])]; rfl
    simp (disch:=omega) only [go_sem,Aa,hni0,hni,hr,hlen,Cg]
    refine ⟨i+1,⟨k+1,by omega,by omega,hlt⟩,by omega,?_⟩
    simp (disch:=omega) only [go_sem,Aa,hni1,hap]
  ·have hke:k=c.lits.length:=by omega
   simp (disch:=omega) only [go_sem,Aa,hni,hke,hz2]
   refine ⟨io+1,⟨ko+1,by omega,hlt0⟩,by omega,?_⟩
   simp (disch:=omega) only [go_sem,Aa,hni10,hke,hz2]
 ·have hke:k=c.lits.length:=by omega
  have hu:=Z9 (Tn c) (by have:=XZ hc; omega) fun x hx=>S3 (S5 hx)
  have her:=Cl.Qdw (Tn c)
  have hfu:=Cl.VD (Tn c)
  have hal:Db (H7 c) c.lits.length=Tn c:=rfl
  simp (disch:=omega) only [go_sem,Aa,hni,hke,hal,hu,her,hfu,Kh]
def Ir:SC:=(.seq (.reg [⟨some 1,none,.boxv 28 1 (.t 0)⟩,⟨some 2,none,.alloc 28 [.nil]⟩]) (.seq (.reg [⟨some 6,none,.build [.nil] []⟩,⟨some 3,none,.alloc 28 [.nil]⟩,⟨none,none,(.store 1 (.t 3) (.t 6))⟩]) (.seq (.seq (.reg [⟨some 7,none,.faddr 0 (.t 1)⟩,⟨some 8,none,.load false 1 (.t 7)⟩,⟨some 9,none,.len false (.t 8)⟩,⟨some 10,none,.mv (.c (.int .i64 0))⟩]) (.block 0 (.loop [0,0,1,1,0,0,0,0,1,1,1,0,0,0,0,0,0,0,0,0,0,0,0] (.seq (.reg [⟨some 11,none,.bin .lss false (.t 10) (.t 9)⟩]) (.seq (.cond (.t 11) .skip (.exit 0)) (.seq (.block 1 (.seq (.reg [⟨some 12,none,.iaddr 3 (.t 8) (.t 10)⟩,⟨some 13,none,.load true 3 (.t 12)⟩,⟨(some 5),none,(.alloc 73 [(.bool false),(.str ⟨#[]⟩),.nil])⟩,⟨none,none,(.store 3 (.t 5) (.t 13))⟩]) (.dreg [[],[0],[],[2],[3,2],[1,0,4,3,2],[0,1,2,3,4,5],[6,0,1,2,3,4,5]] [⟨some 14,none,.faddr 0 (.t 3)⟩,⟨some 15,none,.load false 1 (.t 14)⟩,⟨some 16,none,.load true 3 (.t 5)⟩,⟨some 17,none,.call 169 [(.t 16)]⟩,⟨(some 18),none,(.mkrow 73 3 [(.bool false),(.str ⟨#[]⟩),.nil] 1 [(0,(.t 17))])⟩,⟨(some 19),none,(.append 73 3 48 [(.bool false),(.str ⟨#[]⟩),.nil] (.t 15) (.t 18))⟩,⟨some 20,none,.faddr 0 (.t 3)⟩,⟨none,none,(.store 1 (.t 20) (.t 19))⟩]))) (.reg [⟨some 21,none,.bin .add false (.t 10) (.c (.int .i64 1))⟩,⟨some 10,none,.mv (.t 21)⟩]))))))) (.seq (.reg [⟨some 22,none,.load true 1 (.t 3)⟩,⟨none,none,(.store 1 (.t 2) (.t 22))⟩]) .ret))))
theorem Oe:codeOf Tryz.prog 139=some ⟨23,Ir,[(.cell 2 true 1)]⟩:=by kernel_rfl
theorem Is:modes 139=⟨[],.own [some (73,3)],none,false⟩:=by unfold modes; rfl
theorem VF (c:Cl) (hl:c.lits.length≤1048576) (hf:∀ x∈c.lits,x.atom.nodes≤1099511627776):E 139 [c.sv] []=some (c.osv,c.obs):=by
 have h10:((1:Int)=0)=False:=by simp
 obtain ⟨l,hcl⟩:∃ l,l=c.lits:=⟨_,rfl⟩
 have e0:c.sv=.agg [.arr (l.map Lt.d)]:=by rw [hcl]; first | done | rfl
 have e1:c.osv=.agg [.ref 0]:=rfl
 have e2:c.obs=[.row 73 3 (l.map Lt.o)]:=by rw [hcl]; first | done | rfl
 rw [e0,e1,e2]
 rw [←hcl] at hl hf
 clear hcl e0 e1 e2
 refine Af Oe Is (of_decide_eq_true rfl) ?_
 simp (disch:=omega) only [Ir,go_sem,Aa]
 refine go_loop (α:=Int) (fun a=>⟨slots 23 0 [(2,.ptr 0 0),(3,.ptr 1 0),(8,.arr (l.map Lt.d)),(9,.int .i64 l.length),(10,.int .i64 a)],(if a=0 then [.box 28 [.nil],.box 28 [.nil]] else [.box 28 [.nil],.box 28 [.ref 2],.row 73 3 ((l.take a.toNat).map Lt.o)])⟩) (fun a=>∃ k:Nat,a=k∧k≤(l).length) (fun a=>(l).length-(a).toNat) 0 ⟨0,rfl,zD _⟩ (by simp (disch:=omega) only [go_sem,Aa,eq_self,if_true]) ?_
 rintro i ⟨k,hi,hk⟩
 have hni:i.toNat=k:=by omega
 have hni1:(i+1).toNat=k+1:=by omega
 rcases zB k (l).length with hlt | hge
 ·have hg:=get_at Lt.d hlt
  rw [Lt.d_eq] at hg
  have hc:=Mh l[k] (hf _ (zA hlt))
  have hs:=D9 Lt.o hlt
  rw [Lt.o_eq] at hs
  rcases Nat.eq_zero_or_pos k with h0 | h0
  ·subst h0
   obtain rfl:i=0:=hi
   rw [List.take_zero,zM,List.nil_append] at hs
   simp (disch:=omega) only [go_sem,Aa,hni,hg,hc,C9,eq_self,if_true]
   refine ⟨1,⟨1,rfl,hlt⟩,by omega,?_⟩
   simp (disch:=omega) only [go_sem,Aa,h10,if_false,hs]
  ·have hi0:(i=0)=False:=by simp; omega
   have hi1:(i+1=0)=False:=by simp; omega
   have htl:(l.take k).length=k:=by rw [zQ]; omega
   simp (disch:=omega) only [go_sem,Aa,hni,hg,hc,C9,hi0,if_false,htl]
   refine ⟨i+1,⟨k+1,by omega,hlt⟩,by omega,?_⟩
   simp (disch:=omega) only [go_sem,Aa,hni1,hi1,if_false,hs]
 ·obtain rfl:k=l.length:=by omega
  have ht:l.take l.length=l:=List.take_length
  rcases Nat.eq_zero_or_pos l.length with h0 | h0
  ·have hx:l=[]:=List.eq_nil_of_length_eq_zero h0
   obtain rfl:i=0:=by omega
   rw [hx]
   simp (disch:=omega) only [go_sem,Aa,hni,eq_self,if_true,zM]
  ·have hi0:(i=0)=False:=by simp; omega
   simp (disch:=omega) only [go_sem,Aa,hni,hi0,if_false,ht]
def G9:SC:=(.seq (.reg [⟨some 1,none,.boxv 28 1 (.t 0)⟩,⟨some 2,none,.mv (.c (.bool false))⟩]) (.seq (.seq (.reg [⟨some 5,none,.load true 1 (.t 1)⟩,⟨some 6,none,.call 84 [(.t 5)]⟩,⟨some 7,none,.len false (.t 6)⟩,⟨some 8,none,.mv (.c (.int .i64 0))⟩]) (.block 0 (.loop [0,0,0,0,0,0,1,1,1,0,0,0,0,0,0,0,0,0,0] (.seq (.reg [⟨some 9,none,.bin .lss false (.t 8) (.t 7)⟩]) (.seq (.cond (.t 9) .skip (.exit 0)) (.seq (.block 1 (.seq (.reg [⟨some 10,none,.mv (.t 8)⟩,⟨some 11,none,.iaddr 1 (.t 6) (.t 8)⟩,⟨some 12,none,.load false 1 (.t 11)⟩,⟨some 3,none,.mv (.t 10)⟩,⟨some 4,none,.mv (.t 12)⟩]) (.seq (.reg [⟨some 13,none,.mv (.t 4)⟩,⟨some 14,none,.mv (.t 3)⟩,⟨some 15,none,.call 85 [(.t 14)]⟩,⟨(some 16),none,(.bin .add false (.c (.str ⟨#[88]⟩)) (.t 15))⟩,⟨some 17,none,.bin .neq false (.t 13) (.t 16)⟩]) (.cond (.t 17) (.seq (.reg [⟨some 2,none,.mv (.c (.bool false))⟩]) .ret) .skip)))) (.reg [⟨some 18,none,.bin .add false (.t 8) (.c (.int .i64 1))⟩,⟨some 8,none,.mv (.t 18)⟩]))))))) (.seq (.reg [⟨some 2,none,.mv (.c (.bool true))⟩]) .ret)))
theorem LU:codeOf Tryz.prog 55=some ⟨19,G9,[(.tmp 2)]⟩:=by kernel_rfl
theorem Cw:modes 55=⟨[],.asis,none,false⟩:=by unfold modes; rfl
theorem Ls (c:Cl) (hc:c.ok=true):E 55 [c.sv] []=some (.bool c.norm,[]):=by
 have h1:=Un c hc
 have hn:=Cl.RS hc
 have hcs:c.sv=.agg [.arr (c.lits.map Lt.d)]:=rfl
 obtain ⟨ns,hns⟩:∃ ns,ns=c.ns:=⟨_,rfl⟩
 rw [show C0 [] (Lt.vsL c.lits)=ns from hns.symm] at h1
 have hnm:c.norm=dec (RV ns):=by unfold Cl.norm; rw [hns]
 rw [←hns] at hn
 rw [hnm]
 refine Af LU Cw (of_decide_eq_true rfl) ?_
 simp (disch:=omega) only [G9,go_sem,Aa,h1,Ee]
 refine go_loop (α:=Int) (fun a=>⟨slots 19 0 [(6,.ref 0),(7,.int .i64 ns.length),(8,.int .i64 a)],[.row 9 1 (ns.map fun s=>[OT.str s])]⟩) (fun a=>∃ k:Nat,a=k∧k≤(ns).length∧∀ (j:Nat),j<k→∀ hj:j<ns.length,ns[j]=pre SY (j:Nat)) (fun a=>(ns).length-(a).toNat) 0 ⟨0,rfl,zD _,fun j hj=>absurd hj (Nat.not_lt_zero _)⟩ (by simp (disch:=omega) only [go_sem,Aa]) ?_
 rintro i ⟨k,hi,hk,hR⟩
 have hni:i.toNat=k:=by omega
 have hni1:(i+1).toNat=k+1:=by omega
 rcases zB k (ns).length with hlt | hge
 ·have hg:=get_at (fun s=>[OT.str s]) hlt
  have hit:=QcT i (by omega) (by omega)
  have hz:=GM (show 0≤i by omega) (show i≤1099511627776 by omega)
  have hb:dec ((#[88]:Array UInt8).size+(GD i).size≤9223372036854775807)=true:=As (by simp; omega)
  by_cases he:ns[k]=pre SY (k:Nat)
  ·have he':dec (ns[k]=(⟨#[88]⟩:ByteArray)++GD i)=true:=As (by rw [he,hi]; rfl)
   simp (disch:=omega) only [go_sem,Aa,hni,hg,hit,hb,he',Fl]
   refine ⟨i+1,⟨k+1,by omega,hlt,fun j hj hjl=>?_⟩,by omega,by first | trivial | rfl⟩
   rcases zB j k with h2 | h2
   ·exact hR j h2 hjl
   ·obtain rfl:j=k:=by omega
    exact he
  ·have he':dec (ns[k]=(⟨#[88]⟩:ByteArray)++GD i)=false:=Az (fun e=>he (by rw [e,hi]; rfl))
   have hno:dec (RV ns)=false:=Az fun h=>he (h k hlt)
   rw [hno]
   simp (disch:=omega) only [go_sem,Aa,hni,hg,hit,hb,he',Fl]
 ·have hy:dec (RV ns)=true:=As fun j hj=>hR j (by omega) hj
  rw [hy]
  simp (disch:=omega) only [go_sem,Aa,hni]
def G3:SC:=(.seq (.reg [⟨some 1,none,.boxv 28 1 (.t 0)⟩,⟨some 2,none,.mv (.c (.bool false))⟩]) (.seq (.reg [⟨some 3,none,.load true 1 (.t 1)⟩,⟨some 4,none,.call 54 [(.t 3)]⟩,⟨some 5,none,.mv (.t 4)⟩,⟨(some 6),(some (5,true)),(.load true 1 (.t 1))⟩,⟨(some 7),(some (5,true)),(.call 55 [(.t 6)])⟩,⟨some 8,none,.pick (.t 5) (.t 7) (.c (.bool false))⟩,⟨some 2,none,.mv (.t 8)⟩]) .ret))
theorem Ki:codeOf Tryz.prog 32=some ⟨9,G3,[(.tmp 2)]⟩:=by kernel_rfl
theorem CN:modes 32=⟨[],.asis,none,false⟩:=by unfold modes; rfl
theorem S8 (c:Cl) (hc:c.tame):E 32 [c.sv] []=some (.bool (c.ok&&c.norm),[]):=by
 have h1:=Gv c hc
 cases hv:c.ok with
 | false =>
  rw [hv] at h1
  refine Af Ki CN (of_decide_eq_true rfl) ?_
  simp (disch:=omega) only [G3,go_sem,Aa,h1,Cq]
 | true =>
  rw [hv] at h1
  have h2:=Ls c hv
  refine Af Ki CN (of_decide_eq_true rfl) ?_
  simp (disch:=omega) only [G3,go_sem,Aa,h1,h2,Cq,Cw]
def Kj:SC:=(.seq (.reg [⟨some 4,none,.mv (.c (.mp true nomap))⟩]) (.seq (.reg [⟨some 8,none,.mkmap true none⟩,⟨some 5,none,.mv (.t 8)⟩]) (.seq (.seq (.reg [⟨some 9,none,.mv (.t 0)⟩,⟨some 10,none,.len false (.t 9)⟩,⟨some 11,none,.mv (.c (.int .i64 0))⟩]) (.block 0 (.loop [0,1,0,0,0,1,0,0,0,1,1,1,0,0,0,0,0,0,0,0,0,0,0,0] (.seq (.reg [⟨some 12,none,.bin .lss false (.t 11) (.t 10)⟩]) (.seq (.cond (.t 12) .skip (.exit 0)) (.seq (.block 1 (.seq (.reg [⟨some 13,none,.mv (.t 11)⟩,⟨some 14,none,.iaddr 1 (.t 9) (.t 11)⟩,⟨some 15,none,.load false 1 (.t 14)⟩,⟨some 6,none,.mv (.t 13)⟩,⟨some 7,none,.mv (.t 15)⟩]) (.reg [⟨some 16,none,.mv (.t 5)⟩,⟨some 17,none,.mv (.t 7)⟩,⟨some 18,none,.mv (.t 1)⟩,⟨some 19,none,.mv (.t 6)⟩,⟨some 20,none,.call 85 [(.t 19)]⟩,⟨some 21,none,.bin .add false (.t 18) (.t 20)⟩,⟨none,none,(.mset true (.t 16) (.t 17) (.t 21))⟩]))) (.reg [⟨some 22,none,.bin .add false (.t 11) (.c (.int .i64 1))⟩,⟨some 11,none,.mv (.t 22)⟩]))))))) (.seq (.reg [⟨some 23,none,.mv (.t 5)⟩,⟨some 4,none,.mv (.t 23)⟩]) .ret))))
theorem PZ:codeOf Tryz.prog 140=some ⟨24,Kj,[(.tmp 4)]⟩:=by kernel_rfl
theorem EE:modes 140=⟨[],.frz,none,false⟩:=by unfold modes; rfl
theorem Qd3 (p:ByteArray):Gf (Hu p [])=nomap:=Zt
theorem ZB (ns:List ByteArray) (hn:ns.length≤1048576) (p:ByteArray) (hp:p.size≤1048576):E 140 [.arr (ns.map fun s=>[D.str s]),.str p] []=some (.mp true (Gf (Hu p ns)),[]):=by
 have h0:=Qd3 p
 refine Af PZ EE (of_decide_eq_true rfl) ?_
 simp (disch:=omega) only [Kj,go_sem,Aa]
 refine go_loop (α:=Int) (fun a=>⟨slots 24 0 [(1,.str p),(5,.ref 0),(9,.arr (ns.map fun s=>[D.str s])),(10,.int .i64 ns.length),(11,.int .i64 a)],[.mp true (Gf (Hu p (ns.take a.toNat)))]⟩) (fun a=>∃ k:Nat,a=k∧k≤(ns).length) (fun a=>(ns).length-(a).toNat) 0 ⟨0,rfl,zD _⟩ (by simp (disch:=omega) only [go_sem,Aa,h0]) ?_
 rintro i ⟨k,hi,hk⟩
 have hni:i.toNat=k:=by omega
 have hni1:(i+1).toNat=k+1:=by omega
 rcases zB k (ns).length with hlt | hge
 ·have hg:=get_at (fun s=>[D.str s]) hlt
  have hit:=QcT i (by omega) (by omega)
  have hz:=GM (show 0≤i by omega) (show i≤1099511627776 by omega)
  have hb:dec (p.size+(GD i).size≤9223372036854775807)=true:=As (by omega)
  have hs:PG (Gf (Hu p (ns.take k))) (.str ns[k]) (false,[.str (p++GD i)])=Gf (Hu p (ns.take (k+1))):=by
   rw [Qb5,OP p hlt,hi]; rfl
  simp (disch:=omega) only [go_sem,Aa,hni,hg,hit,hb,hs,Fl]
  refine ⟨i+1,⟨k+1,by omega,hlt⟩,by omega,?_⟩
  simp (disch:=omega) only [go_sem,Aa,hni1]
 ·have ht:ns.take k=ns:=zG hge
  simp (disch:=omega) only [go_sem,Aa,hni,ht]
def Gn:SC:=(.seq (.reg [⟨some 2,none,.boxv 28 1 (.t 0)⟩,⟨some 4,none,.alloc 28 [.nil]⟩]) (.seq (.reg [⟨(some 8),none,(.mkrow 73 3 [(.bool false),(.str ⟨#[]⟩),.nil] 0 [])⟩,⟨some 5,none,.mv (.t 8)⟩]) (.seq (.seq (.reg [⟨some 9,none,.faddr 0 (.t 2)⟩,⟨some 10,none,.load false 1 (.t 9)⟩,⟨some 11,none,.len false (.t 10)⟩,⟨some 12,none,.mv (.c (.int .i64 0))⟩]) (.block 0 (.loop [0,1,0,0,1,1,0,0,0,0,1,1,1,0,0,0,0,0,0,0,0,0,0,0,0,0,0,0,0] (.seq (.reg [⟨some 13,none,.bin .lss false (.t 12) (.t 11)⟩]) (.seq (.cond (.t 13) .skip (.exit 0)) (.seq (.block 1 (.seq (.reg [⟨some 14,none,.iaddr 3 (.t 10) (.t 12)⟩,⟨some 15,none,.load true 3 (.t 14)⟩,⟨(some 7),none,(.alloc 73 [(.bool false),(.str ⟨#[]⟩),.nil])⟩,⟨none,none,(.store 3 (.t 7) (.t 15))⟩]) (.dreg [[],[],[1],[],[3],[],[4,3,5],[2,1,6,4,3,5],[7,2,1,6,4,3,5],[0,8,7,2,1,6,4,3,5],[9,0,8,7,2,1,6,4,3,5]] [⟨some 16,none,.mv (.t 5)⟩,⟨some 17,none,.faddr 0 (.t 7)⟩,⟨some 18,none,.load false 1 (.t 17)⟩,⟨some 19,none,.faddr 1 (.t 7)⟩,⟨some 20,none,.load true 2 (.t 19)⟩,⟨some 21,none,.mv (.t 1)⟩,⟨some 22,none,.call 143 [(.t 20),(.t 21)]⟩,⟨(some 23),none,(.build [(.bool false),(.str ⟨#[]⟩),.nil] [(0,(1,(.t 18))),(1,(2,(.t 22)))])⟩,⟨(some 24),none,(.mkrow 73 3 [(.bool false),(.str ⟨#[]⟩),.nil] 1 [(0,(.t 23))])⟩,⟨(some 25),none,(.append 73 3 48 [(.bool false),(.str ⟨#[]⟩),.nil] (.t 16) (.t 24))⟩,⟨some 5,none,.mv (.t 25)⟩]))) (.reg [⟨some 26,none,.bin .add false (.t 12) (.c (.int .i64 1))⟩,⟨some 12,none,.mv (.t 26)⟩]))))))) (.seq (.reg [⟨some 27,none,.mv (.t 5)⟩,⟨some 28,none,.call 138 [(.t 27)]⟩,⟨none,none,(.store 1 (.t 4) (.t 28))⟩]) .ret))))
theorem Lu:codeOf Tryz.prog 98=some ⟨29,Gn,[(.cell 4 true 1)]⟩:=by kernel_rfl
theorem CS:modes 98=⟨[],.own [some (73,3)],none,false⟩:=by unfold modes; rfl
theorem Qa (c:Cl) (hc:c.ok=true) (e:SEnv) (he:Vx e):E 98 [c.sv,.mp true (Gf e)] []=some ((c.rn e).osv,(c.rn e).obs):=by
 have hl:=Cl.ok_len hc
 have hcs:c.sv=.agg [.arr (c.lits.map Lt.d)]:=rfl
 have hat:=Lt.RU he (Cl.Dl hc)
 have hco:=R8 (c.lits.map (Lt.rn e)) (by rw [zF]; omega) (fun x hx=>OR (hat x hx))
 rw [show mkC (c.lits.map (Lt.rn e))=c.rn e from rfl] at hco
 have her:=Lt.erss (c.lits.map (Lt.rn e))
 refine Af Lu CS (of_decide_eq_true rfl) ?_
 simp (disch:=omega) only [Gn,go_sem,Aa]
 refine go_loop (α:=Int) (fun a=>⟨slots 29 0 [(1,.mp true (Gf e)),(4,.ptr 0 0),(5,.ref 1),(10,.arr (c.lits.map Lt.d)),(11,.int .i64 c.lits.length),(12,.int .i64 a)],[.box 28 [.nil],.row 73 3 (((c.lits.map (Lt.rn e)).take a.toNat).map Lt.o)]⟩) (fun a=>∃ k:Nat,a=k∧k≤(c.lits).length) (fun a=>(c.lits).length-(a).toNat) 0 ⟨0,rfl,zD _⟩ (by simp (disch:=omega) only [go_sem,Aa]) ?_
 rintro i ⟨k,hi,hk⟩
 have hni:i.toNat=k:=by omega
 have hni1:(i+1).toNat=k+1:=by omega
 rcases zB k (c.lits).length with hlt | hge
 ·have hg:=get_at Lt.d hlt
  rw [Lt.d_eq] at hg
  have hnn:=Tm.CB (Cl.JH hc hlt)
  have hr:=Up e c.lits[k].atom (by omega)
  unfold RnC at hr
  have hrs:c.lits[k].atom.sv=.agg [.str c.lits[k].atom.name,.arr (c.lits[k].atom.args.map Tm.d)]:=rfl
  have hlm:k<(c.lits.map (Lt.rn e)).length:=by rw [zF]; exact hlt
  have hs:=D9 Lt.o hlm
  rw [Lt.o_eq,List.getElem_map] at hs
  have hs':((c.lits.map (Lt.rn e)).take k).map Lt.o++[[OT.bool c.lits[k].pos,OT.str (c.lits[k].atom.rn e).name,OT.ow ((c.lits[k].atom.rn e).args.map Tm.o)]]=((c.lits.map (Lt.rn e)).take (k+1)).map Lt.o:=hs
  have htl:((c.lits.map (Lt.rn e)).take k).length=k:=by rw [zQ,zF]; omega
  simp (disch:=omega) only [go_sem,Aa,hni,hg,hr,hrs,htl,Tm.osv,Tm.obs,B4]
  refine ⟨i+1,⟨k+1,by omega,hlt⟩,by omega,?_⟩
  simp (disch:=omega) only [go_sem,Aa,hni1,hs']
 ·have ht:(c.lits.map (Lt.rn e)).take k=c.lits.map (Lt.rn e):=zG (by rw [zF]; exact hge)
  simp (disch:=omega) only [go_sem,Aa,hni,ht,hco,her,Lt.noss,Lt.fus,CJ]
def Js:SC:=(.seq (.reg [⟨some 1,none,.boxv 28 1 (.t 0)⟩,⟨some 2,none,.alloc 28 [.nil]⟩]) (.seq (.reg [⟨some 5,none,.load true 1 (.t 1)⟩,⟨some 6,none,.call 139 [(.t 5)]⟩,⟨some 3,none,.alloc 28 [.nil]⟩,⟨none,none,(.store 1 (.t 3) (.t 6))⟩]) (.seq (.seq (.reg [⟨some 4,none,.mv (.c (.int .i64 0))⟩]) (.block 0 (.loop [0,0,1,1,1,0,0,0,0,0,0,0,0,0,0,0,0,0,0,0,0,0] (.seq (.seq (.reg [⟨some 7,none,.mv (.t 4)⟩,⟨some 8,none,.bin .lss false (.t 7) (.c (.int .i64 10))⟩,⟨some 9,none,.mv (.t 8)⟩,⟨(some 10),(some (9,true)),(.load true 1 (.t 3))⟩,⟨(some 11),(some (9,true)),(.call 55 [(.t 10)])⟩,⟨(some 12),(some (9,true)),(.un .not (.t 11))⟩,⟨some 13,none,.pick (.t 9) (.t 12) (.c (.bool false))⟩]) (.cond (.t 13) .skip (.exit 0))) (.seq (.block 1 (.dreg [[],[],[1],[2,1],[0,3,2,1],[4,0,3,2,1]] [⟨some 16,none,.load true 1 (.t 3)⟩,⟨some 17,none,.load true 1 (.t 3)⟩,⟨some 18,none,.call 84 [(.t 17)]⟩,⟨(some 19),none,(.call 140 [(.t 18),(.c (.str ⟨#[88]⟩))])⟩,⟨some 20,none,.call 98 [(.t 16),(.t 19)]⟩,⟨none,none,(.store 1 (.t 3) (.t 20))⟩])) (.reg [⟨some 14,none,.mv (.t 4)⟩,⟨some 15,none,.bin .add false (.t 14) (.c (.int .i64 1))⟩,⟨some 4,none,.mv (.t 15)⟩])))))) (.seq (.reg [⟨some 21,none,.load true 1 (.t 3)⟩,⟨none,none,(.store 1 (.t 2) (.t 21))⟩]) .ret))))
theorem Pg:codeOf Tryz.prog 93=some ⟨22,Js,[(.cell 2 true 1)]⟩:=by kernel_rfl
theorem FI:modes 93=⟨[],.own [some (73,3)],none,false⟩:=by unfold modes; rfl
theorem Ya (c:Cl) (hc:c.ok=true):E 93 [c.sv] []=some ((nz 10 c).osv,(nz 10 c).obs):=by
 have hl:=Cl.ok_len hc
 have h1:=VF c (by omega) (fun x hx=>by have:=Tm.CB (Cl.Dl hc x hx); omega)
 have hcs:∀ d:Cl,Cl.osv d=.agg [.ref 0]:=fun d=>rfl
 have hob:∀ d:Cl,Cl.obs d=[.row 73 3 (d.lits.map Lt.o)]:=fun d=>rfl
 have hsv:∀ d:Cl,d.sv=.agg [.arr (d.lits.map Lt.d)]:=fun d=>rfl
 rw [hcs,hob] at h1
 rw [hcs,hob]
 refine Af Pg FI (of_decide_eq_true rfl) ?_
 simp (disch:=omega) only [Js,go_sem,Aa,h1,Is]
 refine go_loop (α:=Int × Cl) (fun a=>⟨slots 22 0 [(2,.ptr 0 0),(3,.ptr 1 0),(4,.int .i64 a.1)],[.box 28 [.nil],.box 28 [.ref 2],.row 73 3 (a.2.lits.map Lt.o)]⟩) (fun a=>∃ k:Nat,a.1=k∧k≤10∧a.2.ok=true∧nz (10-k) a.2=nz 10 c) (fun a=>10-a.1.toNat) (0,c) ⟨0,rfl,zD _,hc,rfl⟩ (by simp (disch:=omega) only [go_sem,Aa]) ?_
 rintro ⟨i,d⟩ ⟨k,hi,hk,hd,hR⟩
 dsimp only at hi hd hR
 have n1:=Ls d hd
 have n2:=Un d hd
 have n3:=ZB d.ns (by have:=Cl.RS hd; omega) ⟨#[88]⟩ (by decide +kernel)
 have n4:=Qa d hd (Hu ⟨#[88]⟩ d.ns) (Cl.xE hd)
 rw [show C0 [] (Lt.vsL d.lits)=d.ns from rfl] at n2
 rw [hcs,hob] at n4
 rw [hsv] at n1 n2 n4
 have her:=Lt.erss d.lits
 rcases zB k 10 with hlt | hge
 ·obtain ⟨m,hm⟩:∃ m,10-k=m+1:=⟨9-k,by omega⟩
  rw [hm,nz] at hR
  cases hn:d.norm with
  | true =>
   rw [hn,cond_true] at hR
   rw [hn] at n1
   rw [←hR]
   simp (disch:=omega) only [go_sem,Aa,n1,n2,n3,n4,her,Lt.noss,Lt.fus,Cw,Ee,EE,CS]
  | false =>
   rw [hn,cond_false] at hR
   rw [hn] at n1
   simp (disch:=omega) only [go_sem,Aa,n1,n2,n3,n4,her,Lt.noss,Lt.fus,Cw,Ee,EE,CS]
   refine ⟨(i+1,d.rn (Hu SY d.ns)),⟨k+1,by dsimp only; omega,by omega,Cl.QcZ (Cl.xE hd) hd,by rw [show 10-(k+1)=m by omega]; exact hR⟩,by dsimp only; omega,?_⟩
   first | trivial | rfl
 ·obtain rfl:k=10:=by omega
  have hR:d=nz 10 c:=hR
  rw [←hR]
  simp (disch:=omega) only [go_sem,Aa,n1,n2,n3,n4,her,Lt.noss,Lt.fus,Cw,Ee,EE,CS]
theorem U3 {α β:Type} (g:α→β):∀ (l:List α) (i:Nat),(l.map g).eraseIdx i=(l.eraseIdx i).map g
 | [],i=>by cases i <;> rfl
 | a :: l,0=>rfl
 | a :: l,i+1=>by
  show g a :: (l.map g).eraseIdx i=g a :: (l.eraseIdx i).map g
  rw [U3 g l i]
noncomputable def Lt.ds (l:List Lt):List (List OT):=l.map fun b=>b.d.map D.ot
theorem Lt.Qfz (l:List Lt):OT.erss (Lt.ds l)=l.map Lt.d:=Lt.der l
theorem Lt.Qf0 (l:List Lt):OT.AM (Lt.ds l)=true:=Lt.dfu l
theorem Lt.Qd4 (a:List Lt):(Lt.ds a).length=a.length:=by unfold Lt.ds; rw [zF]
theorem Lt.Qf5 (a:List Lt):((a.map Lt.d).map fun x=>x.map D.ot)=Lt.ds a:=by unfold Lt.ds; rw [List.map_map]; rfl
theorem Ca:modes 95=⟨[],.asis,some O6,false⟩:=by unfold modes; rfl
theorem BW:modes 94=⟨[true],.asis,some LC,false⟩:=by unfold modes; rfl
theorem QbJ (xs:List Lt) (h0:xs≠[]) (h:xs.length≤1048576):E 95 [.arr (xs.map Lt.d)] []=some (.ref 0,[.row 73 3 (Lt.ds xs)]):=by
 rw [J7 (g:=O6) (congrArg FM.ext Ca)]
 unfold O6
 simp only
 rw [As ⟨by simpa using h0,by simpa using h,fun e he=>by obtain ⟨b,_,rfl⟩:=List.mem_map.1 he; rfl⟩,cond_true,Lt.Qf5]
theorem ZC (xs:List Lt) (i:Int) (h0:0≤i) (h1:i.toNat<xs.length) (h:xs.length≤1048576):E 94 [.ref 0,.int .i64 i,.int .i64 (i+1)] [.row 73 3 (Lt.ds xs)]=some (.ref 1,[.gone,.row 73 3 (Lt.ds (xs.eraseIdx i.toNat))]):=by
 rw [J7 (g:=LC) (congrArg FM.ext BW)]
 unfold LC
 simp only
 rw [As ⟨trivial,h0,by rw [Lt.Qd4]; exact h1,trivial,by rw [Lt.Qd4]; omega⟩,cond_true]
 unfold Lt.ds
 rw [U3]
def Lv:SC:=(.seq (.reg [⟨some 2,none,.boxv 28 1 (.t 0)⟩,⟨some 4,none,.mv (.c .nil)⟩]) (.seq (.reg [⟨some 5,none,.faddr 0 (.t 2)⟩,⟨some 6,none,.load false 1 (.t 5)⟩,⟨some 7,none,.call 95 [(.t 6)]⟩,⟨some 8,none,.mv (.t 1)⟩,⟨some 9,none,.mv (.t 1)⟩,⟨some 10,none,.bin .add false (.t 9) (.c (.int .i64 1))⟩,⟨some 11,none,.call 94 [(.t 7),(.t 8),(.t 10)]⟩,⟨some 4,none,.mv (.t 11)⟩]) .ret))
theorem S9:codeOf Tryz.prog 59=some ⟨12,Lv,[(.tmp 4)]⟩:=by kernel_rfl
theorem Lw:modes 59=⟨[],.own [some (73,3)],none,false⟩:=by unfold modes; rfl
theorem QbK (c:Cl) (hl:c.lits.length≤1048575) (i:Int) (h0:0≤i) (h1:i.toNat<c.lits.length):E 59 [c.sv,.int .i64 i] []=some (.ref 0,[.row 73 3 (Lt.ds (c.lits.eraseIdx i.toNat))]):=by
 have hcs:c.sv=.agg [.arr (c.lits.map Lt.d)]:=rfl
 have h2:=QbJ c.lits (fun e=>by rw [e] at h1; simp at h1) (by omega)
 have h3:=ZC c.lits i h0 h1 (by omega)
 refine Af S9 Lw (of_decide_eq_true rfl) ?_
 simp (disch:=omega) only [Lv,go_sem,Aa,h2,h3,Ca,BW]
abbrev u2b:SC:=(.seq (.seq (.reg [⟨some 22,none,.mv (.t 7)⟩,⟨some 23,none,.len false (.t 22)⟩,⟨some 24,none,.bin .gtr false (.t 23) (.c (.int .i64 0))⟩]) (.cond (.t 24) .skip (.exit 0))) (.block 1 (.seq (.dreg [[],[],[1],[2,1],[3,2,1],[0,4,3,2,1],[5,0,4,3,2,1],[6,5,0,4,3,2,1],[6,5,0,4,3,2,1],[],[9,7,6,5,0,4,3,2,1],[8,6,5,0,4,3,2,1,10,9,7]] [⟨some 26,none,.load true 1 (.t 6)⟩,⟨some 27,none,.mv (.t 7)⟩,⟨some 28,none,.iaddr 4 (.t 27) (.c (.int .i64 0))⟩,⟨some 29,none,.faddr 0 (.t 28)⟩,⟨some 30,none,.load true 2 (.t 29)⟩,⟨some 31,none,.call 87 [(.t 26),(.t 30)]⟩,⟨some 25,none,.mv (.t 31)⟩,⟨some 32,none,.ext (.t 25) 0⟩,⟨some 33,none,.ext (.t 25) 1⟩,⟨(some 8),none,(.alloc 71 [(.str ⟨#[]⟩),.nil])⟩,⟨none,none,(.store 2 (.t 8) (.t 32))⟩,⟨some 9,none,.mv (.t 33)⟩]) (.seq (.dreg [[],[],[1],[2,1],[3,2,1],[0,4,3,2,1],[5,0,4,3,2,1],[6,5,0,4,3,2,1],[6,5,0,4,3,2,1],[],[9,7,6,5,0,4,3,2,1],[8,6,5,0,4,3,2,1,10,9,7]] [⟨some 35,none,.load true 1 (.t 6)⟩,⟨some 36,none,.mv (.t 7)⟩,⟨some 37,none,.iaddr 4 (.t 36) (.c (.int .i64 0))⟩,⟨some 38,none,.faddr 2 (.t 37)⟩,⟨some 39,none,.load true 2 (.t 38)⟩,⟨some 40,none,.call 87 [(.t 35),(.t 39)]⟩,⟨some 34,none,.mv (.t 40)⟩,⟨some 41,none,.ext (.t 34) 0⟩,⟨some 42,none,.ext (.t 34) 1⟩,⟨(some 10),none,(.alloc 71 [(.str ⟨#[]⟩),.nil])⟩,⟨none,none,(.store 2 (.t 10) (.t 41))⟩,⟨some 11,none,.mv (.t 42)⟩]) (.seq (.reg [⟨some 43,none,.mv (.t 7)⟩,⟨some 44,none,.slice false 4 (.t 43) (some (.c (.int .i64 1))) none⟩,⟨some 7,none,.mv (.t 44)⟩]) (.block 2 (.seq (.reg [⟨some 69,none,.mv (.t 9)⟩,⟨some 70,none,.un .not (.t 69)⟩,⟨some 71,none,.mv (.t 70)⟩,⟨(some 72),(some (71,false)),(.mv (.t 11))⟩,⟨(some 73),(some (71,false)),(.un .not (.t 72))⟩,⟨some 74,none,.pick (.t 71) (.c (.bool true)) (.t 73)⟩,⟨some 68,none,.mv (.t 74)⟩]) (.cond (.t 68) (.seq (.reg [⟨some 75,none,.build [.nil] []⟩,⟨none,none,(.store 1 (.t 4) (.t 75))⟩,⟨some 5,none,.mv (.c (.bool false))⟩]) .ret) (.seq (.reg [⟨some 77,none,.load true 2 (.t 8)⟩,⟨some 78,none,.load true 2 (.t 10)⟩,⟨some 79,none,.call 88 [(.t 77),(.t 78)]⟩,⟨some 76,none,.mv (.t 79)⟩]) (.cond (.t 76) .skip (.seq (.reg [⟨some 81,none,.load true 2 (.t 8)⟩,⟨some 82,none,.call 89 [(.t 81)]⟩,⟨some 83,none,.mv (.t 82)⟩,⟨(some 84),(some (83,false)),(.load true 2 (.t 10))⟩,⟨(some 85),(some (83,false)),(.call 89 [(.t 84)])⟩,⟨some 86,none,.pick (.t 83) (.c (.bool true)) (.t 85)⟩,⟨some 80,none,.mv (.t 86)⟩]) (.cond (.t 80) (.seq (.reg [⟨some 88,none,.load true 2 (.t 8)⟩,⟨some 89,none,.load true 2 (.t 10)⟩,⟨(some 90),none,(.build [(.str ⟨#[]⟩),.nil,(.str ⟨#[]⟩),.nil] [(0,(2,(.t 88))),(2,(2,(.t 89)))])⟩,⟨some 91,none,.call 90 [(.t 90)]⟩,⟨some 87,none,.mv (.t 91)⟩,⟨some 92,none,.ext (.t 87) 0⟩,⟨some 93,none,.ext (.t 87) 1⟩,⟨some 12,none,.alloc 76 [.nil]⟩,⟨none,none,(.store 1 (.t 12) (.t 92))⟩,⟨some 13,none,.mv (.t 93)⟩]) (.seq (.seq (.reg [⟨some 94,none,.mv (.t 13)⟩,⟨some 95,none,.un .not (.t 94)⟩]) (.cond (.t 95) (.seq (.reg [⟨some 96,none,.build [.nil] []⟩,⟨none,none,(.store 1 (.t 4) (.t 96))⟩,⟨some 5,none,.mv (.c (.bool false))⟩]) .ret) .skip)) (.seq (.reg [⟨some 98,none,.load true 1 (.t 6)⟩,⟨some 99,none,.load true 1 (.t 12)⟩,⟨some 100,none,.call 91 [(.t 98),(.t 99)]⟩,⟨some 97,none,.mv (.t 100)⟩,⟨some 101,none,.ext (.t 97) 0⟩,⟨some 102,none,.ext (.t 97) 1⟩,⟨none,none,(.store 1 (.t 6) (.t 101))⟩,⟨some 13,none,.mv (.t 102)⟩]) (.seq (.reg [⟨some 103,none,.mv (.t 13)⟩,⟨some 104,none,.un .not (.t 103)⟩]) (.cond (.t 104) (.seq (.reg [⟨some 105,none,.build [.nil] []⟩,⟨none,none,(.store 1 (.t 4) (.t 105))⟩,⟨some 5,none,.mv (.c (.bool false))⟩]) .ret) .skip))))) (.seq (.reg [⟨some 107,none,.faddr 0 (.t 8)⟩,⟨some 108,none,.load false 1 (.t 107)⟩,⟨some 109,none,.faddr 0 (.t 10)⟩,⟨some 110,none,.load false 1 (.t 109)⟩,⟨some 111,none,.bin .neq false (.t 108) (.t 110)⟩,⟨some 112,none,.mv (.t 111)⟩,⟨(some 113),(some (112,false)),(.faddr 1 (.t 8))⟩,⟨(some 114),(some (112,false)),(.load false 1 (.t 113))⟩,⟨(some 115),(some (112,false)),(.len false (.t 114))⟩,⟨(some 116),(some (112,false)),(.faddr 1 (.t 10))⟩,⟨(some 117),(some (112,false)),(.load false 1 (.t 116))⟩,⟨(some 118),(some (112,false)),(.len false (.t 117))⟩,⟨(some 119),(some (112,false)),(.bin .neq false (.t 115) (.t 118))⟩,⟨some 120,none,.pick (.t 112) (.c (.bool true)) (.t 119)⟩,⟨some 106,none,.mv (.t 120)⟩]) (.cond (.t 106) (.seq (.reg [⟨some 121,none,.build [.nil] []⟩,⟨none,none,(.store 1 (.t 4) (.t 121))⟩,⟨some 5,none,.mv (.c (.bool false))⟩]) .ret) (.seq (.reg [⟨(some 45),none,(.mkrow 107 4 [(.str ⟨#[]⟩),.nil,(.str ⟨#[]⟩),.nil] 0 [])⟩,⟨some 14,none,.mv (.t 45)⟩]) (.seq (.seq (.reg [⟨some 46,none,.faddr 1 (.t 8)⟩,⟨some 47,none,.load false 1 (.t 46)⟩,⟨some 48,none,.len false (.t 47)⟩,⟨some 49,none,.mv (.c (.int .i64 0))⟩]) (.block 3 (.loop [0,0,0,0,1,0,1,1,0,0,1,0,0,0,1,0,0,0,0,0,0,0,0,0,0,0,0,0,0,0,0,0,0,0,0,0,0,0,0,0,0,0,0,0,0,0,0,1,1,1,0,0,0,0,0,0,0,0,0,0,0,0,0,0,0,0,0,0,0,0,0,0,0,0,0,0,0,0,0,0,0,0,0,0,0,0,0,0,0,0,0,0,0,0,0,0,0,0,0,0,0,0,0,0,0,0,0,0,0,0,0,0,0,0,0,0,0,0,0,0,0,0,0] (.seq (.reg [⟨some 50,none,.bin .lss false (.t 49) (.t 48)⟩]) (.seq (.cond (.t 50) .skip (.exit 3)) (.seq (.block 4 (.seq (.reg [⟨some 51,none,.mv (.t 49)⟩,⟨some 52,none,.iaddr 2 (.t 47) (.t 49)⟩,⟨some 53,none,.load true 2 (.t 52)⟩,⟨(some 16),none,(.alloc 71 [(.str ⟨#[]⟩),.nil])⟩,⟨some 15,none,.mv (.t 51)⟩,⟨none,none,(.store 2 (.t 16) (.t 53))⟩]) (.dreg [[],[],[],[2],[],[3,2,4],[5,3,2,4],[1,6,5,3,2,4],[7,1,6,5,3,2,4],[0,8,7,1,6,5,3,2,4],[9,0,8,7,1,6,5,3,2,4]] [⟨some 54,none,.mv (.t 14)⟩,⟨some 55,none,.load true 2 (.t 16)⟩,⟨some 56,none,.faddr 1 (.t 10)⟩,⟨some 57,none,.load false 1 (.t 56)⟩,⟨some 58,none,.mv (.t 15)⟩,⟨some 59,none,.iaddr 2 (.t 57) (.t 58)⟩,⟨some 60,none,.load true 2 (.t 59)⟩,⟨(some 61),none,(.build [(.str ⟨#[]⟩),.nil,(.str ⟨#[]⟩),.nil] [(0,(2,(.t 55))),(2,(2,(.t 60)))])⟩,⟨(some 62),none,(.mkrow 107 4 [(.str ⟨#[]⟩),.nil,(.str ⟨#[]⟩),.nil] 1 [(0,(.t 61))])⟩,⟨(some 63),none,(.append 107 4 80 [(.str ⟨#[]⟩),.nil,(.str ⟨#[]⟩),.nil] (.t 54) (.t 62))⟩,⟨some 14,none,.mv (.t 63)⟩]))) (.reg [⟨some 64,none,.bin .add false (.t 49) (.c (.int .i64 1))⟩,⟨some 49,none,.mv (.t 64)⟩]))))))) (.reg [⟨some 65,none,.mv (.t 14)⟩,⟨some 66,none,.mv (.t 7)⟩,⟨(some 67),none,(.append 107 4 80 [(.str ⟨#[]⟩),.nil,(.str ⟨#[]⟩),.nil] (.t 65) (.t 66))⟩,⟨some 7,none,.mv (.t 67)⟩])))))))))))))))))
abbrev u2r:SC:=(.seq (.reg [⟨some 122,none,.load true 1 (.t 6)⟩,⟨none,none,(.store 1 (.t 4) (.t 122))⟩,⟨some 5,none,.mv (.c (.bool true))⟩]) .ret)
def Of:SC:=(.seq (.reg [⟨some 2,none,.boxv 71 2 (.t 0)⟩,⟨some 3,none,.boxv 71 2 (.t 1)⟩,⟨some 4,none,.alloc 76 [.nil]⟩,⟨some 5,none,.mv (.c (.bool false))⟩]) (.seq (.reg [⟨some 17,none,.build [.nil] []⟩,⟨some 6,none,.alloc 76 [.nil]⟩,⟨none,none,(.store 1 (.t 6) (.t 17))⟩]) (.seq (.reg [⟨some 18,none,.load true 2 (.t 2)⟩,⟨some 19,none,.load true 2 (.t 3)⟩,⟨(some 20),none,(.build [(.str ⟨#[]⟩),.nil,(.str ⟨#[]⟩),.nil] [(0,(2,(.t 18))),(2,(2,(.t 19)))])⟩,⟨(some 21),none,(.mkrow 107 4 [(.str ⟨#[]⟩),.nil,(.str ⟨#[]⟩),.nil] 1 [(0,(.t 20))])⟩,⟨some 7,none,.mv (.t 21)⟩]) (.seq (.block 0 (.loop [0,0,0,0,1,0,1,1,0,0,0,0,0,0,0,0,0,0,0,0,0,0,0,0,0,0,0,0,0,0,0,0,0,0,0,0,0,0,0,0,0,0,0,0,0,0,0,0,0,0,0,0,0,0,0,0,0,0,0,0,0,0,0,0,0,0,0,0,0,0,0,0,0,0,0,0,0,0,0,0,0,0,0,0,0,0,0,0,0,0,0,0,0,0,0,0,0,0,0,0,0,0,0,0,0,0,0,0,0,0,0,0,0,0,0,0,0,0,0,0,0,0,0] u2b)) u2r))))
theorem VG:codeOf Tryz.prog 57=some ⟨123,Of,[(.cell 4 true 1),(.tmp 5)]⟩:=by kernel_rfl
theorem JN:modes 57=⟨[],.own [some (139,3),none],none,false⟩:=by unfold modes; rfl
abbrev u2H:Nat × Bool × Bool × Sb × List (Tm × Tm)→St:=fun a=>⟨slots 123 0 [(4,.ptr 0 0),(6,.ptr 1 0),(7,(bif a.2.2.1 then .ref 2 else .arr (a.2.2.2.2.map eqD)))],([.box 76 [.nil],.box 76 [bif a.2.1 then .nil else .ref (bif a.2.2.1 then 3 else 2)]]++((bif a.2.2.1 then [.row 107 4 (a.2.2.2.2.map eqO)] else [])++(bif a.2.1 then [] else [.row 139 3 (a.2.2.2.1.binds.map Bd.o)])))⟩
abbrev u2R (total:Option Sb):Nat × Bool × Bool × Sb × List (Tm × Tm)→Prop:=fun a=>uInv a.2.2.2.1 a.2.2.2.2∧BE a.1 a.2.2.2.1 a.2.2.2.2=some total∧(a.2.1=true→a.2.2.2.1.binds=[])
abbrev u2K (total:Option Sb):X→St→Prop:=blk 0 (Rm 0 u2r (SM (.own [some (139,3),none]) 0 [(.cell 4 true 1),(.tmp 5)] (.tup [(uTo total).osv,.bool (uOk total)],(uTo total).obs)))
abbrev Lx:List Nat:=[0,0,0,0,1,0,1,1,0,0,0,0,0,0,0,0,0,0,0,0,0,0,0,0,0,0,0,0,0,0,0,0,0,0,0,0,0,0,0,0,0,0,0,0,0,0,0,0,0,0,0,0,0,0,0,0,0,0,0,0,0,0,0,0,0,0,0,0,0,0,0,0,0,0,0,0,0,0,0,0,0,0,0,0,0,0,0,0,0,0,0,0,0,0,0,0,0,0,0,0,0,0,0,0,0,0,0,0,0,0,0,0,0,0,0,0,0,0,0,0,0,0,0]
end Go.Proofs.YtibdknkacmimgaaGreatDoor
