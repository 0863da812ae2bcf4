/-
  Texts of this claim, one behind the other, each built on those ahead of it. No condition.
-/
import Derived.Test.YtepbennkcbmgoaaGreatDoorK52c
import Derived.Test.YtepbennkcbmgoaaGreatDoorK52d
import Derived.Test.YtepbennkcbmgoaaGreatDoorK52e
import Derived.Test.YtepbennkcbmgoaaGreatDoorK52f
import Derived.Test.YtepbennkcbmgoaaGreatDoorK52g
import Derived.Test.YtepbennkcbmgoaaGreatDoorK52h
import Derived.Test.YtepbennkcbmgoaaGreatDoorK52i
set_option maxHeartbeats 16000000
open Nat renaming lt_or_ge → zA, zero_le → zF
open List renaming length_map → zB, map_nil → zC, drop_eq_getElem_cons → zD, getElem_mem → zG, drop_zero → zH
open Option renaming isSome_some → zE
set_option maxRecDepth 100000
set_option linter.unusedSimpArgs false
set_option linter.unusedVariables false
set_option linter.unusedSectionVars false
namespace Go.Proofs.YtepbennkcbmgoaaGreatDoor
open Go.RowKit
theorem Qfg (a b:Tm) (ha:a.expr=true) (hb:b.expr=true) (n:Nat) (total:Option Sb) (hr:BL n ⟨[]⟩ [(a,b)]=some total):E 151 [a.sv,b.sv] []=some (.tup [(uTo total).osv,.bool (uOk total)],(uTo total).obs):=by
 refine Ad Xt Ks (of_decide_eq_true rfl) ?_
 simp (disch:=omega) only [Pa,go_sem,Aa]
 refine go_loop (α:=Nat × Bool × Bool × Sb × List (Tm × Tm)) u2H (u2R total) (fun a=>a.1) (n,true,true,⟨[]⟩,[(a,b)]) ⟨uInv.start ha hb,hr,fun _=>rfl⟩ (by simp (disch:=omega) only [go_sem,Aa,u2H]; rfl) ?_
 clear hr ha hb
 rintro ⟨n,sn,lo,s,l⟩ ⟨hinv,hrun,hsn⟩
 dsimp only at hinv hrun hsn
 have hs:=hinv.ok
 have hst:=Fl hs
 cases n with
 | zero=>rw [BL] at hrun; cases hrun
 | succ n =>
 cases l with
 | nil =>
  rw [BL] at hrun
  obtain rfl:=Option.some.inj hrun
  have hk:uTo (some s)=s:=rfl
  rw [hk]
  cases sn with
  | true =>
   obtain rfl:s=⟨[]⟩:=by obtain ⟨bs⟩:=s; have:=hsn rfl; rw [show bs=[] from this]
   cases lo with
   | true =>
    simp (disch:=omega) only [go_sem,Aa,u2H,u2b,u2r,Sb.osv,Sb.obs,uOk,zE,zC]
    try rfl
   | false =>
    simp (disch:=omega) only [go_sem,Aa,u2H,u2b,u2r,Sb.osv,Sb.obs,uOk,zE,zC]
    try rfl
  | false =>
   cases lo with
   | true =>
    simp (disch:=omega) only [go_sem,Aa,u2H,u2b,u2r,Sb.osv,Sb.obs,uOk,zE,zC]
    try rfl
   | false =>
    simp (disch:=omega) only [go_sem,Aa,u2H,u2b,u2r,Sb.osv,Sb.obs,uOk,zE,zC]
    try rfl
 | cons p l =>
  have hcmb:(sn=true∧lo=true)∨(sn=true∧lo=false)∨(sn=false∧lo=true)∨(sn=false∧lo=false):=by cases sn <;> cases lo <;> simp
  rcases hcmb with ⟨rfl,rfl⟩ | ⟨rfl,rfl⟩ | ⟨rfl,rfl⟩ | ⟨rfl,rfl⟩
  ·exact QfS total n s p l hinv hrun hsn
  ·exact QfT total n s p l hinv hrun hsn
  ·exact QfU total n s p l hinv hrun hsn
  ·exact QfV total n s p l hinv hrun hsn
def Fd:SC:=(.seq (.reg [⟨some 6,none,.mv (.c (.bool false))⟩]) (.seq (.reg [⟨some 7,none,.mv (.t 0)⟩,⟨some 8,none,.mv (.t 1)⟩,⟨some 9,none,.bin .geq false (.t 7) (.t 8)⟩,⟨some 10,none,.mv (.t 9)⟩,⟨(some 11),(some (10,true)),(.mv (.t 0))⟩,⟨(some 12),(some (10,true)),(.mv (.t 2))⟩,⟨(some 13),(some (10,true)),(.bin .leq false (.t 11) (.t 12))⟩,⟨some 14,none,.pick (.t 10) (.t 13) (.c (.bool false))⟩,⟨some 6,none,.mv (.t 14)⟩]) .ret))
theorem G5:codeOf Tryz.prog 205=some ⟨15,Fd,[(.tmp 6)]⟩:=by kernel_rfl
theorem Fe:modes 205=⟨[],.asis,none,false⟩:=by unfold modes; rfl
def GO:SC:=(.seq (.reg [⟨some 6,none,.mv (.c (.bool false))⟩]) (.seq (.reg [⟨some 7,none,.mv (.t 0)⟩,⟨some 8,none,.mv (.t 1)⟩,⟨some 9,none,.bin .geq false (.t 7) (.t 8)⟩,⟨some 10,none,.mv (.t 9)⟩,⟨(some 11),(some (10,true)),(.mv (.t 0))⟩,⟨(some 12),(some (10,true)),(.mv (.t 2))⟩,⟨(some 13),(some (10,true)),(.bin .leq false (.t 11) (.t 12))⟩,⟨some 14,none,.pick (.t 10) (.t 13) (.c (.bool false))⟩,⟨some 6,none,.mv (.t 14)⟩]) .ret))
theorem IG:codeOf Tryz.prog 198=some ⟨15,GO,[(.tmp 6)]⟩:=by kernel_rfl
theorem Dp:modes 198=⟨[],.asis,none,false⟩:=by unfold modes; rfl
theorem Qc7 (n lo hi:Int):E 205 [.int .i64 n,.int .i64 lo,.int .i64 hi] []=some (.bool (dec (lo≤n)&&dec (n≤hi)),[]):=by
 cases h1:dec (lo≤n)
 ·cases h2:dec (n≤hi)
  ·refine Ad G5 Fe (of_decide_eq_true rfl) ?_
   simp (disch:=omega) only [Fd,go_sem,Aa,h1,h2]
  ·refine Ad G5 Fe (of_decide_eq_true rfl) ?_
   simp (disch:=omega) only [Fd,go_sem,Aa,h1,h2]
 ·cases h2:dec (n≤hi)
  ·refine Ad G5 Fe (of_decide_eq_true rfl) ?_
   simp (disch:=omega) only [Fd,go_sem,Aa,h1,h2]
  ·refine Ad G5 Fe (of_decide_eq_true rfl) ?_
   simp (disch:=omega) only [Fd,go_sem,Aa,h1,h2]
theorem QbG (n lo hi:Int):E 198 [.int .i64 n,.int .i64 lo,.int .i64 hi] []=some (.bool (dec (lo≤n)&&dec (n≤hi)),[]):=by
 cases h1:dec (lo≤n)
 ·cases h2:dec (n≤hi)
  ·refine Ad IG Dp (of_decide_eq_true rfl) ?_
   simp (disch:=omega) only [GO,go_sem,Aa,h1,h2]
  ·refine Ad IG Dp (of_decide_eq_true rfl) ?_
   simp (disch:=omega) only [GO,go_sem,Aa,h1,h2]
 ·cases h2:dec (n≤hi)
  ·refine Ad IG Dp (of_decide_eq_true rfl) ?_
   simp (disch:=omega) only [GO,go_sem,Aa,h1,h2]
  ·refine Ad IG Dp (of_decide_eq_true rfl) ?_
   simp (disch:=omega) only [GO,go_sem,Aa,h1,h2]
def Fn:SC:=(.seq (.reg [⟨some 2,none,.boxv 142 1 (.t 0)⟩,⟨some 4,none,.alloc 60 [.nil]⟩,⟨some 5,none,.mv (.c (.bool false))⟩]) (.seq (.reg [⟨some 10,none,.load true 1 (.t 2)⟩,⟨some 11,none,.mv (.t 1)⟩,⟨some 12,none,.call 212 [(.t 10),(.t 11)]⟩,⟨some 9,none,.mv (.t 12)⟩,⟨some 13,none,.ext (.t 9) 0⟩,⟨some 14,none,.ext (.t 9) 1⟩,⟨some 6,none,.alloc 60 [.nil]⟩,⟨none,none,(.store 1 (.t 6) (.t 13))⟩,⟨some 7,none,.mv (.t 14)⟩]) (.seq (.seq (.reg [⟨some 15,none,.mv (.t 7)⟩,⟨some 16,none,.un .not (.t 15)⟩]) (.cond (.t 16) (.seq (.reg [⟨some 17,none,.build [.nil] []⟩,⟨none,none,(.store 1 (.t 4) (.t 17))⟩,⟨some 5,none,.mv (.c (.bool false))⟩]) .ret) .skip)) (.seq (.reg [⟨some 18,none,.load true 1 (.t 6)⟩,⟨some 19,none,.call 163 [(.t 18)]⟩,⟨some 8,none,.alloc 60 [.nil]⟩,⟨none,none,(.store 1 (.t 8) (.t 19))⟩]) (.seq (.seq (.reg [⟨some 20,none,.load true 1 (.t 8)⟩,⟨some 21,none,.call 79 [(.t 20)]⟩,⟨some 22,none,.un .not (.t 21)⟩]) (.cond (.t 22) (.seq (.reg [⟨some 23,none,.build [.nil] []⟩,⟨none,none,(.store 1 (.t 4) (.t 23))⟩,⟨some 5,none,.mv (.c (.bool false))⟩]) .ret) .skip)) (.seq (.reg [⟨some 24,none,.load true 1 (.t 8)⟩,⟨none,none,(.store 1 (.t 4) (.t 24))⟩,⟨some 5,none,.mv (.c (.bool true))⟩]) .ret))))))
theorem Ha:codeOf Tryz.prog 152=some ⟨25,Fn,[(.cell 4 true 1),(.tmp 5)]⟩:=by kernel_rfl
theorem Fo:modes 152=⟨[],.own [some (122,3),none],none,false⟩:=by unfold modes; rfl
theorem QaA (s:Sb) (hs:s.ok=true) (ht:s.tame) (l:List Lt) (hl:l.length≤1048576) (hal:∀ x∈l,x.atom.atom=true):E 152 [s.sv,.arr (l.map Lt.d)] []=some (.tup [(U0 s l).osv,.bool (FZ s l)],(U0 s l).obs):=by
 have h1:=Uq s hs ht l hl hal
 have hcs:∀ d:Cl,Cl.osv d=.agg [.ref 0]:=fun d=>rfl
 have hob:∀ d:Cl,Cl.obs d=[.row 122 3 (d.lits.map Lt.o)]:=fun d=>rfl
 have hsv:∀ d:Cl,d.sv=.agg [.arr (d.lits.map Lt.d)]:=fun d=>rfl
 have hss:s.sv=.agg [.arr (s.binds.map Bd.d)]:=rfl
 rw [hcs,hob] at h1
 rw [hcs,hob]
 rw [hss] at h1 ⊢
 cases hok:EO s l with
 | false =>
  have ho:FZ s l=false:=by unfold FZ; rw [hok]; rfl
  have hz:(Cl.mk []).lits=[]:=rfl
  rw [PL hok,hok] at h1
  rw [RD ho,ho]
  refine Ad Ha Fo (of_decide_eq_true rfl) ?_
  simp (disch:=omega) only [Fn,go_sem,Aa,h1,Bw]
 | true =>
  have hc:=Qa9 hok
  obtain ⟨c,hcc⟩:∃ c,c=apC s l:=⟨_,rfl⟩
  rw [←hcc] at hc h1
  have h2:=YN c hc
  have hn:=Qb5 10 hc
  have h3:=N6 (nz 10 c) (Qec hn)
  rw [hn,Bool.true_and] at h3
  rw [hok] at h1
  rw [hcs,hob] at h2
  rw [hsv] at h2 h3
  have hio:FZ s l=(nz 10 c).norm:=by unfold FZ; rw [hok,Bool.true_and,hcc]
  have her:=Lt.erss c.lits
  have her2:=Lt.erss (nz 10 c).lits
  cases hm:(nz 10 c).norm with
  | false =>
   rw [hm] at h3 hio
   rw [RD hio,hio]
   refine Ad Ha Fo (of_decide_eq_true rfl) ?_
   simp (disch:=omega) only [Fn,go_sem,Aa,h1,h2,h3,her,her2,Lt.noss,Lt.fus,Gp,B0,Bw]
  | true =>
   rw [hm] at h3 hio
   rw [TI hio,hio,← hcc]
   refine Ad Ha Fo (of_decide_eq_true rfl) ?_
   simp (disch:=omega) only [Fn,go_sem,Aa,h1,h2,h3,her,her2,Lt.noss,Lt.fus,Gp,B0,Bw]
def IH:SC:=(.seq (.reg [⟨some 2,none,.boxv 60 1 (.t 0)⟩,⟨some 4,none,.mv (.c (.bool false))⟩]) (.seq (.reg [⟨some 5,none,.mv (.t 1)⟩,⟨some 6,none,.faddr 0 (.t 2)⟩,⟨some 7,none,.load false 1 (.t 6)⟩,⟨some 8,none,.len false (.t 7)⟩,⟨some 9,none,.bin .sub false (.t 8) (.c (.int .i64 1))⟩,⟨some 10,none,.call 205 [(.t 5),(.c (.int .i64 0)),(.t 9)]⟩,⟨some 4,none,.mv (.t 10)⟩]) .ret))
theorem Pb:codeOf Tryz.prog 149=some ⟨11,IH,[(.tmp 4)]⟩:=by kernel_rfl
theorem C9:modes 149=⟨[],.asis,none,false⟩:=by unfold modes; rfl
theorem Pc (c:Cl) (hc:c.ok=true) (i:Int):E 149 [c.sv,.int .i64 i] []=some (.bool (hasB c i),[]):=by
 have hl:=Cl.ok_len hc
 have hsv:c.sv=.agg [.arr (c.lits.map Lt.d)]:=rfl
 have h1:=Qc7 i 0 ((c.lits.length:Int)-1)
 unfold hasB
 rw [hsv]
 refine Ad Pb C9 (of_decide_eq_true rfl) ?_
 simp (disch:=omega) only [IH,go_sem,Aa,h1,Fe]
theorem Qed (a b:Tm) (ha:a.atom=true) (hb:b.atom=true):E 151 [a.sv,b.sv] []=some (.tup [(uTo (unR a b)).osv,.bool (uOk (unR a b))],(uTo (unR a b)).obs):=by
 obtain ⟨n,hn⟩:=TH (Tm.Ct ha) (Tm.Ct hb)
 exact Qfg a b (Tm.Ct ha) (Tm.Ct hb) n _ hn
def DC:SC:=(.seq (.reg [⟨some 4,none,.boxv 60 1 (.t 0)⟩,⟨some 6,none,.boxv 60 1 (.t 2)⟩,⟨some 8,none,.alloc 60 [.nil]⟩,⟨some 9,none,.mv (.c (.bool false))⟩]) (.seq (.seq (.dreg [[],[],[0,1],[2,0,1],[3,2,0,1],[4,3,2,0,1],[4,3,2,0,1],[5,4,3,2,0,1,6],[7,5,4,3,2,0,1,6],[4,3,2,0,1,8,7,5,6],[9,4,3,2,0,1,8,7,5,6],[10,9,4,3,2,0,1,8,7,5,6],[11,10,9,4,3,2,0,1,8,7,5,6],[10,9,4,3,2,0,1,8,7,5,6],[12,11,10,9,4,3,2,0,1,8,7,5,6,13],[14,12,11,10,9,4,3,2,0,1,8,7,5,6,13],[15,14,12,11,10,9,4,3,2,0,1,8,7,5,6,13],[10,9,4,3,2,0,1,8,7,5,6],[17,10,9,4,3,2,0,1,8,7,5,6],[10,9,4,3,2,0,1,8,7,5,6],[18,17,10,9,4,3,2,0,1,8,7,5,6,19],[20,18,17,10,9,4,3,2,0,1,8,7,5,6,19],[21,20,18,17,10,9,4,3,2,0,1,8,7,5,6,19],[16,15,14,12,11,10,9,4,3,2,0,1,8,7,5,6,13,22,21,20,18,17,19],[10,9,4,3,2,0,1,8,7,5,6,23,16,15,14,12,11,13,22,21,20,18,17,19]] [⟨some 13,none,.load true 1 (.t 4)⟩,⟨some 14,none,.mv (.t 1)⟩,⟨some 15,none,.call 149 [(.t 13),(.t 14)]⟩,⟨some 16,none,.un .not (.t 15)⟩,⟨some 17,none,.mv (.t 16)⟩,⟨(some 18),(some (17,false)),(.load true 1 (.t 6))⟩,⟨(some 19),(some (17,false)),(.mv (.t 3))⟩,⟨(some 20),(some (17,false)),(.call 149 [(.t 18),(.t 19)])⟩,⟨(some 21),(some (17,false)),(.un .not (.t 20))⟩,⟨some 22,none,.pick (.t 17) (.c (.bool true)) (.t 21)⟩,⟨some 23,none,.mv (.t 22)⟩,⟨(some 24),(some (23,false)),(.faddr 0 (.t 4))⟩,⟨(some 25),(some (23,false)),(.load false 1 (.t 24))⟩,⟨(some 26),(some (23,false)),(.mv (.t 1))⟩,⟨(some 27),(some (23,false)),(.iaddr 3 (.t 25) (.t 26))⟩,⟨(some 28),(some (23,false)),(.faddr 0 (.t 27))⟩,⟨(some 29),(some (23,false)),(.load false 1 (.t 28))⟩,⟨(some 30),(some (23,false)),(.faddr 0 (.t 6))⟩,⟨(some 31),(some (23,false)),(.load false 1 (.t 30))⟩,⟨(some 32),(some (23,false)),(.mv (.t 3))⟩,⟨(some 33),(some (23,false)),(.iaddr 3 (.t 31) (.t 32))⟩,⟨(some 34),(some (23,false)),(.faddr 0 (.t 33))⟩,⟨(some 35),(some (23,false)),(.load false 1 (.t 34))⟩,⟨(some 36),(some (23,false)),(.bin .eql true (.t 29) (.t 35))⟩,⟨some 37,none,.pick (.t 23) (.c (.bool true)) (.t 36)⟩]) (.cond (.t 37) (.seq (.reg [⟨some 38,none,.build [.nil] []⟩,⟨none,none,(.store 1 (.t 8) (.t 38))⟩,⟨some 9,none,.mv (.c (.bool false))⟩]) .ret) .skip)) (.seq (.reg [⟨some 39,none,.load true 1 (.t 6)⟩,⟨some 40,none,.call 150 [(.t 39)]⟩,⟨some 10,none,.alloc 60 [.nil]⟩,⟨none,none,(.store 1 (.t 10) (.t 40))⟩]) (.seq (.dreg [[],[0],[],[1,0,2],[3,1,0,2],[4,3,1,0,2],[],[6],[],[7,6,8],[9,7,6,8],[10,9,7,6,8],[5,4,3,1,0,2,11,10,9,7,6,8],[12,5,4,3,1,0,2,11,10,9,7,6,8],[13,12,5,4,3,1,0,2,11,10,9,7,6,8],[13,12,5,4,3,1,0,2,11,10,9,7,6,8],[],[16,14,13,12,5,4,3,1,0,2,11,10,9,7,6,8],[15,13,12,5,4,3,1,0,2,11,10,9,7,6,8,17,16,14]] [⟨some 42,none,.faddr 0 (.t 4)⟩,⟨some 43,none,.load false 1 (.t 42)⟩,⟨some 44,none,.mv (.t 1)⟩,⟨some 45,none,.iaddr 3 (.t 43) (.t 44)⟩,⟨some 46,none,.faddr 1 (.t 45)⟩,⟨some 47,none,.load true 2 (.t 46)⟩,⟨some 48,none,.faddr 0 (.t 10)⟩,⟨some 49,none,.load false 1 (.t 48)⟩,⟨some 50,none,.mv (.t 3)⟩,⟨some 51,none,.iaddr 3 (.t 49) (.t 50)⟩,⟨some 52,none,.faddr 1 (.t 51)⟩,⟨some 53,none,.load true 2 (.t 52)⟩,⟨some 54,none,.call 151 [(.t 47),(.t 53)]⟩,⟨some 41,none,.mv (.t 54)⟩,⟨some 55,none,.ext (.t 41) 0⟩,⟨some 56,none,.ext (.t 41) 1⟩,⟨some 11,none,.alloc 142 [.nil]⟩,⟨none,none,(.store 1 (.t 11) (.t 55))⟩,⟨some 12,none,.mv (.t 56)⟩]) (.seq (.seq (.reg [⟨some 57,none,.mv (.t 12)⟩,⟨some 58,none,.un .not (.t 57)⟩]) (.cond (.t 58) (.seq (.reg [⟨some 59,none,.build [.nil] []⟩,⟨none,none,(.store 1 (.t 8) (.t 59))⟩,⟨some 9,none,.mv (.c (.bool false))⟩]) .ret) .skip)) (.seq (.dreg [[],[],[],[1,2],[],[],[4,5,3,1,2],[3,1,2,6,4,5],[7,3,1,2,6,4,5],[0,8,7,3,1,2,6,4,5],[9,0,8,7,3,1,2,6,4,5],[9,0,8,7,3,1,2,6,4,5],[10,9,0,8,7,3,1,2,6,4,5,11],[11,9,0,8,7,3,1,2,6,4,5,12,10]] [⟨some 60,none,.load true 1 (.t 11)⟩,⟨some 61,none,.load true 1 (.t 4)⟩,⟨some 62,none,.mv (.t 1)⟩,⟨some 63,none,.call 154 [(.t 61),(.t 62)]⟩,⟨some 64,none,.load true 1 (.t 10)⟩,⟨some 65,none,.mv (.t 3)⟩,⟨some 66,none,.call 154 [(.t 64),(.t 65)]⟩,⟨some 67,none,.mkrow 58 1 [.nil] 2 [(0,(.t 63)),(1,(.t 66))]⟩,⟨some 68,none,.call 153 [(.t 67)]⟩,⟨some 69,none,.call 152 [(.t 60),(.t 68)]⟩,⟨some 70,none,.ext (.t 69) 0⟩,⟨some 71,none,.ext (.t 69) 1⟩,⟨none,none,(.store 1 (.t 8) (.t 70))⟩,⟨some 9,none,.mv (.t 71)⟩]) .ret))))))
theorem EA:codeOf Tryz.prog 80=some ⟨72,DC,[(.cell 8 true 1),(.tmp 9)]⟩:=by kernel_rfl
theorem CW:modes 80=⟨[],.own [some (122,3),none],none,false⟩:=by unfold modes; rfl
theorem Qc8 (c:Cl) (hc:c.ok=true) (i:Int) (d:Cl) (hd:d.ok=true) (hdn:d.norm=true) (k:Int):E 80 [c.sv,.int .i64 i,d.sv,.int .i64 k] []=some (.tup [(Kp c i d k).osv,.bool (IF c i d k)],(Kp c i d k).obs):=by
 have hl:=Cl.ok_len hc
 have hld:=Cl.ok_len hd
 have hcs:∀ d:Cl,Cl.osv d=.agg [.ref 0]:=fun d=>rfl
 have hob:∀ d:Cl,Cl.obs d=[.row 122 3 (d.lits.map Lt.o)]:=fun d=>rfl
 have hsv:∀ d:Cl,d.sv=.agg [.arr (d.lits.map Lt.d)]:=fun d=>rfl
 have h1:=Pc c hc i
 have h2:=Pc d hd k
 rw [hcs,hob]
 rw [hsv] at h1 h2
 rw [hsv,hsv]
 cases hi:hasB c i with
 | false =>
  obtain ⟨e1,e2⟩:=Kq (Kr (show JK c i d k=false by unfold JK; rw [hi]; rfl))
  rw [hi] at h1
  rw [e1,e2]
  refine Ad EA CW (of_decide_eq_true rfl) ?_
  simp (disch:=omega) only [DC,go_sem,Aa,h1,h2,C9]
 | true =>
 rw [hi] at h1
 cases hk:hasB d k with
 | false =>
  obtain ⟨e1,e2⟩:=Kq (Kr (show JK c i d k=false by unfold JK; rw [hk,Bool.false_and,Bool.and_false]))
  rw [hk] at h2
  rw [e1,e2]
  refine Ad EA CW (of_decide_eq_true rfl) ?_
  simp (disch:=omega) only [DC,go_sem,Aa,h1,h2,C9]
 | true =>
 rw [hk] at h2
 obtain ⟨p,rfl,hp⟩:=RE hi
 obtain ⟨q,rfl,hq⟩:=RE hk
 have hgp:=get_at Lt.d hp
 have hgq:=get_at Lt.d hq
 rw [Lt.d_eq] at hgp hgq
 have tp:=Int.toNat_natCast p
 have tq:=Int.toNat_natCast q
 have ap:=Cl.C3 hc _ (zG hp)
 have lp:=Ko hp
 have lq:=Ko hq
 cases hpp:c.lits[p].pos == d.lits[q].pos with
 | true =>
  obtain ⟨e1,e2⟩:=Kq (Kr (show JK c p d q=false by unfold JK; rw [lp,lq,hpp]; simp))
  rw [e1,e2]
  refine Ad EA CW (of_decide_eq_true rfl) ?_
  simp (disch:=omega) only [DC,go_sem,Aa,h1,h2,C9,hgp,hgq,tp,tq,hpp]
 | false =>
  have hT:=Zu (show JK c p d q=true by unfold JK; rw [hi,hk,lp,lq,hpp]; rfl)
  have h0:=QeW d hd hdn
  have ho:=Cl.QbE hd
  have hal:=Cl.Xr hd hdn
  obtain ⟨e,hee⟩:∃ e,e=d.ap:=⟨_,rfl⟩
  rw [show d.rn (D9 GH d.ns)=e from hee.symm] at h0
  have hrl:TJ c p d q=c.lits.eraseIdx p++e.lits.eraseIdx q:=by unfold TJ; rw [tp,tq,hee]
  have hla:=TK hc hd p q
  have hll:=Zv hc hd p q
  rw [hrl] at hla hll
  rw [←hee] at ho hal hT
  have hqe:q<e.lits.length:=by omega
  have le:=Ko hqe
  have hge:=get_at Lt.d hqe
  rw [Lt.d_eq] at hge
  have aq:=Cl.C3 ho _ (zG hqe)
  rw [lp,le] at hT
  have h3:=Qed _ _ ap aq
  have hsp:c.lits[p].atom.sv=.agg [.str c.lits[p].atom.name,.arr (c.lits[p].atom.args.map Tm.d)]:=rfl
  have hsq:e.lits[q].atom.sv=.agg [.str e.lits[q].atom.name,.arr (e.lits[q].atom.args.map Tm.d)]:=rfl
  rw [hsp,hsq] at h3
  rw [hsv,hsv] at h0
  cases hu:unR c.lits[p].atom e.lits[q].atom with
  | none =>
   rw [hu] at hT h3
   have hus:uTo none=⟨[]⟩:=rfl
   have huo:uOk none=false:=rfl
   have hso:(Sb.mk []).osv=.agg [.ref 0]:=rfl
   have hsb:(Sb.mk []).obs=[.row 227 3 []]:=rfl
   rw [hus,huo,hso,hsb] at h3
   obtain ⟨e1,e2⟩:=Kq hT
   rw [e1,e2]
   refine Ad EA CW (of_decide_eq_true rfl) ?_
   simp (disch:=omega) only [DC,go_sem,Aa,h1,h2,C9,hgp,hgq,tp,tq,hpp,h0,hge,h3,Kj,Ks]
  | some s =>
   have hs:=Qeb (Tm.Ct ap) (Tm.Ct aq) hu
   rw [hu] at hT h3
   obtain ⟨e1,e2⟩:=Zt hT
   rw [hrl] at e1 e2
   rw [e1,e2]
   have h4:=VA c (by omega) p (by omega) (by rw [tp]; exact hp)
   have h6:=VA e (by omega) q (by omega) (by rw [tq]; exact hqe)
   have h7:=QdJ [c.lits.eraseIdx p,e.lits.eraseIdx q] (by simp) (by simp at hll ⊢; omega)
   have hfl:[c.lits.eraseIdx p,e.lits.eraseIdx q].flatten=c.lits.eraseIdx p++e.lits.eraseIdx q:=by simp
   rw [hfl] at h7
   simp only [List.map_cons,zC] at h7
   have h5:=QaA s hs (Fl hs) (c.lits.eraseIdx p++e.lits.eraseIdx q) (by omega) hla
   have hus:uTo (some s)=s:=rfl
   have huo:uOk (some s)=true:=rfl
   have hso:s.osv=.agg [.ref 0]:=rfl
   have hsb:s.obs=[.row 227 3 (s.binds.map Bd.o)]:=rfl
   have hss:s.sv=.agg [.arr (s.binds.map Bd.d)]:=rfl
   rw [hus,huo,hso,hsb] at h3
   rw [hsv,tp] at h4
   rw [hsv,tq] at h6
   rw [hcs,hob,hss] at h5
   cases hno:OT.BF (Lt.ds (c.lits.eraseIdx p++e.lits.eraseIdx q))
   all_goals
    refine Ad EA CW (of_decide_eq_true rfl) ?_
    simp (disch:=omega) only [DC,go_sem,Aa,h1,h2,C9,hgp,hgq,tp,tq,hpp,h0,hge,h3,h4,h6,h7,h5,hno,Bd.erss,Bd.fus,Bd.noss,Lt.Qgo,Lt.Qgp,Kj,Ks,LA,Fo,Cg]
def FQ:SC:=(.seq (.reg [⟨some 2,none,.boxv 33 2 (.t 0)⟩,⟨some 4,none,.mv (.c .nil)⟩]) (.seq (.seq (.reg [⟨some 6,none,.faddr 0 (.t 2)⟩,⟨some 7,none,.load false 1 (.t 6)⟩,⟨some 8,none,.call 191 [(.t 7)]⟩]) (.cond (.t 8) (.seq (.seq (.reg [⟨some 9,none,.mv (.t 1)⟩,⟨some 10,none,.faddr 0 (.t 2)⟩,⟨some 11,none,.load false 1 (.t 10)⟩,⟨some 12,none,.call 112 [(.t 9),(.t 11)]⟩]) (.cond (.t 12) (.seq (.reg [⟨some 13,none,.mv (.t 1)⟩,⟨some 4,none,.mv (.t 13)⟩]) .ret) .skip)) (.seq (.reg [⟨some 14,none,.mv (.t 1)⟩,⟨some 15,none,.faddr 0 (.t 2)⟩,⟨some 16,none,.load false 1 (.t 15)⟩,⟨(some 17),none,(.mkrow 9 1 [(.str ⟨#[]⟩)] 1 [(0,(.t 16))])⟩,⟨(some 18),none,(.append 9 1 16 [(.str ⟨#[]⟩)] (.t 14) (.t 17))⟩,⟨some 4,none,.mv (.t 18)⟩]) .ret)) .skip)) (.seq (.seq (.reg [⟨some 5,none,.mv (.c (.int .i64 0))⟩]) (.block 0 (.loop [0,1,1,0,0,1,0,0,0,0,0,0,0,0,0,0,0,0,0,0,0,0,0,0,0,0,0,0,0,0,0,0,0,0] (.seq (.seq (.reg [⟨some 19,none,.mv (.t 5)⟩,⟨some 20,none,.faddr 1 (.t 2)⟩,⟨some 21,none,.load false 1 (.t 20)⟩,⟨some 22,none,.len false (.t 21)⟩,⟨some 23,none,.bin .lss false (.t 19) (.t 22)⟩]) (.cond (.t 23) .skip (.exit 0))) (.seq (.block 1 (.reg [⟨some 26,none,.faddr 1 (.t 2)⟩,⟨some 27,none,.load false 1 (.t 26)⟩,⟨some 28,none,.mv (.t 5)⟩,⟨some 29,none,.iaddr 2 (.t 27) (.t 28)⟩,⟨some 30,none,.load true 2 (.t 29)⟩,⟨some 31,none,.mv (.t 1)⟩,⟨some 32,none,.call 268 [(.t 30),(.t 31)]⟩,⟨some 1,none,.mv (.t 32)⟩])) (.reg [⟨some 24,none,.mv (.t 5)⟩,⟨some 25,none,.bin .add false (.t 24) (.c (.int .i64 1))⟩,⟨some 5,none,.mv (.t 25)⟩])))))) (.seq (.reg [⟨some 33,none,.mv (.t 1)⟩,⟨some 4,none,.mv (.t 33)⟩]) .ret))))
theorem Id:codeOf Tryz.prog 268=some ⟨34,FQ,[(.tmp 4)]⟩:=by kernel_rfl
theorem EB:modes 268=⟨[false,true],.asis,none,false⟩:=by unfold modes; rfl
def LT:SC:=(.seq (.reg [⟨some 1,none,.boxv 60 1 (.t 0)⟩,⟨some 2,none,.mv (.c .nil)⟩]) (.seq (.reg [⟨(some 5),none,(.mkrow 9 1 [(.str ⟨#[]⟩)] 0 [])⟩,⟨some 3,none,.mv (.t 5)⟩]) (.seq (.seq (.reg [⟨some 4,none,.mv (.c (.int .i64 0))⟩]) (.block 0 (.loop [0,1,0,1,1,0,0,0,0,0,0,0,0,0,0,0,0,0,0,0,0,0] (.seq (.seq (.reg [⟨some 6,none,.mv (.t 4)⟩,⟨some 7,none,.faddr 0 (.t 1)⟩,⟨some 8,none,.load false 1 (.t 7)⟩,⟨some 9,none,.len false (.t 8)⟩,⟨some 10,none,.bin .lss false (.t 6) (.t 9)⟩]) (.cond (.t 10) .skip (.exit 0))) (.seq (.block 1 (.reg [⟨some 13,none,.faddr 0 (.t 1)⟩,⟨some 14,none,.load false 1 (.t 13)⟩,⟨some 15,none,.mv (.t 4)⟩,⟨some 16,none,.iaddr 3 (.t 14) (.t 15)⟩,⟨some 17,none,.faddr 1 (.t 16)⟩,⟨some 18,none,.load true 2 (.t 17)⟩,⟨some 19,none,.mv (.t 3)⟩,⟨some 20,none,.call 268 [(.t 18),(.t 19)]⟩,⟨some 3,none,.mv (.t 20)⟩])) (.reg [⟨some 11,none,.mv (.t 4)⟩,⟨some 12,none,.bin .add false (.t 11) (.c (.int .i64 1))⟩,⟨some 4,none,.mv (.t 12)⟩])))))) (.seq (.reg [⟨some 21,none,.mv (.t 3)⟩,⟨some 2,none,.mv (.t 21)⟩]) .ret))))
theorem TL:codeOf Tryz.prog 196=some ⟨22,LT,[(.tmp 2)]⟩:=by kernel_rfl
theorem DD:modes 196=⟨[],.asis,none,false⟩:=by unfold modes; rfl
def II:SC:=(.seq (.reg [⟨some 1,none,.boxv 60 1 (.t 0)⟩,⟨some 2,none,.mv (.c (.bool false))⟩]) (.seq (.reg [⟨some 5,none,.load true 1 (.t 1)⟩,⟨some 6,none,.call 196 [(.t 5)]⟩,⟨some 3,none,.mv (.t 6)⟩]) (.seq (.seq (.reg [⟨some 4,none,.mv (.c (.int .i64 0))⟩]) (.block 0 (.loop [0,0,0,1,1,0,0,0,0,0,0,0,0,0,0,0,0,0,0,0,0] (.seq (.seq (.reg [⟨some 7,none,.mv (.t 4)⟩,⟨some 8,none,.mv (.t 3)⟩,⟨some 9,none,.len false (.t 8)⟩,⟨some 10,none,.bin .lss false (.t 7) (.t 9)⟩]) (.cond (.t 10) .skip (.exit 0))) (.seq (.block 1 (.seq (.dreg [[],[],[0,1],[2,0,1],[],[4],[5,4],[3,2,0,1,6,5,4]] [⟨some 13,none,.mv (.t 3)⟩,⟨some 14,none,.mv (.t 4)⟩,⟨some 15,none,.iaddr 1 (.t 13) (.t 14)⟩,⟨some 16,none,.load false 1 (.t 15)⟩,⟨some 17,none,.mv (.t 4)⟩,⟨some 18,none,.call 190 [(.t 17)]⟩,⟨(some 19),none,(.bin .add false (.c (.str ⟨#[88]⟩)) (.t 18))⟩,⟨some 20,none,.bin .neq false (.t 16) (.t 19)⟩]) (.cond (.t 20) (.seq (.reg [⟨some 2,none,.mv (.c (.bool false))⟩]) .ret) .skip))) (.reg [⟨some 11,none,.mv (.t 4)⟩,⟨some 12,none,.bin .add false (.t 11) (.c (.int .i64 1))⟩,⟨some 4,none,.mv (.t 12)⟩])))))) (.seq (.reg [⟨some 2,none,.mv (.c (.bool true))⟩]) .ret))))
theorem Pd:codeOf Tryz.prog 144=some ⟨21,II,[(.tmp 2)]⟩:=by kernel_rfl
theorem BW:modes 144=⟨[],.asis,none,false⟩:=by unfold modes; rfl
def Hd:SC:=(.seq (.reg [⟨some 1,none,.boxv 60 1 (.t 0)⟩,⟨some 2,none,.mv (.c (.bool false))⟩]) (.seq (.reg [⟨some 3,none,.load true 1 (.t 1)⟩,⟨some 4,none,.call 143 [(.t 3)]⟩,⟨some 5,none,.mv (.t 4)⟩,⟨(some 6),(some (5,true)),(.load true 1 (.t 1))⟩,⟨(some 7),(some (5,true)),(.call 144 [(.t 6)])⟩,⟨some 8,none,.pick (.t 5) (.t 7) (.c (.bool false))⟩,⟨some 2,none,.mv (.t 8)⟩]) .ret))
theorem KF:codeOf Tryz.prog 76=some ⟨9,Hd,[(.tmp 2)]⟩:=by kernel_rfl
theorem Ci:modes 76=⟨[],.asis,none,false⟩:=by unfold modes; rfl
abbrev QfW (x:Tm):Prop:=∀ l:List ByteArray,l.length+x.nodes≤1048576→E 268 [x.sv,.ref 0] [.row 9 1 (l.map fun s=>[OT.str s])]=some ((bif dec (l.length<(CD l x.vs).length) then .ref 1 else .ref 0),(bif dec (l.length<(CD l x.vs).length) then [.gone,.row 9 1 ((CD l x.vs).map fun s=>[OT.str s])] else [.row 9 1 ((CD l x.vs).map fun s=>[OT.str s])]))
theorem QaB (x:Tm) (ih:∀ y∈x.args,QfW y):QfW x:=by
 intro l hn
 have hl:=Tm.length_le x.args
 have hne:=Tm.An x
 have hvs:=Tm.FY x
 have hv:=Am x.name
 cases hvv:Ao x.name with
 | true =>
  rw [hvv] at hvs hv
  have h1:=QdZ l x.name (by omega)
  rw [hvs]
  cases hm:dec (x.name∈l) with
  | true =>
   have e:CD l [x.name]=l:=by simp only [CD,List.foldl_cons,List.foldl_nil,M7,hm,cond_true]
   have hg:dec (l.length<l.length)=false:=Ay (by omega)
   rw [hm] at h1
   simp only [cond_true,e,hg]
   refine Ad Id EB (of_decide_eq_true rfl) ?_
   simp (disch:=omega) only [FQ,go_sem,Aa,hv,h1,Ah,GM]
  | false =>
   have e:CD l [x.name]=l++[x.name]:=by simp only [CD,List.foldl_cons,List.foldl_nil,M7,hm,cond_false]
   have hg:l.length<(l++[x.name]).length:=by simp
   rw [hm] at h1
   simp only [cond_true,e,At hg]
   refine Ad Id EB (of_decide_eq_true rfl) ?_
   simp (disch:=omega) only [FQ,go_sem,Aa,hv,h1,Ah,GM]
   first | done | simp only [List.map_append,List.map_cons,zC]
 | false =>
  rw [hvv] at hvs hv
  simp only [cond_false] at hvs
  rw [hvs]
  have hgl:dec (l.length<l.length)=false:=Ay (by omega)
  refine Ad Id EB (of_decide_eq_true rfl) ?_
  simp (disch:=omega) only [FQ,go_sem,Aa,hv,Ah]
  refine go_loop (α:=Int × (List ByteArray)) (fun a=>⟨slots 34 0 [(1,(bif dec (l.length<(a.2).length) then .ref 1 else .ref 0)),(2,(bif dec (l.length<(a.2).length) then .ptr 2 0 else .ptr 1 0)),(5,.int .i64 (a.1))],(bif dec (l.length<(a.2).length) then [.gone,.row 9 1 ((a.2).map fun s=>[OT.str s]),.box 33 [.str x.name,.arr (x.args.map Tm.d)]] else [.row 9 1 ((a.2).map fun s=>[OT.str s]),.box 33 [.str x.name,.arr (x.args.map Tm.d)]])⟩) (fun a=>∃ k:Nat,a.1=k∧k≤(x.args).length∧CD (a.2) (Tm.vsL (x.args.drop k))=CD l (Tm.vsL x.args)∧(a.2).length+Tm.Bf (x.args.drop k)≤1048576∧l.length≤(a.2).length) (fun a=>(x.args).length-(a.1).toNat) (0,l) ⟨0,rfl,zF _,by rw [zH],by rw [zH]; dsimp only; omega,Nat.le_refl _⟩ (by simp (disch:=omega) only [go_sem,Aa,hgl]) ?_
  rintro ⟨i,acc⟩ ⟨k,hi,hk,hR⟩
  dsimp only at hi hR
  have hni:i.toNat=k:=by omega
  have hni1:(i+1).toNat=k+1:=by omega
  rcases zA k (x.args).length with hlt | hge
  ·have hg:=get_at Tm.d hlt
   rw [Tm.d_eq] at hg
   obtain ⟨hR1,hR2,hR3⟩:=hR
   rw [zD hlt,Tm.vsL,O8] at hR1
   rw [zD hlt,Tm.Bf] at hR2
   have hc:=ih x.args[k] (zG hlt) acc (by omega)
   have hlen:=J4 x.args[k].vs acc
   have hgr:=PM x.args[k].vs acc
   have hvl:=Tm.vs_len x.args[k]
   have has:x.args[k].sv=.agg [.str x.args[k].name,.arr (x.args[k].args.map Tm.d)]:=rfl
   rw [has] at hc
   obtain ⟨acc2,ha2⟩:∃ a,a=CD acc x.args[k].vs:=⟨_,rfl⟩
   rw [←ha2] at hc hlen hgr hR1
   rcases zA l.length acc.length with q1 | q1 <;> rcases zA acc.length acc2.length with q2 | q2
   all_goals
    first
     |rw [At q2] at hc
     |rw [Ay (Nat.not_lt.2 q2)] at hc
    simp only [cond_true,cond_false] at hc
    simp (disch:=omega) only [go_sem,Aa,hni,hg,hc,EB]
    refine ⟨(i+1,acc2),⟨k+1,by dsimp only; omega,hlt,hR1,by dsimp only; omega,by dsimp only; omega⟩,by dsimp only; omega,?_⟩
    first | done | simp (disch:=omega) only [go_sem,Aa]
  ·rw [List.drop_eq_nil_of_le hge,Tm.vsL] at hR
   obtain ⟨hR1,hR2,hR3⟩:=hR
   have hR1:acc=CD l (Tm.vsL x.args):=hR1
   rw [←hR1]
   rcases zA l.length acc.length with q1 | q1
   ·simp (disch:=omega) only [go_sem,Aa,hni]
   ·simp (disch:=omega) only [go_sem,Aa,hni]
theorem VL (x:Tm):QfW x:=QaB x fun y hy=>VL y
termination_by SizeOf.sizeOf x
decreasing_by exact Tm.lt_of_mem hy
theorem Qe (c:Cl) (hc:c.ok=true):E 196 [c.sv] []=some (.ref 0,[.row 9 1 (c.ns.map fun s=>[OT.str s])]):=by
 have hl:=Cl.ok_len hc
 have hsv:c.sv=.agg [.arr (c.lits.map Lt.d)]:=rfl
 have hns:c.ns=CD [] (Lt.vsL c.lits):=rfl
 rw [hsv,hns]
 refine Ad TL DD (of_decide_eq_true rfl) ?_
 simp (disch:=omega) only [LT,go_sem,Aa]
 refine go_loop (α:=Int × (List ByteArray)) (fun a=>⟨slots 22 0 [(1,.ptr 0 0),(3,.ref 1),(4,.int .i64 (a.1))],[.box 60 [.arr (c.lits.map Lt.d)],.row 9 1 ((a.2).map fun s=>[OT.str s])]⟩) (fun a=>∃ k:Nat,a.1=k∧k≤(c.lits).length∧CD (a.2) (Lt.vsL (c.lits.drop k))=CD [] (Lt.vsL c.lits)∧(a.2).length≤30*k) (fun a=>(c.lits).length-(a.1).toNat) (0,[]) ⟨0,rfl,zF _,by rw [zH],Nat.le_refl _⟩ (by simp (disch:=omega) only [go_sem,Aa]) ?_
 rintro ⟨i,acc⟩ ⟨k,hi,hk,hR⟩
 dsimp only at hi hR
 have hni:i.toNat=k:=by omega
 have hni1:(i+1).toNat=k+1:=by omega
 rcases zA k (c.lits).length with hlt | hge
 ·have hg:=get_at Lt.d hlt
  rw [Lt.d_eq] at hg
  obtain ⟨hR1,hR2⟩:=hR
  rw [zD hlt,Lt.vsL,O8] at hR1
  have hnn:=Tm.Cu (Cl.Kg hc hlt)
  have hcl:=VL c.lits[k].atom acc (by omega)
  have has:c.lits[k].atom.sv=.agg [.str c.lits[k].atom.name,.arr (c.lits[k].atom.args.map Tm.d)]:=rfl
  rw [has] at hcl
  have hlen:=J4 c.lits[k].atom.vs acc
  have hvl:=Tm.vs_len c.lits[k].atom
  obtain ⟨acc2,ha2⟩:∃ a,a=CD acc c.lits[k].atom.vs:=⟨_,rfl⟩
  rw [←ha2] at hcl hlen hR1
  rcases zA acc.length acc2.length with q2 | q2
  all_goals
   first
    |rw [At q2] at hcl
    |rw [Ay (Nat.not_lt.2 q2)] at hcl
   simp only [cond_true,cond_false] at hcl
   simp (disch:=omega) only [go_sem,Aa,hni,hg,hcl,EB]
   refine ⟨(i+1,acc2),⟨k+1,by dsimp only; omega,hlt,hR1,by dsimp only; omega⟩,by dsimp only; omega,?_⟩
   first | trivial | rfl | exact ⟨rfl,rfl⟩
 ·rw [List.drop_eq_nil_of_le hge,Lt.vsL] at hR
  obtain ⟨hR1,hR2⟩:=hR
  have hR1:acc=_:=hR1
  rw [←hR1]
  simp (disch:=omega) only [go_sem,Aa,hni]
theorem Kt (c:Cl) (hc:c.ok=true):E 144 [c.sv] []=some (.bool c.norm,[]):=by
 have h1:=Qe c hc
 have hn:=Cl.N5 hc
 have hcs:c.sv=.agg [.arr (c.lits.map Lt.d)]:=rfl
 obtain ⟨ns,hns⟩:∃ ns,ns=c.ns:=⟨_,rfl⟩
 have hnm:c.norm=dec (OA ns):=by unfold Cl.norm; rw [hns]
 rw [←hns] at hn h1
 rw [hnm]
 refine Ad Pd BW (of_decide_eq_true rfl) ?_
 simp (disch:=omega) only [II,go_sem,Aa,h1,DD]
 refine go_loop (α:=Int) (fun a=>⟨slots 21 0 [(3,.ref 0),(4,.int .i64 a)],[.row 9 1 (ns.map fun s=>[OT.str s])]⟩) (fun a=>∃ k:Nat,a=k∧k≤(ns).length∧∀ (j:Nat),j<k→∀ hj:j<ns.length,ns[j]=pre M8 (j:Nat)) (fun a=>(ns).length-(a).toNat) 0 ⟨0,rfl,zF _,fun j hj=>absurd hj (Nat.not_lt_zero _)⟩ (by simp (disch:=omega) only [go_sem,Aa]) ?_
 rintro i ⟨k,hi,hk,hR⟩
 have hni:i.toNat=k:=by omega
 have hni1:(i+1).toNat=k+1:=by omega
 rcases zA k (ns).length with hlt | hge
 ·have hg:=get_at (fun s=>[OT.str s]) hlt
  have hit:=Xg i (by omega) (by omega)
  have hz:=Gk (show 0≤i by omega) (show i≤1099511627776 by omega)
  have hb:dec ((#[88]:Array UInt8).size+(F5 i).size≤9223372036854775807)=true:=At (by simp; omega)
  by_cases he:ns[k]=pre M8 (k:Nat)
  ·have he':dec (ns[k]=(⟨#[88]⟩:ByteArray)++F5 i)=true:=At (by rw [he,hi]; rfl)
   simp (disch:=omega) only [go_sem,Aa,hni,hg,hit,hb,he',DN]
   refine ⟨i+1,⟨k+1,by omega,hlt,fun j hj hjl=>?_⟩,by omega,by first | trivial | rfl⟩
   rcases zA j k with h2 | h2
   ·exact hR j h2 hjl
   ·obtain rfl:j=k:=by omega
    exact he
  ·have he':dec (ns[k]=(⟨#[88]⟩:ByteArray)++F5 i)=false:=Ay (fun e=>he (by rw [e,hi]; rfl))
   have hno:dec (OA ns)=false:=Ay fun h=>he (h k hlt)
   rw [hno]
   simp (disch:=omega) only [go_sem,Aa,hni,hg,hit,hb,he',DN]
 ·have hy:dec (OA ns)=true:=At fun j hj=>hR j (by omega) hj
  rw [hy]
  simp (disch:=omega) only [go_sem,Aa,hni]
theorem TM (c:Cl) (hc:c.tame):E 76 [c.sv] []=some (.bool (c.ok&&c.norm),[]):=by
 have h1:=SS c hc
 cases hv:c.ok with
 | false =>
  rw [hv] at h1
  refine Ad KF Ci (of_decide_eq_true rfl) ?_
  simp (disch:=omega) only [Hd,go_sem,Aa,h1,B9]
 | true =>
  rw [hv] at h1
  have h2:=Kt c hv
  refine Ad KF Ci (of_decide_eq_true rfl) ?_
  simp (disch:=omega) only [Hd,go_sem,Aa,h1,h2,B9,BW]
def He:SC:=(.seq (.reg [⟨some 3,none,.boxv 33 2 (.t 0)⟩,⟨(some 6),none,(.alloc 33 [(.str ⟨#[]⟩),.nil])⟩]) (.seq (.seq (.reg [⟨some 10,none,.faddr 0 (.t 3)⟩,⟨some 11,none,.load false 1 (.t 10)⟩,⟨some 12,none,.call 191 [(.t 11)]⟩]) (.cond (.t 12) (.seq (.seq (.reg [⟨some 7,none,.mv (.c (.int .i64 0))⟩]) (.block 0 (.loop [0,1,1,1,0,0,1,1,0,0,0,0,0,0,0,0,0,0,0,0,0,0,0,0,0,0,0,0,0,0,0,0,0,0,0,0,0,0,0,0,0,0,0,0,0,0,0,0,0,0,0,0,0,0,0,0,0,0] (.seq (.seq (.reg [⟨some 13,none,.mv (.t 7)⟩,⟨some 14,none,.mv (.t 1)⟩,⟨some 15,none,.len false (.t 14)⟩,⟨some 16,none,.bin .lss false (.t 13) (.t 15)⟩]) (.cond (.t 16) .skip (.exit 0))) (.seq (.block 1 (.seq (.dreg [[],[],[0,1],[2,0,1],[],[4],[3,2,0,1,5,4]] [⟨some 19,none,.mv (.t 1)⟩,⟨some 20,none,.mv (.t 7)⟩,⟨some 21,none,.iaddr 1 (.t 19) (.t 20)⟩,⟨some 22,none,.load false 1 (.t 21)⟩,⟨some 23,none,.faddr 0 (.t 3)⟩,⟨some 24,none,.load false 1 (.t 23)⟩,⟨some 25,none,.bin .eql false (.t 22) (.t 24)⟩]) (.cond (.t 25) (.seq (.reg [⟨some 26,none,.mv (.t 2)⟩,⟨some 27,none,.mv (.t 7)⟩,⟨some 28,none,.call 190 [(.t 27)]⟩,⟨some 29,none,.bin .add false (.t 26) (.t 28)⟩,⟨(some 30),none,(.build [(.str ⟨#[]⟩),.nil] [(0,(1,(.t 29)))])⟩,⟨none,none,(.store 2 (.t 6) (.t 30))⟩]) .ret) .skip))) (.reg [⟨some 17,none,.mv (.t 7)⟩,⟨some 18,none,.bin .add false (.t 17) (.c (.int .i64 1))⟩,⟨some 7,none,.mv (.t 18)⟩])))))) (.seq (.reg [⟨some 31,none,.faddr 0 (.t 3)⟩,⟨some 32,none,.load false 1 (.t 31)⟩,⟨(some 33),none,(.build [(.str ⟨#[]⟩),.nil] [(0,(1,(.t 32)))])⟩,⟨none,none,(.store 2 (.t 6) (.t 33))⟩]) .ret)) .skip)) (.seq (.reg [⟨some 34,none,.faddr 0 (.t 3)⟩,⟨some 35,none,.load false 1 (.t 34)⟩,⟨(some 36),none,(.build [(.str ⟨#[]⟩),.nil] [(0,(1,(.t 35)))])⟩,⟨(some 8),none,(.alloc 33 [(.str ⟨#[]⟩),.nil])⟩,⟨none,none,(.store 2 (.t 8) (.t 36))⟩]) (.seq (.seq (.reg [⟨some 9,none,.mv (.c (.int .i64 0))⟩]) (.block 2 (.loop [0,1,1,1,0,0,1,0,1,1,0,0,0,0,0,0,0,0,0,0,0,0,0,0,0,0,0,0,0,0,0,0,0,0,0,0,0,0,0,0,0,0,0,0,0,0,0,0,0,0,0,0,0,0,0,0,0,0] (.seq (.seq (.reg [⟨some 37,none,.mv (.t 9)⟩,⟨some 38,none,.faddr 1 (.t 3)⟩,⟨some 39,none,.load false 1 (.t 38)⟩,⟨some 40,none,.len false (.t 39)⟩,⟨some 41,none,.bin .lss false (.t 37) (.t 40)⟩]) (.cond (.t 41) .skip (.exit 2))) (.seq (.block 3 (.dreg [[],[0],[],[2],[],[3,2,4],[5,3,2,4],[],[],[6,5,3,2,4,7,8],[9,6,5,3,2,4,7,8],[1,0,10,9,6,5,3,2,4,7,8],[0,1,2,3,4,5,6,7,8,9,10,11],[12,0,1,2,3,4,5,6,7,8,9,10,11]] [⟨some 44,none,.faddr 1 (.t 8)⟩,⟨some 45,none,.load false 1 (.t 44)⟩,⟨some 46,none,.faddr 1 (.t 3)⟩,⟨some 47,none,.load false 1 (.t 46)⟩,⟨some 48,none,.mv (.t 9)⟩,⟨some 49,none,.iaddr 2 (.t 47) (.t 48)⟩,⟨some 50,none,.load true 2 (.t 49)⟩,⟨some 51,none,.mv (.t 1)⟩,⟨some 52,none,.mv (.t 2)⟩,⟨some 53,none,.call 286 [(.t 50),(.t 51),(.t 52)]⟩,⟨(some 54),none,(.mkrow 33 2 [(.str ⟨#[]⟩),.nil] 1 [(0,(.t 53))])⟩,⟨(some 55),none,(.append 33 2 40 [(.str ⟨#[]⟩),.nil] (.t 45) (.t 54))⟩,⟨some 56,none,.faddr 1 (.t 8)⟩,⟨none,none,(.store 1 (.t 56) (.t 55))⟩])) (.reg [⟨some 42,none,.mv (.t 9)⟩,⟨some 43,none,.bin .add false (.t 42) (.c (.int .i64 1))⟩,⟨some 9,none,.mv (.t 43)⟩])))))) (.seq (.reg [⟨some 57,none,.load true 2 (.t 8)⟩,⟨none,none,(.store 2 (.t 6) (.t 57))⟩]) .ret)))))
theorem KG:codeOf Tryz.prog 286=some ⟨58,He,[(.cell 6 true 2)]⟩:=by kernel_rfl
theorem Eb:modes 286=⟨[],.frz,none,false⟩:=by unfold modes; rfl
abbrev RnS (ns:List ByteArray) (p:ByteArray) (x:Tm):Prop:=E 286 [x.sv,.arr (ns.map fun s=>[D.str s]),.str p] []=some ((x.rn (D9 p ns)).sv,[])
theorem QM (ns:List ByteArray) (p:ByteArray) (hp:p.size≤1048576) (hnd:ns.Nodup) (hnl:ns.length≤1048576) (hnv:∀ s∈ns,Ao s=true) (x:Tm) (hx:Ao x.name=true→x.args=[]) (hn:x.args.length≤1099511627776) (ih:∀ y∈x.args,RnS ns p y):RnS ns p x:=by
 unfold RnS
 have hv:=Am x.name
 obtain ⟨e,he⟩:∃ e,e=D9 p ns:=⟨_,rfl⟩
 rw [←he]
 cases hb:Ao x.name with
 | true =>
  rw [hb] at hv
  have hx0:=hx hb
  refine Ad KG Eb (of_decide_eq_true rfl) ?_
  simp (disch:=omega) only [He,go_sem,Aa,hv,Ah]
  refine go_loop (α:=Int) (fun a=>⟨slots 58 0 [(1,.arr (ns.map fun s=>[D.str s])),(2,.str p),(3,.ptr 0 0),(6,.ptr 1 0),(7,.int .i64 a)],[.box 33 [.str x.name,.arr (x.args.map Tm.d)],.box 33 [.str ⟨#[]⟩,.nil]]⟩) (fun a=>∃ k:Nat,a=k∧k≤(ns).length∧∀ (j:Nat),j<k→∀ hj:j<ns.length,¬ ns[j]=x.name) (fun a=>(ns).length-(a).toNat) 0 ⟨0,rfl,zF _,fun j hj=>absurd hj (Nat.not_lt_zero _)⟩ (by simp (disch:=omega) only [go_sem,Aa]) ?_
  rintro i ⟨k,hi,hk,hR⟩
  have hni:i.toNat=k:=by omega
  have hni1:(i+1).toNat=k+1:=by omega
  rcases zA k (ns).length with hlt | hge
  ·have hg:=get_at (fun s=>[D.str s]) hlt
   by_cases hq:ns[k]=x.name
   ·have hq1:=eq_true hq
    have hq2:=At hq
    have hit:=Xg i (by omega) (by omega)
    have hz:=Gk (show 0≤i by omega) (show i≤1099511627776 by omega)
    have hbd:dec (p.size+(F5 i).size≤9223372036854775807)=true:=At (by omega)
    have e1:x.rn e=.mk (p++F5 i) []:=by
     rw [Tm.Tq,hx0,← hq,he,Tr p hnd hlt,hi]; rfl
    have e2:(Tm.mk (p++F5 i) []).sv=.agg [.str (p++F5 i),.arr []]:=rfl
    rw [e1,e2]
    simp (disch:=omega) only [go_sem,Aa,hni,hg,hq1,hq2,hit,hbd,DN]
   ·have hq1:=eq_false hq
    have hq2:=Ay hq
    simp (disch:=omega) only [go_sem,Aa,hni,hg,hq1,hq2,DN]
    refine ⟨i+1,⟨k+1,by omega,hlt,fun j hj hjl=>?_⟩,by omega,by first | trivial | rfl⟩
    rcases zA j k with h2 | h2
    ·exact hR j h2 hjl
    ·obtain rfl:j=k:=by omega
     exact hq
  ·have hno:x.name ∉ ns:=fun h=>by
    obtain ⟨j,hj,h⟩:=List.getElem_of_mem h
    exact hR j (by omega) hj h
   have e1:x.rn e=.mk x.name []:=by rw [Tm.Tq,hx0,he,PO p hno]; rfl
   have e2:(Tm.mk x.name []).sv=.agg [.str x.name,.arr []]:=rfl
   rw [e1,e2]
   simp (disch:=omega) only [go_sem,Aa,hni]
 | false =>
  rw [hb] at hv
  have hen:e x.name=none:=by rw [he]; exact PO p fun h=>by have:=hnv _ h; rw [hb] at this; cases this
  have e1:x.rn e=.mk x.name (x.args.map (Tm.rn e)):=by
   rw [Tm.Tq,hen]
   cases x.args.isEmpty <;> rfl
  have e2:(Tm.mk x.name (x.args.map (Tm.rn e))).sv=.agg [.str x.name,.arr ((x.args.map (Tm.rn e)).map Tm.d)]:=rfl
  rw [e1,e2]
  have h10:((1:Int)=0)=False:=by simp
  have hfu:=Tm.O0 (x.args.map (Tm.rn e))
  have her:=Tm.WV (x.args.map (Tm.rn e))
  refine Ad KG Eb (of_decide_eq_true rfl) ?_
  simp (disch:=omega) only [He,go_sem,Aa,hv,Ah]
  refine go_loop (α:=Int) (fun a=>⟨slots 58 0 [(1,.arr (ns.map fun s=>[D.str s])),(2,.str p),(3,.ptr 0 0),(6,.ptr 1 0),(8,.ptr 2 0),(9,.int .i64 a)],(if a=0 then [.box 33 [.str x.name,.arr (x.args.map Tm.d)],.box 33 [.str ⟨#[]⟩,.nil],.box 33 [.str x.name,.nil]] else [.box 33 [.str x.name,.arr (x.args.map Tm.d)],.box 33 [.str ⟨#[]⟩,.nil],.box 33 [.str x.name,.ref 3],.row 33 2 (((x.args.map (Tm.rn e)).take a.toNat).map Tm.osh)])⟩) (fun a=>∃ k:Nat,a=k∧k≤(x.args).length) (fun a=>(x.args).length-(a).toNat) 0 ⟨0,rfl,zF _⟩ (by simp (disch:=omega) only [go_sem,Aa,eq_self,if_true]) ?_
  rintro i ⟨k,hi,hk⟩
  have hni:i.toNat=k:=by omega
  have hni1:(i+1).toNat=k+1:=by omega
  rcases zA k (x.args).length with hlt | hge
  ·have hg:=get_at Tm.d hlt
   rw [Tm.d_eq] at hg
   have hc:=ih x.args[k] (zG hlt)
   unfold RnS at hc
   rw [←he] at hc
   have hlm:k<(x.args.map (Tm.rn e)).length:=by rw [zB]; exact hlt
   have hs:=DX Tm.osh hlm
   rw [Tm.ST,List.getElem_map] at hs
   rcases Nat.eq_zero_or_pos k with h0 | h0
   ·subst h0
    obtain rfl:i=0:=hi
    rw [List.take_zero,zC,List.nil_append] at hs
    simp (disch:=omega) only [go_sem,Aa,hni,hg,hc,Eb,eq_self,if_true]
    refine ⟨1,⟨1,rfl,hlt⟩,by omega,?_⟩
    simp (disch:=omega) only [go_sem,Aa,h10,if_false,hs]
   ·have hi0:(i=0)=False:=by simp; omega
    have hi1:(i+1=0)=False:=by simp; omega
    have htl:((x.args.map (Tm.rn e)).take k).length=k:=by rw [List.length_take,zB]; omega
    simp (disch:=omega) only [go_sem,Aa,hni,hg,hc,Eb,hi0,if_false,htl]
    refine ⟨i+1,⟨k+1,by omega,hlt⟩,by omega,?_⟩
    simp (disch:=omega) only [go_sem,Aa,hni1,hi1,if_false,hs]
  ·obtain rfl:k=x.args.length:=by omega
   have ht:(x.args.map (Tm.rn e)).take x.args.length=x.args.map (Tm.rn e):=by rw [←zB (f:=Tm.rn e)]; exact List.take_length
   rcases Nat.eq_zero_or_pos x.args.length with h0 | h0
   ·have hx:x.args=[]:=List.eq_nil_of_length_eq_zero h0
    obtain rfl:i=0:=by omega
    simp (disch:=omega) only [go_sem,Aa,hni,hx,eq_self,if_true,zC,List.length_nil]
   ·have hi0:(i=0)=False:=by simp; omega
    simp (disch:=omega) only [go_sem,Aa,hni,hi0,if_false,ht,hfu,her]
theorem TN (ns:List ByteArray) (p:ByteArray) (hp:p.size≤1048576) (hnd:ns.Nodup) (hnl:ns.length≤1048576) (hnv:∀ s∈ns,Ao s=true) (x:Tm) (hx:x.names=true) (hn:x.nodes≤1099511627776):RnS ns p x :=
 QM ns p hp hnd hnl hnv x (fun h=>Tm.EH hx h) (by have:=Tm.length_le x.args; have:=Tm.An x; omega) fun y hy=>TN ns p hp hnd hnl hnv y (Tm.Eg hx hy) (by have:=Tm.AW hy; have:=Tm.An x; omega)
termination_by SizeOf.sizeOf x
decreasing_by exact Tm.lt_of_mem hy
theorem Zw (ns:List ByteArray) (p:ByteArray) (hp:p.size≤1048576) (hnd:ns.Nodup) (hnl:ns.length≤1048576) (hnv:∀ s∈ns,Ao s=true) (x:Tm) (hx:x.atom=true):RnS ns p x:=by
 have hn:=Tm.Cu hx
 have h1:=Tm.An x
 have h2:=Tm.length_le x.args
 exact QM ns p hp hnd hnl hnv x (Tm.Gn hx).1 (by omega) fun y hy=>TN ns p hp hnd hnl hnv y ((Tm.Gn hx).2 y hy) (by have:=Tm.AW hy; omega)
def KH:SC:=(.seq (.reg [⟨some 3,none,.boxv 60 1 (.t 0)⟩,⟨some 6,none,.alloc 60 [.nil]⟩]) (.seq (.reg [⟨(some 9),none,(.mkrow 122 3 [(.bool false),(.str ⟨#[]⟩),.nil] 0 [])⟩,⟨some 7,none,.mv (.t 9)⟩]) (.seq (.seq (.reg [⟨some 8,none,.mv (.c (.int .i64 0))⟩]) (.block 0 (.loop [0,1,1,1,0,0,1,1,1,0,0,0,0,0,0,0,0,0,0,0,0,0,0,0,0,0,0,0,0,0,0,0,0,0,0,0,0,0] (.seq (.seq (.reg [⟨some 10,none,.mv (.t 8)⟩,⟨some 11,none,.faddr 0 (.t 3)⟩,⟨some 12,none,.load false 1 (.t 11)⟩,⟨some 13,none,.len false (.t 12)⟩,⟨some 14,none,.bin .lss false (.t 10) (.t 13)⟩]) (.cond (.t 14) .skip (.exit 0))) (.seq (.block 1 (.dreg [[],[],[1],[],[2,1,3],[4,2,1,3],[5,4,2,1,3],[],[7],[],[8,7,9],[10,8,7,9],[11,10,8,7,9],[],[],[12,11,10,8,7,9,13,14],[6,5,4,2,1,3,15,12,11,10,8,7,9,13,14],[16,6,5,4,2,1,3,15,12,11,10,8,7,9,13,14],[0,17,16,6,5,4,2,1,3,15,12,11,10,8,7,9,13,14],[18,0,17,16,6,5,4,2,1,3,15,12,11,10,8,7,9,13,14]] [⟨some 17,none,.mv (.t 7)⟩,⟨some 18,none,.faddr 0 (.t 3)⟩,⟨some 19,none,.load false 1 (.t 18)⟩,⟨some 20,none,.mv (.t 8)⟩,⟨some 21,none,.iaddr 3 (.t 19) (.t 20)⟩,⟨some 22,none,.faddr 0 (.t 21)⟩,⟨some 23,none,.load false 1 (.t 22)⟩,⟨some 24,none,.faddr 0 (.t 3)⟩,⟨some 25,none,.load false 1 (.t 24)⟩,⟨some 26,none,.mv (.t 8)⟩,⟨some 27,none,.iaddr 3 (.t 25) (.t 26)⟩,⟨some 28,none,.faddr 1 (.t 27)⟩,⟨some 29,none,.load true 2 (.t 28)⟩,⟨some 30,none,.mv (.t 1)⟩,⟨some 31,none,.mv (.t 2)⟩,⟨some 32,none,.call 286 [(.t 29),(.t 30),(.t 31)]⟩,⟨(some 33),none,(.build [(.bool false),(.str ⟨#[]⟩),.nil] [(0,(1,(.t 23))),(1,(2,(.t 32)))])⟩,⟨(some 34),none,(.mkrow 122 3 [(.bool false),(.str ⟨#[]⟩),.nil] 1 [(0,(.t 33))])⟩,⟨(some 35),none,(.append 122 3 48 [(.bool false),(.str ⟨#[]⟩),.nil] (.t 17) (.t 34))⟩,⟨some 7,none,.mv (.t 35)⟩])) (.reg [⟨some 15,none,.mv (.t 8)⟩,⟨some 16,none,.bin .add false (.t 15) (.c (.int .i64 1))⟩,⟨some 8,none,.mv (.t 16)⟩])))))) (.seq (.reg [⟨some 36,none,.mv (.t 7)⟩,⟨some 37,none,.call 218 [(.t 36)]⟩,⟨none,none,(.store 1 (.t 6) (.t 37))⟩]) .ret))))
theorem Ri:codeOf Tryz.prog 221=some ⟨38,KH,[(.cell 6 true 1)]⟩:=by kernel_rfl
theorem Ec:modes 221=⟨[],.frz,none,false⟩:=by unfold modes; rfl
theorem TO (c:Cl) (hc:c.ok=true) (ns:List ByteArray) (hns:ns=c.ns) (p:ByteArray) (hp:p.size≤1048576) (hf:O9 (D9 p ns)):E 221 [c.sv,.arr (ns.map fun s=>[D.str s]),.str p] []=some ((c.rn (D9 p ns)).sv,[]):=by
 have hl:=Cl.ok_len hc
 have hsv:∀ d:Cl,d.sv=.agg [.arr (d.lits.map Lt.d)]:=fun d=>rfl
 have hnd:ns.Nodup:=by rw [hns]; exact c.ns_nodup
 have hnl:ns.length≤240:=by rw [hns]; exact Cl.N5 hc
 have hnv:∀ s∈ns,Ao s=true:=fun s hs=>Cl.Qaz (c:=c) (by rw [←hns]; exact hs)
 have hat:=Lt.Tt hf (Cl.C3 hc)
 have hr0:∀ x:Tm,x.atom=true→RnS ns p x:=fun x hx=>Zw ns p hp hnd (by omega) hnv x hx
 unfold RnS at hr0
 obtain ⟨e,he⟩:∃ e,e=D9 p ns:=⟨_,rfl⟩
 rw [←he] at hat hr0 ⊢
 have hco:=SZ (c.lits.map (Lt.rn e)) (by rw [zB]; omega) (fun x hx=>PP (hat x hx))
 rw [show mkC (c.lits.map (Lt.rn e))=c.rn e from rfl] at hco
 rw [hsv] at hco
 rw [hsv,hsv]
 have her:=Lt.der (c.lits.map (Lt.rn e))
 have hfu:=Lt.dfu (c.lits.map (Lt.rn e))
 clear he
 refine Ad Ri Ec (of_decide_eq_true rfl) ?_
 simp (disch:=omega) only [KH,go_sem,Aa]
 refine go_loop (α:=Int) (fun a=>⟨slots 38 0 [(1,.arr (ns.map fun s=>[D.str s])),(2,.str p),(3,.ptr 0 0),(6,.ptr 1 0),(7,.ref 2),(8,.int .i64 a)],[.box 60 [.arr (c.lits.map Lt.d)],.box 60 [.nil],.row 122 3 (((c.lits.map (Lt.rn e)).take a.toNat).map (fun b:Lt=>b.d.map D.ot))]⟩) (fun a=>∃ k:Nat,a=k∧k≤(c.lits).length) (fun a=>(c.lits).length-(a).toNat) 0 ⟨0,rfl,zF _⟩ (by simp (disch:=omega) only [go_sem,Aa]) ?_
 rintro i ⟨k,hi,hk⟩
 have hni:i.toNat=k:=by omega
 have hni1:(i+1).toNat=k+1:=by omega
 rcases zA k (c.lits).length with hlt | hge
 ·have hg:=get_at Lt.d hlt
  rw [Lt.d_eq] at hg
  have hr:=hr0 c.lits[k].atom (Cl.Kg hc hlt)
  have hrs:c.lits[k].atom.sv=.agg [.str c.lits[k].atom.name,.arr (c.lits[k].atom.args.map Tm.d)]:=rfl
  have hrt:(c.lits[k].atom.rn e).sv=.agg [.str (c.lits[k].atom.rn e).name,.arr ((c.lits[k].atom.rn e).args.map Tm.d)]:=rfl
  rw [hrs,hrt] at hr
  have hlm:k<(c.lits.map (Lt.rn e)).length:=by rw [zB]; exact hlt
  have hs:=DX (fun b:Lt=>b.d.map D.ot) hlm
  rw [List.getElem_map] at hs
  have hs':((c.lits.map (Lt.rn e)).take k).map (fun b:Lt=>b.d.map D.ot)++[[OT.bool c.lits[k].pos,OT.str (c.lits[k].atom.rn e).name,OT.sh ((c.lits[k].atom.rn e).args.map Tm.d)]]=((c.lits.map (Lt.rn e)).take (k+1)).map (fun b:Lt=>b.d.map D.ot):=hs
  have htl:((c.lits.map (Lt.rn e)).take k).length=k:=by rw [List.length_take,zB]; omega
  simp (disch:=omega) only [go_sem,Aa,hni,hg,hr,htl,Eb]
  refine ⟨i+1,⟨k+1,by omega,hlt⟩,by omega,?_⟩
  simp (disch:=omega) only [go_sem,Aa,hni1,hs']
 ·have ht:(c.lits.map (Lt.rn e)).take k=c.lits.map (Lt.rn e):=List.take_of_length_le (by rw [zB]; exact hge)
  simp (disch:=omega) only [go_sem,Aa,hni,ht,hco,her,hfu,Dt]
def LU:SC:=(.seq (.reg [⟨some 1,none,.boxv 60 1 (.t 0)⟩,⟨some 2,none,.alloc 60 [.nil]⟩]) (.seq (.dreg [[],[],[1],[0,2,1],[3,0,2,1]] [⟨some 3,none,.load true 1 (.t 1)⟩,⟨some 4,none,.load true 1 (.t 1)⟩,⟨some 5,none,.call 196 [(.t 4)]⟩,⟨(some 6),none,(.call 221 [(.t 3),(.t 5),(.c (.str ⟨#[89]⟩))])⟩,⟨none,none,(.store 1 (.t 2) (.t 6))⟩]) .ret))
theorem TP:codeOf Tryz.prog 197=some ⟨7,LU,[(.cell 2 true 1)]⟩:=by kernel_rfl
theorem DE:modes 197=⟨[],.frz,none,false⟩:=by unfold modes; rfl
theorem Qc9 (c:Cl) (hc:c.ok=true):E 197 [c.sv] []=some ((c.rn (D9 GH c.ns)).sv,[]):=by
 have hsv:∀ d:Cl,d.sv=.agg [.arr (d.lits.map Lt.d)]:=fun d=>rfl
 have n2:=Qe c hc
 have n4:=TO c hc c.ns rfl ⟨#[89]⟩ (by decide +kernel) (Cl.yE hc)
 rw [hsv] at n2
 rw [hsv,hsv] at n4
 rw [show GH=⟨#[89]⟩ from rfl,hsv,hsv]
 refine Ad TP DE (of_decide_eq_true rfl) ?_
 simp (disch:=omega) only [LU,go_sem,Aa,n2,n4,DD,Ec]
def KI:SC:=(.seq (.reg [⟨some 1,none,.boxv 60 1 (.t 0)⟩,⟨some 2,none,.alloc 60 [.nil]⟩,⟨some 3,none,.mv (.c (.bool false))⟩]) (.seq (.reg [⟨some 6,none,.faddr 0 (.t 1)⟩,⟨some 7,none,.load false 1 (.t 6)⟩,⟨some 8,none,.call 218 [(.t 7)]⟩,⟨some 4,none,.alloc 60 [.nil]⟩,⟨none,none,(.store 1 (.t 4) (.t 8))⟩]) (.seq (.seq (.reg [⟨some 5,none,.mv (.c (.int .i64 0))⟩]) (.block 0 (.loop [0,0,1,0,1,1,0,0,0,0,0,0,0,0,0,0,0,0,0,0,0,0,0,0,0] (.seq (.seq (.reg [⟨some 9,none,.mv (.t 5)⟩,⟨some 10,none,.bin .lss false (.t 9) (.c (.int .i64 10))⟩,⟨some 11,none,.mv (.t 10)⟩,⟨(some 12),(some (11,true)),(.load true 1 (.t 4))⟩,⟨(some 13),(some (11,true)),(.call 144 [(.t 12)])⟩,⟨(some 14),(some (11,true)),(.un .not (.t 13))⟩,⟨some 15,none,.pick (.t 11) (.t 14) (.c (.bool false))⟩]) (.cond (.t 15) .skip (.exit 0))) (.seq (.block 1 (.dreg [[],[],[1],[0,2,1],[3,0,2,1]] [⟨some 18,none,.load true 1 (.t 4)⟩,⟨some 19,none,.load true 1 (.t 4)⟩,⟨some 20,none,.call 196 [(.t 19)]⟩,⟨(some 21),none,(.call 221 [(.t 18),(.t 20),(.c (.str ⟨#[88]⟩))])⟩,⟨none,none,(.store 1 (.t 4) (.t 21))⟩])) (.reg [⟨some 16,none,.mv (.t 5)⟩,⟨some 17,none,.bin .add false (.t 16) (.c (.int .i64 1))⟩,⟨some 5,none,.mv (.t 17)⟩])))))) (.seq (.dreg [[],[],[1],[0,2,1],[2,1,3,0]] [⟨some 22,none,.load true 1 (.t 4)⟩,⟨some 23,none,.load true 1 (.t 4)⟩,⟨some 24,none,.call 143 [(.t 23)]⟩,⟨none,none,(.store 1 (.t 2) (.t 22))⟩,⟨some 3,none,.mv (.t 24)⟩]) .ret))))
theorem Rj:codeOf Tryz.prog 161=some ⟨25,KI,[(.cell 2 true 1),(.tmp 3)]⟩:=by kernel_rfl
theorem Hf:modes 161=⟨[],.frz,none,false⟩:=by unfold modes; rfl
theorem QaC (c:Cl) (hc:c.ok=true):E 161 [c.sv] []=some (.tup [(nz 10 c).sv,.bool true],[]):=by
 have hl:=Cl.ok_len hc
 have hsv:∀ d:Cl,d.sv=.agg [.arr (d.lits.map Lt.d)]:=fun d=>rfl
 have h1:=SZ c.lits (by omega) (fun x hx=>PP (Cl.C3 hc x hx))
 rw [YL (Cl.V7 hc),hsv] at h1
 rw [hsv,hsv]
 refine Ad Rj Hf (of_decide_eq_true rfl) ?_
 simp (disch:=omega) only [KI,go_sem,Aa,h1,Dt]
 refine go_loop (α:=Int × Cl) (fun a=>⟨slots 25 0 [(2,.ptr 0 0),(4,.ptr 1 0),(5,.int .i64 a.1)],[.box 60 [.nil],.box 60 [.arr (a.2.lits.map Lt.d)]]⟩) (fun a=>∃ k:Nat,a.1=k∧k≤10∧a.2.ok=true∧nz (10-k) a.2=nz 10 c) (fun a=>10-a.1.toNat) (0,c) ⟨0,rfl,zF _,hc,rfl⟩ (by simp (disch:=omega) only [go_sem,Aa]) ?_
 rintro ⟨i,d⟩ ⟨k,hi,hk,hd,hR⟩
 dsimp only at hi hd hR
 have n1:=Kt d hd
 have n2:=Qe d hd
 have n4:=TO d hd d.ns rfl ⟨#[88]⟩ (by decide +kernel) (Cl.xE hd)
 have n5:=SS d ⟨by have:=Cl.ok_len hd; omega,fun y hy=>by have:=Tm.Cu (Cl.C3 hd y hy); omega⟩
 rw [hd] at n5
 rw [hsv] at n1 n2 n5
 rw [hsv,hsv] at n4
 rcases zA k 10 with hlt | hge
 ·obtain ⟨m,hm⟩:∃ m,10-k=m+1:=⟨9-k,by omega⟩
  rw [hm,nz] at hR
  cases hn:d.norm with
  | true =>
   rw [hn,cond_true] at hR
   rw [hn] at n1
   rw [←hR]
   simp (disch:=omega) only [go_sem,Aa,n1,n2,n4,n5,BW,DD,Ec,B9]
  | false =>
   rw [hn,cond_false] at hR
   rw [hn] at n1
   simp (disch:=omega) only [go_sem,Aa,n1,n2,n4,n5,BW,DD,Ec,B9]
   refine ⟨(i+1,d.rn (D9 M8 d.ns)),⟨k+1,by dsimp only; omega,by omega,Cl.Qb4 (Cl.xE hd) hd,by rw [show 10-(k+1)=m by omega]; exact hR⟩,by dsimp only; omega,?_⟩
   first | trivial | rfl
 ·obtain rfl:k=10:=by omega
  have hR:d=nz 10 c:=hR
  rw [←hR]
  simp (disch:=omega) only [go_sem,Aa,n1,n2,n4,n5,BW,DD,Ec,B9]
theorem ER {n:ByteArray} {t:Tm} (hv:Ao n=true):t.name=n→n∈t.vs:=fun e=>by rw [Tm.FY,e,hv]; simp
abbrev u5b:SC:=(.seq (.seq (.reg [⟨some 22,none,.mv (.t 8)⟩,⟨some 23,none,.len false (.t 22)⟩,⟨some 24,none,.bin .gtr false (.t 23) (.c (.int .i64 0))⟩]) (.cond (.t 24) .skip (.exit 0))) (.block 1 (.seq (.dreg [[],[],[1],[2,1],[3,2,1],[0,4,3,2,1],[5,0,4,3,2,1],[6,5,0,4,3,2,1],[6,5,0,4,3,2,1],[],[9,7,6,5,0,4,3,2,1],[8,6,5,0,4,3,2,1,10,9,7]] [⟨some 26,none,.load true 1 (.t 7)⟩,⟨some 27,none,.mv (.t 8)⟩,⟨some 28,none,.iaddr 4 (.t 27) (.c (.int .i64 0))⟩,⟨some 29,none,.faddr 0 (.t 28)⟩,⟨some 30,none,.load true 2 (.t 29)⟩,⟨some 31,none,.call 269 [(.t 26),(.t 30)]⟩,⟨some 25,none,.mv (.t 31)⟩,⟨some 32,none,.ext (.t 25) 0⟩,⟨some 33,none,.ext (.t 25) 1⟩,⟨(some 9),none,(.alloc 33 [(.str ⟨#[]⟩),.nil])⟩,⟨none,none,(.store 2 (.t 9) (.t 32))⟩,⟨some 10,none,.mv (.t 33)⟩]) (.seq (.dreg [[],[],[1],[2,1],[3,2,1],[0,4,3,2,1],[5,0,4,3,2,1],[6,5,0,4,3,2,1],[6,5,0,4,3,2,1],[],[9,7,6,5,0,4,3,2,1],[8,6,5,0,4,3,2,1,10,9,7]] [⟨some 35,none,.load true 1 (.t 7)⟩,⟨some 36,none,.mv (.t 8)⟩,⟨some 37,none,.iaddr 4 (.t 36) (.c (.int .i64 0))⟩,⟨some 38,none,.faddr 2 (.t 37)⟩,⟨some 39,none,.load true 2 (.t 38)⟩,⟨some 40,none,.call 269 [(.t 35),(.t 39)]⟩,⟨some 34,none,.mv (.t 40)⟩,⟨some 41,none,.ext (.t 34) 0⟩,⟨some 42,none,.ext (.t 34) 1⟩,⟨(some 11),none,(.alloc 33 [(.str ⟨#[]⟩),.nil])⟩,⟨none,none,(.store 2 (.t 11) (.t 41))⟩,⟨some 12,none,.mv (.t 42)⟩]) (.seq (.seq (.reg [⟨some 43,none,.mv (.t 10)⟩,⟨some 44,none,.un .not (.t 43)⟩,⟨some 45,none,.mv (.t 44)⟩,⟨(some 46),(some (45,false)),(.mv (.t 12))⟩,⟨(some 47),(some (45,false)),(.un .not (.t 46))⟩,⟨some 48,none,.pick (.t 45) (.c (.bool true)) (.t 47)⟩]) (.cond (.t 48) (.seq (.reg [⟨some 49,none,.load true 1 (.t 6)⟩,⟨none,none,(.store 1 (.t 4) (.t 49))⟩,⟨some 5,none,.mv (.c (.bool false))⟩]) .ret) .skip)) (.seq (.reg [⟨some 50,none,.mv (.t 8)⟩,⟨some 51,none,.slice false 4 (.t 50) (some (.c (.int .i64 1))) none⟩,⟨some 8,none,.mv (.t 51)⟩]) (.seq (.reg [⟨some 13,none,.mv (.c (.bool true))⟩]) (.seq (.block 2 (.seq (.reg [⟨some 78,none,.load true 2 (.t 9)⟩,⟨some 79,none,.load true 2 (.t 11)⟩,⟨some 80,none,.call 230 [(.t 78),(.t 79)]⟩,⟨some 77,none,.mv (.t 80)⟩]) (.cond (.t 77) .skip (.seq (.reg [⟨some 82,none,.faddr 0 (.t 9)⟩,⟨some 83,none,.load false 1 (.t 82)⟩,⟨some 84,none,.call 191 [(.t 83)]⟩,⟨some 85,none,.mv (.t 84)⟩,⟨(some 86),(some (85,true)),(.faddr 0 (.t 11))⟩,⟨(some 87),(some (85,true)),(.load false 1 (.t 86))⟩,⟨(some 88),(some (85,true)),(.call 191 [(.t 87)])⟩,⟨some 89,none,.pick (.t 85) (.t 88) (.c (.bool false))⟩,⟨some 90,none,.mv (.t 89)⟩,⟨(some 91),(some (90,true)),(.faddr 0 (.t 9))⟩,⟨(some 92),(some (90,true)),(.load false 1 (.t 91))⟩,⟨(some 93),(some (90,true)),(.faddr 0 (.t 11))⟩,⟨(some 94),(some (90,true)),(.load false 1 (.t 93))⟩,⟨(some 95),(some (90,true)),(.bin .lss false (.t 92) (.t 94))⟩,⟨some 96,none,.pick (.t 90) (.t 95) (.c (.bool false))⟩,⟨some 81,none,.mv (.t 96)⟩]) (.cond (.t 81) (.reg [⟨some 98,none,.load true 1 (.t 7)⟩,⟨some 99,none,.faddr 0 (.t 11)⟩,⟨some 100,none,.load false 1 (.t 99)⟩,⟨some 101,none,.load true 2 (.t 9)⟩,⟨some 102,none,.call 270 [(.t 98),(.t 100),(.t 101)]⟩,⟨some 97,none,.mv (.t 102)⟩,⟨some 103,none,.ext (.t 97) 0⟩,⟨some 104,none,.ext (.t 97) 1⟩,⟨none,none,(.store 1 (.t 7) (.t 103))⟩,⟨some 13,none,.mv (.t 104)⟩]) (.seq (.reg [⟨some 106,none,.faddr 0 (.t 9)⟩,⟨some 107,none,.load false 1 (.t 106)⟩,⟨some 108,none,.call 191 [(.t 107)]⟩,⟨some 105,none,.mv (.t 108)⟩]) (.cond (.t 105) (.reg [⟨some 110,none,.load true 1 (.t 7)⟩,⟨some 111,none,.faddr 0 (.t 9)⟩,⟨some 112,none,.load false 1 (.t 111)⟩,⟨some 113,none,.load true 2 (.t 11)⟩,⟨some 114,none,.call 270 [(.t 110),(.t 112),(.t 113)]⟩,⟨some 109,none,.mv (.t 114)⟩,⟨some 115,none,.ext (.t 109) 0⟩,⟨some 116,none,.ext (.t 109) 1⟩,⟨none,none,(.store 1 (.t 7) (.t 115))⟩,⟨some 13,none,.mv (.t 116)⟩]) (.seq (.reg [⟨some 118,none,.faddr 0 (.t 11)⟩,⟨some 119,none,.load false 1 (.t 118)⟩,⟨some 120,none,.call 191 [(.t 119)]⟩,⟨some 117,none,.mv (.t 120)⟩]) (.cond (.t 117) (.reg [⟨some 122,none,.load true 1 (.t 7)⟩,⟨some 123,none,.faddr 0 (.t 11)⟩,⟨some 124,none,.load false 1 (.t 123)⟩,⟨some 125,none,.load true 2 (.t 9)⟩,⟨some 126,none,.call 270 [(.t 122),(.t 124),(.t 125)]⟩,⟨some 121,none,.mv (.t 126)⟩,⟨some 127,none,.ext (.t 121) 0⟩,⟨some 128,none,.ext (.t 121) 1⟩,⟨none,none,(.store 1 (.t 7) (.t 127))⟩,⟨some 13,none,.mv (.t 128)⟩]) (.seq (.reg [⟨some 130,none,.faddr 0 (.t 9)⟩,⟨some 131,none,.load false 1 (.t 130)⟩,⟨some 132,none,.faddr 0 (.t 11)⟩,⟨some 133,none,.load false 1 (.t 132)⟩,⟨some 134,none,.bin .neq false (.t 131) (.t 133)⟩,⟨some 135,none,.mv (.t 134)⟩,⟨(some 136),(some (135,false)),(.faddr 1 (.t 9))⟩,⟨(some 137),(some (135,false)),(.load false 1 (.t 136))⟩,⟨(some 138),(some (135,false)),(.len false (.t 137))⟩,⟨(some 139),(some (135,false)),(.faddr 1 (.t 11))⟩,⟨(some 140),(some (135,false)),(.load false 1 (.t 139))⟩,⟨(some 141),(some (135,false)),(.len false (.t 140))⟩,⟨(some 142),(some (135,false)),(.bin .neq false (.t 138) (.t 141))⟩,⟨some 143,none,.pick (.t 135) (.c (.bool true)) (.t 142)⟩,⟨some 129,none,.mv (.t 143)⟩]) (.cond (.t 129) (.seq (.reg [⟨some 144,none,.load true 1 (.t 6)⟩,⟨none,none,(.store 1 (.t 4) (.t 144))⟩,⟨some 5,none,.mv (.c (.bool false))⟩]) .ret) (.seq (.reg [⟨(some 52),none,(.mkrow 248 4 [(.str ⟨#[]⟩),.nil,(.str ⟨#[]⟩),.nil] 0 [])⟩,⟨some 14,none,.mv (.t 52)⟩]) (.seq (.seq (.reg [⟨some 15,none,.mv (.c (.int .i64 0))⟩]) (.block 3 (.loop [0,0,0,0,1,0,1,1,1,1,0,1,0,1,1,1,0,0,0,0,0,0,0,0,0,0,0,0,0,0,0,0,0,0,0,0,0,0,0,0,0,0,0,0,0,0,0,0,0,0,0,0,0,0,0,0,0,0,0,0,0,0,0,0,0,0,0,0,0,0,0,0,0,0,0,0,0,0,0,0,0,0,0,0,0,0,0,0,0,0,0,0,0,0,0,0,0,0,0,0,0,0,0,0,0,0,0,0,0,0,0,0,0,0,0,0,0,0,0,0,0,0,0,0,0,0,0,0,0,0,0,0,0,0,0,0,0,0,0,0,0,0,0,0,0,0,0,0,0] (.seq (.seq (.reg [⟨some 53,none,.mv (.t 15)⟩,⟨some 54,none,.faddr 1 (.t 9)⟩,⟨some 55,none,.load false 1 (.t 54)⟩,⟨some 56,none,.len false (.t 55)⟩,⟨some 57,none,.bin .lss false (.t 53) (.t 56)⟩]) (.cond (.t 57) .skip (.exit 3))) (.seq (.block 4 (.dreg [[],[],[1],[],[2,1,3],[4,2,1,3],[],[6],[],[7,6,8],[9,7,6,8],[5,4,2,1,3,10,9,7,6,8],[11,5,4,2,1,3,10,9,7,6,8],[0,12,11,5,4,2,1,3,10,9,7,6,8],[13,0,12,11,5,4,2,1,3,10,9,7,6,8]] [⟨some 60,none,.mv (.t 14)⟩,⟨some 61,none,.faddr 1 (.t 9)⟩,⟨some 62,none,.load false 1 (.t 61)⟩,⟨some 63,none,.mv (.t 15)⟩,⟨some 64,none,.iaddr 2 (.t 62) (.t 63)⟩,⟨some 65,none,.load true 2 (.t 64)⟩,⟨some 66,none,.faddr 1 (.t 11)⟩,⟨some 67,none,.load false 1 (.t 66)⟩,⟨some 68,none,.mv (.t 15)⟩,⟨some 69,none,.iaddr 2 (.t 67) (.t 68)⟩,⟨some 70,none,.load true 2 (.t 69)⟩,⟨(some 71),none,(.build [(.str ⟨#[]⟩),.nil,(.str ⟨#[]⟩),.nil] [(0,(2,(.t 65))),(2,(2,(.t 70)))])⟩,⟨(some 72),none,(.mkrow 248 4 [(.str ⟨#[]⟩),.nil,(.str ⟨#[]⟩),.nil] 1 [(0,(.t 71))])⟩,⟨(some 73),none,(.append 248 4 80 [(.str ⟨#[]⟩),.nil,(.str ⟨#[]⟩),.nil] (.t 60) (.t 72))⟩,⟨some 14,none,.mv (.t 73)⟩])) (.reg [⟨some 58,none,.mv (.t 15)⟩,⟨some 59,none,.bin .add false (.t 58) (.c (.int .i64 1))⟩,⟨some 15,none,.mv (.t 59)⟩])))))) (.reg [⟨some 74,none,.mv (.t 14)⟩,⟨some 75,none,.mv (.t 8)⟩,⟨(some 76),none,(.append 248 4 80 [(.str ⟨#[]⟩),.nil,(.str ⟨#[]⟩),.nil] (.t 74) (.t 75))⟩,⟨some 8,none,.mv (.t 76)⟩])))))))))))))) (.seq (.reg [⟨some 145,none,.mv (.t 13)⟩,⟨some 146,none,.un .not (.t 145)⟩]) (.cond (.t 146) (.seq (.reg [⟨some 147,none,.load true 1 (.t 6)⟩,⟨none,none,(.store 1 (.t 4) (.t 147))⟩,⟨some 5,none,.mv (.c (.bool false))⟩]) .ret) .skip))))))))))
abbrev u5r:SC:=(.seq (.reg [⟨some 148,none,.load true 1 (.t 7)⟩,⟨none,none,(.store 1 (.t 4) (.t 148))⟩,⟨some 5,none,.mv (.c (.bool true))⟩]) .ret)
def LV:SC:=(.seq (.reg [⟨some 2,none,.boxv 33 2 (.t 0)⟩,⟨some 3,none,.boxv 33 2 (.t 1)⟩,⟨some 4,none,.alloc 142 [.nil]⟩,⟨some 5,none,.mv (.c (.bool false))⟩]) (.seq (.reg [⟨some 16,none,.build [.nil] []⟩,⟨some 6,none,.alloc 142 [.nil]⟩,⟨none,none,(.store 1 (.t 6) (.t 16))⟩]) (.seq (.reg [⟨some 17,none,.build [.nil] []⟩,⟨some 7,none,.alloc 142 [.nil]⟩,⟨none,none,(.store 1 (.t 7) (.t 17))⟩]) (.seq (.reg [⟨some 18,none,.load true 2 (.t 2)⟩,⟨some 19,none,.load true 2 (.t 3)⟩,⟨(some 20),none,(.build [(.str ⟨#[]⟩),.nil,(.str ⟨#[]⟩),.nil] [(0,(2,(.t 18))),(2,(2,(.t 19)))])⟩,⟨(some 21),none,(.mkrow 248 4 [(.str ⟨#[]⟩),.nil,(.str ⟨#[]⟩),.nil] 1 [(0,(.t 20))])⟩,⟨some 8,none,.mv (.t 21)⟩]) (.seq (.block 0 (.loop [0,0,0,0,1,0,1,1,1,0,0,0,0,0,0,0,0,0,0,0,0,0,0,0,0,0,0,0,0,0,0,0,0,0,0,0,0,0,0,0,0,0,0,0,0,0,0,0,0,0,0,0,0,0,0,0,0,0,0,0,0,0,0,0,0,0,0,0,0,0,0,0,0,0,0,0,0,0,0,0,0,0,0,0,0,0,0,0,0,0,0,0,0,0,0,0,0,0,0,0,0,0,0,0,0,0,0,0,0,0,0,0,0,0,0,0,0,0,0,0,0,0,0,0,0,0,0,0,0,0,0,0,0,0,0,0,0,0,0,0,0,0,0,0,0,0,0,0,0] u5b)) u5r)))))
theorem TQ:codeOf Tryz.prog 199=some ⟨149,LV,[(.cell 4 true 1),(.tmp 5)]⟩:=by kernel_rfl
theorem Ie:modes 199=⟨[],.frz,none,false⟩:=by unfold modes; rfl
abbrev u5H:Nat × Bool × Bool × Sb × List (Tm × Tm)→St:=fun a=>⟨slots 149 0 [(4,.ptr 0 0),(6,.ptr 1 0),(7,.ptr 2 0),(8,(bif a.2.2.1 then .ref 3 else .arr (a.2.2.2.2.map eqD)))],([.box 142 [.nil],.box 142 [.nil],.box 142 [bif a.2.1 then .nil else .arr (a.2.2.2.1.binds.map Bd.d)]]++(bif a.2.2.1 then [.row 248 4 (a.2.2.2.2.map eqO)] else []))⟩
abbrev u5R (total:Option Sb):Nat × Bool × Bool × Sb × List (Tm × Tm)→Prop:=fun a=>uInv a.2.2.2.1 a.2.2.2.2∧BL a.1 a.2.2.2.1 a.2.2.2.2=some total∧(a.2.1=true→a.2.2.2.1.binds=[])
abbrev u5K (total:Option Sb):X→St→Prop:=blk 0 (SH 0 u5r (Ug .frz 0 [(.cell 4 true 1),(.tmp 5)] (.tup [.agg [.arr ((uTo total).binds.map Bd.d)],.bool (uOk total)],[])))
abbrev LW:List Nat:=[0,0,0,0,1,0,1,1,1,0,0,0,0,0,0,0,0,0,0,0,0,0,0,0,0,0,0,0,0,0,0,0,0,0,0,0,0,0,0,0,0,0,0,0,0,0,0,0,0,0,0,0,0,0,0,0,0,0,0,0,0,0,0,0,0,0,0,0,0,0,0,0,0,0,0,0,0,0,0,0,0,0,0,0,0,0,0,0,0,0,0,0,0,0,0,0,0,0,0,0,0,0,0,0,0,0,0,0,0,0,0,0,0,0,0,0,0,0,0,0,0,0,0,0,0,0,0,0,0,0,0,0,0,0,0,0,0,0,0,0,0,0,0,0,0,0,0,0,0]
end Go.Proofs.YtepbennkcbmgoaaGreatDoor
