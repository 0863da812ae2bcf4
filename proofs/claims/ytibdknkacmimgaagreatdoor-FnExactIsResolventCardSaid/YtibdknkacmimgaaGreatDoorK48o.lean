/-
  Texts of this claim, one behind the other, each built on those ahead of it. No condition.
-/
import Derived.Test.YtibdknkacmimgaaGreatDoorK48b
import Derived.Test.YtibdknkacmimgaaGreatDoorK48c
import Derived.Test.YtibdknkacmimgaaGreatDoorK48d
import Derived.Test.YtibdknkacmimgaaGreatDoorK48e
import Derived.Test.YtibdknkacmimgaaGreatDoorK48j
import Derived.Test.YtibdknkacmimgaaGreatDoorK48k
import Derived.Test.YtibdknkacmimgaaGreatDoorK48l
import Derived.Test.YtibdknkacmimgaaGreatDoorK48m
import Derived.Test.YtibdknkacmimgaaGreatDoorK48n
import Derived.ProofKit
import Derived.Deep.Slices
import Derived.Deep.Fields
import Derived.ChangeSame
import Derived.OpenShut
import Derived.ShutString
import Derived.ChangeOld
set_option maxHeartbeats 16000000
open List renaming getElem?_eq_getElem → zA, range → zD, map_nil → zE
open Bool renaming and_eq_true → zB
open Option renaming isSome_some → zC
open Array renaming getElem?_eq_some_iff → zF
set_option maxRecDepth 100000
set_option linter.unusedSimpArgs false
set_option linter.unusedVariables false
set_option linter.unusedSectionVars false
namespace Go.Proofs.YtibdknkacmimgaaGreatDoor
open Go.RowKit
theorem Qes (a b:Tm) (ha:a.expr=true) (hb:b.expr=true) (n:Nat) (total:Option Sb) (hr:BM n ⟨[]⟩ [(a,b)]=some total):E 57 [a.sv,b.sv] []=some (.tup [(uTo total).osv,.bool (uOk total)],(uTo total).obs):=by
 refine Ae V5 JI (of_decide_eq_true rfl) ?_
 simp (disch:=omega) only [Og,go_sem,Aa]
 refine go_loop (α:=Nat × Bool × Bool × Sb × List (Tm × Tm)) u2H (u2R total) (fun a=>a.1) (n,true,true,⟨[]⟩,[(a,b)]) ⟨uInv.start ha hb,hr,fun _=>rfl⟩ (by simp (disch:=omega) only [go_sem,Aa,u2H]; rfl) ?_
 clear hr ha hb
 rintro ⟨n,sn,lo,s,l⟩ ⟨hinv,hrun,hsn⟩
 dsimp only at hinv hrun hsn
 have hs:=hinv.ok
 have hst:=ET hs
 cases n with
 | zero=>rw [BM] at hrun; cases hrun
 | succ n =>
 cases l with
 | nil =>
  rw [BM] at hrun
  obtain rfl:=Option.some.inj hrun
  have hk:uTo (some s)=s:=rfl
  rw [hk]
  cases sn with
  | true =>
   obtain rfl:s=⟨[]⟩:=by obtain ⟨bs⟩:=s; have:=hsn rfl; rw [show bs=[] from this]
   cases lo with
   | true =>
    simp (disch:=omega) only [go_sem,Aa,u2H,u2b,u2r,Sb.osv,Sb.obs,uOk,zC,zE]
    try rfl
   | false =>
    simp (disch:=omega) only [go_sem,Aa,u2H,u2b,u2r,Sb.osv,Sb.obs,uOk,zC,zE]
    try rfl
  | false =>
   cases lo with
   | true =>
    simp (disch:=omega) only [go_sem,Aa,u2H,u2b,u2r,Sb.osv,Sb.obs,uOk,zC,zE]
    try rfl
   | false =>
    simp (disch:=omega) only [go_sem,Aa,u2H,u2b,u2r,Sb.osv,Sb.obs,uOk,zC,zE]
    try rfl
 | cons p l =>
  have hcmb:(sn=true∧lo=true)∨(sn=true∧lo=false)∨(sn=false∧lo=true)∨(sn=false∧lo=false):=by cases sn <;> cases lo <;> simp
  rcases hcmb with ⟨rfl,rfl⟩ | ⟨rfl,rfl⟩ | ⟨rfl,rfl⟩ | ⟨rfl,rfl⟩
  ·exact Qfc total n s p l hinv hrun hsn
  ·exact Qfd total n s p l hinv hrun hsn
  ·exact Qfe total n s p l hinv hrun hsn
  ·exact Qff total n s p l hinv hrun hsn
def EV:SC:=(.seq (.reg [⟨some 2,none,.boxv 76 1 (.t 0)⟩,⟨some 4,none,.alloc 28 [.nil]⟩,⟨some 5,none,.mv (.c (.bool false))⟩]) (.seq (.reg [⟨some 10,none,.load true 1 (.t 2)⟩,⟨some 11,none,.mv (.t 1)⟩,⟨some 12,none,.call 92 [(.t 10),(.t 11)]⟩,⟨some 9,none,.mv (.t 12)⟩,⟨some 13,none,.ext (.t 9) 0⟩,⟨some 14,none,.ext (.t 9) 1⟩,⟨some 6,none,.alloc 28 [.nil]⟩,⟨none,none,(.store 1 (.t 6) (.t 13))⟩,⟨some 7,none,.mv (.t 14)⟩]) (.seq (.seq (.reg [⟨some 15,none,.mv (.t 7)⟩,⟨some 16,none,.un .not (.t 15)⟩]) (.cond (.t 16) (.seq (.reg [⟨some 17,none,.build [.nil] []⟩,⟨none,none,(.store 1 (.t 4) (.t 17))⟩,⟨some 5,none,.mv (.c (.bool false))⟩]) .ret) .skip)) (.seq (.reg [⟨some 18,none,.load true 1 (.t 6)⟩,⟨some 19,none,.call 93 [(.t 18)]⟩,⟨some 8,none,.alloc 28 [.nil]⟩,⟨none,none,(.store 1 (.t 8) (.t 19))⟩]) (.seq (.seq (.reg [⟨some 20,none,.load true 1 (.t 8)⟩,⟨some 21,none,.call 32 [(.t 20)]⟩,⟨some 22,none,.un .not (.t 21)⟩]) (.cond (.t 22) (.seq (.reg [⟨some 23,none,.build [.nil] []⟩,⟨none,none,(.store 1 (.t 4) (.t 23))⟩,⟨some 5,none,.mv (.c (.bool false))⟩]) .ret) .skip)) (.seq (.reg [⟨some 24,none,.load true 1 (.t 8)⟩,⟨none,none,(.store 1 (.t 4) (.t 24))⟩,⟨some 5,none,.mv (.c (.bool true))⟩]) .ret))))))
theorem GG:codeOf Tryz.prog 58=some ⟨25,EV,[(.cell 4 true 1),(.tmp 5)]⟩:=by kernel_rfl
theorem EW:modes 58=⟨[],.own [some (73,3),none],none,false⟩:=by unfold modes; rfl
theorem Z1 (s:Sb) (hs:s.ok=true) (ht:s.tame) (l:List Lt) (hl:l.length≤1048576) (hal:∀ x∈l,x.atom.atom=true):E 58 [s.sv,.arr (l.map Lt.d)] []=some (.tup [(Sy s l).osv,.bool (FF s l)],(Sy s l).obs):=by
 have h1:=SS s hs ht l hl hal
 have hcs:∀ d:Cl,Cl.osv d=.agg [.ref 0]:=fun d=>rfl
 have hob:∀ d:Cl,Cl.obs d=[.row 73 3 (d.lits.map Lt.o)]:=fun d=>rfl
 have hsv:∀ d:Cl,d.sv=.agg [.arr (d.lits.map Lt.d)]:=fun d=>rfl
 have hss:s.sv=.agg [.arr (s.binds.map Bd.d)]:=rfl
 rw [hcs,hob] at h1
 rw [hcs,hob]
 rw [hss] at h1 ⊢
 cases hok:E9 s l with
 | false =>
  have ho:FF s l=false:=by unfold FF; rw [hok]; rfl
  have hz:(Cl.mk []).lits=[]:=rfl
  rw [OQ hok,hok] at h1
  rw [Qq ho,ho]
  refine Ae GG EW (of_decide_eq_true rfl) ?_
  simp (disch:=omega) only [EV,go_sem,Aa,h1,Bx]
 | true =>
  have hc:=Zu hok
  obtain ⟨c,hcc⟩:∃ c,c=apC s l:=⟨_,rfl⟩
  rw [←hcc] at hc h1
  have h2:=XQ c hc
  have hn:=Qav 10 hc
  have h3:=JG (nz 10 c) (XB hn)
  rw [hn,Bool.true_and] at h3
  rw [hok] at h1
  rw [hcs,hob] at h2
  rw [hsv] at h2 h3
  have hio:FF s l=(nz 10 c).norm:=by unfold FF; rw [hok,Bool.true_and,hcc]
  have her:=Lt.erss c.lits
  have her2:=Lt.erss (nz 10 c).lits
  cases hm:(nz 10 c).norm with
  | false =>
   rw [hm] at h3 hio
   rw [Qq hio,hio]
   refine Ae GG EW (of_decide_eq_true rfl) ?_
   simp (disch:=omega) only [EV,go_sem,Aa,h1,h2,h3,her,her2,Lt.noss,Lt.fus,FW,B4,Bx]
  | true =>
   rw [hm] at h3 hio
   rw [Sz hio,hio,← hcc]
   refine Ae GG EW (of_decide_eq_true rfl) ?_
   simp (disch:=omega) only [EV,go_sem,Aa,h1,h2,h3,her,her2,Lt.noss,Lt.fus,FW,B4,Bx]
def Ip:SC:=(.seq (.reg [⟨some 2,none,.boxv 28 1 (.t 0)⟩,⟨some 4,none,.mv (.c (.bool false))⟩]) (.seq (.reg [⟨some 5,none,.mv (.t 1)⟩,⟨some 6,none,.faddr 0 (.t 2)⟩,⟨some 7,none,.load false 1 (.t 6)⟩,⟨some 8,none,.len false (.t 7)⟩,⟨some 9,none,.bin .sub false (.t 8) (.c (.int .i64 1))⟩,⟨some 10,none,.call 86 [(.t 5),(.c (.int .i64 0)),(.t 9)]⟩,⟨some 4,none,.mv (.t 10)⟩]) .ret))
theorem Oh:codeOf Tryz.prog 56=some ⟨11,Ip,[(.tmp 4)]⟩:=by kernel_rfl
theorem C7:modes 56=⟨[],.asis,none,false⟩:=by unfold modes; rfl
theorem Oi (c:Cl) (hc:c.ok=true) (i:Int):E 56 [c.sv,.int .i64 i] []=some (.bool (hasB c i),[]):=by
 have hl:=Cl.ok_len hc
 have hsv:c.sv=.agg [.arr (c.lits.map Lt.d)]:=rfl
 have h1:=Qbz i 0 ((c.lits.length:Int)-1)
 unfold hasB
 rw [hsv]
 refine Ae Oh C7 (of_decide_eq_true rfl) ?_
 simp (disch:=omega) only [Ip,go_sem,Aa,h1,EN]
theorem Qdn (a b:Tm) (ha:a.atom=true) (hb:b.atom=true):E 57 [a.sv,b.sv] []=some (.tup [(uTo (unR a b)).osv,.bool (uOk (unR a b))],(uTo (unR a b)).obs):=by
 obtain ⟨n,hn⟩:=Sx (Tm.C5 ha) (Tm.C5 hb)
 exact Qes a b (Tm.C5 ha) (Tm.C5 hb) n _ hn
def Dy:SC:=(.seq (.reg [⟨some 4,none,.boxv 28 1 (.t 0)⟩,⟨some 6,none,.boxv 28 1 (.t 2)⟩,⟨some 8,none,.alloc 28 [.nil]⟩,⟨some 9,none,.mv (.c (.bool false))⟩]) (.seq (.seq (.dreg [[],[],[0,1],[2,0,1],[3,2,0,1],[4,3,2,0,1],[4,3,2,0,1],[5,4,3,2,0,1,6],[7,5,4,3,2,0,1,6],[4,3,2,0,1,8,7,5,6],[9,4,3,2,0,1,8,7,5,6],[10,9,4,3,2,0,1,8,7,5,6],[11,10,9,4,3,2,0,1,8,7,5,6],[10,9,4,3,2,0,1,8,7,5,6],[12,11,10,9,4,3,2,0,1,8,7,5,6,13],[14,12,11,10,9,4,3,2,0,1,8,7,5,6,13],[15,14,12,11,10,9,4,3,2,0,1,8,7,5,6,13],[10,9,4,3,2,0,1,8,7,5,6],[17,10,9,4,3,2,0,1,8,7,5,6],[10,9,4,3,2,0,1,8,7,5,6],[18,17,10,9,4,3,2,0,1,8,7,5,6,19],[20,18,17,10,9,4,3,2,0,1,8,7,5,6,19],[21,20,18,17,10,9,4,3,2,0,1,8,7,5,6,19],[16,15,14,12,11,10,9,4,3,2,0,1,8,7,5,6,13,22,21,20,18,17,19],[10,9,4,3,2,0,1,8,7,5,6,23,16,15,14,12,11,13,22,21,20,18,17,19]] [⟨some 13,none,.load true 1 (.t 4)⟩,⟨some 14,none,.mv (.t 1)⟩,⟨some 15,none,.call 56 [(.t 13),(.t 14)]⟩,⟨some 16,none,.un .not (.t 15)⟩,⟨some 17,none,.mv (.t 16)⟩,⟨(some 18),(some (17,false)),(.load true 1 (.t 6))⟩,⟨(some 19),(some (17,false)),(.mv (.t 3))⟩,⟨(some 20),(some (17,false)),(.call 56 [(.t 18),(.t 19)])⟩,⟨(some 21),(some (17,false)),(.un .not (.t 20))⟩,⟨some 22,none,.pick (.t 17) (.c (.bool true)) (.t 21)⟩,⟨some 23,none,.mv (.t 22)⟩,⟨(some 24),(some (23,false)),(.faddr 0 (.t 4))⟩,⟨(some 25),(some (23,false)),(.load false 1 (.t 24))⟩,⟨(some 26),(some (23,false)),(.mv (.t 1))⟩,⟨(some 27),(some (23,false)),(.iaddr 3 (.t 25) (.t 26))⟩,⟨(some 28),(some (23,false)),(.faddr 0 (.t 27))⟩,⟨(some 29),(some (23,false)),(.load false 1 (.t 28))⟩,⟨(some 30),(some (23,false)),(.faddr 0 (.t 6))⟩,⟨(some 31),(some (23,false)),(.load false 1 (.t 30))⟩,⟨(some 32),(some (23,false)),(.mv (.t 3))⟩,⟨(some 33),(some (23,false)),(.iaddr 3 (.t 31) (.t 32))⟩,⟨(some 34),(some (23,false)),(.faddr 0 (.t 33))⟩,⟨(some 35),(some (23,false)),(.load false 1 (.t 34))⟩,⟨(some 36),(some (23,false)),(.bin .eql true (.t 29) (.t 35))⟩,⟨some 37,none,.pick (.t 23) (.c (.bool true)) (.t 36)⟩]) (.cond (.t 37) (.seq (.reg [⟨some 38,none,.build [.nil] []⟩,⟨none,none,(.store 1 (.t 8) (.t 38))⟩,⟨some 9,none,.mv (.c (.bool false))⟩]) .ret) .skip)) (.seq (.reg [⟨some 39,none,.load true 1 (.t 6)⟩,⟨some 40,none,.call 66 [(.t 39)]⟩,⟨some 10,none,.alloc 28 [.nil]⟩,⟨none,none,(.store 1 (.t 10) (.t 40))⟩]) (.seq (.dreg [[],[0],[],[1,0,2],[3,1,0,2],[4,3,1,0,2],[],[6],[],[7,6,8],[9,7,6,8],[10,9,7,6,8],[5,4,3,1,0,2,11,10,9,7,6,8],[12,5,4,3,1,0,2,11,10,9,7,6,8],[13,12,5,4,3,1,0,2,11,10,9,7,6,8],[13,12,5,4,3,1,0,2,11,10,9,7,6,8],[],[16,14,13,12,5,4,3,1,0,2,11,10,9,7,6,8],[15,13,12,5,4,3,1,0,2,11,10,9,7,6,8,17,16,14]] [⟨some 42,none,.faddr 0 (.t 4)⟩,⟨some 43,none,.load false 1 (.t 42)⟩,⟨some 44,none,.mv (.t 1)⟩,⟨some 45,none,.iaddr 3 (.t 43) (.t 44)⟩,⟨some 46,none,.faddr 1 (.t 45)⟩,⟨some 47,none,.load true 2 (.t 46)⟩,⟨some 48,none,.faddr 0 (.t 10)⟩,⟨some 49,none,.load false 1 (.t 48)⟩,⟨some 50,none,.mv (.t 3)⟩,⟨some 51,none,.iaddr 3 (.t 49) (.t 50)⟩,⟨some 52,none,.faddr 1 (.t 51)⟩,⟨some 53,none,.load true 2 (.t 52)⟩,⟨some 54,none,.call 57 [(.t 47),(.t 53)]⟩,⟨some 41,none,.mv (.t 54)⟩,⟨some 55,none,.ext (.t 41) 0⟩,⟨some 56,none,.ext (.t 41) 1⟩,⟨some 11,none,.alloc 76 [.nil]⟩,⟨none,none,(.store 1 (.t 11) (.t 55))⟩,⟨some 12,none,.mv (.t 56)⟩]) (.seq (.seq (.reg [⟨some 57,none,.mv (.t 12)⟩,⟨some 58,none,.un .not (.t 57)⟩]) (.cond (.t 58) (.seq (.reg [⟨some 59,none,.build [.nil] []⟩,⟨none,none,(.store 1 (.t 8) (.t 59))⟩,⟨some 9,none,.mv (.c (.bool false))⟩]) .ret) .skip)) (.seq (.dreg [[],[],[],[1,2],[],[],[4,5,3,1,2],[3,1,2,6,4,5],[7,3,1,2,6,4,5],[0,8,7,3,1,2,6,4,5],[9,0,8,7,3,1,2,6,4,5],[9,0,8,7,3,1,2,6,4,5],[10,9,0,8,7,3,1,2,6,4,5,11],[11,9,0,8,7,3,1,2,6,4,5,12,10]] [⟨some 60,none,.load true 1 (.t 11)⟩,⟨some 61,none,.load true 1 (.t 4)⟩,⟨some 62,none,.mv (.t 1)⟩,⟨some 63,none,.call 59 [(.t 61),(.t 62)]⟩,⟨some 64,none,.load true 1 (.t 10)⟩,⟨some 65,none,.mv (.t 3)⟩,⟨some 66,none,.call 59 [(.t 64),(.t 65)]⟩,⟨some 67,none,.mkrow 26 1 [.nil] 2 [(0,(.t 63)),(1,(.t 66))]⟩,⟨some 68,none,.call 67 [(.t 67)]⟩,⟨some 69,none,.call 58 [(.t 60),(.t 68)]⟩,⟨some 70,none,.ext (.t 69) 0⟩,⟨some 71,none,.ext (.t 69) 1⟩,⟨none,none,(.store 1 (.t 8) (.t 70))⟩,⟨some 9,none,.mv (.t 71)⟩]) .ret))))))
theorem Eu:codeOf Tryz.prog 40=some ⟨72,Dy,[(.cell 8 true 1),(.tmp 9)]⟩:=by kernel_rfl
theorem C3:modes 40=⟨[],.own [some (73,3),none],none,false⟩:=by unfold modes; rfl
theorem Qb3 (c:Cl) (hc:c.ok=true) (i:Int) (d:Cl) (hd:d.ok=true) (hdn:d.norm=true) (k:Int):E 40 [c.sv,.int .i64 i,d.sv,.int .i64 k] []=some (.tup [(MN c i d k).osv,.bool (Ig c i d k)],(MN c i d k).obs):=by
 have hl:=Cl.ok_len hc
 have hld:=Cl.ok_len hd
 have hcs:∀ d:Cl,Cl.osv d=.agg [.ref 0]:=fun d=>rfl
 have hob:∀ d:Cl,Cl.obs d=[.row 73 3 (d.lits.map Lt.o)]:=fun d=>rfl
 have hsv:∀ d:Cl,d.sv=.agg [.arr (d.lits.map Lt.d)]:=fun d=>rfl
 have h1:=Oi c hc i
 have h2:=Oi d hd k
 rw [hcs,hob]
 rw [hsv] at h1 h2
 rw [hsv,hsv]
 cases hi:hasB c i with
 | false =>
  obtain ⟨e1,e2⟩:=Lg (LI (show JF c i d k=false by unfold JF; rw [hi]; rfl))
  rw [hi] at h1
  rw [e1,e2]
  refine Ae Eu C3 (of_decide_eq_true rfl) ?_
  simp (disch:=omega) only [Dy,go_sem,Aa,h1,h2,C7]
 | true =>
 rw [hi] at h1
 cases hk:hasB d k with
 | false =>
  obtain ⟨e1,e2⟩:=Lg (LI (show JF c i d k=false by unfold JF; rw [hk,Bool.false_and,Bool.and_false]))
  rw [hk] at h2
  rw [e1,e2]
  refine Ae Eu C3 (of_decide_eq_true rfl) ?_
  simp (disch:=omega) only [Dy,go_sem,Aa,h1,h2,C7]
 | true =>
 rw [hk] at h2
 obtain ⟨p,rfl,hp⟩:=Qr hi
 obtain ⟨q,rfl,hq⟩:=Qr hk
 have hgp:=get_at Lt.d hp
 have hgq:=get_at Lt.d hq
 rw [Lt.d_eq] at hgp hgq
 have tp:=Int.toNat_natCast p
 have tq:=Int.toNat_natCast q
 have ap:=Cl.Dc hc _ (List.getElem_mem hp)
 have lp:=JE hp
 have lq:=JE hq
 cases hpp:c.lits[p].pos == d.lits[q].pos with
 | true =>
  obtain ⟨e1,e2⟩:=Lg (LI (show JF c p d q=false by unfold JF; rw [lp,lq,hpp]; simp))
  rw [e1,e2]
  refine Ae Eu C3 (of_decide_eq_true rfl) ?_
  simp (disch:=omega) only [Dy,go_sem,Aa,h1,h2,C7,hgp,hgq,tp,tq,hpp]
 | false =>
  have hT:=XD (show JF c p d q=true by unfold JF; rw [hi,hk,lp,lq,hpp]; rfl)
  have h0:=Qer d hd hdn
  have ho:=Cl.Qa4 hd
  have hal:=Cl.Vs hd hdn
  obtain ⟨e,hee⟩:∃ e,e=d.ap:=⟨_,rfl⟩
  rw [show d.rn (Dv Gt d.ns)=e from hee.symm] at h0
  have hrl:S1 c p d q=c.lits.eraseIdx p++e.lits.eraseIdx q:=by unfold S1; rw [tp,tq,hee]
  have hla:=S2 hc hd p q
  have hll:=XE hc hd p q
  rw [hrl] at hla hll
  rw [←hee] at ho hal hT
  have hqe:q<e.lits.length:=by omega
  have le:=JE hqe
  have hge:=get_at Lt.d hqe
  rw [Lt.d_eq] at hge
  have aq:=Cl.Dc ho _ (List.getElem_mem hqe)
  rw [lp,le] at hT
  have h3:=Qdn _ _ ap aq
  have hsp:c.lits[p].atom.sv=.agg [.str c.lits[p].atom.name,.arr (c.lits[p].atom.args.map Tm.d)]:=rfl
  have hsq:e.lits[q].atom.sv=.agg [.str e.lits[q].atom.name,.arr (e.lits[q].atom.args.map Tm.d)]:=rfl
  rw [hsp,hsq] at h3
  rw [hsv,hsv] at h0
  cases hu:unR c.lits[p].atom e.lits[q].atom with
  | none =>
   rw [hu] at hT h3
   have hus:uTo none=⟨[]⟩:=rfl
   have huo:uOk none=false:=rfl
   have hso:(Sb.mk []).osv=.agg [.ref 0]:=rfl
   have hsb:(Sb.mk []).obs=[.row 139 3 []]:=rfl
   rw [hus,huo,hso,hsb] at h3
   obtain ⟨e1,e2⟩:=Lg hT
   rw [e1,e2]
   refine Ae Eu C3 (of_decide_eq_true rfl) ?_
   simp (disch:=omega) only [Dy,go_sem,Aa,h1,h2,C7,hgp,hgq,tp,tq,hpp,h0,hge,h3,JH,JI]
  | some s =>
   have hs:=QcW (Tm.C5 ap) (Tm.C5 aq) hu
   rw [hu] at hT h3
   obtain ⟨e1,e2⟩:=XC hT
   rw [hrl] at e1 e2
   rw [e1,e2]
   have h4:=Uq c (by omega) p (by omega) (by rw [tp]; exact hp)
   have h6:=Uq e (by omega) q (by omega) (by rw [tq]; exact hqe)
   have h7:=Qdm [c.lits.eraseIdx p,e.lits.eraseIdx q] (by simp) (by simp at hll ⊢; omega)
   have hfl:[c.lits.eraseIdx p,e.lits.eraseIdx q].flatten=c.lits.eraseIdx p++e.lits.eraseIdx q:=by simp
   rw [hfl] at h7
   simp only [List.map_cons,zE] at h7
   have h5:=Z1 s hs (ET hs) (c.lits.eraseIdx p++e.lits.eraseIdx q) (by omega) hla
   have hus:uTo (some s)=s:=rfl
   have huo:uOk (some s)=true:=rfl
   have hso:s.osv=.agg [.ref 0]:=rfl
   have hsb:s.obs=[.row 139 3 (s.binds.map Bd.o)]:=rfl
   have hss:s.sv=.agg [.arr (s.binds.map Bd.d)]:=rfl
   rw [hus,huo,hso,hsb] at h3
   rw [hsv,tp] at h4
   rw [hsv,tq] at h6
   rw [hcs,hob,hss] at h5
   cases hno:OT.C9 (Lt.ds (c.lits.eraseIdx p++e.lits.eraseIdx q))
   all_goals
    refine Ae Eu C3 (of_decide_eq_true rfl) ?_
    simp (disch:=omega) only [Dy,go_sem,Aa,h1,h2,C7,hgp,hgq,tp,tq,hpp,h0,hge,h3,h4,h6,h7,h5,hno,Bd.erss,Bd.fus,Bd.noss,Lt.Qfw,Lt.Qfx,JH,JI,Lm,EW,Cg]
def DZ:SC:=(.seq (.reg [⟨some 2,none,.boxv 28 1 (.t 0)⟩,⟨some 3,none,.boxv 28 1 (.t 1)⟩,⟨some 4,none,.mv (.c .nil)⟩,⟨some 5,none,.mv (.c (.bool false))⟩]) (.seq (.seq (.reg [⟨some 11,none,.load true 1 (.t 2)⟩,⟨some 12,none,.call 32 [(.t 11)]⟩,⟨some 13,none,.un .not (.t 12)⟩,⟨some 14,none,.mv (.t 13)⟩,⟨(some 15),(some (14,false)),(.load true 1 (.t 3))⟩,⟨(some 16),(some (14,false)),(.call 32 [(.t 15)])⟩,⟨(some 17),(some (14,false)),(.un .not (.t 16))⟩,⟨some 18,none,.pick (.t 14) (.c (.bool true)) (.t 17)⟩]) (.cond (.t 18) (.seq (.reg [⟨some 4,none,.mv (.c .nil)⟩,⟨some 5,none,.mv (.c (.bool false))⟩]) .ret) .skip)) (.seq (.reg [⟨some 19,none,.mkrow 28 1 [.nil] 0 []⟩,⟨some 6,none,.mv (.t 19)⟩]) (.seq (.seq (.reg [⟨some 20,none,.faddr 0 (.t 2)⟩,⟨some 21,none,.load false 1 (.t 20)⟩,⟨some 22,none,.len false (.t 21)⟩,⟨some 23,none,.mv (.c (.int .i64 0))⟩]) (.block 0 (.loop [0,0,1,1,0,0,1,0,0,0,0,0,0,0,0,0,0,0,0,0,0,0,1,1,0,0,0,0,0,0,0,0,0,0,0,0,0,0,0,0,0,0,0,0,0,0,0,0,0,0,0,0,0,0] (.seq (.reg [⟨some 24,none,.bin .lss false (.t 23) (.t 22)⟩]) (.seq (.cond (.t 24) .skip (.exit 0)) (.seq (.block 1 (.seq (.reg [⟨some 25,none,.mv (.t 23)⟩,⟨some 7,none,.mv (.t 25)⟩]) (.seq (.reg [⟨some 26,none,.faddr 0 (.t 3)⟩,⟨some 27,none,.load false 1 (.t 26)⟩,⟨some 28,none,.len false (.t 27)⟩,⟨some 29,none,.mv (.c (.int .i64 0))⟩]) (.block 2 (.loop [0,0,1,1,0,0,1,1,0,0,0,0,0,0,0,0,0,0,0,0,0,0,1,1,0,0,0,0,1,1,0,0,0,0,0,0,0,0,0,0,0,0,0,0,0,0,0,0,0,0,0,0,0,0] (.seq (.reg [⟨some 30,none,.bin .lss false (.t 29) (.t 28)⟩]) (.seq (.cond (.t 30) .skip (.exit 2)) (.seq (.block 3 (.seq (.reg [⟨some 31,none,.mv (.t 29)⟩,⟨some 8,none,.mv (.t 31)⟩]) (.seq (.reg [⟨some 33,none,.load true 1 (.t 2)⟩,⟨some 34,none,.mv (.t 7)⟩,⟨some 35,none,.load true 1 (.t 3)⟩,⟨some 36,none,.mv (.t 8)⟩,⟨some 37,none,.call 40 [(.t 33),(.t 34),(.t 35),(.t 36)]⟩,⟨some 32,none,.mv (.t 37)⟩,⟨some 38,none,.ext (.t 32) 0⟩,⟨some 39,none,.ext (.t 32) 1⟩,⟨some 9,none,.alloc 28 [.nil]⟩,⟨none,none,(.store 1 (.t 9) (.t 38))⟩,⟨some 10,none,.mv (.t 39)⟩]) (.seq (.reg [⟨some 40,none,.mv (.t 10)⟩,⟨some 41,none,.mv (.t 40)⟩,⟨(some 42),(some (41,true)),(.mv (.t 6))⟩,⟨(some 43),(some (41,true)),(.load true 1 (.t 9))⟩,⟨(some 44),(some (41,true)),(.call 44 [(.t 42),(.t 43)])⟩,⟨(some 45),(some (41,true)),(.un .not (.t 44))⟩,⟨some 46,none,.pick (.t 41) (.t 45) (.c (.bool false))⟩]) (.cond (.t 46) (.reg [⟨some 47,none,.mv (.t 6)⟩,⟨some 48,none,.load true 1 (.t 9)⟩,⟨some 49,none,.mkrow 28 1 [.nil] 1 [(0,(.t 48))]⟩,⟨some 50,none,.append 28 1 24 [.nil] (.t 47) (.t 49)⟩,⟨some 6,none,.mv (.t 50)⟩]) .skip))))) (.reg [⟨some 51,none,.bin .add false (.t 29) (.c (.int .i64 1))⟩,⟨some 29,none,.mv (.t 51)⟩]))))))))) (.reg [⟨some 52,none,.bin .add false (.t 23) (.c (.int .i64 1))⟩,⟨some 23,none,.mv (.t 52)⟩]))))))) (.seq (.reg [⟨some 53,none,.mv (.t 6)⟩,⟨some 4,none,.mv (.t 53)⟩,⟨some 5,none,.mv (.c (.bool true))⟩]) .ret)))))
theorem F6:codeOf Tryz.prog 43=some ⟨54,DZ,[(.tmp 4),(.tmp 5)]⟩:=by kernel_rfl
theorem C8:modes 43=⟨[],.own [some (28,1),none],none,false⟩:=by unfold modes; rfl
theorem Pi (c d:Cl) (hct:c.tame) (hdt:d.tame):E 43 [c.sv,d.sv] []=some (.tup [.ref 0,.bool ((c.ok&&c.norm)&&(d.ok&&d.norm))],[.row 28 1 ((Qb0 c d).map Cl.o)]):=by
 have hsv:∀ d:Cl,d.sv=.agg [.arr (d.lits.map Lt.d)]:=fun d=>rfl
 have hcs:∀ d:Cl,Cl.osv d=.agg [.ref 0]:=fun d=>rfl
 have hob:∀ d:Cl,Cl.obs d=[.row 73 3 (d.lits.map Lt.o)]:=fun d=>rfl
 have hrd:=JG c hct
 have hrd2:=JG d hdt
 rw [hsv] at hrd hrd2
 rw [hsv,hsv]
 cases hrn:c.ok&&c.norm with
 | false =>
  rw [hrn] at hrd
  rw [Qe3 (by rw [hrn]; rfl)]
  refine Ae F6 C8 (of_decide_eq_true rfl) ?_
  simp (disch:=omega) only [DZ,go_sem,Aa,hrd,hrd2,B4]
 | true =>
 cases hrm:d.ok&&d.norm with
 | false =>
  rw [hrn] at hrd
  rw [hrm] at hrd2
  rw [Qe3 (by rw [hrn,hrm]; rfl)]
  refine Ae F6 C8 (of_decide_eq_true rfl) ?_
  simp (disch:=omega) only [DZ,go_sem,Aa,hrd,hrd2,B4]
 | true =>
 rw [hrn] at hrd
 rw [hrm] at hrd2
 rw [Qdg (by rw [hrn,hrm]; rfl)]
 rw [zB] at hrn hrm
 have hc:=hrn.1
 have hd:=hrm.1
 have hcl:=Cl.ok_len hc
 have hdl:=Cl.ok_len hd
 have hr0:=fun (i k:Int)=>Qb3 c hc i d hd hrm.2 k
 simp only [hsv,hcs,hob] at hr0
 have hz0:EC [] (CJ (GP c d) 0)=[]:=rfl
 have hzm:([]:List Cl).map Cl.o=[]:=rfl
 refine Ae F6 C8 (of_decide_eq_true rfl) ?_
 simp (disch:=omega) only [DZ,go_sem,Aa,hrd,hrd2,B4]
 refine go_loop (α:=Int) (fun a=>⟨slots 54 0 [(2,.ptr 0 0),(3,.ptr 1 0),(6,.ref 2),(22,.int .i64 c.lits.length),(23,.int .i64 a)],[.box 28 [.arr (c.lits.map Lt.d)],.box 28 [.arr (d.lits.map Lt.d)],.row 28 1 ((EC [] (CJ (GP c d) a.toNat)).map Cl.o)]⟩) (fun a=>∃ k:Nat,a=k∧k≤(c.lits).length) (fun a=>(c.lits).length-(a).toNat) 0 ⟨0,rfl,Nat.zero_le _⟩ (by simp (disch:=omega) only [go_sem,Aa,hz0,hzm]) ?_
 rintro i ⟨k,hi,hk⟩
 have hni:i.toNat=k:=by omega
 have hni1:(i+1).toNat=k+1:=by omega
 rcases Nat.lt_or_ge k (c.lits).length with hlt | hge
 ·have hio:=hi
  have hni0:=hni
  have hni10:=hni1
  have hlt0:=hlt
  have hz1:Gz c d k 0=[]:=rfl
  have hz2:CJ (GP c d) (k+1)=CJ (GP c d) k++Gz c d k d.lits.length:=rfl
  generalize i=io at *
  generalize k=ko at *
  simp (disch:=omega) only [go_sem,Aa,hni0]
  refine go_loop (α:=Int) (fun a=>⟨slots 54 0 [(2,.ptr 0 0),(3,.ptr 1 0),(6,.ref 2),(7,.int .i64 io),(22,.int .i64 c.lits.length),(23,.int .i64 io),(28,.int .i64 d.lits.length),(29,.int .i64 a)],[.box 28 [.arr (c.lits.map Lt.d)],.box 28 [.arr (d.lits.map Lt.d)],.row 28 1 ((EC [] (CJ (GP c d) ko++Gz c d ko a.toNat)).map Cl.o)]⟩) (fun a=>∃ k:Nat,a=k∧k≤(d.lits).length) (fun a=>(d.lits).length-(a).toNat) 0 ⟨0,rfl,Nat.zero_le _⟩ (by simp (disch:=omega) only [go_sem,Aa,hz1,List.append_nil,hni0]) ?_
  rintro i ⟨k,hi,hk⟩
  have hni:i.toNat=k:=by omega
  have hni1:(i+1).toNat=k+1:=by omega
  rcases Nat.lt_or_ge k (d.lits).length with hlt | hge
  ·have hr:=hr0 io i
   have hlen:=Oc hc hd ko k (by omega) (by omega)
   have hul:=Vy hlen
   have hall:∀ x∈CJ (GP c d) ko++Gz c d ko k,x.ok=true:=fun x hx=>by
    rcases List.mem_append.1 hx with h | h
    ·exact Oa h
    ·exact XM h
   have hsm:∀ x∈EC [] (CJ (GP c d) ko++Gz c d ko k),x.smallC:=fun x hx=>HF (MP hall x hx)
   cases ho:Ig c io d i with
   | false =>
    rw [ho] at hr
    have hpn:Gz c d ko (k+1)=Gz c d ko k:=XL (by rw [←hio,← hi]; exact Vx ho)
    obtain ⟨r,hrr⟩:∃ r,r=MN c io d i:=⟨_,rfl⟩
    rw [←hrr] at hr
    simp (disch:=omega) only [go_sem,Aa,hni0,hni,hr,C3]
    refine ⟨i+1,⟨k+1,by omega,hlt⟩,by omega,?_⟩
    simp (disch:=omega) only [go_sem,Aa,hni1,hpn]
   | true =>
    rw [ho] at hr
    have hrk:=Qa8 ho
    have hpn:Gz c d ko (k+1)=Gz c d ko k++[MN c io d i]:=Uo (by rw [←hio,← hi]; exact S5 ho)
    obtain ⟨r,hrr⟩:∃ r,r=MN c io d i:=⟨_,rfl⟩
    rw [←hrr] at hr hrk hpn
    obtain ⟨acc,hacc⟩:∃ acc,acc=EC [] (CJ (GP c d) ko++Gz c d ko k):=⟨_,rfl⟩
    rw [←hacc] at hul hsm
    have hstep:EC [] (CJ (GP c d) ko++Gz c d ko (k+1))=Kj acc r:=by rw [hpn,← List.append_assoc,Qb1,← hacc]
    have hh:=PF r (HF hrk) acc (by omega) hsm
    rw [hsv] at hh
    have era:=Cl.erss acc
    have err:=Lt.erss r.lits
    cases hm:dec (r∈acc) with
    | true =>
     rw [hm] at hh
     rw [Qdi hm] at hstep
     simp (disch:=omega) only [go_sem,Aa,hni0,hni,hr,hh,← hacc,era,err,Cl.noss,Lt.noss,Cl.fus,Lt.fus,hul,C3,E5]
     refine ⟨i+1,⟨k+1,by omega,hlt⟩,by omega,?_⟩
     simp (disch:=omega) only [go_sem,Aa,hni1,hstep]
    | false =>
     rw [hm] at hh
     rw [Qep hm] at hstep
     have hap:acc.map Cl.o++[[OT.ow (r.lits.map Lt.o)]]=(acc++[r]).map Cl.o:=by rw [List.map_append]; rfl
     simp (disch:=omega) only [go_sem,Aa,hni0,hni,hr,hh,← hacc,era,err,Cl.noss,Lt.noss,Cl.fus,Lt.fus,hul,hap,C3,E5]
     refine ⟨i+1,⟨k+1,by omega,hlt⟩,by omega,?_⟩
     simp (disch:=omega) only [go_sem,Aa,hni1,hstep]
  ·have hke:k=d.lits.length:=by omega
   simp (disch:=omega) only [go_sem,Aa,hni,hke,hz2]
   refine ⟨io+1,⟨ko+1,by omega,hlt0⟩,by omega,?_⟩
   simp (disch:=omega) only [go_sem,Aa,hni10,hke,hz2]
 ·have hke:k=c.lits.length:=by omega
  have hal:CJ (GP c d) c.lits.length=LN c d:=rfl
  simp (disch:=omega) only [go_sem,Aa,hni,hke,hal]
def DC:SC:=(.seq (.reg [⟨some 3,none,.boxv 28 1 (.t 0)⟩,⟨some 4,none,.boxv 28 1 (.t 1)⟩,⟨some 5,none,.boxv 28 1 (.t 2)⟩,⟨some 6,none,.mv (.c (.bool false))⟩,⟨some 7,none,.mv (.c (.bool false))⟩]) (.seq (.reg [⟨some 11,none,.load true 1 (.t 4)⟩,⟨some 12,none,.load true 1 (.t 5)⟩,⟨some 13,none,.call 43 [(.t 11),(.t 12)]⟩,⟨some 10,none,.mv (.t 13)⟩,⟨some 14,none,.ext (.t 10) 0⟩,⟨some 15,none,.ext (.t 10) 1⟩,⟨some 8,none,.mv (.t 14)⟩,⟨some 9,none,.mv (.t 15)⟩]) (.seq (.seq (.reg [⟨some 16,none,.mv (.t 9)⟩,⟨some 17,none,.un .not (.t 16)⟩,⟨some 18,none,.mv (.t 17)⟩,⟨(some 19),(some (18,false)),(.load true 1 (.t 3))⟩,⟨(some 20),(some (18,false)),(.call 32 [(.t 19)])⟩,⟨(some 21),(some (18,false)),(.un .not (.t 20))⟩,⟨some 22,none,.pick (.t 18) (.c (.bool true)) (.t 21)⟩]) (.cond (.t 22) (.seq (.reg [⟨some 6,none,.mv (.c (.bool false))⟩,⟨some 7,none,.mv (.c (.bool false))⟩]) .ret) .skip)) (.seq (.reg [⟨some 23,none,.mv (.t 8)⟩,⟨some 24,none,.load true 1 (.t 3)⟩,⟨some 25,none,.call 44 [(.t 23),(.t 24)]⟩,⟨some 6,none,.mv (.t 25)⟩,⟨some 7,none,.mv (.c (.bool true))⟩]) .ret))))
theorem Ff:codeOf Tryz.prog 21=some ⟨26,DC,[(.tmp 6),(.tmp 7)]⟩:=by kernel_rfl
theorem BI:modes 21=⟨[],.asis,none,false⟩:=by unfold modes; rfl
theorem Oj (r c d:Cl) (hr:r.tame) (hc:c.tame) (hd:d.tame):E 21 [r.sv,c.sv,d.sv] []=some (.tup [.bool (Zy r c d),.bool (Jl r c d)],[]):=by
 have hsv:∀ d:Cl,d.sv=.agg [.arr (d.lits.map Lt.d)]:=fun d=>rfl
 have h1:=JG r hr
 have ha:=Pi c d hc hd
 rw [hsv] at h1
 rw [hsv,hsv] at ha
 rw [hsv,hsv,hsv]
 obtain ⟨us,hus⟩:∃ us,us=Qb0 c d:=⟨_,rfl⟩
 rw [←hus] at ha
 have eru:=Cl.erss us
 cases b2:(c.ok&&c.norm)&&(d.ok&&d.norm) with
 | false =>
  have ho:Jl r c d=false:=by unfold Jl; rw [Bool.and_assoc,b2,Bool.and_false]
  rw [XO ho,ho]
  rw [b2] at ha
  refine Ae Ff BI (of_decide_eq_true rfl) ?_
  simp (disch:=omega) only [DC,go_sem,Aa,h1,ha,C8,B4]
 | true =>
 rw [b2] at ha
 cases b1:r.ok&&r.norm with
 | false =>
  have ho:Jl r c d=false:=by unfold Jl; rw [b1]; rfl
  rw [XO ho,ho]
  rw [b1] at h1
  refine Ae Ff BI (of_decide_eq_true rfl) ?_
  simp (disch:=omega) only [DC,go_sem,Aa,h1,ha,C8,B4]
 | true =>
 have ho:Jl r c d=true:=by unfold Jl; rw [Bool.and_assoc,b2,b1]; rfl
 rw [Qdh ho,ho]
 rw [b1] at h1
 rw [Qdg b2] at hus
 rw [←hus]
 rw [zB] at b1
 rw [zB,zB,zB] at b2
 have hlen:=Vy (XN b2.1.1 b2.2.1)
 have hsm:∀ x∈EC [] (LN c d),x.smallC:=fun x hx=>HF (MP (fun y hy=>Oa hy) x hx)
 rw [←hus] at hlen hsm
 have hh:=PF r (HF b1.1) us (by omega) hsm
 rw [hsv] at hh
 refine Ae Ff BI (of_decide_eq_true rfl) ?_
 simp (disch:=omega) only [DC,go_sem,Aa,h1,ha,hh,eru,Cl.noss,Cl.fus,C8,B4,E5]
def B6:SC:=(.seq (.reg [⟨some 3,none,.boxv 24 1 (.t 0)⟩,⟨some 4,none,.boxv 24 1 (.t 1)⟩,⟨some 5,none,.boxv 24 1 (.t 2)⟩,⟨some 6,none,.mv (.c (.bool false))⟩]) (.seq (.reg [⟨some 7,none,.mv (.c (.int .i64 1048576))⟩]) (.seq (.reg [⟨some 15,none,.load true 1 (.t 3)⟩,⟨some 16,none,.mv (.t 7)⟩,⟨some 17,none,.call 8 [(.t 15),(.t 16)]⟩,⟨some 7,none,.mv (.t 17)⟩]) (.seq (.seq (.reg [⟨some 18,none,.mv (.t 7)⟩,⟨some 19,none,.bin .lss false (.t 18) (.c (.int .i64 0))⟩]) (.cond (.t 19) (.seq (.reg [⟨some 6,none,.mv (.c (.bool true))⟩]) .ret) .skip)) (.seq (.reg [⟨some 20,none,.load true 1 (.t 4)⟩,⟨some 21,none,.mv (.t 7)⟩,⟨some 22,none,.call 8 [(.t 20),(.t 21)]⟩,⟨some 7,none,.mv (.t 22)⟩]) (.seq (.seq (.reg [⟨some 23,none,.mv (.t 7)⟩,⟨some 24,none,.bin .lss false (.t 23) (.c (.int .i64 0))⟩]) (.cond (.t 24) (.seq (.reg [⟨some 6,none,.mv (.c (.bool true))⟩]) .ret) .skip)) (.seq (.reg [⟨some 25,none,.load true 1 (.t 5)⟩,⟨some 26,none,.mv (.t 7)⟩,⟨some 27,none,.call 8 [(.t 25),(.t 26)]⟩,⟨some 7,none,.mv (.t 27)⟩]) (.seq (.seq (.reg [⟨some 28,none,.mv (.t 7)⟩,⟨some 29,none,.bin .lss false (.t 28) (.c (.int .i64 0))⟩]) (.cond (.t 29) (.seq (.reg [⟨some 6,none,.mv (.c (.bool true))⟩]) .ret) .skip)) (.seq (.dreg [[],[0],[],[2,1,0],[],[4,3,2,1,0],[1,0,3,2,5,4],[6,1,0,3,2,5,4],[7,6,1,0,3,2,5,4],[7,6,1,0,3,2,5,4],[8,7,6,1,0,3,2,5,4],[9,7,6,1,0,3,2,5,4,10,8]] [⟨some 31,none,.load true 1 (.t 3)⟩,⟨some 32,none,.call 10 [(.t 31)]⟩,⟨some 33,none,.load true 1 (.t 4)⟩,⟨some 34,none,.call 10 [(.t 33)]⟩,⟨some 35,none,.load true 1 (.t 5)⟩,⟨some 36,none,.call 10 [(.t 35)]⟩,⟨some 37,none,.call 20 [(.t 32),(.t 34),(.t 36)]⟩,⟨some 30,none,.mv (.t 37)⟩,⟨some 38,none,.ext (.t 30) 0⟩,⟨some 39,none,.ext (.t 30) 1⟩,⟨some 8,none,.mv (.t 38)⟩,⟨some 9,none,.mv (.t 39)⟩]) (.seq (.reg [⟨some 40,none,.load true 1 (.t 3)⟩,⟨some 41,none,.call 10 [(.t 40)]⟩,⟨some 10,none,.alloc 28 [.nil]⟩,⟨none,none,(.store 1 (.t 10) (.t 41))⟩]) (.seq (.reg [⟨some 42,none,.load true 1 (.t 4)⟩,⟨some 43,none,.call 10 [(.t 42)]⟩,⟨some 11,none,.alloc 28 [.nil]⟩,⟨none,none,(.store 1 (.t 11) (.t 43))⟩]) (.seq (.reg [⟨some 44,none,.load true 1 (.t 5)⟩,⟨some 45,none,.call 10 [(.t 44)]⟩,⟨some 12,none,.alloc 28 [.nil]⟩,⟨none,none,(.store 1 (.t 12) (.t 45))⟩]) (.seq (.reg [⟨some 47,none,.load true 1 (.t 10)⟩,⟨some 48,none,.load true 1 (.t 11)⟩,⟨some 49,none,.load true 1 (.t 12)⟩,⟨some 50,none,.call 21 [(.t 47),(.t 48),(.t 49)]⟩,⟨some 46,none,.mv (.t 50)⟩,⟨some 51,none,.ext (.t 46) 0⟩,⟨some 52,none,.ext (.t 46) 1⟩,⟨some 13,none,.mv (.t 51)⟩,⟨some 14,none,.mv (.t 52)⟩]) (.seq (.seq (.reg [⟨some 53,none,.mv (.t 13)⟩,⟨some 54,none,.mv (.t 8)⟩,⟨some 55,none,.bin .neq true (.t 53) (.t 54)⟩,⟨some 56,none,.mv (.t 55)⟩,⟨(some 57),(some (56,false)),(.mv (.t 14))⟩,⟨(some 58),(some (56,false)),(.mv (.t 9))⟩,⟨(some 59),(some (56,false)),(.bin .neq true (.t 57) (.t 58))⟩,⟨some 60,none,.pick (.t 56) (.c (.bool true)) (.t 59)⟩]) (.cond (.t 60) (.seq (.reg [⟨some 6,none,.mv (.c (.bool false))⟩]) .ret) .skip)) (.seq (.seq (.dreg [[],[],[1],[0,2,1],[3,0,2,1]] [⟨some 61,none,.load true 1 (.t 10)⟩,⟨some 62,none,.load true 1 (.t 3)⟩,⟨some 63,none,.call 10 [(.t 62)]⟩,⟨some 64,none,.call 12 [(.t 61),(.t 63)]⟩,⟨some 65,none,.un .not (.t 64)⟩]) (.cond (.t 65) (.seq (.reg [⟨some 6,none,.mv (.c (.bool false))⟩]) .ret) .skip)) (.seq (.seq (.dreg [[],[],[1],[0,2,1],[3,0,2,1]] [⟨some 66,none,.load true 1 (.t 11)⟩,⟨some 67,none,.load true 1 (.t 4)⟩,⟨some 68,none,.call 10 [(.t 67)]⟩,⟨some 69,none,.call 12 [(.t 66),(.t 68)]⟩,⟨some 70,none,.un .not (.t 69)⟩]) (.cond (.t 70) (.seq (.reg [⟨some 6,none,.mv (.c (.bool false))⟩]) .ret) .skip)) (.seq (.seq (.dreg [[],[],[1],[0,2,1],[3,0,2,1]] [⟨some 71,none,.load true 1 (.t 12)⟩,⟨some 72,none,.load true 1 (.t 5)⟩,⟨some 73,none,.call 10 [(.t 72)]⟩,⟨some 74,none,.call 12 [(.t 71),(.t 73)]⟩,⟨some 75,none,.un .not (.t 74)⟩]) (.cond (.t 75) (.seq (.reg [⟨some 6,none,.mv (.c (.bool false))⟩]) .ret) .skip)) (.seq (.reg [⟨some 6,none,.mv (.c (.bool true))⟩]) .ret))))))))))))))))))
theorem Cj:codeOf Tryz.prog 5=some ⟨76,B6,[(.tmp 6)]⟩:=by kernel_rfl
theorem Ck:modes 5=⟨[],.asis,none,false⟩:=by unfold modes; rfl
theorem Qet (x:Cl) (y:Cl) (z:Cl) (hfx:D.fits x.d) (hfy:D.fits y.d) (hfz:D.fits z.d):E 5 [x.sv,y.sv,z.sv] []=some (.bool true,[]):=by
 have s0:=MJ x hfx 1048576 (by omega) (by omega)
 have q0:=B8 1048576 x.bulk
 obtain ⟨l0,hl0⟩:∃ l,l=szR 1048576 (x.bulk:Nat):=⟨_,rfl⟩
 rw [←hl0] at s0 q0
 rcases Int.lt_or_le l0 0 with h0 | h0_0
 ·refine Ae Cj Ck (of_decide_eq_true rfl) ?_
  simp (disch:=omega) only [B6,go_sem,Aa,s0,Cd]
 have s1:=MJ y hfy l0 (by omega) (by omega)
 have q1:=B8 l0 y.bulk
 obtain ⟨l1,hl1⟩:∃ l,l=szR l0 (y.bulk:Nat):=⟨_,rfl⟩
 rw [←hl1] at s1 q1
 rcases Int.lt_or_le l1 0 with h0 | h0_1
 ·refine Ae Cj Ck (of_decide_eq_true rfl) ?_
  simp (disch:=omega) only [B6,go_sem,Aa,s0,s1,Cd]
 have s2:=MJ z hfz l1 (by omega) (by omega)
 have q2:=B8 l1 z.bulk
 obtain ⟨l2,hl2⟩:∃ l,l=szR l1 (z.bulk:Nat):=⟨_,rfl⟩
 rw [←hl2] at s2 q2
 rcases Int.lt_or_le l2 0 with h0 | h0_2
 ·refine Ae Cj Ck (of_decide_eq_true rfl) ?_
  simp (disch:=omega) only [B6,go_sem,Aa,s0,s1,s2,Cd]
 have hb_x:x.bulk≤1048576:=by omega
 have hb_y:y.bulk≤1048576:=by omega
 have hb_z:z.bulk≤1048576:=by omega
 have t_x:=ML x hb_x
 have t_y:=ML y hb_y
 have t_z:=ML z hb_z
 have htx:=Cl.S4 x hb_x
 have hty:=Cl.S4 y hb_y
 have htz:=Cl.S4 z hb_z
 have a1:=Od x y z htx hty htz
 have a2:=Oj x y z htx hty htz
 obtain ⟨r,hr_r⟩:∃ r,r=Zy x y z:=⟨_,rfl⟩
 rw [←hr_r] at a1 a2
 obtain ⟨o,hr_o⟩:∃ r,r=Jl x y z:=⟨_,rfl⟩
 rw [←hr_o] at a1 a2
 have eq_x:=MM x (by omega)
 have eq_y:=MM y (by omega)
 have eq_z:=MM z (by omega)
 refine Ae Cj Ck (of_decide_eq_true rfl) ?_
 simp (disch:=omega) only [B6,go_sem,s0,s1,s2,t_x,t_y,t_z,a1,a2,eq_x,eq_y,eq_z,EH,Cd,DO,DP,Bz,BI,Cl.osv,Cl.obs,Lt.osv,Lt.obs,Tm.osv,Tm.obs,Lt.erss,Lt.noss]
 repeat ((first | (refine Qcn ?_ ?_; (focus (simp (disch:=omega) only [go_sem,s0,s1,s2,t_x,t_y,t_z,a1,a2,eq_x,eq_y,eq_z,EH,Cd,DO,DP,Bz,BI,Cl.osv,Cl.obs,Lt.osv,Lt.obs,Tm.osv,Tm.obs,Lt.erss,Lt.noss]; done))) | (refine Qco ?_ ?_; (focus (simp (disch:=omega) only [go_sem,s0,s1,s2,t_x,t_y,t_z,a1,a2,eq_x,eq_y,eq_z,EH,Cd,DO,DP,Bz,BI,Cl.osv,Cl.obs,Lt.osv,Lt.obs,Tm.osv,Tm.obs,Lt.erss,Lt.noss]; done)))); (try simp (disch:=omega) only [go_sem,s0,s1,s2,t_x,t_y,t_z,a1,a2,eq_x,eq_y,eq_z,EH,Cd,DO,DP,Bz,BI,Cl.osv,Cl.obs,Lt.osv,Lt.obs,Tm.osv,Tm.obs,Lt.erss,Lt.noss]))
end Go.Proofs.YtibdknkacmimgaaGreatDoor
set_option maxRecDepth 100000
set_option linter.unusedSimpArgs false
set_option linter.unusedVariables false
set_option linter.unusedSectionVars false
namespace Go.Proofs.YtibdknkacmimgaaGreatDoor
open Go.RowKit Go.ChangeShapes Go.WideShapes Go.ChangeAt Go.Deep
section
variable {H:Type} {enc:TypeId × Value→H} {P:Program} {w:World} {base:Nat} {spare:Nat→Bool} {held:Bool}
theorem Lo {b o k:Nat}:(⟨b,o,none⟩:Addr).add k=⟨b,o+k,none⟩:=by
 unfold Addr.add; split
 ·subst_vars; rfl
 ·rfl
theorem Qeu {a:Addr} {v:Value} (h:w.cell? a=some v):a.block<w.heap.size:=by
 unfold World.cell? at h
 cases hb:w.heap[a.block]? with
 | none=>rw [hb] at h; cases h
 | some o=>exact (zF.1 hb).1
end
section
variable {H:Type} {enc:TypeId × Value→H} {w:World} {base:Nat} {spare:Nat→Bool} {held:Bool}
end
end Go.Proofs.YtibdknkacmimgaaGreatDoor
set_option maxRecDepth 100000
set_option linter.unusedSimpArgs false
set_option linter.unusedVariables false
set_option linter.unusedSectionVars false
namespace Go.Proofs.YtibdknkacmimgaaGreatDoor
open Go.RowKit Go.ChangeShapes Go.WideShapes Go.ChangeAt Go.Deep
section
variable {H:Type} {enc:TypeId × Value→H} {P:Program} {w:World} {base:Nat} {spare:Nat→Bool} {held:Bool}
theorem XR {t e:TypeId} {fuel:Nat} {v:Value} {x:DataW H × List MemPlace} (sz:Nat) (hsz:P.cellsOf e=sz) (h0:0<sz) (ht:P.underlying t=some (.slice e)) (h:DataW.trod enc P w base spare held fuel t [v]=some x) :
  ∃ (a:Option Addr) (len cap:Nat) (f:Nat→Nat→Value),v=.slice a len cap∧len≤cap∧cap≤9223372036854775807∧SlA w 0 sz len f a ∧
   ∀ i,i<len→∃ n x',n<fuel∧DataW.trod enc P w base spare held n e ((zD sz).map (f i))=some x':=by
 rcases DataW.trod_slice ht h with ⟨hcs,_⟩ | ⟨a,len,cap,elems,rest,n,hf,hcs,hx,hb,hl,hm,hlen,hel,_,_⟩
 ·simp only [List.cons.injEq,and_true] at hcs
  exact ⟨none,0,0,fun _ _=>undef,hcs,Nat.le_refl _,by omega,.inl rfl,fun i hi=>absurd hi (by omega)⟩
 ·have hi:∀ i,i<len→∃ cs' x',w.cells? base (a.add (i*sz)) sz=some cs'∧DataW.trod enc P w base spare held n e cs'=some x':=by
   intro i hi
   have h1:=hel i hi
   rw [hsz,zA (by omega)] at h1
   obtain ⟨cs',h2,h3⟩:=Option.bind_eq_some_iff.1 h1
   exact ⟨cs',_,h2,h3⟩
  have hcell:∀ i j,i<len→j<sz→∃ v,w.cell? (a.add (i*sz+j))=some v:=by
   intro i j hil hj
   obtain ⟨cs',x',hc,_⟩:=hi i hil
   obtain ⟨_,hcl,hat⟩:=World.cells?_some hc
   have h1:=hat j hj
   rw [Go.Deep.add_add,zA (by omega)] at h1
   exact ⟨_,h1⟩
  simp only [List.cons.injEq,and_true] at hcs
  refine ⟨some a,len,cap,fun i j=>(w.cell? (a.add (i*sz+j))).getD undef,hcs,hl,hm,?_,?_⟩
  ·rcases Nat.eq_zero_or_pos len with h | h
   ·exact .inl h
   ·obtain ⟨v,hv⟩:=hcell 0 0 h h0
    rw [Nat.zero_mul,Nat.zero_add] at hv
    have hsp:a.spot=none:=by simpa [Addr.add] using World.cell?_spot hv
    have hlt:=Qeu hv
    obtain ⟨b,off,spot⟩:=a
    simp only at hsp
    subst hsp
    refine .inr ⟨b,off,rfl,Nat.zero_le _,by simpa [Addr.add] using hlt,fun i j hil hj=>?_⟩
    obtain ⟨v',hv'⟩:=hcell i j hil hj
    rw [Lo] at hv'
    show _=some ((w.cell? ((⟨b,off,none⟩:Addr).add (i*sz+j))).getD undef)
    rw [Lo,Nat.add_assoc,hv']
    rfl
  ·intro i hil
   obtain ⟨cs',x',hc,ht'⟩:=hi i hil
   obtain ⟨_,hcl,hat⟩:=World.cells?_some hc
   refine ⟨n,x',by omega,?_⟩
   have hcs':(zD sz).map (fun j=>(w.cell? (a.add (i*sz+j))).getD undef)=cs':=by
    apply List.ext_getElem?
    intro j
    by_cases hj:j<sz
    ·rw [List.getElem?_map,List.getElem?_range hj]
     have h1:=hat j hj
     rw [Go.Deep.add_add] at h1
     rw [zA (by omega:j<cs'.length)] at h1 ⊢
     simp [h1]
    ·rw [List.getElem?_eq_none (by simp; omega),List.getElem?_eq_none (by omega)]
   rw [hcs']
   exact ht'
theorem S7 {t:TypeId} {fs:Array Field} {fuel:Nat} {cs:List Value} {x:DataW H × List MemPlace} (ht:P.underlying t=some (.struct fs)) (h:DataW.trod enc P w base spare held fuel t cs=some x) :
  ∃ n,n<fuel∧cs.length=P.cellsOf t∧∀ (i:Nat) (f:Field),fs[i]?=some f→∃ y,DataW.trod enc P w base spare held n f.type ((cs.drop f.offset).take (P.cellsOf f.type))=some y:=by
 obtain ⟨xs,n,hn,hx,hlen,hxl,hf⟩:=DataW.trod_struct ht h
 refine ⟨n,by omega,hlen,fun i f hi=>?_⟩
 have hil:i<fs.size:=(zF.1 hi).1
 have h1:=hf i f hi
 rw [zA (by omega:i<xs.length)] at h1
 exact ⟨_,h1⟩
end
inductive Lvs (w:World):List D→List Value→Prop
 |nil:Lvs w [] []
 |cons {d:D} {v:Value} {ds:List D} {vs:List Value} (h:DAt w d v) (hs:Lvs w ds vs):Lvs w (d :: ds) (v :: vs)
theorem Lvs.len {w:World} {ds:List D} {vs:List Value} (h:Lvs w ds vs):ds.length=vs.length:=by
 induction h with
 | nil=>rfl
 | cons h hs ih=>simp [ih]
theorem Lvs.get {w:World} {ds:List D} {vs:List Value} (h:Lvs w ds vs):∀ j (h1:j<ds.length) (h2:j<vs.length),DAt w ds[j] vs[j]:=by
 induction h with
 | nil=>intro j h1; simp at h1
 | cons h hs ih =>
  intro j h1 h2
  cases j with
  | zero=>exact h
  | succ j=>exact ih j (by simpa using h1) (by simpa using h2)
theorem XS {α:Type} [Inhabited α] (dd:α→List D) {w:World} {m len cap:Nat} {f:Nat→Nat→Value} {a:Option Addr} (hl:len≤cap) (hm:cap≤9223372036854775807) (hS:SlA w 0 m len f a)
  (hel:∀ i,i<len→∃ X:α,Lvs w (dd X) ((zD m).map (f i))):∃ xs:List α,DAt w (.arr (xs.map dd)) (.slice a len cap):=by
 obtain ⟨g,hg⟩:∃ g:Nat→α,∀ i,i<len→Lvs w (dd (g i)) ((zD m).map (f i)) :=
  ⟨fun i=>if h:i<len then (hel i h).choose else default,fun i hi=>by simp only [hi,dif_pos]; exact (hel i hi).choose_spec⟩
 refine ⟨(zD len).map g,?_⟩
 have hlen:(((zD len).map g).map dd).length=len:=by simp
 have:=DAt.Qe4 (w:=w) (es:=((zD len).map g).map dd) (sz:=m) (cap:=cap) (a:=a) (f:=f) (by rw [hlen]; exact hl) hm (by rw [hlen]; exact hS) (fun i hi=>by
  rw [hlen] at hi
  have:=(hg i hi).len
  simpa using this) (fun i j hi hj=>by
  rw [hlen] at hi
  have h1:=hg i hi
  have h2:=h1.len
  simp only [List.length_map,List.length_range] at h2
  simp only [List.getElem_map,List.getElem_range] at hj ⊢
  have:=h1.get j hj (by simp; omega)
  simpa using this)
 rw [hlen] at this
 exact this
instance:Inhabited Tm:=⟨Tm.zero⟩
instance:Inhabited Fm:=⟨Fm.zero⟩
section
variable {H:Type} {enc:TypeId × Value→H} {w:World} {base:Nat} {spare:Nat→Bool} {held:Bool}
end
end Go.Proofs.YtibdknkacmimgaaGreatDoor
set_option maxRecDepth 100000
set_option linter.unusedSimpArgs false
set_option linter.unusedVariables false
set_option linter.unusedSectionVars false
namespace Go.Proofs.YtibdknkacmimgaaGreatDoor
open Go.RowKit
theorem DRep.lt_ {own:Bool} {w:World} {S:Nat→Prop} {d:D} {v:Value} (h:DRep own w S d v):DRep own w (fun b=>S b∧b<w.heap.size) d v:=by
 induction h with
 | int S n=>exact .int _ n
 | bool S b=>exact .bool _ b
 | str S s h=>exact .str _ s h
 | arr S sz es a cap f Sub h1 h2 h3 h4 h5 h6 h7 ih =>
  refine .arr _ sz es a cap f (fun i j x=>Sub i j x∧x<w.heap.size) h1 h2 ?_ h4 (fun i j x h=>⟨h5 i j x h.1,h.2⟩) (fun ho i j i' j' x h h'=>h6 ho i j i' j' x h.1 h'.1) ih
  rcases h3 with h3 | ⟨b,off,ha,hS,hl,hc,ho⟩
  ·exact .inl h3
  ·exact .inr ⟨b,off,ha,⟨hS,hl⟩,hl,hc,fun h=>⟨fun i j hx=>(ho h).1 i j hx.1,(ho h).2⟩⟩
theorem Fun.yes {f:FuncId} {args:List SV} (h:Fun Tryz.prog f args [] (.bool true) []) {w:World} {vs:List Value} (hgl:GL w fun b=>b<w.heap.size) (hvs:RepVs w (fun b=>b<w.heap.size) (fun _=>none) args vs):Calls Tryz.prog f vs.toArray w (Ret w (.bool true)):=by
 have nl:∀ g,¬ (Ap [] g).live:=fun g hg=>by simp [Ap,Ob.live] at hg
 refine (h w (fun b=>b<w.heap.size) (fun _=>none) (fun _ _=>False) vs ⟨fun b hb=>hb,fun g hg=>absurd hg (nl g),fun g b hg=>absurd hg (nl g),fun g b hg=>absurd hg (nl g),fun g g' b hg=>absurd hg (nl g),fun g _=>rfl,hgl⟩ hvs).mono ?_
 rintro e w' ⟨v,I',V',B',rfl,hr,hp⟩
 simp only [RepV] at hr
 subst hr
 exact ⟨rfl,hp.fr.os,hp.fr.tape.1,hp.fr.output,hp.fr.size,fun b hb=>hp.fr.block b hb fun ⟨g,hg,_⟩=>absurd hg (nl g)⟩
theorem XT {w:World} {d:D} {ds:List D} {v:Value} {vs:List Value} (h:Lvs w (d :: ds) (v :: vs)):DAt w d v∧Lvs w ds vs:=by
 cases h with
 | cons h1 h2=>exact ⟨h1,h2⟩
theorem DAt.rep_sv {w:World} {d:D} {v:Value} (h:DAt w d v):RepV w (fun b=>b<w.heap.size) (fun _=>none) d.sv v :=
 D.rep_sv ((DRep.lt_ h).up fun b hb=>hb.2)
theorem Lvs.reps {w:World} {ds:List D} {vs:List Value} (h:Lvs w ds vs):RepVs w (fun b=>b<w.heap.size) (fun _=>none) (ds.map D.sv) vs:=by
 induction h with
 | nil=>simp [RepVs]
 | cons h hs ih=>simp only [List.map_cons,RepVs]; exact ⟨_,_,rfl,h.rep_sv,ih⟩
theorem Lvs.agg {w:World} {ds:List D} {vs:List Value} (h:Lvs w ds vs):RepV w (fun b=>b<w.heap.size) (fun _=>none) (.agg (ds.map D.sv)) (.agg vs.toArray):=by
 simp only [RepV]; exact ⟨vs,rfl,h.reps⟩
theorem Lvs.fits {w:World} {ds:List D} {vs:List Value} (h:Lvs w ds vs):D.fits ds:=by
 induction h with
 | nil=>trivial
 | cons h hs ih=>exact ⟨DRep.fit h,ih⟩
theorem Qdo {w:World} {I:Nat→Prop} {V:Nat→Option Value}:RepVs w I V [] []:=by simp [RepVs]
theorem Pj {w:World} {I:Nat→Prop} {V:Nat→Option Value} {x:SV} {xs:List SV} {v:Value} {vs:List Value} (h:RepV w I V x v) (hs:RepVs w I V xs vs):RepVs w I V (x :: xs) (v :: vs):=by
 simp only [RepVs]; exact ⟨v,vs,rfl,h,hs⟩
instance:Inhabited Lt:=⟨Lt.zero⟩
instance:Inhabited Cl:=⟨Cl.zero⟩
section
variable {H:Type} {enc:TypeId × Value→H} {w:World} {base:Nat} {spare:Nat→Bool} {held:Bool}
theorem PG {fuel:Nat} (ih:∀ n,n<fuel→∀ v x,DataW.trod enc Tryz.prog w base spare held n 63 [v]=some x→∃ xs:List Tm,DAt w (.arr (xs.map Tm.d)) v) {cs:List Value} {x:DataW H × List MemPlace} (h:DataW.trod enc Tryz.prog w base spare held fuel 65 cs=some x):∃ X:Tm,Lvs w X.d cs:=by
 obtain ⟨n,hn,hlen,hf⟩:=S7 Tryz.underlying65 h
 rw [show Tryz.prog.cellsOf 65=2 by kernel_rfl] at hlen
 match cs,hlen with
 | [c0,c1],_ =>
  obtain ⟨y0,k0⟩:=hf 0 _ rfl
  have e0:(([c0,c1].drop 0).take (Tryz.prog.cellsOf 9))=[c0]:=by rw [show Tryz.prog.cellsOf 9=1 by kernel_rfl]; rfl
  obtain ⟨z0,q0,_,s0⟩:=DataW.trod_string Tryz.underlying9 k0
  have q0':c0=.string z0:=by
   have:[c0]=[.string z0]:=by rw [←e0]; exact q0
   simpa using this
  obtain ⟨y1,k1⟩:=hf 1 _ rfl
  have e1:(([c0,c1].drop 1).take (Tryz.prog.cellsOf 63))=[c1]:=by rw [show Tryz.prog.cellsOf 63=1 by kernel_rfl]; rfl
  have k1':DataW.trod enc Tryz.prog w base spare held n 63 [c1]=some y1:=by rw [←e1]; exact k1
  obtain ⟨z1,g1⟩:=ih n hn c1 y1 k1'
  subst q0'
  exact ⟨.mk z0 z1,by rw [Tm.d_eq]; exact (.cons (.str _ z0 s0) (.cons g1 .nil))⟩
theorem Th:∀ (fuel:Nat) (v:Value) (x:DataW H × List MemPlace),DataW.trod enc Tryz.prog w base spare held fuel 63 [v]=some x→∃ xs:List Tm,DAt w (.arr (xs.map Tm.d)) v:=by
 intro fuel
 induction fuel using Nat.strongRecOn with
 | _ fuel ih =>
  intro v x h
  obtain ⟨a,len,cap,f,rfl,hl,hm,hS,hr⟩:=XR (P:=Tryz.prog) 2 (by kernel_rfl) (by omega) Tryz.underlying63 h
  exact XS Tm.d hl hm hS fun i hi=>by
   obtain ⟨n,x',hn,h1⟩:=hr i hi
   exact PG (fun n' hn'=>ih n' (by omega)) h1
theorem Qdp {fuel:Nat} {cs:List Value} {x:DataW H × List MemPlace} (h:DataW.trod enc Tryz.prog w base spare held fuel 65 cs=some x):∃ X:Tm,Lvs w X.d cs :=
 PG (fun n _=>Th n) h
theorem XU {fuel:Nat} {cs:List Value} {x:DataW H × List MemPlace} (h:DataW.trod enc Tryz.prog w base spare held fuel 67 cs=some x):∃ X:Lt,Lvs w X.d cs:=by
 obtain ⟨n,hn,hlen,hf⟩:=S7 Tryz.underlying67 h
 rw [show Tryz.prog.cellsOf 67=3 by kernel_rfl] at hlen
 match cs,hlen with
 | [c0,c1,c2],_ =>
  obtain ⟨y0,k0⟩:=hf 0 _ rfl
  have e0:(([c0,c1,c2].drop 0).take (Tryz.prog.cellsOf 4))=[c0]:=by rw [show Tryz.prog.cellsOf 4=1 by kernel_rfl]; rfl
  obtain ⟨z0,q0,_⟩:=DataW.trod_bool Tryz.underlying4 k0
  have q0':c0=.bool z0:=by
   have:[c0]=[.bool z0]:=by rw [←e0]; exact q0
   simpa using this
  obtain ⟨y1,k1⟩:=hf 1 _ rfl
  have e1:(([c0,c1,c2].drop 1).take (Tryz.prog.cellsOf 65))=[c1,c2]:=by rw [show Tryz.prog.cellsOf 65=2 by kernel_rfl]; rfl
  have k1':DataW.trod enc Tryz.prog w base spare held n 65 [c1,c2]=some y1:=by rw [←e1]; exact k1
  obtain ⟨z1,g1⟩:=Qdp k1'
  rw [Tm.d_eq] at g1
  obtain ⟨g1_0,g1⟩:=XT g1
  obtain ⟨g1_1,g1⟩:=XT g1
  subst q0'
  exact ⟨⟨z0,z1⟩,by rw [Lt.d_eq]; exact (.cons (.bool _ z0) (.cons g1_0 (.cons g1_1 .nil)))⟩
theorem V6 {fuel:Nat} {v:Value} {x:DataW H × List MemPlace} (h:DataW.trod enc Tryz.prog w base spare held fuel 22 [v]=some x):∃ xs:List Lt,DAt w (.arr (xs.map Lt.d)) v:=by
 obtain ⟨a,len,cap,f,rfl,hl,hm,hS,hr⟩:=XR (P:=Tryz.prog) 3 (by kernel_rfl) (by omega) Tryz.underlying22 h
 exact XS Lt.d hl hm hS fun i hi=>by
  obtain ⟨n,x',hn,h1⟩:=hr i hi
  exact XU h1
theorem MQ {fuel:Nat} {cs:List Value} {x:DataW H × List MemPlace} (h:DataW.trod enc Tryz.prog w base spare held fuel 24 cs=some x):∃ X:Cl,Lvs w X.d cs:=by
 obtain ⟨n,hn,hlen,hf⟩:=S7 Tryz.underlying24 h
 rw [show Tryz.prog.cellsOf 24=1 by kernel_rfl] at hlen
 match cs,hlen with
 | [c0],_ =>
  obtain ⟨y0,k0⟩:=hf 0 _ rfl
  have e0:(([c0].drop 0).take (Tryz.prog.cellsOf 22))=[c0]:=by rw [show Tryz.prog.cellsOf 22=1 by kernel_rfl]; rfl
  have k0':DataW.trod enc Tryz.prog w base spare held n 22 [c0]=some y0:=by rw [←e0]; exact k0
  obtain ⟨z0,g0⟩:=V6 k0'
  exact ⟨⟨z0⟩,by rw [Cl.d_eq]; exact (.cons g0 .nil)⟩
end
end Go.Proofs.YtibdknkacmimgaaGreatDoor
