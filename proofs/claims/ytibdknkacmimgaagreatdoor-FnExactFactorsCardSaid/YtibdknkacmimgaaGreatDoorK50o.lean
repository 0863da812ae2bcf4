/-
  Texts of this claim, one behind the other, each built on those ahead of it. No condition.
-/
import Derived.Test.YtibdknkacmimgaaGreatDoorK50b
import Derived.Test.YtibdknkacmimgaaGreatDoorK50c
import Derived.Test.YtibdknkacmimgaaGreatDoorK50d
import Derived.Test.YtibdknkacmimgaaGreatDoorK50e
import Derived.Test.YtibdknkacmimgaaGreatDoorK50j
import Derived.Test.YtibdknkacmimgaaGreatDoorK50k
import Derived.Test.YtibdknkacmimgaaGreatDoorK50l
import Derived.Test.YtibdknkacmimgaaGreatDoorK50m
import Derived.Test.YtibdknkacmimgaaGreatDoorK50n
import Derived.ProofKit
import Derived.Deep.Slices
import Derived.Deep.Fields
import Derived.ChangeSame
import Derived.OpenShut
import Derived.ShutString
import Derived.ChangeOld
set_option maxHeartbeats 16000000
open List renaming getElem?_eq_getElem → zA, drop_eq_getElem_cons → zC, drop_zero → zE, range → zF, map_nil → zI
open Bool renaming and_false → zB
open Option renaming isSome_some → zD
open Array renaming getElem?_eq_some_iff → zG
open Nat renaming zero_le → zH, lt_or_ge → zJ
set_option maxRecDepth 100000
set_option linter.unusedSimpArgs false
set_option linter.unusedVariables false
set_option linter.unusedSectionVars false
namespace Go.Proofs.YtibdknkacmimgaaGreatDoor
open Go.RowKit
theorem Qe6 (a b:Tm) (ha:a.expr=true) (hb:b.expr=true) (n:Nat) (total:Option Sb) (hr:BE n ⟨[]⟩ [(a,b)]=some total):E 57 [a.sv,b.sv] []=some (.tup [(uTo total).osv,.bool (uOk total)],(uTo total).obs):=by
 refine Af VG JN (of_decide_eq_true rfl) ?_
 simp (disch:=omega) only [Of,go_sem,Aa]
 refine go_loop (α:=Nat × Bool × Bool × Sb × List (Tm × Tm)) u2H (u2R total) (fun a=>a.1) (n,true,true,⟨[]⟩,[(a,b)]) ⟨uInv.start ha hb,hr,fun _=>rfl⟩ (by simp (disch:=omega) only [go_sem,Aa,u2H]; rfl) ?_
 clear hr ha hb
 rintro ⟨n,sn,lo,s,l⟩ ⟨hinv,hrun,hsn⟩
 dsimp only at hinv hrun hsn
 have hs:=hinv.ok
 have hst:=ED hs
 cases n with
 | zero=>rw [BE] at hrun; cases hrun
 | succ n =>
 cases l with
 | nil =>
  rw [BE] at hrun
  obtain rfl:=Option.some.inj hrun
  have hk:uTo (some s)=s:=rfl
  rw [hk]
  cases sn with
  | true =>
   obtain rfl:s=⟨[]⟩:=by obtain ⟨bs⟩:=s; have:=hsn rfl; rw [show bs=[] from this]
   cases lo with
   | true =>
    simp (disch:=omega) only [go_sem,Aa,u2H,u2b,u2r,Sb.osv,Sb.obs,uOk,zD,zI]
    try rfl
   | false =>
    simp (disch:=omega) only [go_sem,Aa,u2H,u2b,u2r,Sb.osv,Sb.obs,uOk,zD,zI]
    try rfl
  | false =>
   cases lo with
   | true =>
    simp (disch:=omega) only [go_sem,Aa,u2H,u2b,u2r,Sb.osv,Sb.obs,uOk,zD,zI]
    try rfl
   | false =>
    simp (disch:=omega) only [go_sem,Aa,u2H,u2b,u2r,Sb.osv,Sb.obs,uOk,zD,zI]
    try rfl
 | cons p l =>
  have hcmb:(sn=true∧lo=true)∨(sn=true∧lo=false)∨(sn=false∧lo=true)∨(sn=false∧lo=false):=by cases sn <;> cases lo <;> simp
  rcases hcmb with ⟨rfl,rfl⟩ | ⟨rfl,rfl⟩ | ⟨rfl,rfl⟩ | ⟨rfl,rfl⟩
  ·exact Qfl total n s p l hinv hrun hsn
  ·exact Qfm total n s p l hinv hrun hsn
  ·exact Qfn total n s p l hinv hrun hsn
  ·exact Qfo total n s p l hinv hrun hsn
def EF:SC:=(.seq (.reg [⟨some 2,none,.boxv 76 1 (.t 0)⟩,⟨some 4,none,.alloc 28 [.nil]⟩,⟨some 5,none,.mv (.c (.bool false))⟩]) (.seq (.reg [⟨some 10,none,.load true 1 (.t 2)⟩,⟨some 11,none,.mv (.t 1)⟩,⟨some 12,none,.call 92 [(.t 10),(.t 11)]⟩,⟨some 9,none,.mv (.t 12)⟩,⟨some 13,none,.ext (.t 9) 0⟩,⟨some 14,none,.ext (.t 9) 1⟩,⟨some 6,none,.alloc 28 [.nil]⟩,⟨none,none,(.store 1 (.t 6) (.t 13))⟩,⟨some 7,none,.mv (.t 14)⟩]) (.seq (.seq (.reg [⟨some 15,none,.mv (.t 7)⟩,⟨some 16,none,.un .not (.t 15)⟩]) (.cond (.t 16) (.seq (.reg [⟨some 17,none,.build [.nil] []⟩,⟨none,none,(.store 1 (.t 4) (.t 17))⟩,⟨some 5,none,.mv (.c (.bool false))⟩]) .ret) .skip)) (.seq (.reg [⟨some 18,none,.load true 1 (.t 6)⟩,⟨some 19,none,.call 93 [(.t 18)]⟩,⟨some 8,none,.alloc 28 [.nil]⟩,⟨none,none,(.store 1 (.t 8) (.t 19))⟩]) (.seq (.seq (.reg [⟨some 20,none,.load true 1 (.t 8)⟩,⟨some 21,none,.call 32 [(.t 20)]⟩,⟨some 22,none,.un .not (.t 21)⟩]) (.cond (.t 22) (.seq (.reg [⟨some 23,none,.build [.nil] []⟩,⟨none,none,(.store 1 (.t 4) (.t 23))⟩,⟨some 5,none,.mv (.c (.bool false))⟩]) .ret) .skip)) (.seq (.reg [⟨some 24,none,.load true 1 (.t 8)⟩,⟨none,none,(.store 1 (.t 4) (.t 24))⟩,⟨some 5,none,.mv (.c (.bool true))⟩]) .ret))))))
theorem G4:codeOf Tryz.prog 58=some ⟨25,EF,[(.cell 4 true 1),(.tmp 5)]⟩:=by kernel_rfl
theorem EG:modes 58=⟨[],.own [some (73,3),none],none,false⟩:=by unfold modes; rfl
theorem ZD (s:Sb) (hs:s.ok=true) (ht:s.tame) (l:List Lt) (hl:l.length≤1048576) (hal:∀ x∈l,x.atom.atom=true):E 58 [s.sv,.arr (l.map Lt.d)] []=some (.tup [(Tk s l).osv,.bool (Gk s l)],(Tk s l).obs):=by
 have h1:=SW s hs ht l hl hal
 have hcs:∀ d:Cl,Cl.osv d=.agg [.ref 0]:=fun d=>rfl
 have hob:∀ d:Cl,Cl.obs d=[.row 73 3 (d.lits.map Lt.o)]:=fun d=>rfl
 have hsv:∀ d:Cl,d.sv=.agg [.arr (d.lits.map Lt.d)]:=fun d=>rfl
 have hss:s.sv=.agg [.arr (s.binds.map Bd.d)]:=rfl
 rw [hcs,hob] at h1
 rw [hcs,hob]
 rw [hss] at h1 ⊢
 cases hok:Et s l with
 | false =>
  have ho:Gk s l=false:=by unfold Gk; rw [hok]; rfl
  have hz:(Cl.mk []).lits=[]:=rfl
  rw [ON hok,hok] at h1
  rw [Qq ho,ho]
  refine Af G4 EG (of_decide_eq_true rfl) ?_
  simp (disch:=omega) only [EF,go_sem,Aa,h1,Bu]
 | true =>
  have hc:=Z7 hok
  obtain ⟨c,hcc⟩:∃ c,c=apC s l:=⟨_,rfl⟩
  rw [←hcc] at hc h1
  have h2:=Ya c hc
  have hn:=Qa9 10 hc
  have h3:=S8 (nz 10 c) (XM hn)
  rw [hn,Bool.true_and] at h3
  rw [hok] at h1
  rw [hcs,hob] at h2
  rw [hsv] at h2 h3
  have hio:Gk s l=(nz 10 c).norm:=by unfold Gk; rw [hok,Bool.true_and,hcc]
  have her:=Lt.erss c.lits
  have her2:=Lt.erss (nz 10 c).lits
  cases hm:(nz 10 c).norm with
  | false =>
   rw [hm] at h3 hio
   rw [Qq hio,hio]
   refine Af G4 EG (of_decide_eq_true rfl) ?_
   simp (disch:=omega) only [EF,go_sem,Aa,h1,h2,h3,her,her2,Lt.noss,Lt.fus,FI,CN,Bu]
  | true =>
   rw [hm] at h3 hio
   rw [Sy hio,hio,← hcc]
   refine Af G4 EG (of_decide_eq_true rfl) ?_
   simp (disch:=omega) only [EF,go_sem,Aa,h1,h2,h3,her,her2,Lt.noss,Lt.fus,FI,CN,Bu]
def It:SC:=(.seq (.reg [⟨some 2,none,.boxv 28 1 (.t 0)⟩,⟨some 4,none,.mv (.c (.bool false))⟩]) (.seq (.reg [⟨some 5,none,.mv (.t 1)⟩,⟨some 6,none,.faddr 0 (.t 2)⟩,⟨some 7,none,.load false 1 (.t 6)⟩,⟨some 8,none,.len false (.t 7)⟩,⟨some 9,none,.bin .sub false (.t 8) (.c (.int .i64 1))⟩,⟨some 10,none,.call 86 [(.t 5),(.c (.int .i64 0)),(.t 9)]⟩,⟨some 4,none,.mv (.t 10)⟩]) .ret))
theorem Og:codeOf Tryz.prog 56=some ⟨11,It,[(.tmp 4)]⟩:=by kernel_rfl
theorem BS:modes 56=⟨[],.asis,none,false⟩:=by unfold modes; rfl
theorem Oh (c:Cl) (hc:c.ok=true) (i:Int):E 56 [c.sv,.int .i64 i] []=some (.bool (hasB c i),[]):=by
 have hl:=Cl.ok_len hc
 have hsv:c.sv=.agg [.arr (c.lits.map Lt.d)]:=rfl
 have h1:=QbF i 0 ((c.lits.length:Int)-1)
 unfold hasB
 rw [hsv]
 refine Af Og BS (of_decide_eq_true rfl) ?_
 simp (disch:=omega) only [It,go_sem,Aa,h1,E5]
theorem Qd5 (a b:Tm) (ha:a.atom=true) (hb:b.atom=true):E 57 [a.sv,b.sv] []=some (.tup [(uTo (unR a b)).osv,.bool (uOk (unR a b))],(uTo (unR a b)).obs):=by
 obtain ⟨n,hn⟩:=Sx (Tm.Cf ha) (Tm.Cf hb)
 exact Qe6 a b (Tm.Cf ha) (Tm.Cf hb) n _ hn
def CX:SC:=(.seq (.reg [⟨some 3,none,.boxv 28 1 (.t 0)⟩,⟨some 6,none,.alloc 28 [.nil]⟩,⟨some 7,none,.mv (.c (.bool false))⟩]) (.seq (.seq (.dreg [[],[],[0,1],[2,0,1],[3,2,0,1],[4,3,2,0,1],[4,3,2,0,1],[5,4,3,2,0,1,6],[7,5,4,3,2,0,1,6],[4,3,2,0,1,8,7,5,6],[9,4,3,2,0,1,8,7,5,6],[10,9,4,3,2,0,1,8,7,5,6],[10,9,4,3,2,0,1,8,7,5,6],[11,10,9,4,3,2,0,1,8,7,5,6,12],[10,9,4,3,2,0,1,8,7,5,6,13,11,12],[14,10,9,4,3,2,0,1,8,7,5,6,13,11,12],[15,14,10,9,4,3,2,0,1,8,7,5,6,13,11,12],[16,15,14,10,9,4,3,2,0,1,8,7,5,6,13,11,12],[15,14,10,9,4,3,2,0,1,8,7,5,6,13,11,12],[17,16,15,14,10,9,4,3,2,0,1,8,7,5,6,13,11,12,18],[19,17,16,15,14,10,9,4,3,2,0,1,8,7,5,6,13,11,12,18],[20,19,17,16,15,14,10,9,4,3,2,0,1,8,7,5,6,13,11,12,18],[15,14,10,9,4,3,2,0,1,8,7,5,6,13,11,12],[22,15,14,10,9,4,3,2,0,1,8,7,5,6,13,11,12],[15,14,10,9,4,3,2,0,1,8,7,5,6,13,11,12],[23,22,15,14,10,9,4,3,2,0,1,8,7,5,6,13,11,12,24],[25,23,22,15,14,10,9,4,3,2,0,1,8,7,5,6,13,11,12,24],[26,25,23,22,15,14,10,9,4,3,2,0,1,8,7,5,6,13,11,12,24],[21,20,19,17,16,15,14,10,9,4,3,2,0,1,8,7,5,6,13,11,12,18,27,26,25,23,22,24],[15,14,10,9,4,3,2,0,1,8,7,5,6,13,11,12,28,21,20,19,17,16,18,27,26,25,23,22,24]] [⟨some 10,none,.load true 1 (.t 3)⟩,⟨some 11,none,.mv (.t 1)⟩,⟨some 12,none,.call 56 [(.t 10),(.t 11)]⟩,⟨some 13,none,.un .not (.t 12)⟩,⟨some 14,none,.mv (.t 13)⟩,⟨(some 15),(some (14,false)),(.load true 1 (.t 3))⟩,⟨(some 16),(some (14,false)),(.mv (.t 2))⟩,⟨(some 17),(some (14,false)),(.call 56 [(.t 15),(.t 16)])⟩,⟨(some 18),(some (14,false)),(.un .not (.t 17))⟩,⟨some 19,none,.pick (.t 14) (.c (.bool true)) (.t 18)⟩,⟨some 20,none,.mv (.t 19)⟩,⟨(some 21),(some (20,false)),(.mv (.t 1))⟩,⟨(some 22),(some (20,false)),(.mv (.t 2))⟩,⟨(some 23),(some (20,false)),(.bin .geq false (.t 21) (.t 22))⟩,⟨some 24,none,.pick (.t 20) (.c (.bool true)) (.t 23)⟩,⟨some 25,none,.mv (.t 24)⟩,⟨(some 26),(some (25,false)),(.faddr 0 (.t 3))⟩,⟨(some 27),(some (25,false)),(.load false 1 (.t 26))⟩,⟨(some 28),(some (25,false)),(.mv (.t 1))⟩,⟨(some 29),(some (25,false)),(.iaddr 3 (.t 27) (.t 28))⟩,⟨(some 30),(some (25,false)),(.faddr 0 (.t 29))⟩,⟨(some 31),(some (25,false)),(.load false 1 (.t 30))⟩,⟨(some 32),(some (25,false)),(.faddr 0 (.t 3))⟩,⟨(some 33),(some (25,false)),(.load false 1 (.t 32))⟩,⟨(some 34),(some (25,false)),(.mv (.t 2))⟩,⟨(some 35),(some (25,false)),(.iaddr 3 (.t 33) (.t 34))⟩,⟨(some 36),(some (25,false)),(.faddr 0 (.t 35))⟩,⟨(some 37),(some (25,false)),(.load false 1 (.t 36))⟩,⟨(some 38),(some (25,false)),(.bin .neq true (.t 31) (.t 37))⟩,⟨some 39,none,.pick (.t 25) (.c (.bool true)) (.t 38)⟩]) (.cond (.t 39) (.seq (.reg [⟨some 40,none,.build [.nil] []⟩,⟨none,none,(.store 1 (.t 6) (.t 40))⟩,⟨some 7,none,.mv (.c (.bool false))⟩]) .ret) .skip)) (.seq (.dreg [[],[0],[],[1,0,2],[3,1,0,2],[4,3,1,0,2],[],[6],[],[7,6,8],[9,7,6,8],[10,9,7,6,8],[5,4,3,1,0,2,11,10,9,7,6,8],[12,5,4,3,1,0,2,11,10,9,7,6,8],[13,12,5,4,3,1,0,2,11,10,9,7,6,8],[13,12,5,4,3,1,0,2,11,10,9,7,6,8],[],[16,14,13,12,5,4,3,1,0,2,11,10,9,7,6,8],[15,13,12,5,4,3,1,0,2,11,10,9,7,6,8,17,16,14]] [⟨some 42,none,.faddr 0 (.t 3)⟩,⟨some 43,none,.load false 1 (.t 42)⟩,⟨some 44,none,.mv (.t 1)⟩,⟨some 45,none,.iaddr 3 (.t 43) (.t 44)⟩,⟨some 46,none,.faddr 1 (.t 45)⟩,⟨some 47,none,.load true 2 (.t 46)⟩,⟨some 48,none,.faddr 0 (.t 3)⟩,⟨some 49,none,.load false 1 (.t 48)⟩,⟨some 50,none,.mv (.t 2)⟩,⟨some 51,none,.iaddr 3 (.t 49) (.t 50)⟩,⟨some 52,none,.faddr 1 (.t 51)⟩,⟨some 53,none,.load true 2 (.t 52)⟩,⟨some 54,none,.call 57 [(.t 47),(.t 53)]⟩,⟨some 41,none,.mv (.t 54)⟩,⟨some 55,none,.ext (.t 41) 0⟩,⟨some 56,none,.ext (.t 41) 1⟩,⟨some 8,none,.alloc 76 [.nil]⟩,⟨none,none,(.store 1 (.t 8) (.t 55))⟩,⟨some 9,none,.mv (.t 56)⟩]) (.seq (.seq (.reg [⟨some 57,none,.mv (.t 9)⟩,⟨some 58,none,.un .not (.t 57)⟩]) (.cond (.t 58) (.seq (.reg [⟨some 59,none,.build [.nil] []⟩,⟨none,none,(.store 1 (.t 6) (.t 59))⟩,⟨some 7,none,.mv (.c (.bool false))⟩]) .ret) .skip)) (.seq (.dreg [[],[],[],[1,2],[0,3,1,2],[4,0,3,1,2],[4,0,3,1,2],[5,4,0,3,1,2,6],[6,4,0,3,1,2,7,5]] [⟨some 60,none,.load true 1 (.t 8)⟩,⟨some 61,none,.load true 1 (.t 3)⟩,⟨some 62,none,.mv (.t 2)⟩,⟨some 63,none,.call 59 [(.t 61),(.t 62)]⟩,⟨some 64,none,.call 58 [(.t 60),(.t 63)]⟩,⟨some 65,none,.ext (.t 64) 0⟩,⟨some 66,none,.ext (.t 64) 1⟩,⟨none,none,(.store 1 (.t 6) (.t 65))⟩,⟨some 7,none,.mv (.t 66)⟩]) .ret)))))
theorem DG:codeOf Tryz.prog 33=some ⟨67,CX,[(.cell 6 true 1),(.tmp 7)]⟩:=by kernel_rfl
theorem Cn:modes 33=⟨[],.own [some (73,3),none],none,false⟩:=by unfold modes; rfl
theorem Qd6 (c:Cl) (hc:c.ok=true) (i k:Int):E 33 [c.sv,.int .i64 i,.int .i64 k] []=some (.tup [(MP c i k).osv,.bool (Ik c i k)],(MP c i k).obs):=by
 have hl:=Cl.ok_len hc
 have hcs:∀ d:Cl,Cl.osv d=.agg [.ref 0]:=fun d=>rfl
 have hob:∀ d:Cl,Cl.obs d=[.row 73 3 (d.lits.map Lt.o)]:=fun d=>rfl
 have hsv:c.sv=.agg [.arr (c.lits.map Lt.d)]:=rfl
 have h1:=Oh c hc i
 have h2:=Oh c hc k
 rw [hcs,hob]
 rw [hsv] at h1 h2 ⊢
 cases hi:hasB c i with
 | false =>
  obtain ⟨e1,e2⟩:=IH (Il (show IG c i k=false by unfold IG; rw [hi]; rfl))
  rw [hi] at h1
  rw [e1,e2]
  refine Af DG Cn (of_decide_eq_true rfl) ?_
  simp (disch:=omega) only [CX,go_sem,Aa,h1,h2,BS]
 | true =>
 rw [hi] at h1
 cases hk:hasB c k with
 | false =>
  obtain ⟨e1,e2⟩:=IH (Il (show IG c i k=false by unfold IG; rw [hk,Bool.false_and,zB]))
  rw [hk] at h2
  rw [e1,e2]
  refine Af DG Cn (of_decide_eq_true rfl) ?_
  simp (disch:=omega) only [CX,go_sem,Aa,h1,h2,BS]
 | true =>
 rw [hk] at h2
 cases hik:dec (i<k) with
 | false =>
  have hge:dec (k≤i)=true:=As (by have:=Qf4 hik; omega)
  obtain ⟨e1,e2⟩:=IH (Il (show IG c i k=false by unfold IG; rw [hik,Bool.false_and,zB,zB]))
  rw [e1,e2]
  refine Af DG Cn (of_decide_eq_true rfl) ?_
  simp (disch:=omega) only [CX,go_sem,Aa,h1,h2,BS,hge]
 | true =>
 have hge:dec (k≤i)=false:=Az (by have:=Ax.1 hik; omega)
 obtain ⟨p,rfl,hp⟩:=Oa hi
 obtain ⟨q,rfl,hq⟩:=Oa hk
 have hgp:=get_at Lt.d hp
 have hgq:=get_at Lt.d hq
 rw [Lt.d_eq] at hgp hgq
 have tp:=Int.toNat_natCast p
 have tq:=Int.toNat_natCast q
 have ap:=Cl.Dl hc _ (List.getElem_mem hp)
 have aq:=Cl.Dl hc _ (List.getElem_mem hq)
 have lp:=Qr hp
 have lq:=Qr hq
 cases hpp:c.lits[p].pos == c.lits[q].pos with
 | false =>
  obtain ⟨e1,e2⟩:=IH (Il (show IG c p q=false by unfold IG; rw [lp,lq,hpp,zB,zB,zB]))
  rw [e1,e2]
  refine Af DG Cn (of_decide_eq_true rfl) ?_
  simp (disch:=omega) only [CX,go_sem,Aa,h1,h2,BS,hge,hgp,hgq,tp,tq,hpp]
 | true =>
  have hT:=XO (show IG c p q=true by unfold IG; rw [hi,hk,hik,lp,lq,hpp]; rfl)
  rw [lp,lq] at hT
  have h3:=Qd5 _ _ ap aq
  have hsp:c.lits[p].atom.sv=.agg [.str c.lits[p].atom.name,.arr (c.lits[p].atom.args.map Tm.d)]:=rfl
  have hsq:c.lits[q].atom.sv=.agg [.str c.lits[q].atom.name,.arr (c.lits[q].atom.args.map Tm.d)]:=rfl
  rw [hsp,hsq] at h3
  cases hu:unR c.lits[p].atom c.lits[q].atom with
  | none =>
   rw [hu] at hT h3
   have hus:uTo none=⟨[]⟩:=rfl
   have huo:uOk none=false:=rfl
   have hso:(Sb.mk []).osv=.agg [.ref 0]:=rfl
   have hsb:(Sb.mk []).obs=[.row 139 3 []]:=rfl
   rw [hus,huo,hso,hsb] at h3
   obtain ⟨e1,e2⟩:=IH hT
   rw [e1,e2]
   refine Af DG Cn (of_decide_eq_true rfl) ?_
   simp (disch:=omega) only [CX,go_sem,Aa,h1,h2,BS,hge,hgp,hgq,tp,tq,hpp,h3,JN]
  | some s =>
   have hs:=Qdo (Tm.Cf ap) (Tm.Cf aq) hu
   rw [hu] at hT h3
   obtain ⟨e1,e2⟩:=XN hT
   rw [tq] at e1 e2
   rw [e1,e2]
   have h4:=QbK c (by omega) q (by omega) (by rw [tq]; exact hq)
   have h5:=ZD s hs (ED hs) (c.lits.eraseIdx q) (by have:=Uy hc q; omega) (PD hc q)
   have hus:uTo (some s)=s:=rfl
   have huo:uOk (some s)=true:=rfl
   have hso:s.osv=.agg [.ref 0]:=rfl
   have hsb:s.obs=[.row 139 3 (s.binds.map Bd.o)]:=rfl
   have hss:s.sv=.agg [.arr (s.binds.map Bd.d)]:=rfl
   rw [hus,huo,hso,hsb] at h3
   rw [hsv,tq] at h4
   rw [hcs,hob,hss] at h5
   refine Af DG Cn (of_decide_eq_true rfl) ?_
   simp (disch:=omega) only [CX,go_sem,Aa,h1,h2,BS,hge,hgp,hgq,tp,tq,hpp,h3,h4,h5,Bd.erss,Bd.fus,Bd.noss,Lt.Qfz,Lt.Qf0,JN,Lw,EG]
def H9:SC:=(.seq (.reg [⟨some 1,none,.boxv 28 1 (.t 0)⟩,⟨some 2,none,.mv (.c .nil)⟩,⟨some 3,none,.mv (.c (.bool false))⟩]) (.seq (.seq (.reg [⟨some 9,none,.load true 1 (.t 1)⟩,⟨some 10,none,.call 32 [(.t 9)]⟩,⟨some 11,none,.un .not (.t 10)⟩]) (.cond (.t 11) (.seq (.reg [⟨some 2,none,.mv (.c .nil)⟩,⟨some 3,none,.mv (.c (.bool false))⟩]) .ret) .skip)) (.seq (.reg [⟨some 12,none,.mkrow 28 1 [.nil] 0 []⟩,⟨some 4,none,.mv (.t 12)⟩]) (.seq (.seq (.reg [⟨some 13,none,.faddr 0 (.t 1)⟩,⟨some 14,none,.load false 1 (.t 13)⟩,⟨some 15,none,.len false (.t 14)⟩,⟨some 16,none,.mv (.c (.int .i64 0))⟩]) (.block 0 (.loop [0,1,0,0,1,0,0,0,0,0,0,0,0,0,0,1,1,0,0,0,0,0,0,0,0,0,0,0,0,0,0,0,0,0,0,0,0,0,0,0,0,0,0,0,0,0] (.seq (.reg [⟨some 17,none,.bin .lss false (.t 16) (.t 15)⟩]) (.seq (.cond (.t 17) .skip (.exit 0)) (.seq (.block 1 (.seq (.reg [⟨some 18,none,.mv (.t 16)⟩,⟨some 5,none,.mv (.t 18)⟩]) (.seq (.reg [⟨some 19,none,.faddr 0 (.t 1)⟩,⟨some 20,none,.load false 1 (.t 19)⟩,⟨some 21,none,.len false (.t 20)⟩,⟨some 22,none,.mv (.c (.int .i64 0))⟩]) (.block 2 (.loop [0,1,0,0,1,1,0,0,0,0,0,0,0,0,0,1,1,0,0,0,0,1,1,0,0,0,0,0,0,0,0,0,0,0,0,0,0,0,0,0,0,0,0,0,0,0] (.seq (.reg [⟨some 23,none,.bin .lss false (.t 22) (.t 21)⟩]) (.seq (.cond (.t 23) .skip (.exit 2)) (.seq (.block 3 (.seq (.reg [⟨some 24,none,.mv (.t 22)⟩,⟨some 6,none,.mv (.t 24)⟩]) (.seq (.reg [⟨some 26,none,.load true 1 (.t 1)⟩,⟨some 27,none,.mv (.t 5)⟩,⟨some 28,none,.mv (.t 6)⟩,⟨some 29,none,.call 33 [(.t 26),(.t 27),(.t 28)]⟩,⟨some 25,none,.mv (.t 29)⟩,⟨some 30,none,.ext (.t 25) 0⟩,⟨some 31,none,.ext (.t 25) 1⟩,⟨some 7,none,.alloc 28 [.nil]⟩,⟨none,none,(.store 1 (.t 7) (.t 30))⟩,⟨some 8,none,.mv (.t 31)⟩]) (.seq (.reg [⟨some 32,none,.mv (.t 8)⟩,⟨some 33,none,.mv (.t 32)⟩,⟨(some 34),(some (33,true)),(.mv (.t 4))⟩,⟨(some 35),(some (33,true)),(.load true 1 (.t 7))⟩,⟨(some 36),(some (33,true)),(.call 44 [(.t 34),(.t 35)])⟩,⟨(some 37),(some (33,true)),(.un .not (.t 36))⟩,⟨some 38,none,.pick (.t 33) (.t 37) (.c (.bool false))⟩]) (.cond (.t 38) (.reg [⟨some 39,none,.mv (.t 4)⟩,⟨some 40,none,.load true 1 (.t 7)⟩,⟨some 41,none,.mkrow 28 1 [.nil] 1 [(0,(.t 40))]⟩,⟨some 42,none,.append 28 1 24 [.nil] (.t 39) (.t 41)⟩,⟨some 4,none,.mv (.t 42)⟩]) .skip))))) (.reg [⟨some 43,none,.bin .add false (.t 22) (.c (.int .i64 1))⟩,⟨some 22,none,.mv (.t 43)⟩]))))))))) (.reg [⟨some 44,none,.bin .add false (.t 16) (.c (.int .i64 1))⟩,⟨some 16,none,.mv (.t 44)⟩]))))))) (.seq (.reg [⟨some 45,none,.mv (.t 4)⟩,⟨some 2,none,.mv (.t 45)⟩,⟨some 3,none,.mv (.c (.bool true))⟩]) .ret)))))
theorem Ly:codeOf Tryz.prog 25=some ⟨46,H9,[(.tmp 2),(.tmp 3)]⟩:=by kernel_rfl
theorem Dp:modes 25=⟨[],.own [some (28,1),none],none,false⟩:=by unfold modes; rfl
theorem Tp (c:Cl) (hct:c.tame):E 25 [c.sv] []=some (.tup [.ref 0,.bool (c.ok&&c.norm)],[.row 28 1 ((VE c).map Cl.o)]):=by
 have hsv:∀ d:Cl,d.sv=.agg [.arr (d.lits.map Lt.d)]:=fun d=>rfl
 have hcs:∀ d:Cl,Cl.osv d=.agg [.ref 0]:=fun d=>rfl
 have hob:∀ d:Cl,Cl.obs d=[.row 73 3 (d.lits.map Lt.o)]:=fun d=>rfl
 have hrd:=S8 c hct
 rw [hsv] at hrd
 rw [hsv]
 cases hrn:c.ok&&c.norm with
 | false =>
  rw [hrn] at hrd
  rw [Qd0 hrn]
  refine Af Ly Dp (of_decide_eq_true rfl) ?_
  simp (disch:=omega) only [H9,go_sem,Aa,hrd,CN]
 | true =>
 rw [hrn] at hrd
 rw [ZA hrn]
 rw [Bool.and_eq_true] at hrn
 have hc:=hrn.1
 have hcl:=Cl.ok_len hc
 have hr0:=fun (i k:Int)=>Qd6 c hc i k
 simp only [hsv,hcs,hob] at hr0
 have hz0:Fu [] (Db (H7 c) 0)=[]:=rfl
 have hzm:([]:List Cl).map Cl.o=[]:=rfl
 refine Af Ly Dp (of_decide_eq_true rfl) ?_
 simp (disch:=omega) only [H9,go_sem,Aa,hrd,CN]
 refine go_loop (α:=Int) (fun a=>⟨slots 46 0 [(1,.ptr 0 0),(4,.ref 1),(15,.int .i64 c.lits.length),(16,.int .i64 a)],[.box 28 [.arr (c.lits.map Lt.d)],.row 28 1 ((Fu [] (Db (H7 c) a.toNat)).map Cl.o)]⟩) (fun a=>∃ k:Nat,a=k∧k≤(c.lits).length) (fun a=>(c.lits).length-(a).toNat) 0 ⟨0,rfl,zH _⟩ (by simp (disch:=omega) only [go_sem,Aa,hz0,hzm]) ?_
 rintro i ⟨k,hi,hk⟩
 have hni:i.toNat=k:=by omega
 have hni1:(i+1).toNat=k+1:=by omega
 rcases zJ k (c.lits).length with hlt | hge
 ·have hio:=hi
  have hni0:=hni
  have hni10:=hni1
  have hlt0:=hlt
  have hz1:Gm c k 0=[]:=rfl
  have hz2:Db (H7 c) (k+1)=Db (H7 c) k++Gm c k c.lits.length:=rfl
  generalize i=io at *
  generalize k=ko at *
  simp (disch:=omega) only [go_sem,Aa,hni0]
  refine go_loop (α:=Int) (fun a=>⟨slots 46 0 [(1,.ptr 0 0),(4,.ref 1),(5,.int .i64 io),(15,.int .i64 c.lits.length),(16,.int .i64 io),(21,.int .i64 c.lits.length),(22,.int .i64 a)],[.box 28 [.arr (c.lits.map Lt.d)],.row 28 1 ((Fu [] (Db (H7 c) ko++Gm c ko a.toNat)).map Cl.o)]⟩) (fun a=>∃ k:Nat,a=k∧k≤(c.lits).length) (fun a=>(c.lits).length-(a).toNat) 0 ⟨0,rfl,zH _⟩ (by simp (disch:=omega) only [go_sem,Aa,hz1,List.append_nil,hni0]) ?_
  rintro i ⟨k,hi,hk⟩
  have hni:i.toNat=k:=by omega
  have hni1:(i+1).toNat=k+1:=by omega
  rcases zJ k (c.lits).length with hlt | hge
  ·have hr:=hr0 io i
   have hlen:=S6 hc ko k (by omega) (by omega)
   have hul:=QaL hlen
   have hall:∀ x∈Db (H7 c) ko++Gm c ko k,x.ok=true:=fun x hx=>by
    rcases List.mem_append.1 hx with h | h
    ·exact S5 h
    ·exact XY h
   have hsm:∀ x∈Fu [] (Db (H7 c) ko++Gm c ko k),x.smallC:=fun x hx=>S3 (S7 hall x hx)
   cases ho:Ik c io i with
   | false =>
    rw [ho] at hr
    have hpn:Gm c ko (k+1)=Gm c ko k:=XW (by rw [←hio,← hi]; exact Qs ho)
    obtain ⟨r,hrr⟩:∃ r,r=MP c io i:=⟨_,rfl⟩
    rw [←hrr] at hr
    simp (disch:=omega) only [go_sem,Aa,hni0,hni,hr,Cn]
    refine ⟨i+1,⟨k+1,by omega,hlt⟩,by omega,?_⟩
    simp (disch:=omega) only [go_sem,Aa,hni1,hpn]
   | true =>
    rw [ho] at hr
    have hrk:=QaK ho
    have hpn:Gm c ko (k+1)=Gm c ko k++[MP c io i]:=U2 (by rw [←hio,← hi]; exact S4 ho)
    obtain ⟨r,hrr⟩:∃ r,r=MP c io i:=⟨_,rfl⟩
    rw [←hrr] at hr hrk hpn
    obtain ⟨acc,hacc⟩:∃ acc,acc=Fu [] (Db (H7 c) ko++Gm c ko k):=⟨_,rfl⟩
    rw [←hacc] at hul hsm
    have hstep:Fu [] (Db (H7 c) ko++Gm c ko (k+1))=Kn acc r:=by rw [hpn,← List.append_assoc,QbI,← hacc]
    have hh:=XV r (S3 hrk) acc (by omega) hsm
    rw [hsv] at hh
    have era:=Cl.erss acc
    have err:=Lt.erss r.lits
    cases hm:dec (r∈acc) with
    | true =>
     rw [hm] at hh
     rw [Qd2 hm] at hstep
     simp (disch:=omega) only [go_sem,Aa,hni0,hni,hr,hh,← hacc,era,err,Cl.noss,Lt.noss,Cl.fus,Lt.fus,hul,Cn,FH]
     refine ⟨i+1,⟨k+1,by omega,hlt⟩,by omega,?_⟩
     simp (disch:=omega) only [go_sem,Aa,hni1,hstep]
    | false =>
     rw [hm] at hh
     rw [Qe5 hm] at hstep
     have hap:acc.map Cl.o++[[OT.ow (r.lits.map Lt.o)]]=(acc++[r]).map Cl.o:=by rw [List.map_append]; rfl
     simp (disch:=omega) only [go_sem,Aa,hni0,hni,hr,hh,← hacc,era,err,Cl.noss,Lt.noss,Cl.fus,Lt.fus,hul,hap,Cn,FH]
     refine ⟨i+1,⟨k+1,by omega,hlt⟩,by omega,?_⟩
     simp (disch:=omega) only [go_sem,Aa,hni1,hstep]
  ·have hke:k=c.lits.length:=by omega
   simp (disch:=omega) only [go_sem,Aa,hni,hke,hz2]
   refine ⟨io+1,⟨ko+1,by omega,hlt0⟩,by omega,?_⟩
   simp (disch:=omega) only [go_sem,Aa,hni10,hke,hz2]
 ·have hke:k=c.lits.length:=by omega
  have hal:Db (H7 c) c.lits.length=Tn c:=rfl
  simp (disch:=omega) only [go_sem,Aa,hni,hke,hal]
def Cl.wt (x:Cl):Nat:=0+Lt.wtS x.lits
theorem Cl.wt_eq (x:Cl):x.wt=0+Lt.wtS x.lits:=rfl
noncomputable def Cl.mk1 (x:Cl) (k:Int):Cl × Int:=((Cl.mk ((Lt.mkS x.lits k).1)),(Lt.mkS x.lits k).2)
theorem Cl.mk1_eq (x:Cl) (k:Int):x.mk1 k=((Cl.mk ((Lt.mkS x.lits k).1)),(Lt.mkS x.lits k).2):=rfl
def Cl.wtS:List Cl→Nat
 | []=>0
 | x :: xs=>Cl.wt x+Cl.wtS xs
noncomputable def Cl.mkS:List Cl→Int→List Cl × Int
 | [],k=>([],k)
 | x :: xs,k=>((Cl.mk1 x k).1 :: (Cl.mkS xs (Cl.mk1 x k).2).1,(Cl.mkS xs (Cl.mk1 x k).2).2)
theorem Cl.mk1_d (x:Cl) (k:Int):Cl.d (x.mk1 k).1=[.arr ((Lt.mkS x.lits k).1.map Lt.d)]:=by
 rw [Cl.mk1_eq,Cl.d_eq]
 try rfl
theorem Cl.mk1_o (x:Cl) (k:Int):Cl.o (x.mk1 k).1=[.ow ((Lt.mkS x.lits k).1.map Lt.o)]:=by
 rw [Cl.mk1_eq,Cl.o_eq]
 try rfl
theorem Cl.mk1_end (x:Cl) (k:Int):(x.mk1 k).2=k+x.wt:=by
 rw [Cl.mk1_eq,Cl.wt_eq]
 first
  |omega
  |(simp only [Lt.mkS_end]; done)
  |(simp only [Lt.mkS_end]; omega)
  |simp
theorem Cl.mkS_end:∀ (xs:List Cl) (k:Int),(Cl.mkS xs k).2=k+Cl.wtS xs
 | [],k=>by simp [Cl.mkS,Cl.wtS]
 | x :: xs,k=>by
  rw [Cl.mkS,Cl.wtS]
  have h1:=Cl.mk1_end x k
  have h2:=Cl.mkS_end xs (x.mk1 k).2
  dsimp only
  omega
theorem Cl.wt_bulk (x:Cl):x.wt≤5*(1+x.bulk):=by
 rw [Cl.wt_eq,Cl.bulk_eq]
 have h0:=Lt.wtS_bulk x.lits
 omega
theorem Cl.wtS_bulk:∀ xs:List Cl,Cl.wtS xs≤5*(xs.length+Cl.sumB xs)
 | []=>by simp [Cl.wtS]
 | x :: xs=>by
  have h1:=Cl.wt_bulk x
  have h2:=Cl.wtS_bulk xs
  rw [Cl.wtS,Cl.sumB]; simp only [List.length_cons]; omega
def HD:SC:=(.seq (.reg [⟨some 4,none,.mv (.c (.int .i64 0))⟩]) (.seq (.seq (.reg [⟨some 5,none,.mv (.c (.int .i64 0))⟩]) (.block 0 (.loop [1,1,0,0,0,1,0,0,0,0,0,0,0,0,0,0,0,0,0,0] (.seq (.seq (.reg [⟨some 6,none,.mv (.t 5)⟩,⟨some 7,none,.mv (.t 0)⟩,⟨some 8,none,.len false (.t 7)⟩,⟨some 9,none,.bin .lss false (.t 6) (.t 8)⟩]) (.cond (.t 9) .skip (.exit 0))) (.seq (.block 1 (.reg [⟨some 12,none,.mv (.t 0)⟩,⟨some 13,none,.mv (.t 5)⟩,⟨some 14,none,.iaddr 1 (.t 12) (.t 13)⟩,⟨some 15,none,.faddr 0 (.t 14)⟩,⟨some 16,none,.load false 1 (.t 15)⟩,⟨some 17,none,.mv (.t 1)⟩,⟨some 18,none,.call 35 [(.t 16),(.t 17)]⟩,⟨some 1,none,.mv (.t 18)⟩])) (.reg [⟨some 10,none,.mv (.t 5)⟩,⟨some 11,none,.bin .add false (.t 10) (.c (.int .i64 1))⟩,⟨some 5,none,.mv (.t 11)⟩])))))) (.seq (.reg [⟨some 19,none,.mv (.t 1)⟩,⟨some 4,none,.mv (.t 19)⟩]) .ret)))
theorem MR:codeOf Tryz.prog 26=some ⟨20,HD,[(.tmp 4)]⟩:=by kernel_rfl
theorem CD:modes 26=⟨[true],.asis,none,true⟩:=by unfold modes; rfl
abbrev Mt (xs:List Cl):Prop:=∀ (k:Int) (ob:List Ob),1≤k→k+Cl.wtS xs+xs.length≤1099511627776→toTree ob=[.tree (xs.map Cl.o) []]→E 26 [.ref 0,.int .i64 k] ob=some (.int .i64 (Cl.mkS xs k).2,[.tree ((Cl.mkS xs k).1.map Cl.o) []])
theorem Ph (xs:List Cl):Mt xs:=by
 intro k0 ob h1 h2 hob
 have hlen:ob.length=1:=by rw [←GU,hob]; rfl
 have hL:=Nat.le_refl 0
 refine Af MR CD (of_decide_eq_true rfl) ?_
 simp (disch:=omega) only [HD,go_sem,Aa,hob,hlen]
 refine go_loop (α:=Int × (Int) × (List Cl)) (fun a=>⟨slots 20 0 [(0,.ref 0),(1,.int .i64 (a.2.1)),(5,.int .i64 (a.1))],[.tree (((a.2.2)++xs.drop (a.1).toNat).map Cl.o) []]⟩) (fun a=>∃ k:Nat,a.1=k∧k≤(xs).length∧(a.2.2).length=k∧1≤(a.2.1)∧(a.2.1)+Cl.wtS (xs.drop k)=k0+Cl.wtS xs∧Cl.mkS xs k0=((a.2.2)++(Cl.mkS (xs.drop k) (a.2.1)).1,(Cl.mkS (xs.drop k) (a.2.1)).2)) (fun a=>(xs).length-(a.1).toNat) (0,k0,[]) ⟨0,rfl,zH _,rfl,h1,by rw [zE],by simp⟩ (by simp (disch:=omega) only [go_sem,Aa,Int.toNat_zero]) ?_
 rintro ⟨i,kk,dn⟩ ⟨k,hi,hk,hR⟩
 dsimp only at hi hR
 have hni:i.toNat=k:=by omega
 have hni1:(i+1).toNat=k+1:=by omega
 rcases zJ k (xs).length with hlt | hge
 ·obtain ⟨hd,hk1,hkn,hm⟩:=hR
  have hdr:xs.drop k=xs[k] :: xs.drop (k+1):=zC hlt
  have hel:(dn++xs.drop k).length=xs.length:=by simp; omega
  have hg:(List.map Cl.o (dn++xs.drop k))[k]?=some [.ow (xs[k].lits.map Lt.o)]:=by
   rw [←Cl.o_eq,hdr,List.getElem?_map,List.getElem?_append_right (by omega),hd,Nat.sub_self]; rfl
  rw [hdr,Cl.wtS] at hkn
  rw [hdr,Cl.mkS] at hm
  have hn1:=Cl.wt_eq xs[k]
  have e0:=Lt.mkS_end xs[k].lits (kk)
  have c0:=La xs[k].lits (kk) [.tree (xs[k].lits.map Lt.o) []] (by omega) (by omega) rfl
  have hs:=KF Cl.o dn (xs.drop (k+1)) xs[k] (xs[k].mk1 kk).1 hd
  rw [Cl.mk1_o,← hdr] at hs
  have hgs:∀ a,((List.map Cl.o (dn++xs.drop k)).set k a)[k]?=some a:=fun a=>List.getElem?_set_self (by rw [List.length_map,hel]; exact hlt)
  have he:=Cl.mk1_end xs[k] kk
  have three:∀ z:Int,dec ((3:Int)=0)=false:=fun _=>Az (by omega)
  simp (disch:=omega) only [go_sem,Aa,hni,hel,hg,c0,Ev,CI,hgs,List.length_set,List.set_set,hs,three 0]
  refine ⟨(i+1,(xs[k].mk1 kk).2,dn++[(xs[k].mk1 kk).1]),⟨k+1,by dsimp only; omega,hlt,by dsimp only; simp [hd],by dsimp only; omega,by dsimp only; omega,by rw [hm]; simp⟩,by dsimp only; omega,?_⟩
  dsimp only
  rw [hni1,Cl.mk1_eq]
  refine ⟨⟨?_,rfl⟩,rfl⟩
  first | rfl | omega
 ·obtain ⟨hd,hk1,hkn,hm⟩:=hR
  have hdr:xs.drop k=[]:=List.drop_eq_nil_of_le hge
  rw [hdr,Cl.mkS] at hm
  rw [hm]
  simp (disch:=omega) only [go_sem,Aa,hni,hdr,List.append_nil]
theorem Tq (xs:List Cl):Mt xs:=Ph xs
def HF:SC:=(.seq (.reg [⟨some 4,none,.mv (.c (.int .i64 0))⟩]) (.seq (.seq (.reg [⟨some 5,none,.mv (.c (.int .i64 0))⟩]) (.block 0 (.loop [1,1,0,0,0,1,0,0,0,0,0,0,0,0,0,0,0,0,0,0,0,0] (.seq (.seq (.reg [⟨some 6,none,.mv (.t 5)⟩,⟨some 7,none,.mv (.t 0)⟩,⟨some 8,none,.len false (.t 7)⟩,⟨some 9,none,.bin .lss false (.t 6) (.t 8)⟩]) (.cond (.t 9) .skip (.exit 0))) (.seq (.block 1 (.seq (.reg [⟨some 12,none,.mv (.t 0)⟩,⟨some 13,none,.mv (.t 5)⟩,⟨some 14,none,.iaddr 1 (.t 12) (.t 13)⟩,⟨some 15,none,.faddr 0 (.t 14)⟩,⟨some 16,none,.load false 1 (.t 15)⟩,⟨some 17,none,.mv (.t 1)⟩,⟨some 18,none,.call 36 [(.t 16),(.t 17)]⟩,⟨some 1,none,.mv (.t 18)⟩]) (.seq (.reg [⟨some 19,none,.mv (.t 1)⟩,⟨some 20,none,.bin .lss false (.t 19) (.c (.int .i64 0))⟩]) (.cond (.t 20) (.seq (.reg [⟨some 4,none,.mv (.c (.int .i64 (-(0+1))))⟩]) .ret) .skip)))) (.reg [⟨some 10,none,.mv (.t 5)⟩,⟨some 11,none,.bin .add false (.t 10) (.c (.int .i64 1))⟩,⟨some 5,none,.mv (.t 11)⟩])))))) (.seq (.reg [⟨some 21,none,.mv (.t 1)⟩,⟨some 4,none,.mv (.t 21)⟩]) .ret)))
theorem MS:codeOf Tryz.prog 27=some ⟨22,HF,[(.tmp 4)]⟩:=by kernel_rfl
theorem CE:modes 27=⟨[],.asis,none,false⟩:=by unfold modes; rfl
theorem Cl.mkS_len:∀ (xs:List Cl) (k:Int),(Cl.mkS xs k).1.length=xs.length
 | [],k=>by rw [Cl.mkS]
 | x :: xs,k=>by rw [Cl.mkS]; simp only [List.length_cons]; rw [Cl.mkS_len xs]
abbrev Mu (xs:List Cl):Prop:=∀ k:Int,1≤k→k+Cl.wtS xs+xs.length≤1099511627776→E 27 [.arr ((Cl.mkS xs k).1.map Cl.d),.int .i64 k] []=some (.int .i64 (Cl.mkS xs k).2,[])
theorem Pi (xs:List Cl):Mu xs:=by
 intro k0 h1 h2
 obtain ⟨ys,hys⟩:∃ ys,ys=(Cl.mkS xs k0).1:=⟨_,rfl⟩
 have hyl:ys.length=xs.length:=by rw [hys,Cl.mkS_len]
 rw [←hys]
 have hL:=Nat.le_refl 0
 refine Af MS CE (of_decide_eq_true rfl) ?_
 simp (disch:=omega) only [HF,go_sem,Aa]
 refine go_loop (α:=Int × (Int)) (fun a=>⟨slots 22 0 [(0,.arr (ys.map Cl.d)),(1,.int .i64 (a.2)),(5,.int .i64 (a.1))],[]⟩) (fun a=>∃ k:Nat,a.1=k∧k≤(ys).length∧1≤(a.2)∧(a.2)+Cl.wtS (xs.drop k)=k0+Cl.wtS xs∧ys.drop k=(Cl.mkS (xs.drop k) (a.2)).1∧(Cl.mkS xs k0).2=(Cl.mkS (xs.drop k) (a.2)).2) (fun a=>(ys).length-(a.1).toNat) (0,k0) ⟨0,rfl,zH _,h1,by rw [zE],by rw [zE,zE,hys],by rw [zE]⟩ (by simp (disch:=omega) only [go_sem,Aa]) ?_
 rintro ⟨i,kk⟩ ⟨k,hi,hk,hR⟩
 dsimp only at hi hR
 have hni:i.toNat=k:=by omega
 have hni1:(i+1).toNat=k+1:=by omega
 rcases zJ k (ys).length with hlt | hge
 ·obtain ⟨hk1,hkn,hy,hm⟩:=hR
  have hlx:k<xs.length:=by omega
  have hdr:xs.drop k=xs[k] :: xs.drop (k+1):=zC hlx
  have hdy:=zC hlt
  rw [hdr,Cl.wtS] at hkn
  rw [hdr,Cl.mkS] at hm
  rw [hdr,Cl.mkS,hdy] at hy
  dsimp only at hy hm
  obtain ⟨hy1,hy2⟩:=List.cons.inj hy
  have hg:=get_at Cl.d hlt
  rw [hy1,Cl.mk1_d] at hg
  have hn1:=Cl.wt_eq xs[k]
  have e0:=Lt.mkS_end xs[k].lits (kk)
  have c0:=Sc xs[k].lits (kk) (by omega) (by omega)
  have he:=Cl.mk1_end xs[k] kk
  simp (disch:=omega) only [go_sem,Aa,hni,hg,CI,Di,c0,G8]
  refine ⟨(i+1,(xs[k].mk1 kk).2),⟨k+1,by dsimp only; omega,hlt,by dsimp only; omega,by dsimp only; omega,hy2,hm⟩,by dsimp only; omega,?_⟩
  dsimp only
  rw [Cl.mk1_eq]
  simp only [and_self,and_true,true_and]
  try omega
 ·obtain ⟨hk1,hkn,hy,hm⟩:=hR
  have hdr:xs.drop k=[]:=List.drop_eq_nil_of_le (by omega)
  rw [hdr,Cl.mkS] at hm
  rw [hm]
  simp (disch:=omega) only [go_sem,Aa,hni]
theorem Tr (xs:List Cl):Mu xs:=Pi xs
def DK:SC:=(.seq (.reg [⟨some 1,none,.boxv 24 1 (.t 0)⟩,⟨some 2,none,.mv (.c (.bool false))⟩]) (.seq (.reg [⟨some 3,none,.mv (.c (.int .i64 1048576))⟩]) (.seq (.reg [⟨some 14,none,.load true 1 (.t 1)⟩,⟨some 15,none,.mv (.t 3)⟩,⟨some 16,none,.call 8 [(.t 14),(.t 15)]⟩,⟨some 3,none,.mv (.t 16)⟩]) (.seq (.seq (.reg [⟨some 17,none,.mv (.t 3)⟩,⟨some 18,none,.bin .lss false (.t 17) (.c (.int .i64 0))⟩]) (.cond (.t 18) (.seq (.reg [⟨some 2,none,.mv (.c (.bool true))⟩]) .ret) .skip)) (.seq (.reg [⟨some 20,none,.load true 1 (.t 1)⟩,⟨some 21,none,.call 10 [(.t 20)]⟩,⟨some 22,none,.call 24 [(.t 21)]⟩,⟨some 19,none,.mv (.t 22)⟩,⟨some 23,none,.ext (.t 19) 0⟩,⟨some 24,none,.ext (.t 19) 1⟩,⟨some 4,none,.mv (.t 23)⟩,⟨some 5,none,.mv (.t 24)⟩]) (.seq (.reg [⟨some 25,none,.load true 1 (.t 1)⟩,⟨some 26,none,.call 10 [(.t 25)]⟩,⟨some 6,none,.alloc 28 [.nil]⟩,⟨none,none,(.store 1 (.t 6) (.t 26))⟩]) (.seq (.reg [⟨some 28,none,.load true 1 (.t 6)⟩,⟨some 29,none,.call 25 [(.t 28)]⟩,⟨some 27,none,.mv (.t 29)⟩,⟨some 30,none,.ext (.t 27) 0⟩,⟨some 31,none,.ext (.t 27) 1⟩,⟨some 7,none,.mv (.t 30)⟩,⟨some 8,none,.mv (.t 31)⟩]) (.seq (.seq (.reg [⟨some 32,none,.mv (.t 7)⟩,⟨some 33,none,.mv (.t 4)⟩,⟨some 34,none,.call 19 [(.t 32),(.t 33)]⟩,⟨some 35,none,.un .not (.t 34)⟩,⟨some 36,none,.mv (.t 35)⟩,⟨(some 37),(some (36,false)),(.mv (.t 8))⟩,⟨(some 38),(some (36,false)),(.mv (.t 5))⟩,⟨(some 39),(some (36,false)),(.bin .neq true (.t 37) (.t 38))⟩,⟨some 40,none,.pick (.t 36) (.c (.bool true)) (.t 39)⟩]) (.cond (.t 40) (.seq (.reg [⟨some 2,none,.mv (.c (.bool false))⟩]) .ret) .skip)) (.seq (.seq (.dreg [[],[],[1],[0,2,1],[3,0,2,1]] [⟨some 41,none,.load true 1 (.t 6)⟩,⟨some 42,none,.load true 1 (.t 1)⟩,⟨some 43,none,.call 10 [(.t 42)]⟩,⟨some 44,none,.call 12 [(.t 41),(.t 43)]⟩,⟨some 45,none,.un .not (.t 44)⟩]) (.cond (.t 45) (.seq (.reg [⟨some 2,none,.mv (.c (.bool false))⟩]) .ret) .skip)) (.seq (.reg [⟨some 9,none,.mv (.c (.int .i64 1))⟩]) (.seq (.reg [⟨some 46,none,.load true 1 (.t 6)⟩,⟨some 47,none,.mv (.t 9)⟩,⟨some 48,none,.call 13 [(.t 46),(.t 47)]⟩,⟨some 9,none,.mv (.t 48)⟩]) (.seq (.seq (.reg [⟨some 49,none,.mv (.t 9)⟩,⟨some 50,none,.bin .lss false (.t 49) (.c (.int .i64 0))⟩,⟨some 51,none,.mv (.t 50)⟩,⟨(some 52),(some (51,false)),(.mv (.t 7))⟩,⟨(some 53),(some (51,false)),(.mv (.t 4))⟩,⟨(some 54),(some (51,false)),(.call 19 [(.t 52),(.t 53)])⟩,⟨(some 55),(some (51,false)),(.un .not (.t 54))⟩,⟨some 56,none,.pick (.t 51) (.c (.bool true)) (.t 55)⟩,⟨some 57,none,.mv (.t 56)⟩,⟨(some 58),(some (57,false)),(.mv (.t 8))⟩,⟨(some 59),(some (57,false)),(.mv (.t 5))⟩,⟨(some 60),(some (57,false)),(.bin .neq true (.t 58) (.t 59))⟩,⟨some 61,none,.pick (.t 57) (.c (.bool true)) (.t 60)⟩]) (.cond (.t 61) (.seq (.reg [⟨some 2,none,.mv (.c (.bool false))⟩]) .ret) .skip)) (.seq (.reg [⟨some 10,none,.mv (.c (.int .i64 1))⟩]) (.seq (.reg [⟨some 62,none,.mv (.t 7)⟩,⟨some 63,none,.mv (.t 10)⟩,⟨some 64,none,.call 26 [(.t 62),(.t 63)]⟩,⟨some 10,none,.mv (.t 64)⟩]) (.seq (.reg [⟨some 11,none,.mv (.c (.int .i64 1))⟩]) (.seq (.reg [⟨some 65,none,.mv (.t 7)⟩,⟨some 66,none,.mv (.t 11)⟩,⟨some 67,none,.call 27 [(.t 65),(.t 66)]⟩,⟨some 11,none,.mv (.t 67)⟩]) (.seq (.seq (.reg [⟨some 68,none,.mv (.t 11)⟩,⟨some 69,none,.bin .lss false (.t 68) (.c (.int .i64 0))⟩]) (.cond (.t 69) (.seq (.reg [⟨some 2,none,.mv (.c (.bool false))⟩]) .ret) .skip)) (.seq (.seq (.reg [⟨some 70,none,.mv (.t 11)⟩,⟨some 71,none,.mv (.t 10)⟩,⟨some 72,none,.bin .neq false (.t 70) (.t 71)⟩]) (.cond (.t 72) (.seq (.reg [⟨some 2,none,.mv (.c (.bool false))⟩]) .ret) .skip)) (.seq (.reg [⟨some 74,none,.load true 1 (.t 1)⟩,⟨some 75,none,.call 10 [(.t 74)]⟩,⟨some 76,none,.call 25 [(.t 75)]⟩,⟨some 73,none,.mv (.t 76)⟩,⟨some 77,none,.ext (.t 73) 0⟩,⟨some 78,none,.ext (.t 73) 1⟩,⟨some 12,none,.mv (.t 77)⟩,⟨some 13,none,.mv (.t 78)⟩]) (.seq (.seq (.reg [⟨some 79,none,.mv (.t 12)⟩,⟨some 80,none,.mv (.t 4)⟩,⟨some 81,none,.call 19 [(.t 79),(.t 80)]⟩,⟨some 82,none,.un .not (.t 81)⟩,⟨some 83,none,.mv (.t 82)⟩,⟨(some 84),(some (83,false)),(.mv (.t 13))⟩,⟨(some 85),(some (83,false)),(.mv (.t 5))⟩,⟨(some 86),(some (83,false)),(.bin .neq true (.t 84) (.t 85))⟩,⟨some 87,none,.pick (.t 83) (.c (.bool true)) (.t 86)⟩]) (.cond (.t 87) (.seq (.reg [⟨some 2,none,.mv (.c (.bool false))⟩]) .ret) .skip)) (.seq (.reg [⟨some 11,none,.mv (.c (.int .i64 1))⟩]) (.seq (.reg [⟨some 88,none,.mv (.t 7)⟩,⟨some 89,none,.mv (.t 11)⟩,⟨some 90,none,.call 27 [(.t 88),(.t 89)]⟩,⟨some 11,none,.mv (.t 90)⟩]) (.seq (.seq (.reg [⟨some 91,none,.mv (.t 11)⟩,⟨some 92,none,.bin .lss false (.t 91) (.c (.int .i64 0))⟩]) (.cond (.t 92) (.seq (.reg [⟨some 2,none,.mv (.c (.bool false))⟩]) .ret) .skip)) (.seq (.seq (.reg [⟨some 93,none,.mv (.t 11)⟩,⟨some 94,none,.mv (.t 10)⟩,⟨some 95,none,.bin .neq false (.t 93) (.t 94)⟩]) (.cond (.t 95) (.seq (.reg [⟨some 2,none,.mv (.c (.bool false))⟩]) .ret) .skip)) (.seq (.reg [⟨some 2,none,.mv (.c (.bool true))⟩]) .ret)))))))))))))))))))))))))
theorem Fy:codeOf Tryz.prog 7=some ⟨96,DK,[(.tmp 2)]⟩:=by kernel_rfl
theorem Fz:modes 7=⟨[],.asis,none,false⟩:=by unfold modes; rfl
theorem QbL (c:Cl):(VE c).length+Cl.sumB (VE c)≤1048576:=by
 cases h:c.ok&&c.norm with
 | false=>rw [Qd0 h]; simp [Cl.sumB]
 | true =>
  rw [ZA h]
  rw [Bool.and_eq_true] at h
  have h1:=QaL (XZ h.1)
  have h2:=Cl.QaJ (Fu [] (Tn c)) (S7 fun x hx=>S5 hx)
  omega
theorem Qe7 (x:Cl) (hfx:D.fits x.d):E 7 [x.sv] []=some (.bool true,[]):=by
 have s0:=Z2 x hfx 1048576 (by omega) (by omega)
 have q0:=BJ 1048576 x.bulk
 obtain ⟨l0,hl0⟩:∃ l,l=szR 1048576 (x.bulk:Nat):=⟨_,rfl⟩
 rw [←hl0] at s0 q0
 rcases Int.lt_or_le l0 0 with h0 | h0_0
 ·refine Af Fy Fz (of_decide_eq_true rfl) ?_
  simp (disch:=omega) only [DK,go_sem,Aa,s0,CL]
 have hb_x:x.bulk≤1048576:=by omega
 have t_x:=Z3 x hb_x
 have htx:=Cl.Qdp x hb_x
 have a1:=To x htx
 have a2:=Tp x htx
 have hb_r:=QbL x
 obtain ⟨r,hr_r⟩:∃ r,r=VE x:=⟨_,rfl⟩
 rw [←hr_r] at a1 a2 hb_r
 obtain ⟨o,hr_o⟩:∃ r,r=(x.ok&&x.norm):=⟨_,rfl⟩
 rw [←hr_o] at a1 a2
 have eq_x:=Sm x (by omega)
 have be_x:=Cl.bulk_eq x
 have w_x_lits:=Lt.wtS_bulk x.lits
 have eq_r:=X7 r (by omega)
 have w_r:=Cl.wtS_bulk r
 have k_x_0:=Lt.mkS_end x.lits (1)
 have m_x:=Vz x (1) (.row 73 3 (x.lits.map Lt.o)) (by omega) (by omega) rfl
 obtain ⟨n_x,hn_x⟩:∃ n1,n1=(x.mkr (1)).2:=⟨_,rfl⟩
 have hn'_x:n_x=(Lt.mkS x.lits (1)).2:=hn_x
 rw [←hn_x] at m_x
 have k_r:=Cl.mkS_end r (1)
 have m_r:=Tq r (1) [.row 28 1 (r.map Cl.o)] (by omega) (by omega) rfl
 have hd_r:=Tr r (1) (by omega) (by omega)
 obtain ⟨n_r,hn_r⟩:∃ n1,n1=(Cl.mkS r (1)).2:=⟨_,rfl⟩
 rw [←hn_r] at k_r m_r hd_r
 refine Af Fy Fz (of_decide_eq_true rfl) ?_
 simp (disch:=omega) only [DK,go_sem,s0,t_x,a1,a2,eq_x,eq_r,m_x,hd_r,m_r,Di,CL,DD,CM,Dm,CQ,CE,CD,Do,Dp,Cl.osv,Cl.obs,Lt.osv,Lt.obs,Tm.osv,Tm.obs,Lt.erss,Lt.noss,Cl.erss,Cl.noss]
 repeat ((first | (refine Qc6 ?_ ?_; (focus (simp (disch:=omega) only [go_sem,s0,t_x,a1,a2,eq_x,eq_r,m_x,hd_r,m_r,Di,CL,DD,CM,Dm,CQ,CE,CD,Do,Dp,Cl.osv,Cl.obs,Lt.osv,Lt.obs,Tm.osv,Tm.obs,Lt.erss,Lt.noss,Cl.erss,Cl.noss]; done))) | (refine Qc7 ?_ ?_; (focus (simp (disch:=omega) only [go_sem,s0,t_x,a1,a2,eq_x,eq_r,m_x,hd_r,m_r,Di,CL,DD,CM,Dm,CQ,CE,CD,Do,Dp,Cl.osv,Cl.obs,Lt.osv,Lt.obs,Tm.osv,Tm.obs,Lt.erss,Lt.noss,Cl.erss,Cl.noss]; done)))); (try simp (disch:=omega) only [go_sem,s0,t_x,a1,a2,eq_x,eq_r,m_x,hd_r,m_r,Di,CL,DD,CM,Dm,CQ,CE,CD,Do,Dp,Cl.osv,Cl.obs,Lt.osv,Lt.obs,Tm.osv,Tm.obs,Lt.erss,Lt.noss,Cl.erss,Cl.noss]))
end Go.Proofs.YtibdknkacmimgaaGreatDoor
set_option maxRecDepth 100000
set_option linter.unusedSimpArgs false
set_option linter.unusedVariables false
set_option linter.unusedSectionVars false
namespace Go.Proofs.YtibdknkacmimgaaGreatDoor
open Go.RowKit Go.ChangeShapes Go.WideShapes Go.ChangeAt Go.Deep
section
variable {H:Type} {enc:TypeId × Value→H} {P:Program} {w:World} {base:Nat} {spare:Nat→Bool} {held:Bool}
theorem Lz {b o k:Nat}:(⟨b,o,none⟩:Addr).add k=⟨b,o+k,none⟩:=by
 unfold Addr.add; split
 ·subst_vars; rfl
 ·rfl
theorem Qe8 {a:Addr} {v:Value} (h:w.cell? a=some v):a.block<w.heap.size:=by
 unfold World.cell? at h
 cases hb:w.heap[a.block]? with
 | none=>rw [hb] at h; cases h
 | some o=>exact (zG.1 hb).1
end
section
variable {H:Type} {enc:TypeId × Value→H} {w:World} {base:Nat} {spare:Nat→Bool} {held:Bool}
end
end Go.Proofs.YtibdknkacmimgaaGreatDoor
set_option maxRecDepth 100000
set_option linter.unusedSimpArgs false
set_option linter.unusedVariables false
set_option linter.unusedSectionVars false
namespace Go.Proofs.YtibdknkacmimgaaGreatDoor
open Go.RowKit Go.ChangeShapes Go.WideShapes Go.ChangeAt Go.Deep
section
variable {H:Type} {enc:TypeId × Value→H} {P:Program} {w:World} {base:Nat} {spare:Nat→Bool} {held:Bool}
theorem Yb {t e:TypeId} {fuel:Nat} {v:Value} {x:DataW H × List MemPlace} (sz:Nat) (hsz:P.cellsOf e=sz) (h0:0<sz) (ht:P.underlying t=some (.slice e)) (h:DataW.trod enc P w base spare held fuel t [v]=some x) :
  ∃ (a:Option Addr) (len cap:Nat) (f:Nat→Nat→Value),v=.slice a len cap∧len≤cap∧cap≤9223372036854775807∧SlA w 0 sz len f a ∧
   ∀ i,i<len→∃ n x',n<fuel∧DataW.trod enc P w base spare held n e ((zF sz).map (f i))=some x':=by
 rcases DataW.trod_slice ht h with ⟨hcs,_⟩ | ⟨a,len,cap,elems,rest,n,hf,hcs,hx,hb,hl,hm,hlen,hel,_,_⟩
 ·simp only [List.cons.injEq,and_true] at hcs
  exact ⟨none,0,0,fun _ _=>undef,hcs,Nat.le_refl _,by omega,.inl rfl,fun i hi=>absurd hi (by omega)⟩
 ·have hi:∀ i,i<len→∃ cs' x',w.cells? base (a.add (i*sz)) sz=some cs'∧DataW.trod enc P w base spare held n e cs'=some x':=by
   intro i hi
   have h1:=hel i hi
   rw [hsz,zA (by omega)] at h1
   obtain ⟨cs',h2,h3⟩:=Option.bind_eq_some_iff.1 h1
   exact ⟨cs',_,h2,h3⟩
  have hcell:∀ i j,i<len→j<sz→∃ v,w.cell? (a.add (i*sz+j))=some v:=by
   intro i j hil hj
   obtain ⟨cs',x',hc,_⟩:=hi i hil
   obtain ⟨_,hcl,hat⟩:=World.cells?_some hc
   have h1:=hat j hj
   rw [Go.Deep.add_add,zA (by omega)] at h1
   exact ⟨_,h1⟩
  simp only [List.cons.injEq,and_true] at hcs
  refine ⟨some a,len,cap,fun i j=>(w.cell? (a.add (i*sz+j))).getD undef,hcs,hl,hm,?_,?_⟩
  ·rcases Nat.eq_zero_or_pos len with h | h
   ·exact .inl h
   ·obtain ⟨v,hv⟩:=hcell 0 0 h h0
    rw [Nat.zero_mul,Nat.zero_add] at hv
    have hsp:a.spot=none:=by simpa [Addr.add] using World.cell?_spot hv
    have hlt:=Qe8 hv
    obtain ⟨b,off,spot⟩:=a
    simp only at hsp
    subst hsp
    refine .inr ⟨b,off,rfl,zH _,by simpa [Addr.add] using hlt,fun i j hil hj=>?_⟩
    obtain ⟨v',hv'⟩:=hcell i j hil hj
    rw [Lz] at hv'
    show _=some ((w.cell? ((⟨b,off,none⟩:Addr).add (i*sz+j))).getD undef)
    rw [Lz,Nat.add_assoc,hv']
    rfl
  ·intro i hil
   obtain ⟨cs',x',hc,ht'⟩:=hi i hil
   obtain ⟨_,hcl,hat⟩:=World.cells?_some hc
   refine ⟨n,x',by omega,?_⟩
   have hcs':(zF sz).map (fun j=>(w.cell? (a.add (i*sz+j))).getD undef)=cs':=by
    apply List.ext_getElem?
    intro j
    by_cases hj:j<sz
    ·rw [List.getElem?_map,List.getElem?_range hj]
     have h1:=hat j hj
     rw [Go.Deep.add_add] at h1
     rw [zA (by omega:j<cs'.length)] at h1 ⊢
     simp [h1]
    ·rw [List.getElem?_eq_none (by simp; omega),List.getElem?_eq_none (by omega)]
   rw [hcs']
   exact ht'
theorem SA {t:TypeId} {fs:Array Field} {fuel:Nat} {cs:List Value} {x:DataW H × List MemPlace} (ht:P.underlying t=some (.struct fs)) (h:DataW.trod enc P w base spare held fuel t cs=some x) :
  ∃ n,n<fuel∧cs.length=P.cellsOf t∧∀ (i:Nat) (f:Field),fs[i]?=some f→∃ y,DataW.trod enc P w base spare held n f.type ((cs.drop f.offset).take (P.cellsOf f.type))=some y:=by
 obtain ⟨xs,n,hn,hx,hlen,hxl,hf⟩:=DataW.trod_struct ht h
 refine ⟨n,by omega,hlen,fun i f hi=>?_⟩
 have hil:i<fs.size:=(zG.1 hi).1
 have h1:=hf i f hi
 rw [zA (by omega:i<xs.length)] at h1
 exact ⟨_,h1⟩
end
inductive Lvs (w:World):List D→List Value→Prop
 |nil:Lvs w [] []
 |cons {d:D} {v:Value} {ds:List D} {vs:List Value} (h:DAt w d v) (hs:Lvs w ds vs):Lvs w (d :: ds) (v :: vs)
theorem Lvs.len {w:World} {ds:List D} {vs:List Value} (h:Lvs w ds vs):ds.length=vs.length:=by
 induction h with
 | nil=>rfl
 | cons h hs ih=>simp [ih]
theorem Lvs.get {w:World} {ds:List D} {vs:List Value} (h:Lvs w ds vs):∀ j (h1:j<ds.length) (h2:j<vs.length),DAt w ds[j] vs[j]:=by
 induction h with
 | nil=>intro j h1; simp at h1
 | cons h hs ih =>
  intro j h1 h2
  cases j with
  | zero=>exact h
  | succ j=>exact ih j (by simpa using h1) (by simpa using h2)
theorem Yc {α:Type} [Inhabited α] (dd:α→List D) {w:World} {m len cap:Nat} {f:Nat→Nat→Value} {a:Option Addr} (hl:len≤cap) (hm:cap≤9223372036854775807) (hS:SlA w 0 m len f a)
  (hel:∀ i,i<len→∃ X:α,Lvs w (dd X) ((zF m).map (f i))):∃ xs:List α,DAt w (.arr (xs.map dd)) (.slice a len cap):=by
 obtain ⟨g,hg⟩:∃ g:Nat→α,∀ i,i<len→Lvs w (dd (g i)) ((zF m).map (f i)) :=
  ⟨fun i=>if h:i<len then (hel i h).choose else default,fun i hi=>by simp only [hi,dif_pos]; exact (hel i hi).choose_spec⟩
 refine ⟨(zF len).map g,?_⟩
 have hlen:(((zF len).map g).map dd).length=len:=by simp
 have:=DAt.QeH (w:=w) (es:=((zF len).map g).map dd) (sz:=m) (cap:=cap) (a:=a) (f:=f) (by rw [hlen]; exact hl) hm (by rw [hlen]; exact hS) (fun i hi=>by
  rw [hlen] at hi
  have:=(hg i hi).len
  simpa using this) (fun i j hi hj=>by
  rw [hlen] at hi
  have h1:=hg i hi
  have h2:=h1.len
  simp only [List.length_map,List.length_range] at h2
  simp only [List.getElem_map,List.getElem_range] at hj ⊢
  have:=h1.get j hj (by simp; omega)
  simpa using this)
 rw [hlen] at this
 exact this
instance:Inhabited Tm:=⟨Tm.zero⟩
instance:Inhabited Fm:=⟨Fm.zero⟩
section
variable {H:Type} {enc:TypeId × Value→H} {w:World} {base:Nat} {spare:Nat→Bool} {held:Bool}
end
end Go.Proofs.YtibdknkacmimgaaGreatDoor
set_option maxRecDepth 100000
set_option linter.unusedSimpArgs false
set_option linter.unusedVariables false
set_option linter.unusedSectionVars false
namespace Go.Proofs.YtibdknkacmimgaaGreatDoor
open Go.RowKit
theorem DRep.lt_ {own:Bool} {w:World} {S:Nat→Prop} {d:D} {v:Value} (h:DRep own w S d v):DRep own w (fun b=>S b∧b<w.heap.size) d v:=by
 induction h with
 | int S n=>exact .int _ n
 | bool S b=>exact .bool _ b
 | str S s h=>exact .str _ s h
 | arr S sz es a cap f Sub h1 h2 h3 h4 h5 h6 h7 ih =>
  refine .arr _ sz es a cap f (fun i j x=>Sub i j x∧x<w.heap.size) h1 h2 ?_ h4 (fun i j x h=>⟨h5 i j x h.1,h.2⟩) (fun ho i j i' j' x h h'=>h6 ho i j i' j' x h.1 h'.1) ih
  rcases h3 with h3 | ⟨b,off,ha,hS,hl,hc,ho⟩
  ·exact .inl h3
  ·exact .inr ⟨b,off,ha,⟨hS,hl⟩,hl,hc,fun h=>⟨fun i j hx=>(ho h).1 i j hx.1,(ho h).2⟩⟩
theorem Fun.yes {f:FuncId} {args:List SV} (h:Fun Tryz.prog f args [] (.bool true) []) {w:World} {vs:List Value} (hgl:GL w fun b=>b<w.heap.size) (hvs:RepVs w (fun b=>b<w.heap.size) (fun _=>none) args vs):Calls Tryz.prog f vs.toArray w (Ret w (.bool true)):=by
 have nl:∀ g,¬ (Ao [] g).live:=fun g hg=>by simp [Ao,Ob.live] at hg
 refine (h w (fun b=>b<w.heap.size) (fun _=>none) (fun _ _=>False) vs ⟨fun b hb=>hb,fun g hg=>absurd hg (nl g),fun g b hg=>absurd hg (nl g),fun g b hg=>absurd hg (nl g),fun g g' b hg=>absurd hg (nl g),fun g _=>rfl,hgl⟩ hvs).mono ?_
 rintro e w' ⟨v,I',V',B',rfl,hr,hp⟩
 simp only [RepV] at hr
 subst hr
 exact ⟨rfl,hp.fr.os,hp.fr.tape.1,hp.fr.output,hp.fr.size,fun b hb=>hp.fr.block b hb fun ⟨g,hg,_⟩=>absurd hg (nl g)⟩
theorem Yd {w:World} {d:D} {ds:List D} {v:Value} {vs:List Value} (h:Lvs w (d :: ds) (v :: vs)):DAt w d v∧Lvs w ds vs:=by
 cases h with
 | cons h1 h2=>exact ⟨h1,h2⟩
theorem DAt.rep_sv {w:World} {d:D} {v:Value} (h:DAt w d v):RepV w (fun b=>b<w.heap.size) (fun _=>none) d.sv v :=
 D.rep_sv ((DRep.lt_ h).up fun b hb=>hb.2)
theorem Lvs.reps {w:World} {ds:List D} {vs:List Value} (h:Lvs w ds vs):RepVs w (fun b=>b<w.heap.size) (fun _=>none) (ds.map D.sv) vs:=by
 induction h with
 | nil=>simp [RepVs]
 | cons h hs ih=>simp only [List.map_cons,RepVs]; exact ⟨_,_,rfl,h.rep_sv,ih⟩
theorem Lvs.agg {w:World} {ds:List D} {vs:List Value} (h:Lvs w ds vs):RepV w (fun b=>b<w.heap.size) (fun _=>none) (.agg (ds.map D.sv)) (.agg vs.toArray):=by
 simp only [RepV]; exact ⟨vs,rfl,h.reps⟩
theorem Lvs.fits {w:World} {ds:List D} {vs:List Value} (h:Lvs w ds vs):D.fits ds:=by
 induction h with
 | nil=>trivial
 | cons h hs ih=>exact ⟨DRep.fit h,ih⟩
theorem Qd7 {w:World} {I:Nat→Prop} {V:Nat→Option Value}:RepVs w I V [] []:=by simp [RepVs]
theorem QbM {w:World} {I:Nat→Prop} {V:Nat→Option Value} {x:SV} {xs:List SV} {v:Value} {vs:List Value} (h:RepV w I V x v) (hs:RepVs w I V xs vs):RepVs w I V (x :: xs) (v :: vs):=by
 simp only [RepVs]; exact ⟨v,vs,rfl,h,hs⟩
instance:Inhabited Lt:=⟨Lt.zero⟩
instance:Inhabited Cl:=⟨Cl.zero⟩
section
variable {H:Type} {enc:TypeId × Value→H} {w:World} {base:Nat} {spare:Nat→Bool} {held:Bool}
theorem PE {fuel:Nat} (ih:∀ n,n<fuel→∀ v x,DataW.trod enc Tryz.prog w base spare held n 63 [v]=some x→∃ xs:List Tm,DAt w (.arr (xs.map Tm.d)) v) {cs:List Value} {x:DataW H × List MemPlace} (h:DataW.trod enc Tryz.prog w base spare held fuel 65 cs=some x):∃ X:Tm,Lvs w X.d cs:=by
 obtain ⟨n,hn,hlen,hf⟩:=SA Tryz.underlying65 h
 rw [show Tryz.prog.cellsOf 65=2 by kernel_rfl] at hlen
 match cs,hlen with
 | [c0,c1],_ =>
  obtain ⟨y0,k0⟩:=hf 0 _ rfl
  have e0:(([c0,c1].drop 0).take (Tryz.prog.cellsOf 9))=[c0]:=by rw [show Tryz.prog.cellsOf 9=1 by kernel_rfl]; rfl
  obtain ⟨z0,q0,_,s0⟩:=DataW.trod_string Tryz.underlying9 k0
  have q0':c0=.string z0:=by
   have:[c0]=[.string z0]:=by rw [←e0]; exact q0
   simpa using this
  obtain ⟨y1,k1⟩:=hf 1 _ rfl
  have e1:(([c0,c1].drop 1).take (Tryz.prog.cellsOf 63))=[c1]:=by rw [show Tryz.prog.cellsOf 63=1 by kernel_rfl]; rfl
  have k1':DataW.trod enc Tryz.prog w base spare held n 63 [c1]=some y1:=by rw [←e1]; exact k1
  obtain ⟨z1,g1⟩:=ih n hn c1 y1 k1'
  subst q0'
  exact ⟨.mk z0 z1,by rw [Tm.d_eq]; exact (.cons (.str _ z0 s0) (.cons g1 .nil))⟩
theorem Ts:∀ (fuel:Nat) (v:Value) (x:DataW H × List MemPlace),DataW.trod enc Tryz.prog w base spare held fuel 63 [v]=some x→∃ xs:List Tm,DAt w (.arr (xs.map Tm.d)) v:=by
 intro fuel
 induction fuel using Nat.strongRecOn with
 | _ fuel ih =>
  intro v x h
  obtain ⟨a,len,cap,f,rfl,hl,hm,hS,hr⟩:=Yb (P:=Tryz.prog) 2 (by kernel_rfl) (by omega) Tryz.underlying63 h
  exact Yc Tm.d hl hm hS fun i hi=>by
   obtain ⟨n,x',hn,h1⟩:=hr i hi
   exact PE (fun n' hn'=>ih n' (by omega)) h1
theorem Qd8 {fuel:Nat} {cs:List Value} {x:DataW H × List MemPlace} (h:DataW.trod enc Tryz.prog w base spare held fuel 65 cs=some x):∃ X:Tm,Lvs w X.d cs :=
 PE (fun n _=>Ts n) h
theorem Ye {fuel:Nat} {cs:List Value} {x:DataW H × List MemPlace} (h:DataW.trod enc Tryz.prog w base spare held fuel 67 cs=some x):∃ X:Lt,Lvs w X.d cs:=by
 obtain ⟨n,hn,hlen,hf⟩:=SA Tryz.underlying67 h
 rw [show Tryz.prog.cellsOf 67=3 by kernel_rfl] at hlen
 match cs,hlen with
 | [c0,c1,c2],_ =>
  obtain ⟨y0,k0⟩:=hf 0 _ rfl
  have e0:(([c0,c1,c2].drop 0).take (Tryz.prog.cellsOf 4))=[c0]:=by rw [show Tryz.prog.cellsOf 4=1 by kernel_rfl]; rfl
  obtain ⟨z0,q0,_⟩:=DataW.trod_bool Tryz.underlying4 k0
  have q0':c0=.bool z0:=by
   have:[c0]=[.bool z0]:=by rw [←e0]; exact q0
   simpa using this
  obtain ⟨y1,k1⟩:=hf 1 _ rfl
  have e1:(([c0,c1,c2].drop 1).take (Tryz.prog.cellsOf 65))=[c1,c2]:=by rw [show Tryz.prog.cellsOf 65=2 by kernel_rfl]; rfl
  have k1':DataW.trod enc Tryz.prog w base spare held n 65 [c1,c2]=some y1:=by rw [←e1]; exact k1
  obtain ⟨z1,g1⟩:=Qd8 k1'
  rw [Tm.d_eq] at g1
  obtain ⟨g1_0,g1⟩:=Yd g1
  obtain ⟨g1_1,g1⟩:=Yd g1
  subst q0'
  exact ⟨⟨z0,z1⟩,by rw [Lt.d_eq]; exact (.cons (.bool _ z0) (.cons g1_0 (.cons g1_1 .nil)))⟩
theorem VH {fuel:Nat} {v:Value} {x:DataW H × List MemPlace} (h:DataW.trod enc Tryz.prog w base spare held fuel 22 [v]=some x):∃ xs:List Lt,DAt w (.arr (xs.map Lt.d)) v:=by
 obtain ⟨a,len,cap,f,rfl,hl,hm,hS,hr⟩:=Yb (P:=Tryz.prog) 3 (by kernel_rfl) (by omega) Tryz.underlying22 h
 exact Yc Lt.d hl hm hS fun i hi=>by
  obtain ⟨n,x',hn,h1⟩:=hr i hi
  exact Ye h1
theorem ZE {fuel:Nat} {cs:List Value} {x:DataW H × List MemPlace} (h:DataW.trod enc Tryz.prog w base spare held fuel 24 cs=some x):∃ X:Cl,Lvs w X.d cs:=by
 obtain ⟨n,hn,hlen,hf⟩:=SA Tryz.underlying24 h
 rw [show Tryz.prog.cellsOf 24=1 by kernel_rfl] at hlen
 match cs,hlen with
 | [c0],_ =>
  obtain ⟨y0,k0⟩:=hf 0 _ rfl
  have e0:(([c0].drop 0).take (Tryz.prog.cellsOf 22))=[c0]:=by rw [show Tryz.prog.cellsOf 22=1 by kernel_rfl]; rfl
  have k0':DataW.trod enc Tryz.prog w base spare held n 22 [c0]=some y0:=by rw [←e0]; exact k0
  obtain ⟨z0,g0⟩:=VH k0'
  exact ⟨⟨z0⟩,by rw [Cl.d_eq]; exact (.cons g0 .nil)⟩
end
end Go.Proofs.YtibdknkacmimgaaGreatDoor
