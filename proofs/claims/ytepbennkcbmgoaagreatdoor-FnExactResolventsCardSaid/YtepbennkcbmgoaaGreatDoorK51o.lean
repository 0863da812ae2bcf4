/-
  This text holds, one behind the other: This text tells what unifying answers in the program. No condition.
  This text tells what factors answer in the program. No condition.
  This text tells what resolvents and factors answer in the program. No condition.
  This text tells what all factors and all resolvents answer in the program. No condition.
  This text tells what the laws' marks of lists of clauses answer. No condition.
  This text tells what the law of Resolvents answers. No condition.
  This text opens arguments: slices of integers, of structs, of tables: what is read as data lies in memory as our words say. No condition.
  This text opens arguments: what is read as data, terms and formulas, lies in memory as our words say. No condition.
  This text turns a function's answer into a walk of the kit's form, and opens arguments that are clauses. No condition.
-/
import Derived.Test.YtepbennkcbmgoaaGreatDoorK51b
import Derived.Test.YtepbennkcbmgoaaGreatDoorK51c
import Derived.Test.YtepbennkcbmgoaaGreatDoorK51e
import Derived.Test.YtepbennkcbmgoaaGreatDoorK51j
import Derived.Test.YtepbennkcbmgoaaGreatDoorK51k
import Derived.Test.YtepbennkcbmgoaaGreatDoorK51l
import Derived.Test.YtepbennkcbmgoaaGreatDoorK51m
import Derived.Test.YtepbennkcbmgoaaGreatDoorK51n
import Derived.ProofKit
import Derived.Deep.Slices
import Derived.Deep.Fields
import Derived.ChangeSame
import Derived.OpenShut
import Derived.ShutString
import Derived.ChangeOld
set_option maxHeartbeats 16000000
open List renaming getElem?_eq_getElem → zA, drop_eq_getElem_cons → zB, drop_zero → zD, range → zF, map_nil → zG
open Option renaming isSome_some → zC
open Bool renaming and_eq_true → zE
open Array renaming getElem?_eq_some_iff → zH
open Nat renaming zero_le → zI, lt_or_ge → zJ
set_option maxRecDepth 100000
set_option linter.unusedSimpArgs false
set_option linter.unusedVariables false
set_option linter.unusedSectionVars false
namespace Go.Proofs.YtepbennkcbmgoaaGreatDoor
open Go.RowKit
theorem Qfx (a b:Tm) (ha:a.expr=true) (hb:b.expr=true) (n:Nat) (total:Option Sb) (hr:BH n ⟨[]⟩ [(a,b)]=some total):E 151 [a.sv,b.sv] []=some (.tup [(uTo total).osv,.bool (uOk total)],(uTo total).obs):=by
 refine Ad Xp Kh (of_decide_eq_true rfl) ?_
 simp (disch:=omega) only [OY,go_sem,Aa]
 refine go_loop (α:=Nat × Bool × Bool × Sb × List (Tm × Tm)) u2H (u2R total) (fun a=>a.1) (n,true,true,⟨[]⟩,[(a,b)]) ⟨uInv.start ha hb,hr,fun _=>rfl⟩ (by simp (disch:=omega) only [go_sem,Aa,u2H]; rfl) ?_
 clear hr ha hb
 rintro ⟨n,sn,lo,s,l⟩ ⟨hinv,hrun,hsn⟩
 dsimp only at hinv hrun hsn
 have hs:=hinv.ok
 have hst:=EX hs
 cases n with
 | zero=>rw [BH] at hrun; cases hrun
 | succ n =>
 cases l with
 | nil =>
  rw [BH] at hrun
  obtain rfl:=Option.some.inj hrun
  have hk:uTo (some s)=s:=rfl
  rw [hk]
  cases sn with
  | true =>
   obtain rfl:s=⟨[]⟩:=by obtain ⟨bs⟩:=s; have:=hsn rfl; rw [show bs=[] from this]
   cases lo with
   | true =>
    simp (disch:=omega) only [go_sem,Aa,u2H,u2b,u2r,Sb.osv,Sb.obs,uOk,zC,zG]
    try rfl
   | false =>
    simp (disch:=omega) only [go_sem,Aa,u2H,u2b,u2r,Sb.osv,Sb.obs,uOk,zC,zG]
    try rfl
  | false =>
   cases lo with
   | true =>
    simp (disch:=omega) only [go_sem,Aa,u2H,u2b,u2r,Sb.osv,Sb.obs,uOk,zC,zG]
    try rfl
   | false =>
    simp (disch:=omega) only [go_sem,Aa,u2H,u2b,u2r,Sb.osv,Sb.obs,uOk,zC,zG]
    try rfl
 | cons p l =>
  have hcmb:(sn=true∧lo=true)∨(sn=true∧lo=false)∨(sn=false∧lo=true)∨(sn=false∧lo=false):=by cases sn <;> cases lo <;> simp
  rcases hcmb with ⟨rfl,rfl⟩ | ⟨rfl,rfl⟩ | ⟨rfl,rfl⟩ | ⟨rfl,rfl⟩
  ·exact Qgh total n s p l hinv hrun hsn
  ·exact Qgi total n s p l hinv hrun hsn
  ·exact Qgj total n s p l hinv hrun hsn
  ·exact Qgk total n s p l hinv hrun hsn
def EZ:SC:=(.seq (.reg [⟨some 2,none,.boxv 142 1 (.t 0)⟩,⟨some 4,none,.alloc 60 [.nil]⟩,⟨some 5,none,.mv (.c (.bool false))⟩]) (.seq (.reg [⟨some 10,none,.load true 1 (.t 2)⟩,⟨some 11,none,.mv (.t 1)⟩,⟨some 12,none,.call 212 [(.t 10),(.t 11)]⟩,⟨some 9,none,.mv (.t 12)⟩,⟨some 13,none,.ext (.t 9) 0⟩,⟨some 14,none,.ext (.t 9) 1⟩,⟨some 6,none,.alloc 60 [.nil]⟩,⟨none,none,(.store 1 (.t 6) (.t 13))⟩,⟨some 7,none,.mv (.t 14)⟩]) (.seq (.seq (.reg [⟨some 15,none,.mv (.t 7)⟩,⟨some 16,none,.un .not (.t 15)⟩]) (.cond (.t 16) (.seq (.reg [⟨some 17,none,.build [.nil] []⟩,⟨none,none,(.store 1 (.t 4) (.t 17))⟩,⟨some 5,none,.mv (.c (.bool false))⟩]) .ret) .skip)) (.seq (.reg [⟨some 18,none,.load true 1 (.t 6)⟩,⟨some 19,none,.call 163 [(.t 18)]⟩,⟨some 8,none,.alloc 60 [.nil]⟩,⟨none,none,(.store 1 (.t 8) (.t 19))⟩]) (.seq (.seq (.reg [⟨some 20,none,.load true 1 (.t 8)⟩,⟨some 21,none,.call 79 [(.t 20)]⟩,⟨some 22,none,.un .not (.t 21)⟩]) (.cond (.t 22) (.seq (.reg [⟨some 23,none,.build [.nil] []⟩,⟨none,none,(.store 1 (.t 4) (.t 23))⟩,⟨some 5,none,.mv (.c (.bool false))⟩]) .ret) .skip)) (.seq (.reg [⟨some 24,none,.load true 1 (.t 8)⟩,⟨none,none,(.store 1 (.t 4) (.t 24))⟩,⟨some 5,none,.mv (.c (.bool true))⟩]) .ret))))))
theorem GT:codeOf Tryz.prog 152=some ⟨25,EZ,[(.cell 4 true 1),(.tmp 5)]⟩:=by kernel_rfl
theorem Fa:modes 152=⟨[],.own [some (122,3),none],none,false⟩:=by unfold modes; rfl
theorem QaF (s:Sb) (hs:s.ok=true) (ht:s.tame) (l:List Lt) (hl:l.length≤1048576) (hal:∀ x∈l,x.atom.atom=true):E 152 [s.sv,.arr (l.map Lt.d)] []=some (.tup [(T6 s l).osv,.bool (FO s l)],(T6 s l).obs):=by
 have h1:=Ud s hs ht l hl hal
 have hcs:∀ d:Cl,Cl.osv d=.agg [.ref 0]:=fun d=>rfl
 have hob:∀ d:Cl,Cl.obs d=[.row 122 3 (d.lits.map Lt.o)]:=fun d=>rfl
 have hsv:∀ d:Cl,d.sv=.agg [.arr (d.lits.map Lt.d)]:=fun d=>rfl
 have hss:s.sv=.agg [.arr (s.binds.map Bd.d)]:=rfl
 rw [hcs,hob] at h1
 rw [hcs,hob]
 rw [hss] at h1 ⊢
 cases hok:ED s l with
 | false =>
  have ho:FO s l=false:=by unfold FO; rw [hok]; rfl
  have hz:(Cl.mk []).lits=[]:=rfl
  rw [P8 hok,hok] at h1
  rw [Rw ho,ho]
  refine Ad GT Fa (of_decide_eq_true rfl) ?_
  simp (disch:=omega) only [EZ,go_sem,Aa,h1,Bv]
 | true =>
  have hc:=Qa8 hok
  obtain ⟨c,hcc⟩:∃ c,c=apC s l:=⟨_,rfl⟩
  rw [←hcc] at hc h1
  have h2:=Zz c hc
  have hn:=Qb5 10 hc
  have h3:=N7 (nz 10 c) (Zk hn)
  rw [hn,Bool.true_and] at h3
  rw [hok] at h1
  rw [hcs,hob] at h2
  rw [hsv] at h2 h3
  have hio:FO s l=(nz 10 c).norm:=by unfold FO; rw [hok,Bool.true_and,hcc]
  have her:=Lt.erss c.lits
  have her2:=Lt.erss (nz 10 c).lits
  cases hm:(nz 10 c).norm with
  | false =>
   rw [hm] at h3 hio
   rw [Rw hio,hio]
   refine Ad GT Fa (of_decide_eq_true rfl) ?_
   simp (disch:=omega) only [EZ,go_sem,Aa,h1,h2,h3,her,her2,Lt.noss,Lt.fus,Gi,C4,Bv]
  | true =>
   rw [hm] at h3 hio
   rw [T7 hio,hio,← hcc]
   refine Ad GT Fa (of_decide_eq_true rfl) ?_
   simp (disch:=omega) only [EZ,go_sem,Aa,h1,h2,h3,her,her2,Lt.noss,Lt.fus,Gi,C4,Bv]
def IE:SC:=(.seq (.reg [⟨some 2,none,.boxv 60 1 (.t 0)⟩,⟨some 4,none,.mv (.c (.bool false))⟩]) (.seq (.reg [⟨some 5,none,.mv (.t 1)⟩,⟨some 6,none,.faddr 0 (.t 2)⟩,⟨some 7,none,.load false 1 (.t 6)⟩,⟨some 8,none,.len false (.t 7)⟩,⟨some 9,none,.bin .sub false (.t 8) (.c (.int .i64 1))⟩,⟨some 10,none,.call 205 [(.t 5),(.c (.int .i64 0)),(.t 9)]⟩,⟨some 4,none,.mv (.t 10)⟩]) .ret))
theorem OZ:codeOf Tryz.prog 149=some ⟨11,IE,[(.tmp 4)]⟩:=by kernel_rfl
theorem C2:modes 149=⟨[],.asis,none,false⟩:=by unfold modes; rfl
theorem Pa (c:Cl) (hc:c.ok=true) (i:Int):E 149 [c.sv,.int .i64 i] []=some (.bool (hasB c i),[]):=by
 have hl:=Cl.ok_len hc
 have hsv:c.sv=.agg [.arr (c.lits.map Lt.d)]:=rfl
 have h1:=QcB i 0 ((c.lits.length:Int)-1)
 unfold hasB
 rw [hsv]
 refine Ad OZ C2 (of_decide_eq_true rfl) ?_
 simp (disch:=omega) only [IE,go_sem,Aa,h1,ES]
theorem Qes (a b:Tm) (ha:a.atom=true) (hb:b.atom=true):E 151 [a.sv,b.sv] []=some (.tup [(uTo (unR a b)).osv,.bool (uOk (unR a b))],(uTo (unR a b)).obs):=by
 obtain ⟨n,hn⟩:=T5 (Tm.Cn ha) (Tm.Cn hb)
 exact Qfx a b (Tm.Cn ha) (Tm.Cn hb) n _ hn
def D3:SC:=(.seq (.reg [⟨some 4,none,.boxv 60 1 (.t 0)⟩,⟨some 6,none,.boxv 60 1 (.t 2)⟩,⟨some 8,none,.alloc 60 [.nil]⟩,⟨some 9,none,.mv (.c (.bool false))⟩]) (.seq (.seq (.dreg [[],[],[0,1],[2,0,1],[3,2,0,1],[4,3,2,0,1],[4,3,2,0,1],[5,4,3,2,0,1,6],[7,5,4,3,2,0,1,6],[4,3,2,0,1,8,7,5,6],[9,4,3,2,0,1,8,7,5,6],[10,9,4,3,2,0,1,8,7,5,6],[11,10,9,4,3,2,0,1,8,7,5,6],[10,9,4,3,2,0,1,8,7,5,6],[12,11,10,9,4,3,2,0,1,8,7,5,6,13],[14,12,11,10,9,4,3,2,0,1,8,7,5,6,13],[15,14,12,11,10,9,4,3,2,0,1,8,7,5,6,13],[10,9,4,3,2,0,1,8,7,5,6],[17,10,9,4,3,2,0,1,8,7,5,6],[10,9,4,3,2,0,1,8,7,5,6],[18,17,10,9,4,3,2,0,1,8,7,5,6,19],[20,18,17,10,9,4,3,2,0,1,8,7,5,6,19],[21,20,18,17,10,9,4,3,2,0,1,8,7,5,6,19],[16,15,14,12,11,10,9,4,3,2,0,1,8,7,5,6,13,22,21,20,18,17,19],[10,9,4,3,2,0,1,8,7,5,6,23,16,15,14,12,11,13,22,21,20,18,17,19]] [⟨some 13,none,.load true 1 (.t 4)⟩,⟨some 14,none,.mv (.t 1)⟩,⟨some 15,none,.call 149 [(.t 13),(.t 14)]⟩,⟨some 16,none,.un .not (.t 15)⟩,⟨some 17,none,.mv (.t 16)⟩,⟨(some 18),(some (17,false)),(.load true 1 (.t 6))⟩,⟨(some 19),(some (17,false)),(.mv (.t 3))⟩,⟨(some 20),(some (17,false)),(.call 149 [(.t 18),(.t 19)])⟩,⟨(some 21),(some (17,false)),(.un .not (.t 20))⟩,⟨some 22,none,.pick (.t 17) (.c (.bool true)) (.t 21)⟩,⟨some 23,none,.mv (.t 22)⟩,⟨(some 24),(some (23,false)),(.faddr 0 (.t 4))⟩,⟨(some 25),(some (23,false)),(.load false 1 (.t 24))⟩,⟨(some 26),(some (23,false)),(.mv (.t 1))⟩,⟨(some 27),(some (23,false)),(.iaddr 3 (.t 25) (.t 26))⟩,⟨(some 28),(some (23,false)),(.faddr 0 (.t 27))⟩,⟨(some 29),(some (23,false)),(.load false 1 (.t 28))⟩,⟨(some 30),(some (23,false)),(.faddr 0 (.t 6))⟩,⟨(some 31),(some (23,false)),(.load false 1 (.t 30))⟩,⟨(some 32),(some (23,false)),(.mv (.t 3))⟩,⟨(some 33),(some (23,false)),(.iaddr 3 (.t 31) (.t 32))⟩,⟨(some 34),(some (23,false)),(.faddr 0 (.t 33))⟩,⟨(some 35),(some (23,false)),(.load false 1 (.t 34))⟩,⟨(some 36),(some (23,false)),(.bin .eql true (.t 29) (.t 35))⟩,⟨some 37,none,.pick (.t 23) (.c (.bool true)) (.t 36)⟩]) (.cond (.t 37) (.seq (.reg [⟨some 38,none,.build [.nil] []⟩,⟨none,none,(.store 1 (.t 8) (.t 38))⟩,⟨some 9,none,.mv (.c (.bool false))⟩]) .ret) .skip)) (.seq (.reg [⟨some 39,none,.load true 1 (.t 6)⟩,⟨some 40,none,.call 150 [(.t 39)]⟩,⟨some 10,none,.alloc 60 [.nil]⟩,⟨none,none,(.store 1 (.t 10) (.t 40))⟩]) (.seq (.dreg [[],[0],[],[1,0,2],[3,1,0,2],[4,3,1,0,2],[],[6],[],[7,6,8],[9,7,6,8],[10,9,7,6,8],[5,4,3,1,0,2,11,10,9,7,6,8],[12,5,4,3,1,0,2,11,10,9,7,6,8],[13,12,5,4,3,1,0,2,11,10,9,7,6,8],[13,12,5,4,3,1,0,2,11,10,9,7,6,8],[],[16,14,13,12,5,4,3,1,0,2,11,10,9,7,6,8],[15,13,12,5,4,3,1,0,2,11,10,9,7,6,8,17,16,14]] [⟨some 42,none,.faddr 0 (.t 4)⟩,⟨some 43,none,.load false 1 (.t 42)⟩,⟨some 44,none,.mv (.t 1)⟩,⟨some 45,none,.iaddr 3 (.t 43) (.t 44)⟩,⟨some 46,none,.faddr 1 (.t 45)⟩,⟨some 47,none,.load true 2 (.t 46)⟩,⟨some 48,none,.faddr 0 (.t 10)⟩,⟨some 49,none,.load false 1 (.t 48)⟩,⟨some 50,none,.mv (.t 3)⟩,⟨some 51,none,.iaddr 3 (.t 49) (.t 50)⟩,⟨some 52,none,.faddr 1 (.t 51)⟩,⟨some 53,none,.load true 2 (.t 52)⟩,⟨some 54,none,.call 151 [(.t 47),(.t 53)]⟩,⟨some 41,none,.mv (.t 54)⟩,⟨some 55,none,.ext (.t 41) 0⟩,⟨some 56,none,.ext (.t 41) 1⟩,⟨some 11,none,.alloc 142 [.nil]⟩,⟨none,none,(.store 1 (.t 11) (.t 55))⟩,⟨some 12,none,.mv (.t 56)⟩]) (.seq (.seq (.reg [⟨some 57,none,.mv (.t 12)⟩,⟨some 58,none,.un .not (.t 57)⟩]) (.cond (.t 58) (.seq (.reg [⟨some 59,none,.build [.nil] []⟩,⟨none,none,(.store 1 (.t 8) (.t 59))⟩,⟨some 9,none,.mv (.c (.bool false))⟩]) .ret) .skip)) (.seq (.dreg [[],[],[],[1,2],[],[],[4,5,3,1,2],[3,1,2,6,4,5],[7,3,1,2,6,4,5],[0,8,7,3,1,2,6,4,5],[9,0,8,7,3,1,2,6,4,5],[9,0,8,7,3,1,2,6,4,5],[10,9,0,8,7,3,1,2,6,4,5,11],[11,9,0,8,7,3,1,2,6,4,5,12,10]] [⟨some 60,none,.load true 1 (.t 11)⟩,⟨some 61,none,.load true 1 (.t 4)⟩,⟨some 62,none,.mv (.t 1)⟩,⟨some 63,none,.call 154 [(.t 61),(.t 62)]⟩,⟨some 64,none,.load true 1 (.t 10)⟩,⟨some 65,none,.mv (.t 3)⟩,⟨some 66,none,.call 154 [(.t 64),(.t 65)]⟩,⟨some 67,none,.mkrow 58 1 [.nil] 2 [(0,(.t 63)),(1,(.t 66))]⟩,⟨some 68,none,.call 153 [(.t 67)]⟩,⟨some 69,none,.call 152 [(.t 60),(.t 68)]⟩,⟨some 70,none,.ext (.t 69) 0⟩,⟨some 71,none,.ext (.t 69) 1⟩,⟨none,none,(.store 1 (.t 8) (.t 70))⟩,⟨some 9,none,.mv (.t 71)⟩]) .ret))))))
theorem E0:codeOf Tryz.prog 80=some ⟨72,D3,[(.cell 8 true 1),(.tmp 9)]⟩:=by kernel_rfl
theorem Cz:modes 80=⟨[],.own [some (122,3),none],none,false⟩:=by unfold modes; rfl
theorem QcF (c:Cl) (hc:c.ok=true) (i:Int) (d:Cl) (hd:d.ok=true) (hdn:d.norm=true) (k:Int):E 80 [c.sv,.int .i64 i,d.sv,.int .i64 k] []=some (.tup [(N5 c i d k).osv,.bool (I5 c i d k)],(N5 c i d k).obs):=by
 have hl:=Cl.ok_len hc
 have hld:=Cl.ok_len hd
 have hcs:∀ d:Cl,Cl.osv d=.agg [.ref 0]:=fun d=>rfl
 have hob:∀ d:Cl,Cl.obs d=[.row 122 3 (d.lits.map Lt.o)]:=fun d=>rfl
 have hsv:∀ d:Cl,d.sv=.agg [.arr (d.lits.map Lt.d)]:=fun d=>rfl
 have h1:=Pa c hc i
 have h2:=Pa d hd k
 rw [hcs,hob]
 rw [hsv] at h1 h2
 rw [hsv,hsv]
 cases hi:hasB c i with
 | false =>
  obtain ⟨e1,e2⟩:=LF (Mu (show Ke c i d k=false by unfold Ke; rw [hi]; rfl))
  rw [hi] at h1
  rw [e1,e2]
  refine Ad E0 Cz (of_decide_eq_true rfl) ?_
  simp (disch:=omega) only [D3,go_sem,Aa,h1,h2,C2]
 | true =>
 rw [hi] at h1
 cases hk:hasB d k with
 | false =>
  obtain ⟨e1,e2⟩:=LF (Mu (show Ke c i d k=false by unfold Ke; rw [hk,Bool.false_and,Bool.and_false]))
  rw [hk] at h2
  rw [e1,e2]
  refine Ad E0 Cz (of_decide_eq_true rfl) ?_
  simp (disch:=omega) only [D3,go_sem,Aa,h1,h2,C2]
 | true =>
 rw [hk] at h2
 obtain ⟨p,rfl,hp⟩:=Rx hi
 obtain ⟨q,rfl,hq⟩:=Rx hk
 have hgp:=get_at Lt.d hp
 have hgq:=get_at Lt.d hq
 rw [Lt.d_eq] at hgp hgq
 have tp:=Int.toNat_natCast p
 have tq:=Int.toNat_natCast q
 have ap:=Cl.CP hc _ (List.getElem_mem hp)
 have lp:=Kd hp
 have lq:=Kd hq
 cases hpp:c.lits[p].pos == d.lits[q].pos with
 | true =>
  obtain ⟨e1,e2⟩:=LF (Mu (show Ke c p d q=false by unfold Ke; rw [lp,lq,hpp]; simp))
  rw [e1,e2]
  refine Ad E0 Cz (of_decide_eq_true rfl) ?_
  simp (disch:=omega) only [D3,go_sem,Aa,h1,h2,C2,hgp,hgq,tp,tq,hpp]
 | false =>
  have hT:=Zm (show Ke c p d q=true by unfold Ke; rw [hi,hk,lp,lq,hpp]; rfl)
  have h0:=Qfw d hd hdn
  have ho:=Cl.QbE hd
  have hal:=Cl.Xf hd hdn
  obtain ⟨e,hee⟩:∃ e,e=d.ap:=⟨_,rfl⟩
  rw [show d.rn (Dz G6 d.ns)=e from hee.symm] at h0
  have hrl:T8 c p d q=c.lits.eraseIdx p++e.lits.eraseIdx q:=by unfold T8; rw [tp,tq,hee]
  have hla:=T9 hc hd p q
  have hll:=Zn hc hd p q
  rw [hrl] at hla hll
  rw [←hee] at ho hal hT
  have hqe:q<e.lits.length:=by omega
  have le:=Kd hqe
  have hge:=get_at Lt.d hqe
  rw [Lt.d_eq] at hge
  have aq:=Cl.CP ho _ (List.getElem_mem hqe)
  rw [lp,le] at hT
  have h3:=Qes _ _ ap aq
  have hsp:c.lits[p].atom.sv=.agg [.str c.lits[p].atom.name,.arr (c.lits[p].atom.args.map Tm.d)]:=rfl
  have hsq:e.lits[q].atom.sv=.agg [.str e.lits[q].atom.name,.arr (e.lits[q].atom.args.map Tm.d)]:=rfl
  rw [hsp,hsq] at h3
  rw [hsv,hsv] at h0
  cases hu:unR c.lits[p].atom e.lits[q].atom with
  | none =>
   rw [hu] at hT h3
   have hus:uTo none=⟨[]⟩:=rfl
   have huo:uOk none=false:=rfl
   have hso:(Sb.mk []).osv=.agg [.ref 0]:=rfl
   have hsb:(Sb.mk []).obs=[.row 227 3 []]:=rfl
   rw [hus,huo,hso,hsb] at h3
   obtain ⟨e1,e2⟩:=LF hT
   rw [e1,e2]
   refine Ad E0 Cz (of_decide_eq_true rfl) ?_
   simp (disch:=omega) only [D3,go_sem,Aa,h1,h2,C2,hgp,hgq,tp,tq,hpp,h0,hge,h3,Kg,Kh]
  | some s =>
   have hs:=Qeb (Tm.Cn ap) (Tm.Cn aq) hu
   rw [hu] at hT h3
   obtain ⟨e1,e2⟩:=Zl hT
   rw [hrl] at e1 e2
   rw [e1,e2]
   have h4:=VC c (by omega) p (by omega) (by rw [tp]; exact hp)
   have h6:=VC e (by omega) q (by omega) (by rw [tq]; exact hqe)
   have h7:=Qer [c.lits.eraseIdx p,e.lits.eraseIdx q] (by simp) (by simp at hll ⊢; omega)
   have hfl:[c.lits.eraseIdx p,e.lits.eraseIdx q].flatten=c.lits.eraseIdx p++e.lits.eraseIdx q:=by simp
   rw [hfl] at h7
   simp only [List.map_cons,zG] at h7
   have h5:=QaF s hs (EX hs) (c.lits.eraseIdx p++e.lits.eraseIdx q) (by omega) hla
   have hus:uTo (some s)=s:=rfl
   have huo:uOk (some s)=true:=rfl
   have hso:s.osv=.agg [.ref 0]:=rfl
   have hsb:s.obs=[.row 227 3 (s.binds.map Bd.o)]:=rfl
   have hss:s.sv=.agg [.arr (s.binds.map Bd.d)]:=rfl
   rw [hus,huo,hso,hsb] at h3
   rw [hsv,tp] at h4
   rw [hsv,tq] at h6
   rw [hcs,hob,hss] at h5
   cases hno:OT.BB (Lt.ds (c.lits.eraseIdx p++e.lits.eraseIdx q))
   all_goals
    refine Ad E0 Cz (of_decide_eq_true rfl) ?_
    simp (disch:=omega) only [D3,go_sem,Aa,h1,h2,C2,hgp,hgq,tp,tq,hpp,h0,hge,h3,h4,h6,h7,h5,hno,Bd.erss,Bd.fus,Bd.noss,Lt.Qg3,Lt.Qg4,Kg,Kh,LL,Fa,Cc]
def Ee:SC:=(.seq (.reg [⟨some 2,none,.boxv 60 1 (.t 0)⟩,⟨some 3,none,.boxv 60 1 (.t 1)⟩,⟨some 4,none,.mv (.c .nil)⟩,⟨some 5,none,.mv (.c (.bool false))⟩]) (.seq (.seq (.reg [⟨some 11,none,.load true 1 (.t 2)⟩,⟨some 12,none,.call 79 [(.t 11)]⟩,⟨some 13,none,.un .not (.t 12)⟩,⟨some 14,none,.mv (.t 13)⟩,⟨(some 15),(some (14,false)),(.load true 1 (.t 3))⟩,⟨(some 16),(some (14,false)),(.call 79 [(.t 15)])⟩,⟨(some 17),(some (14,false)),(.un .not (.t 16))⟩,⟨some 18,none,.pick (.t 14) (.c (.bool true)) (.t 17)⟩]) (.cond (.t 18) (.seq (.reg [⟨some 4,none,.mv (.c .nil)⟩,⟨some 5,none,.mv (.c (.bool false))⟩]) .ret) .skip)) (.seq (.reg [⟨some 19,none,.mkrow 60 1 [.nil] 0 []⟩,⟨some 6,none,.mv (.t 19)⟩]) (.seq (.seq (.reg [⟨some 20,none,.faddr 0 (.t 2)⟩,⟨some 21,none,.load false 1 (.t 20)⟩,⟨some 22,none,.len false (.t 21)⟩,⟨some 23,none,.mv (.c (.int .i64 0))⟩]) (.block 0 (.loop [0,0,1,1,0,0,1,0,0,0,0,0,0,0,0,0,0,0,0,0,0,0,1,1,0,0,0,0,0,0,0,0,0,0,0,0,0,0,0,0,0,0,0,0,0,0,0,0,0,0,0,0,0,0] (.seq (.reg [⟨some 24,none,.bin .lss false (.t 23) (.t 22)⟩]) (.seq (.cond (.t 24) .skip (.exit 0)) (.seq (.block 1 (.seq (.reg [⟨some 25,none,.mv (.t 23)⟩,⟨some 7,none,.mv (.t 25)⟩]) (.seq (.reg [⟨some 26,none,.faddr 0 (.t 3)⟩,⟨some 27,none,.load false 1 (.t 26)⟩,⟨some 28,none,.len false (.t 27)⟩,⟨some 29,none,.mv (.c (.int .i64 0))⟩]) (.block 2 (.loop [0,0,1,1,0,0,1,1,0,0,0,0,0,0,0,0,0,0,0,0,0,0,1,1,0,0,0,0,1,1,0,0,0,0,0,0,0,0,0,0,0,0,0,0,0,0,0,0,0,0,0,0,0,0] (.seq (.reg [⟨some 30,none,.bin .lss false (.t 29) (.t 28)⟩]) (.seq (.cond (.t 30) .skip (.exit 2)) (.seq (.block 3 (.seq (.reg [⟨some 31,none,.mv (.t 29)⟩,⟨some 8,none,.mv (.t 31)⟩]) (.seq (.reg [⟨some 33,none,.load true 1 (.t 2)⟩,⟨some 34,none,.mv (.t 7)⟩,⟨some 35,none,.load true 1 (.t 3)⟩,⟨some 36,none,.mv (.t 8)⟩,⟨some 37,none,.call 80 [(.t 33),(.t 34),(.t 35),(.t 36)]⟩,⟨some 32,none,.mv (.t 37)⟩,⟨some 38,none,.ext (.t 32) 0⟩,⟨some 39,none,.ext (.t 32) 1⟩,⟨some 9,none,.alloc 60 [.nil]⟩,⟨none,none,(.store 1 (.t 9) (.t 38))⟩,⟨some 10,none,.mv (.t 39)⟩]) (.seq (.reg [⟨some 40,none,.mv (.t 10)⟩,⟨some 41,none,.mv (.t 40)⟩,⟨(some 42),(some (41,true)),(.mv (.t 6))⟩,⟨(some 43),(some (41,true)),(.load true 1 (.t 9))⟩,⟨(some 44),(some (41,true)),(.call 81 [(.t 42),(.t 43)])⟩,⟨(some 45),(some (41,true)),(.un .not (.t 44))⟩,⟨some 46,none,.pick (.t 41) (.t 45) (.c (.bool false))⟩]) (.cond (.t 46) (.reg [⟨some 47,none,.mv (.t 6)⟩,⟨some 48,none,.load true 1 (.t 9)⟩,⟨some 49,none,.mkrow 60 1 [.nil] 1 [(0,(.t 48))]⟩,⟨some 50,none,.append 60 1 24 [.nil] (.t 47) (.t 49)⟩,⟨some 6,none,.mv (.t 50)⟩]) .skip))))) (.reg [⟨some 51,none,.bin .add false (.t 29) (.c (.int .i64 1))⟩,⟨some 29,none,.mv (.t 51)⟩]))))))))) (.reg [⟨some 52,none,.bin .add false (.t 23) (.c (.int .i64 1))⟩,⟨some 23,none,.mv (.t 52)⟩]))))))) (.seq (.reg [⟨some 53,none,.mv (.t 6)⟩,⟨some 4,none,.mv (.t 53)⟩,⟨some 5,none,.mv (.c (.bool true))⟩]) .ret)))))
theorem FG:codeOf Tryz.prog 28=some ⟨54,Ee,[(.tmp 4),(.tmp 5)]⟩:=by kernel_rfl
theorem BW:modes 28=⟨[],.own [some (60,1),none],none,false⟩:=by unfold modes; rfl
theorem PT (c d:Cl) (hct:c.tame) (hdt:d.tame):E 28 [c.sv,d.sv] []=some (.tup [.ref 0,.bool ((c.ok&&c.norm)&&(d.ok&&d.norm))],[.row 60 1 ((Xl c d).map Cl.o)]):=by
 have hsv:∀ d:Cl,d.sv=.agg [.arr (d.lits.map Lt.d)]:=fun d=>rfl
 have hcs:∀ d:Cl,Cl.osv d=.agg [.ref 0]:=fun d=>rfl
 have hob:∀ d:Cl,Cl.obs d=[.row 122 3 (d.lits.map Lt.o)]:=fun d=>rfl
 have hrd:=N7 c hct
 have hrd2:=N7 d hdt
 rw [hsv] at hrd hrd2
 rw [hsv,hsv]
 cases hrn:c.ok&&c.norm with
 | false =>
  rw [hrn] at hrd
  rw [Zx (by rw [hrn]; rfl)]
  refine Ad FG BW (of_decide_eq_true rfl) ?_
  simp (disch:=omega) only [Ee,go_sem,Aa,hrd,hrd2,C4]
 | true =>
 cases hrm:d.ok&&d.norm with
 | false =>
  rw [hrn] at hrd
  rw [hrm] at hrd2
  rw [Zx (by rw [hrn,hrm]; rfl)]
  refine Ad FG BW (of_decide_eq_true rfl) ?_
  simp (disch:=omega) only [Ee,go_sem,Aa,hrd,hrd2,C4]
 | true =>
 rw [hrn] at hrd
 rw [hrm] at hrd2
 rw [QaC (by rw [hrn,hrm]; rfl)]
 rw [zE] at hrn hrm
 have hc:=hrn.1
 have hd:=hrm.1
 have hcl:=Cl.ok_len hc
 have hdl:=Cl.ok_len hd
 have hr0:=fun (i k:Int)=>QcF c hc i d hd hrm.2 k
 simp only [hsv,hcs,hob] at hr0
 have hz0:FE [] (CF (Hh c d) 0)=[]:=rfl
 have hzm:([]:List Cl).map Cl.o=[]:=rfl
 refine Ad FG BW (of_decide_eq_true rfl) ?_
 simp (disch:=omega) only [Ee,go_sem,Aa,hrd,hrd2,C4]
 refine go_loop (α:=Int) (fun a=>⟨slots 54 0 [(2,.ptr 0 0),(3,.ptr 1 0),(6,.ref 2),(22,.int .i64 c.lits.length),(23,.int .i64 a)],[.box 60 [.arr (c.lits.map Lt.d)],.box 60 [.arr (d.lits.map Lt.d)],.row 60 1 ((FE [] (CF (Hh c d) a.toNat)).map Cl.o)]⟩) (fun a=>∃ k:Nat,a=k∧k≤(c.lits).length) (fun a=>(c.lits).length-(a).toNat) 0 ⟨0,rfl,zI _⟩ (by simp (disch:=omega) only [go_sem,Aa,hz0,hzm]) ?_
 rintro i ⟨k,hi,hk⟩
 have hni:i.toNat=k:=by omega
 have hni1:(i+1).toNat=k+1:=by omega
 rcases zJ k (c.lits).length with hlt | hge
 ·have hio:=hi
  have hni0:=hni
  have hni10:=hni1
  have hlt0:=hlt
  have hz1:GC c d k 0=[]:=rfl
  have hz2:CF (Hh c d) (k+1)=CF (Hh c d) k++GC c d k d.lits.length:=rfl
  generalize i=io at *
  generalize k=ko at *
  simp (disch:=omega) only [go_sem,Aa,hni0]
  refine go_loop (α:=Int) (fun a=>⟨slots 54 0 [(2,.ptr 0 0),(3,.ptr 1 0),(6,.ref 2),(7,.int .i64 io),(22,.int .i64 c.lits.length),(23,.int .i64 io),(28,.int .i64 d.lits.length),(29,.int .i64 a)],[.box 60 [.arr (c.lits.map Lt.d)],.box 60 [.arr (d.lits.map Lt.d)],.row 60 1 ((FE [] (CF (Hh c d) ko++GC c d ko a.toNat)).map Cl.o)]⟩) (fun a=>∃ k:Nat,a=k∧k≤(d.lits).length) (fun a=>(d.lits).length-(a).toNat) 0 ⟨0,rfl,zI _⟩ (by simp (disch:=omega) only [go_sem,Aa,hz1,List.append_nil,hni0]) ?_
  rintro i ⟨k,hi,hk⟩
  have hni:i.toNat=k:=by omega
  have hni1:(i+1).toNat=k+1:=by omega
  rcases zJ k (d.lits).length with hlt | hge
  ·have hr:=hr0 io i
   have hlen:=OV hc hd ko k (by omega) (by omega)
   have hul:=QbK hlen
   have hall:∀ x∈CF (Hh c d) ko++GC c d ko k,x.ok=true:=fun x hx=>by
    rcases List.mem_append.1 hx with h | h
    ·exact TE h
    ·exact Zw h
   have hsm:∀ x∈FE [] (CF (Hh c d) ko++GC c d ko k),x.smallC:=fun x hx=>TC (TF hall x hx)
   cases ho:I5 c io d i with
   | false =>
    rw [ho] at hr
    have hpn:GC c d ko (k+1)=GC c d ko k:=Zv (by rw [←hio,← hi]; exact Xk ho)
    obtain ⟨r,hrr⟩:∃ r,r=N5 c io d i:=⟨_,rfl⟩
    rw [←hrr] at hr
    simp (disch:=omega) only [go_sem,Aa,hni0,hni,hr,Cz]
    refine ⟨i+1,⟨k+1,by omega,hlt⟩,by omega,?_⟩
    simp (disch:=omega) only [go_sem,Aa,hni1,hpn]
   | true =>
    rw [ho] at hr
    have hrk:=QbJ ho
    have hpn:GC c d ko (k+1)=GC c d ko k++[N5 c io d i]:=VA (by rw [←hio,← hi]; exact TD ho)
    obtain ⟨r,hrr⟩:∃ r,r=N5 c io d i:=⟨_,rfl⟩
    rw [←hrr] at hr hrk hpn
    obtain ⟨acc,hacc⟩:∃ acc,acc=FE [] (CF (Hh c d) ko++GC c d ko k):=⟨_,rfl⟩
    rw [←hacc] at hul hsm
    have hstep:FE [] (CF (Hh c d) ko++GC c d ko (k+1))=KB acc r:=by rw [hpn,← List.append_assoc,QcD,← hacc]
    have hh:=Zu r (TC hrk) acc (by omega) hsm
    rw [hsv] at hh
    have era:=Cl.erss acc
    have err:=Lt.erss r.lits
    cases hm:dec (r∈acc) with
    | true =>
     rw [hm] at hh
     rw [Qen hm] at hstep
     simp (disch:=omega) only [go_sem,Aa,hni0,hni,hr,hh,← hacc,era,err,Cl.noss,Lt.noss,Cl.fus,Lt.fus,hul,Cz,Gh]
     refine ⟨i+1,⟨k+1,by omega,hlt⟩,by omega,?_⟩
     simp (disch:=omega) only [go_sem,Aa,hni1,hstep]
    | false =>
     rw [hm] at hh
     rw [Qfu hm] at hstep
     have hap:acc.map Cl.o++[[OT.ow (r.lits.map Lt.o)]]=(acc++[r]).map Cl.o:=by rw [List.map_append]; rfl
     simp (disch:=omega) only [go_sem,Aa,hni0,hni,hr,hh,← hacc,era,err,Cl.noss,Lt.noss,Cl.fus,Lt.fus,hul,hap,Cz,Gh]
     refine ⟨i+1,⟨k+1,by omega,hlt⟩,by omega,?_⟩
     simp (disch:=omega) only [go_sem,Aa,hni1,hstep]
  ·have hke:k=d.lits.length:=by omega
   simp (disch:=omega) only [go_sem,Aa,hni,hke,hz2]
   refine ⟨io+1,⟨ko+1,by omega,hlt0⟩,by omega,?_⟩
   simp (disch:=omega) only [go_sem,Aa,hni10,hke,hz2]
 ·have hke:k=c.lits.length:=by omega
  have hal:CF (Hh c d) c.lits.length=QR c d:=rfl
  simp (disch:=omega) only [go_sem,Aa,hni,hke,hal]
def Cl.wt (x:Cl):Nat:=0+Lt.wtS x.lits
theorem Cl.wt_eq (x:Cl):x.wt=0+Lt.wtS x.lits:=rfl
noncomputable def Cl.mk1 (x:Cl) (k:Int):Cl × Int:=((Cl.mk ((Lt.mkS x.lits k).1)),(Lt.mkS x.lits k).2)
theorem Cl.mk1_eq (x:Cl) (k:Int):x.mk1 k=((Cl.mk ((Lt.mkS x.lits k).1)),(Lt.mkS x.lits k).2):=rfl
def Cl.wtS:List Cl→Nat
 | []=>0
 | x :: xs=>Cl.wt x+Cl.wtS xs
noncomputable def Cl.mkS:List Cl→Int→List Cl × Int
 | [],k=>([],k)
 | x :: xs,k=>((Cl.mk1 x k).1 :: (Cl.mkS xs (Cl.mk1 x k).2).1,(Cl.mkS xs (Cl.mk1 x k).2).2)
theorem Cl.mk1_d (x:Cl) (k:Int):Cl.d (x.mk1 k).1=[.arr ((Lt.mkS x.lits k).1.map Lt.d)]:=by
 rw [Cl.mk1_eq,Cl.d_eq]
 try rfl
theorem Cl.mk1_o (x:Cl) (k:Int):Cl.o (x.mk1 k).1=[.ow ((Lt.mkS x.lits k).1.map Lt.o)]:=by
 rw [Cl.mk1_eq,Cl.o_eq]
 try rfl
theorem Cl.mk1_end (x:Cl) (k:Int):(x.mk1 k).2=k+x.wt:=by
 rw [Cl.mk1_eq,Cl.wt_eq]
 first
  |omega
  |(simp only [Lt.mkS_end]; done)
  |(simp only [Lt.mkS_end]; omega)
  |simp
theorem Cl.mkS_end:∀ (xs:List Cl) (k:Int),(Cl.mkS xs k).2=k+Cl.wtS xs
 | [],k=>by simp [Cl.mkS,Cl.wtS]
 | x :: xs,k=>by
  rw [Cl.mkS,Cl.wtS]
  have h1:=Cl.mk1_end x k
  have h2:=Cl.mkS_end xs (x.mk1 k).2
  dsimp only
  omega
theorem Cl.wt_bulk (x:Cl):x.wt≤5*(1+x.bulk):=by
 rw [Cl.wt_eq,Cl.bulk_eq]
 have h0:=Lt.wtS_bulk x.lits
 omega
theorem Cl.wtS_bulk:∀ xs:List Cl,Cl.wtS xs≤5*(xs.length+Cl.sumB xs)
 | []=>by simp [Cl.wtS]
 | x :: xs=>by
  have h1:=Cl.wt_bulk x
  have h2:=Cl.wtS_bulk xs
  rw [Cl.wtS,Cl.sumB]; simp only [List.length_cons]; omega
def HX:SC:=(.seq (.reg [⟨some 4,none,.mv (.c (.int .i64 0))⟩]) (.seq (.seq (.reg [⟨some 5,none,.mv (.c (.int .i64 0))⟩]) (.block 0 (.loop [1,1,0,0,0,1,0,0,0,0,0,0,0,0,0,0,0,0,0,0] (.seq (.seq (.reg [⟨some 6,none,.mv (.t 5)⟩,⟨some 7,none,.mv (.t 0)⟩,⟨some 8,none,.len false (.t 7)⟩,⟨some 9,none,.bin .lss false (.t 6) (.t 8)⟩]) (.cond (.t 9) .skip (.exit 0))) (.seq (.block 1 (.reg [⟨some 12,none,.mv (.t 0)⟩,⟨some 13,none,.mv (.t 5)⟩,⟨some 14,none,.iaddr 1 (.t 12) (.t 13)⟩,⟨some 15,none,.faddr 0 (.t 14)⟩,⟨some 16,none,.load false 1 (.t 15)⟩,⟨some 17,none,.mv (.t 1)⟩,⟨some 18,none,.call 83 [(.t 16),(.t 17)]⟩,⟨some 1,none,.mv (.t 18)⟩])) (.reg [⟨some 10,none,.mv (.t 5)⟩,⟨some 11,none,.bin .add false (.t 10) (.c (.int .i64 1))⟩,⟨some 5,none,.mv (.t 11)⟩])))))) (.seq (.reg [⟨some 19,none,.mv (.t 1)⟩,⟨some 4,none,.mv (.t 19)⟩]) .ret)))
theorem N8:codeOf Tryz.prog 32=some ⟨20,HX,[(.tmp 4)]⟩:=by kernel_rfl
theorem CR:modes 32=⟨[true],.asis,none,true⟩:=by unfold modes; rfl
abbrev Nd (xs:List Cl):Prop:=∀ (k:Int) (ob:List Ob),1≤k→k+Cl.wtS xs+xs.length≤1099511627776→toTree ob=[.tree (xs.map Cl.o) []]→E 32 [.ref 0,.int .i64 k] ob=some (.int .i64 (Cl.mkS xs k).2,[.tree ((Cl.mkS xs k).1.map Cl.o) []])
theorem PU (xs:List Cl):Nd xs:=by
 intro k0 ob h1 h2 hob
 have hlen:ob.length=1:=by rw [←Ht,hob]; rfl
 have hL:=Nat.le_refl 0
 refine Ad N8 CR (of_decide_eq_true rfl) ?_
 simp (disch:=omega) only [HX,go_sem,Aa,hob,hlen]
 refine go_loop (α:=Int × (Int) × (List Cl)) (fun a=>⟨slots 20 0 [(0,.ref 0),(1,.int .i64 (a.2.1)),(5,.int .i64 (a.1))],[.tree (((a.2.2)++xs.drop (a.1).toNat).map Cl.o) []]⟩) (fun a=>∃ k:Nat,a.1=k∧k≤(xs).length∧(a.2.2).length=k∧1≤(a.2.1)∧(a.2.1)+Cl.wtS (xs.drop k)=k0+Cl.wtS xs∧Cl.mkS xs k0=((a.2.2)++(Cl.mkS (xs.drop k) (a.2.1)).1,(Cl.mkS (xs.drop k) (a.2.1)).2)) (fun a=>(xs).length-(a.1).toNat) (0,k0,[]) ⟨0,rfl,zI _,rfl,h1,by rw [zD],by simp⟩ (by simp (disch:=omega) only [go_sem,Aa,Int.toNat_zero]) ?_
 rintro ⟨i,kk,dn⟩ ⟨k,hi,hk,hR⟩
 dsimp only at hi hR
 have hni:i.toNat=k:=by omega
 have hni1:(i+1).toNat=k+1:=by omega
 rcases zJ k (xs).length with hlt | hge
 ·obtain ⟨hd,hk1,hkn,hm⟩:=hR
  have hdr:xs.drop k=xs[k] :: xs.drop (k+1):=zB hlt
  have hel:(dn++xs.drop k).length=xs.length:=by simp; omega
  have hg:(List.map Cl.o (dn++xs.drop k))[k]?=some [.ow (xs[k].lits.map Lt.o)]:=by
   rw [←Cl.o_eq,hdr,List.getElem?_map,List.getElem?_append_right (by omega),hd,Nat.sub_self]; rfl
  rw [hdr,Cl.wtS] at hkn
  rw [hdr,Cl.mkS] at hm
  have hn1:=Cl.wt_eq xs[k]
  have e0:=Lt.mkS_end xs[k].lits (kk)
  have c0:=L1 xs[k].lits (kk) [.tree (xs[k].lits.map Lt.o) []] (by omega) (by omega) rfl
  have hs:=Lc Cl.o dn (xs.drop (k+1)) xs[k] (xs[k].mk1 kk).1 hd
  rw [Cl.mk1_o,← hdr] at hs
  have hgs:∀ a,((List.map Cl.o (dn++xs.drop k)).set k a)[k]?=some a:=fun a=>List.getElem?_set_self (by rw [List.length_map,hel]; exact hlt)
  have he:=Cl.mk1_end xs[k] kk
  have three:∀ z:Int,dec ((3:Int)=0)=false:=fun _=>Ax (by omega)
  simp (disch:=omega) only [go_sem,Aa,hni,hel,hg,c0,EF,CW,hgs,List.length_set,List.set_set,hs,three 0]
  refine ⟨(i+1,(xs[k].mk1 kk).2,dn++[(xs[k].mk1 kk).1]),⟨k+1,by dsimp only; omega,hlt,by dsimp only; simp [hd],by dsimp only; omega,by dsimp only; omega,by rw [hm]; simp⟩,by dsimp only; omega,?_⟩
  dsimp only
  rw [hni1,Cl.mk1_eq]
  refine ⟨⟨?_,rfl⟩,rfl⟩
  first | rfl | omega
 ·obtain ⟨hd,hk1,hkn,hm⟩:=hR
  have hdr:xs.drop k=[]:=List.drop_eq_nil_of_le hge
  rw [hdr,Cl.mkS] at hm
  rw [hm]
  simp (disch:=omega) only [go_sem,Aa,hni,hdr,List.append_nil]
theorem Uo (xs:List Cl):Nd xs:=PU xs
def HY:SC:=(.seq (.reg [⟨some 4,none,.mv (.c (.int .i64 0))⟩]) (.seq (.seq (.reg [⟨some 5,none,.mv (.c (.int .i64 0))⟩]) (.block 0 (.loop [1,1,0,0,0,1,0,0,0,0,0,0,0,0,0,0,0,0,0,0,0,0] (.seq (.seq (.reg [⟨some 6,none,.mv (.t 5)⟩,⟨some 7,none,.mv (.t 0)⟩,⟨some 8,none,.len false (.t 7)⟩,⟨some 9,none,.bin .lss false (.t 6) (.t 8)⟩]) (.cond (.t 9) .skip (.exit 0))) (.seq (.block 1 (.seq (.reg [⟨some 12,none,.mv (.t 0)⟩,⟨some 13,none,.mv (.t 5)⟩,⟨some 14,none,.iaddr 1 (.t 12) (.t 13)⟩,⟨some 15,none,.faddr 0 (.t 14)⟩,⟨some 16,none,.load false 1 (.t 15)⟩,⟨some 17,none,.mv (.t 1)⟩,⟨some 18,none,.call 84 [(.t 16),(.t 17)]⟩,⟨some 1,none,.mv (.t 18)⟩]) (.seq (.reg [⟨some 19,none,.mv (.t 1)⟩,⟨some 20,none,.bin .lss false (.t 19) (.c (.int .i64 0))⟩]) (.cond (.t 20) (.seq (.reg [⟨some 4,none,.mv (.c (.int .i64 (-(0+1))))⟩]) .ret) .skip)))) (.reg [⟨some 10,none,.mv (.t 5)⟩,⟨some 11,none,.bin .add false (.t 10) (.c (.int .i64 1))⟩,⟨some 5,none,.mv (.t 11)⟩])))))) (.seq (.reg [⟨some 21,none,.mv (.t 1)⟩,⟨some 4,none,.mv (.t 21)⟩]) .ret)))
theorem N9:codeOf Tryz.prog 33=some ⟨22,HY,[(.tmp 4)]⟩:=by kernel_rfl
theorem CS:modes 33=⟨[],.asis,none,false⟩:=by unfold modes; rfl
theorem Cl.mkS_len:∀ (xs:List Cl) (k:Int),(Cl.mkS xs k).1.length=xs.length
 | [],k=>by rw [Cl.mkS]
 | x :: xs,k=>by rw [Cl.mkS]; simp only [List.length_cons]; rw [Cl.mkS_len xs]
abbrev Nf (xs:List Cl):Prop:=∀ k:Int,1≤k→k+Cl.wtS xs+xs.length≤1099511627776→E 33 [.arr ((Cl.mkS xs k).1.map Cl.d),.int .i64 k] []=some (.int .i64 (Cl.mkS xs k).2,[])
theorem PV (xs:List Cl):Nf xs:=by
 intro k0 h1 h2
 obtain ⟨ys,hys⟩:∃ ys,ys=(Cl.mkS xs k0).1:=⟨_,rfl⟩
 have hyl:ys.length=xs.length:=by rw [hys,Cl.mkS_len]
 rw [←hys]
 have hL:=Nat.le_refl 0
 refine Ad N9 CS (of_decide_eq_true rfl) ?_
 simp (disch:=omega) only [HY,go_sem,Aa]
 refine go_loop (α:=Int × (Int)) (fun a=>⟨slots 22 0 [(0,.arr (ys.map Cl.d)),(1,.int .i64 (a.2)),(5,.int .i64 (a.1))],[]⟩) (fun a=>∃ k:Nat,a.1=k∧k≤(ys).length∧1≤(a.2)∧(a.2)+Cl.wtS (xs.drop k)=k0+Cl.wtS xs∧ys.drop k=(Cl.mkS (xs.drop k) (a.2)).1∧(Cl.mkS xs k0).2=(Cl.mkS (xs.drop k) (a.2)).2) (fun a=>(ys).length-(a.1).toNat) (0,k0) ⟨0,rfl,zI _,h1,by rw [zD],by rw [zD,zD,hys],by rw [zD]⟩ (by simp (disch:=omega) only [go_sem,Aa]) ?_
 rintro ⟨i,kk⟩ ⟨k,hi,hk,hR⟩
 dsimp only at hi hR
 have hni:i.toNat=k:=by omega
 have hni1:(i+1).toNat=k+1:=by omega
 rcases zJ k (ys).length with hlt | hge
 ·obtain ⟨hk1,hkn,hy,hm⟩:=hR
  have hlx:k<xs.length:=by omega
  have hdr:xs.drop k=xs[k] :: xs.drop (k+1):=zB hlx
  have hdy:=zB hlt
  rw [hdr,Cl.wtS] at hkn
  rw [hdr,Cl.mkS] at hm
  rw [hdr,Cl.mkS,hdy] at hy
  dsimp only at hy hm
  obtain ⟨hy1,hy2⟩:=List.cons.inj hy
  have hg:=get_at Cl.d hlt
  rw [hy1,Cl.mk1_d] at hg
  have hn1:=Cl.wt_eq xs[k]
  have e0:=Lt.mkS_end xs[k].lits (kk)
  have c0:=Tl xs[k].lits (kk) (by omega) (by omega)
  have he:=Cl.mk1_end xs[k] kk
  simp (disch:=omega) only [go_sem,Aa,hni,hg,CW,Dv,c0,GX]
  refine ⟨(i+1,(xs[k].mk1 kk).2),⟨k+1,by dsimp only; omega,hlt,by dsimp only; omega,by dsimp only; omega,hy2,hm⟩,by dsimp only; omega,?_⟩
  dsimp only
  rw [Cl.mk1_eq]
  simp only [and_self,and_true,true_and]
  try omega
 ·obtain ⟨hk1,hkn,hy,hm⟩:=hR
  have hdr:xs.drop k=[]:=List.drop_eq_nil_of_le (by omega)
  rw [hdr,Cl.mkS] at hm
  rw [hm]
  simp (disch:=omega) only [go_sem,Aa,hni]
theorem Up (xs:List Cl):Nf xs:=PV xs
def Cs:SC:=(.seq (.reg [⟨some 2,none,.boxv 53 1 (.t 0)⟩,⟨some 3,none,.boxv 53 1 (.t 1)⟩,⟨some 4,none,.mv (.c (.bool false))⟩]) (.seq (.reg [⟨some 5,none,.mv (.c (.int .i64 1048576))⟩]) (.seq (.reg [⟨some 17,none,.load true 1 (.t 2)⟩,⟨some 18,none,.mv (.t 5)⟩,⟨some 19,none,.call 25 [(.t 17),(.t 18)]⟩,⟨some 5,none,.mv (.t 19)⟩]) (.seq (.seq (.reg [⟨some 20,none,.mv (.t 5)⟩,⟨some 21,none,.bin .lss false (.t 20) (.c (.int .i64 0))⟩]) (.cond (.t 21) (.seq (.reg [⟨some 4,none,.mv (.c (.bool true))⟩]) .ret) .skip)) (.seq (.reg [⟨some 22,none,.load true 1 (.t 3)⟩,⟨some 23,none,.mv (.t 5)⟩,⟨some 24,none,.call 25 [(.t 22),(.t 23)]⟩,⟨some 5,none,.mv (.t 24)⟩]) (.seq (.seq (.reg [⟨some 25,none,.mv (.t 5)⟩,⟨some 26,none,.bin .lss false (.t 25) (.c (.int .i64 0))⟩]) (.cond (.t 26) (.seq (.reg [⟨some 4,none,.mv (.c (.bool true))⟩]) .ret) .skip)) (.seq (.dreg [[],[0],[],[2,1,0],[1,0,3,2],[4,1,0,3,2],[5,4,1,0,3,2],[5,4,1,0,3,2],[6,5,4,1,0,3,2],[7,5,4,1,0,3,2,8,6]] [⟨some 28,none,.load true 1 (.t 2)⟩,⟨some 29,none,.call 27 [(.t 28)]⟩,⟨some 30,none,.load true 1 (.t 3)⟩,⟨some 31,none,.call 27 [(.t 30)]⟩,⟨some 32,none,.call 26 [(.t 29),(.t 31)]⟩,⟨some 27,none,.mv (.t 32)⟩,⟨some 33,none,.ext (.t 27) 0⟩,⟨some 34,none,.ext (.t 27) 1⟩,⟨some 6,none,.mv (.t 33)⟩,⟨some 7,none,.mv (.t 34)⟩]) (.seq (.reg [⟨some 35,none,.load true 1 (.t 2)⟩,⟨some 36,none,.call 27 [(.t 35)]⟩,⟨some 8,none,.alloc 60 [.nil]⟩,⟨none,none,(.store 1 (.t 8) (.t 36))⟩]) (.seq (.reg [⟨some 37,none,.load true 1 (.t 3)⟩,⟨some 38,none,.call 27 [(.t 37)]⟩,⟨some 9,none,.alloc 60 [.nil]⟩,⟨none,none,(.store 1 (.t 9) (.t 38))⟩]) (.seq (.reg [⟨some 40,none,.load true 1 (.t 8)⟩,⟨some 41,none,.load true 1 (.t 9)⟩,⟨some 42,none,.call 28 [(.t 40),(.t 41)]⟩,⟨some 39,none,.mv (.t 42)⟩,⟨some 43,none,.ext (.t 39) 0⟩,⟨some 44,none,.ext (.t 39) 1⟩,⟨some 10,none,.mv (.t 43)⟩,⟨some 11,none,.mv (.t 44)⟩]) (.seq (.seq (.reg [⟨some 45,none,.mv (.t 10)⟩,⟨some 46,none,.mv (.t 6)⟩,⟨some 47,none,.call 29 [(.t 45),(.t 46)]⟩,⟨some 48,none,.un .not (.t 47)⟩,⟨some 49,none,.mv (.t 48)⟩,⟨(some 50),(some (49,false)),(.mv (.t 11))⟩,⟨(some 51),(some (49,false)),(.mv (.t 7))⟩,⟨(some 52),(some (49,false)),(.bin .neq true (.t 50) (.t 51))⟩,⟨some 53,none,.pick (.t 49) (.c (.bool true)) (.t 52)⟩]) (.cond (.t 53) (.seq (.reg [⟨some 4,none,.mv (.c (.bool false))⟩]) .ret) .skip)) (.seq (.seq (.dreg [[],[],[1],[0,2,1],[3,0,2,1]] [⟨some 54,none,.load true 1 (.t 8)⟩,⟨some 55,none,.load true 1 (.t 2)⟩,⟨some 56,none,.call 27 [(.t 55)]⟩,⟨some 57,none,.call 30 [(.t 54),(.t 56)]⟩,⟨some 58,none,.un .not (.t 57)⟩]) (.cond (.t 58) (.seq (.reg [⟨some 4,none,.mv (.c (.bool false))⟩]) .ret) .skip)) (.seq (.seq (.dreg [[],[],[1],[0,2,1],[3,0,2,1]] [⟨some 59,none,.load true 1 (.t 9)⟩,⟨some 60,none,.load true 1 (.t 3)⟩,⟨some 61,none,.call 27 [(.t 60)]⟩,⟨some 62,none,.call 30 [(.t 59),(.t 61)]⟩,⟨some 63,none,.un .not (.t 62)⟩]) (.cond (.t 63) (.seq (.reg [⟨some 4,none,.mv (.c (.bool false))⟩]) .ret) .skip)) (.seq (.reg [⟨some 12,none,.mv (.c (.int .i64 1))⟩]) (.seq (.reg [⟨some 64,none,.load true 1 (.t 8)⟩,⟨some 65,none,.mv (.t 12)⟩,⟨some 66,none,.call 31 [(.t 64),(.t 65)]⟩,⟨some 12,none,.mv (.t 66)⟩]) (.seq (.reg [⟨some 67,none,.load true 1 (.t 9)⟩,⟨some 68,none,.mv (.t 12)⟩,⟨some 69,none,.call 31 [(.t 67),(.t 68)]⟩,⟨some 12,none,.mv (.t 69)⟩]) (.seq (.seq (.reg [⟨some 70,none,.mv (.t 12)⟩,⟨some 71,none,.bin .lss false (.t 70) (.c (.int .i64 0))⟩,⟨some 72,none,.mv (.t 71)⟩,⟨(some 73),(some (72,false)),(.mv (.t 10))⟩,⟨(some 74),(some (72,false)),(.mv (.t 6))⟩,⟨(some 75),(some (72,false)),(.call 29 [(.t 73),(.t 74)])⟩,⟨(some 76),(some (72,false)),(.un .not (.t 75))⟩,⟨some 77,none,.pick (.t 72) (.c (.bool true)) (.t 76)⟩,⟨some 78,none,.mv (.t 77)⟩,⟨(some 79),(some (78,false)),(.mv (.t 11))⟩,⟨(some 80),(some (78,false)),(.mv (.t 7))⟩,⟨(some 81),(some (78,false)),(.bin .neq true (.t 79) (.t 80))⟩,⟨some 82,none,.pick (.t 78) (.c (.bool true)) (.t 81)⟩]) (.cond (.t 82) (.seq (.reg [⟨some 4,none,.mv (.c (.bool false))⟩]) .ret) .skip)) (.seq (.reg [⟨some 13,none,.mv (.c (.int .i64 1))⟩]) (.seq (.reg [⟨some 83,none,.mv (.t 10)⟩,⟨some 84,none,.mv (.t 13)⟩,⟨some 85,none,.call 32 [(.t 83),(.t 84)]⟩,⟨some 13,none,.mv (.t 85)⟩]) (.seq (.reg [⟨some 14,none,.mv (.c (.int .i64 1))⟩]) (.seq (.reg [⟨some 86,none,.mv (.t 10)⟩,⟨some 87,none,.mv (.t 14)⟩,⟨some 88,none,.call 33 [(.t 86),(.t 87)]⟩,⟨some 14,none,.mv (.t 88)⟩]) (.seq (.seq (.reg [⟨some 89,none,.mv (.t 14)⟩,⟨some 90,none,.bin .lss false (.t 89) (.c (.int .i64 0))⟩]) (.cond (.t 90) (.seq (.reg [⟨some 4,none,.mv (.c (.bool false))⟩]) .ret) .skip)) (.seq (.seq (.reg [⟨some 91,none,.mv (.t 14)⟩,⟨some 92,none,.mv (.t 13)⟩,⟨some 93,none,.bin .neq false (.t 91) (.t 92)⟩]) (.cond (.t 93) (.seq (.reg [⟨some 4,none,.mv (.c (.bool false))⟩]) .ret) .skip)) (.seq (.dreg [[],[0],[],[2,1,0],[1,0,3,2],[4,1,0,3,2],[5,4,1,0,3,2],[5,4,1,0,3,2],[6,5,4,1,0,3,2],[7,5,4,1,0,3,2,8,6]] [⟨some 95,none,.load true 1 (.t 2)⟩,⟨some 96,none,.call 27 [(.t 95)]⟩,⟨some 97,none,.load true 1 (.t 3)⟩,⟨some 98,none,.call 27 [(.t 97)]⟩,⟨some 99,none,.call 28 [(.t 96),(.t 98)]⟩,⟨some 94,none,.mv (.t 99)⟩,⟨some 100,none,.ext (.t 94) 0⟩,⟨some 101,none,.ext (.t 94) 1⟩,⟨some 15,none,.mv (.t 100)⟩,⟨some 16,none,.mv (.t 101)⟩]) (.seq (.seq (.reg [⟨some 102,none,.mv (.t 15)⟩,⟨some 103,none,.mv (.t 6)⟩,⟨some 104,none,.call 29 [(.t 102),(.t 103)]⟩,⟨some 105,none,.un .not (.t 104)⟩,⟨some 106,none,.mv (.t 105)⟩,⟨(some 107),(some (106,false)),(.mv (.t 16))⟩,⟨(some 108),(some (106,false)),(.mv (.t 7))⟩,⟨(some 109),(some (106,false)),(.bin .neq true (.t 107) (.t 108))⟩,⟨some 110,none,.pick (.t 106) (.c (.bool true)) (.t 109)⟩]) (.cond (.t 110) (.seq (.reg [⟨some 4,none,.mv (.c (.bool false))⟩]) .ret) .skip)) (.seq (.reg [⟨some 14,none,.mv (.c (.int .i64 1))⟩]) (.seq (.reg [⟨some 111,none,.mv (.t 10)⟩,⟨some 112,none,.mv (.t 14)⟩,⟨some 113,none,.call 33 [(.t 111),(.t 112)]⟩,⟨some 14,none,.mv (.t 113)⟩]) (.seq (.seq (.reg [⟨some 114,none,.mv (.t 14)⟩,⟨some 115,none,.bin .lss false (.t 114) (.c (.int .i64 0))⟩]) (.cond (.t 115) (.seq (.reg [⟨some 4,none,.mv (.c (.bool false))⟩]) .ret) .skip)) (.seq (.seq (.reg [⟨some 116,none,.mv (.t 14)⟩,⟨some 117,none,.mv (.t 13)⟩,⟨some 118,none,.bin .neq false (.t 116) (.t 117)⟩]) (.cond (.t 118) (.seq (.reg [⟨some 4,none,.mv (.c (.bool false))⟩]) .ret) .skip)) (.seq (.reg [⟨some 4,none,.mv (.c (.bool true))⟩]) .ret))))))))))))))))))))))))))))))
theorem Dk:codeOf Tryz.prog 5=some ⟨119,Cs,[(.tmp 4)]⟩:=by kernel_rfl
theorem Dl:modes 5=⟨[],.asis,none,false⟩:=by unfold modes; rfl
theorem QcG (c d:Cl):(Xl c d).length+Cl.sumB (Xl c d)≤1048576:=by
 cases h:(c.ok&&c.norm)&&(d.ok&&d.norm) with
 | false=>rw [Zx h]; simp [Cl.sumB]
 | true =>
  rw [QaC h]
  rw [zE,zE,zE] at h
  have h1:=QbK (Qem h.1.1 h.2.1)
  have h2:=Cl.QbI (FE [] (QR c d)) (TF fun x hx=>TE hx)
  omega
theorem Qfy (x:Cl) (y:Cl) (hfx:D.fits x.d) (hfy:D.fits y.d):E 5 [x.sv,y.sv] []=some (.bool true,[]):=by
 have s0:=Tq x hfx 1048576 (by omega) (by omega)
 have q0:=BF 1048576 x.bulk
 obtain ⟨l0,hl0⟩:∃ l,l=szR 1048576 (x.bulk:Nat):=⟨_,rfl⟩
 rw [←hl0] at s0 q0
 rcases Int.lt_or_le l0 0 with h0 | h0_0
 ·refine Ad Dk Dl (of_decide_eq_true rfl) ?_
  simp (disch:=omega) only [Cs,go_sem,Aa,s0,C3]
 have s1:=Tq y hfy l0 (by omega) (by omega)
 have q1:=BF l0 y.bulk
 obtain ⟨l1,hl1⟩:∃ l,l=szR l0 (y.bulk:Nat):=⟨_,rfl⟩
 rw [←hl1] at s1 q1
 rcases Int.lt_or_le l1 0 with h0 | h0_1
 ·refine Ad Dk Dl (of_decide_eq_true rfl) ?_
  simp (disch:=omega) only [Cs,go_sem,Aa,s0,s1,C3]
 have hb_x:x.bulk≤1048576:=by omega
 have hb_y:y.bulk≤1048576:=by omega
 have t_x:=Tu x hb_x
 have t_y:=Tu y hb_y
 have htx:=Cl.Zp x hb_x
 have hty:=Cl.Zp y hb_y
 have a1:=PR x y htx hty
 have a2:=PT x y htx hty
 have hb_r:=QcG x y
 obtain ⟨r,hr_r⟩:∃ r,r=Xl x y:=⟨_,rfl⟩
 rw [←hr_r] at a1 a2 hb_r
 obtain ⟨o,hr_o⟩:∃ r,r=((x.ok&&x.norm)&&(y.ok&&y.norm)):=⟨_,rfl⟩
 rw [←hr_o] at a1 a2
 have eq_x:=N4 x (by omega)
 have be_x:=Cl.bulk_eq x
 have w_x_lits:=Lt.wtS_bulk x.lits
 have eq_y:=N4 y (by omega)
 have be_y:=Cl.bulk_eq y
 have w_y_lits:=Lt.wtS_bulk y.lits
 have eq_r:=YV r (by omega)
 have w_r:=Cl.wtS_bulk r
 have k_x_0:=Lt.mkS_end x.lits (1)
 have m_x:=OF x (1) (.row 122 3 (x.lits.map Lt.o)) (by omega) (by omega) rfl
 obtain ⟨n_x,hn_x⟩:∃ n1,n1=(x.mkr (1)).2:=⟨_,rfl⟩
 have hn'_x:n_x=(Lt.mkS x.lits (1)).2:=hn_x
 rw [←hn_x] at m_x
 have k_y_0:=Lt.mkS_end y.lits (n_x)
 have m_y:=OF y (n_x) (.row 122 3 (y.lits.map Lt.o)) (by omega) (by omega) rfl
 obtain ⟨n_y,hn_y⟩:∃ n1,n1=(y.mkr (n_x)).2:=⟨_,rfl⟩
 have hn'_y:n_y=(Lt.mkS y.lits (n_x)).2:=hn_y
 rw [←hn_y] at m_y
 have k_r:=Cl.mkS_end r (1)
 have m_r:=Uo r (1) [.row 60 1 (r.map Cl.o)] (by omega) (by omega) rfl
 have hd_r:=Up r (1) (by omega) (by omega)
 obtain ⟨n_r,hn_r⟩:∃ n1,n1=(Cl.mkS r (1)).2:=⟨_,rfl⟩
 rw [←hn_r] at k_r m_r hd_r
 refine Ad Dk Dl (of_decide_eq_true rfl) ?_
 simp (disch:=omega) only [Cs,go_sem,s0,s1,t_x,t_y,a1,a2,eq_x,eq_y,eq_r,m_x,m_y,hd_r,m_r,Dv,C3,DQ,CZ,D2,Dd,CS,CR,BV,BW,Cl.osv,Cl.obs,Lt.osv,Lt.obs,Tm.osv,Tm.obs,Lt.erss,Lt.noss,Cl.erss,Cl.noss]
 repeat ((first | (refine Qdz ?_ ?_; (focus (simp (disch:=omega) only [go_sem,s0,s1,t_x,t_y,a1,a2,eq_x,eq_y,eq_r,m_x,m_y,hd_r,m_r,Dv,C3,DQ,CZ,D2,Dd,CS,CR,BV,BW,Cl.osv,Cl.obs,Lt.osv,Lt.obs,Tm.osv,Tm.obs,Lt.erss,Lt.noss,Cl.erss,Cl.noss]; done))) | (refine Qd0 ?_ ?_; (focus (simp (disch:=omega) only [go_sem,s0,s1,t_x,t_y,a1,a2,eq_x,eq_y,eq_r,m_x,m_y,hd_r,m_r,Dv,C3,DQ,CZ,D2,Dd,CS,CR,BV,BW,Cl.osv,Cl.obs,Lt.osv,Lt.obs,Tm.osv,Tm.obs,Lt.erss,Lt.noss,Cl.erss,Cl.noss]; done)))); (try simp (disch:=omega) only [go_sem,s0,s1,t_x,t_y,a1,a2,eq_x,eq_y,eq_r,m_x,m_y,hd_r,m_r,Dv,C3,DQ,CZ,D2,Dd,CS,CR,BV,BW,Cl.osv,Cl.obs,Lt.osv,Lt.obs,Tm.osv,Tm.obs,Lt.erss,Lt.noss,Cl.erss,Cl.noss]))
end Go.Proofs.YtepbennkcbmgoaaGreatDoor
set_option maxRecDepth 100000
set_option linter.unusedSimpArgs false
set_option linter.unusedVariables false
set_option linter.unusedSectionVars false
namespace Go.Proofs.YtepbennkcbmgoaaGreatDoor
open Go.RowKit Go.ChangeShapes Go.WideShapes Go.ChangeAt Go.Deep
section
variable {H:Type} {enc:TypeId × Value→H} {P:Program} {w:World} {base:Nat} {spare:Nat→Bool} {held:Bool}
theorem LN {b o k:Nat}:(⟨b,o,none⟩:Addr).add k=⟨b,o+k,none⟩:=by
 unfold Addr.add; split
 ·subst_vars; rfl
 ·rfl
theorem Qfz {a:Addr} {v:Value} (h:w.cell? a=some v):a.block<w.heap.size:=by
 unfold World.cell? at h
 cases hb:w.heap[a.block]? with
 | none=>rw [hb] at h; cases h
 | some o=>exact (zH.1 hb).1
end
section
variable {H:Type} {enc:TypeId × Value→H} {w:World} {base:Nat} {spare:Nat→Bool} {held:Bool}
end
end Go.Proofs.YtepbennkcbmgoaaGreatDoor
set_option maxRecDepth 100000
set_option linter.unusedSimpArgs false
set_option linter.unusedVariables false
set_option linter.unusedSectionVars false
namespace Go.Proofs.YtepbennkcbmgoaaGreatDoor
open Go.RowKit Go.ChangeShapes Go.WideShapes Go.ChangeAt Go.Deep
section
variable {H:Type} {enc:TypeId × Value→H} {P:Program} {w:World} {base:Nat} {spare:Nat→Bool} {held:Bool}
theorem Z0 {t e:TypeId} {fuel:Nat} {v:Value} {x:DataW H × List MemPlace} (sz:Nat) (hsz:P.cellsOf e=sz) (h0:0<sz) (ht:P.underlying t=some (.slice e)) (h:DataW.trod enc P w base spare held fuel t [v]=some x) :
    ∃ (a:Option Addr) (len cap:Nat) (f:Nat→Nat→Value),v=.slice a len cap∧len≤cap∧cap≤9223372036854775807∧SlA w 0 sz len f a ∧
      ∀ i,i<len→∃ n x',n<fuel∧DataW.trod enc P w base spare held n e ((zF sz).map (f i))=some x':=by
  rcases DataW.trod_slice ht h with ⟨hcs,_⟩ | ⟨a,len,cap,elems,rest,n,hf,hcs,hx,hb,hl,hm,hlen,hel,_,_⟩
  · simp only [List.cons.injEq,and_true] at hcs
    exact ⟨none,0,0,fun _ _=>undef,hcs,Nat.le_refl _,by omega,.inl rfl,fun i hi=>absurd hi (by omega)⟩
  · have hi:∀ i,i<len→∃ cs' x',w.cells? base (a.add (i*sz)) sz=some cs'∧DataW.trod enc P w base spare held n e cs'=some x':=by
      intro i hi
      have h1:=hel i hi
      rw [hsz,zA (by omega)] at h1
      obtain ⟨cs',h2,h3⟩:=Option.bind_eq_some_iff.1 h1
      exact ⟨cs',_,h2,h3⟩
    have hcell:∀ i j,i<len→j<sz→∃ v,w.cell? (a.add (i*sz+j))=some v:=by
      intro i j hil hj
      obtain ⟨cs',x',hc,_⟩:=hi i hil
      obtain ⟨_,hcl,hat⟩:=World.cells?_some hc
      have h1:=hat j hj
      rw [Go.Deep.add_add,zA (by omega)] at h1
      exact ⟨_,h1⟩
    simp only [List.cons.injEq,and_true] at hcs
    refine ⟨some a,len,cap,fun i j=>(w.cell? (a.add (i*sz+j))).getD undef,hcs,hl,hm,?_,?_⟩
    · rcases Nat.eq_zero_or_pos len with h | h
      · exact .inl h
      · obtain ⟨v,hv⟩:=hcell 0 0 h h0
        rw [Nat.zero_mul,Nat.zero_add] at hv
        have hsp:a.spot=none:=by simpa [Addr.add] using World.cell?_spot hv
        have hlt:=Qfz hv
        obtain ⟨b,off,spot⟩:=a
        simp only at hsp
        subst hsp
        refine .inr ⟨b,off,rfl,zI _,by simpa [Addr.add] using hlt,fun i j hil hj=>?_⟩
        obtain ⟨v',hv'⟩:=hcell i j hil hj
        rw [LN] at hv'
        show _=some ((w.cell? ((⟨b,off,none⟩:Addr).add (i*sz+j))).getD undef)
        rw [LN,Nat.add_assoc,hv']
        rfl
    · intro i hil
      obtain ⟨cs',x',hc,ht'⟩:=hi i hil
      obtain ⟨_,hcl,hat⟩:=World.cells?_some hc
      refine ⟨n,x',by omega,?_⟩
      have hcs':(zF sz).map (fun j=>(w.cell? (a.add (i*sz+j))).getD undef)=cs':=by
        apply List.ext_getElem?
        intro j
        by_cases hj:j<sz
        · rw [List.getElem?_map,List.getElem?_range hj]
          have h1:=hat j hj
          rw [Go.Deep.add_add] at h1
          rw [zA (by omega:j<cs'.length)] at h1 ⊢
          simp [h1]
        · rw [List.getElem?_eq_none (by simp; omega),List.getElem?_eq_none (by omega)]
      rw [hcs']
      exact ht'
theorem TH {t:TypeId} {fs:Array Field} {fuel:Nat} {cs:List Value} {x:DataW H × List MemPlace} (ht:P.underlying t=some (.struct fs)) (h:DataW.trod enc P w base spare held fuel t cs=some x) :
  ∃ n,n<fuel∧cs.length=P.cellsOf t∧∀ (i:Nat) (f:Field),fs[i]?=some f→∃ y,DataW.trod enc P w base spare held n f.type ((cs.drop f.offset).take (P.cellsOf f.type))=some y:=by
 obtain ⟨xs,n,hn,hx,hlen,hxl,hf⟩:=DataW.trod_struct ht h
 refine ⟨n,by omega,hlen,fun i f hi=>?_⟩
 have hil:i<fs.size:=(zH.1 hi).1
 have h1:=hf i f hi
 rw [zA (by omega:i<xs.length)] at h1
 exact ⟨_,h1⟩
end
inductive Lvs (w:World):List D→List Value→Prop
 |nil:Lvs w [] []
 |cons {d:D} {v:Value} {ds:List D} {vs:List Value} (h:DAt w d v) (hs:Lvs w ds vs):Lvs w (d :: ds) (v :: vs)
theorem Lvs.len {w:World} {ds:List D} {vs:List Value} (h:Lvs w ds vs):ds.length=vs.length:=by
 induction h with
 | nil=>rfl
 | cons h hs ih=>simp [ih]
theorem Lvs.get {w:World} {ds:List D} {vs:List Value} (h:Lvs w ds vs):∀ j (h1:j<ds.length) (h2:j<vs.length),DAt w ds[j] vs[j]:=by
 induction h with
 | nil=>intro j h1; simp at h1
 | cons h hs ih =>
  intro j h1 h2
  cases j with
  | zero=>exact h
  | succ j=>exact ih j (by simpa using h1) (by simpa using h2)
theorem Z1 {α:Type} [Inhabited α] (dd:α→List D) {w:World} {m len cap:Nat} {f:Nat→Nat→Value} {a:Option Addr} (hl:len≤cap) (hm:cap≤9223372036854775807) (hS:SlA w 0 m len f a)
  (hel:∀ i,i<len→∃ X:α,Lvs w (dd X) ((zF m).map (f i))):∃ xs:List α,DAt w (.arr (xs.map dd)) (.slice a len cap):=by
 obtain ⟨g,hg⟩:∃ g:Nat→α,∀ i,i<len→Lvs w (dd (g i)) ((zF m).map (f i)) :=
  ⟨fun i=>if h:i<len then (hel i h).choose else default,fun i hi=>by simp only [hi,dif_pos]; exact (hel i hi).choose_spec⟩
 refine ⟨(zF len).map g,?_⟩
 have hlen:(((zF len).map g).map dd).length=len:=by simp
 have:=DAt.Qf9 (w:=w) (es:=((zF len).map g).map dd) (sz:=m) (cap:=cap) (a:=a) (f:=f) (by rw [hlen]; exact hl) hm (by rw [hlen]; exact hS) (fun i hi=>by
  rw [hlen] at hi
  have:=(hg i hi).len
  simpa using this) (fun i j hi hj=>by
  rw [hlen] at hi
  have h1:=hg i hi
  have h2:=h1.len
  simp only [List.length_map,List.length_range] at h2
  simp only [List.getElem_map,List.getElem_range] at hj ⊢
  have:=h1.get j hj (by simp; omega)
  simpa using this)
 rw [hlen] at this
 exact this
instance:Inhabited Tm:=⟨Tm.zero⟩
instance:Inhabited Fm:=⟨Fm.zero⟩
section
variable {H:Type} {enc:TypeId × Value→H} {w:World} {base:Nat} {spare:Nat→Bool} {held:Bool}
end
end Go.Proofs.YtepbennkcbmgoaaGreatDoor
set_option maxRecDepth 100000
set_option linter.unusedSimpArgs false
set_option linter.unusedVariables false
set_option linter.unusedSectionVars false
namespace Go.Proofs.YtepbennkcbmgoaaGreatDoor
open Go.RowKit
theorem DRep.lt_ {own:Bool} {w:World} {S:Nat→Prop} {d:D} {v:Value} (h:DRep own w S d v):DRep own w (fun b=>S b∧b<w.heap.size) d v:=by
 induction h with
 | int S n=>exact .int _ n
 | bool S b=>exact .bool _ b
 | str S s h=>exact .str _ s h
 | arr S sz es a cap f Sub h1 h2 h3 h4 h5 h6 h7 ih =>
  refine .arr _ sz es a cap f (fun i j x=>Sub i j x∧x<w.heap.size) h1 h2 ?_ h4 (fun i j x h=>⟨h5 i j x h.1,h.2⟩) (fun ho i j i' j' x h h'=>h6 ho i j i' j' x h.1 h'.1) ih
  rcases h3 with h3 | ⟨b,off,ha,hS,hl,hc,ho⟩
  ·exact .inl h3
  ·exact .inr ⟨b,off,ha,⟨hS,hl⟩,hl,hc,fun h=>⟨fun i j hx=>(ho h).1 i j hx.1,(ho h).2⟩⟩
theorem Fun.yes {f:FuncId} {args:List SV} (h:Fun Tryz.prog f args [] (.bool true) []) {w:World} {vs:List Value} (hgl:GL w fun b=>b<w.heap.size) (hvs:RepVs w (fun b=>b<w.heap.size) (fun _=>none) args vs):Calls Tryz.prog f vs.toArray w (Ret w (.bool true)):=by
 have nl:∀ g,¬ (Ap [] g).live:=fun g hg=>by simp [Ap,Ob.live] at hg
 refine (h w (fun b=>b<w.heap.size) (fun _=>none) (fun _ _=>False) vs ⟨fun b hb=>hb,fun g hg=>absurd hg (nl g),fun g b hg=>absurd hg (nl g),fun g b hg=>absurd hg (nl g),fun g g' b hg=>absurd hg (nl g),fun g _=>rfl,hgl⟩ hvs).mono ?_
 rintro e w' ⟨v,I',V',B',rfl,hr,hp⟩
 simp only [RepV] at hr
 subst hr
 exact ⟨rfl,hp.fr.os,hp.fr.tape.1,hp.fr.output,hp.fr.size,fun b hb=>hp.fr.block b hb fun ⟨g,hg,_⟩=>absurd hg (nl g)⟩
theorem Z2 {w:World} {d:D} {ds:List D} {v:Value} {vs:List Value} (h:Lvs w (d :: ds) (v :: vs)):DAt w d v∧Lvs w ds vs:=by
 cases h with
 | cons h1 h2=>exact ⟨h1,h2⟩
theorem DAt.rep_sv {w:World} {d:D} {v:Value} (h:DAt w d v):RepV w (fun b=>b<w.heap.size) (fun _=>none) d.sv v :=
 D.rep_sv ((DRep.lt_ h).up fun b hb=>hb.2)
theorem Lvs.reps {w:World} {ds:List D} {vs:List Value} (h:Lvs w ds vs):RepVs w (fun b=>b<w.heap.size) (fun _=>none) (ds.map D.sv) vs:=by
 induction h with
 | nil=>simp [RepVs]
 | cons h hs ih=>simp only [List.map_cons,RepVs]; exact ⟨_,_,rfl,h.rep_sv,ih⟩
theorem Lvs.agg {w:World} {ds:List D} {vs:List Value} (h:Lvs w ds vs):RepV w (fun b=>b<w.heap.size) (fun _=>none) (.agg (ds.map D.sv)) (.agg vs.toArray):=by
 simp only [RepV]; exact ⟨vs,rfl,h.reps⟩
theorem Lvs.fits {w:World} {ds:List D} {vs:List Value} (h:Lvs w ds vs):D.fits ds:=by
 induction h with
 | nil=>trivial
 | cons h hs ih=>exact ⟨DRep.fit h,ih⟩
theorem Qet {w:World} {I:Nat→Prop} {V:Nat→Option Value}:RepVs w I V [] []:=by simp [RepVs]
theorem VD {w:World} {I:Nat→Prop} {V:Nat→Option Value} {x:SV} {xs:List SV} {v:Value} {vs:List Value} (h:RepV w I V x v) (hs:RepVs w I V xs vs):RepVs w I V (x :: xs) (v :: vs):=by
 simp only [RepVs]; exact ⟨v,vs,rfl,h,hs⟩
instance:Inhabited Lt:=⟨Lt.zero⟩
instance:Inhabited Cl:=⟨Cl.zero⟩
section
variable {H:Type} {enc:TypeId × Value→H} {w:World} {base:Nat} {spare:Nat→Bool} {held:Bool}
theorem Q7 {fuel:Nat} (ih:∀ n,n<fuel→∀ v x,DataW.trod enc Tryz.prog w base spare held n 22 [v]=some x→∃ xs:List Tm,DAt w (.arr (xs.map Tm.d)) v) {cs:List Value} {x:DataW H × List MemPlace} (h:DataW.trod enc Tryz.prog w base spare held fuel 24 cs=some x):∃ X:Tm,Lvs w X.d cs:=by
 obtain ⟨n,hn,hlen,hf⟩:=TH Tryz.underlying24 h
 rw [show Tryz.prog.cellsOf 24=2 by kernel_rfl] at hlen
 match cs,hlen with
 | [c0,c1],_ =>
  obtain ⟨y0,k0⟩:=hf 0 _ rfl
  have e0:(([c0,c1].drop 0).take (Tryz.prog.cellsOf 9))=[c0]:=by rw [show Tryz.prog.cellsOf 9=1 by kernel_rfl]; rfl
  obtain ⟨z0,q0,_,s0⟩:=DataW.trod_string Tryz.underlying9 k0
  have q0':c0=.string z0:=by
   have:[c0]=[.string z0]:=by rw [←e0]; exact q0
   simpa using this
  obtain ⟨y1,k1⟩:=hf 1 _ rfl
  have e1:(([c0,c1].drop 1).take (Tryz.prog.cellsOf 22))=[c1]:=by rw [show Tryz.prog.cellsOf 22=1 by kernel_rfl]; rfl
  have k1':DataW.trod enc Tryz.prog w base spare held n 22 [c1]=some y1:=by rw [←e1]; exact k1
  obtain ⟨z1,g1⟩:=ih n hn c1 y1 k1'
  subst q0'
  exact ⟨.mk z0 z1,by rw [Tm.d_eq]; exact (.cons (.str _ z0 s0) (.cons g1 .nil))⟩
theorem Uq:∀ (fuel:Nat) (v:Value) (x:DataW H × List MemPlace),DataW.trod enc Tryz.prog w base spare held fuel 22 [v]=some x→∃ xs:List Tm,DAt w (.arr (xs.map Tm.d)) v:=by
 intro fuel
 induction fuel using Nat.strongRecOn with
 | _ fuel ih =>
  intro v x h
  obtain ⟨a,len,cap,f,rfl,hl,hm,hS,hr⟩:=Z0 (P:=Tryz.prog) 2 (by kernel_rfl) (by omega) Tryz.underlying22 h
  exact Z1 Tm.d hl hm hS fun i hi=>by
   obtain ⟨n,x',hn,h1⟩:=hr i hi
   exact Q7 (fun n' hn'=>ih n' (by omega)) h1
theorem Qeu {fuel:Nat} {cs:List Value} {x:DataW H × List MemPlace} (h:DataW.trod enc Tryz.prog w base spare held fuel 24 cs=some x):∃ X:Tm,Lvs w X.d cs :=
 Q7 (fun n _=>Uq n) h
theorem Z3 {fuel:Nat} {cs:List Value} {x:DataW H × List MemPlace} (h:DataW.trod enc Tryz.prog w base spare held fuel 165 cs=some x):∃ X:Lt,Lvs w X.d cs:=by
 obtain ⟨n,hn,hlen,hf⟩:=TH Tryz.underlying165 h
 rw [show Tryz.prog.cellsOf 165=3 by kernel_rfl] at hlen
 match cs,hlen with
 | [c0,c1,c2],_ =>
  obtain ⟨y0,k0⟩:=hf 0 _ rfl
  have e0:(([c0,c1,c2].drop 0).take (Tryz.prog.cellsOf 4))=[c0]:=by rw [show Tryz.prog.cellsOf 4=1 by kernel_rfl]; rfl
  obtain ⟨z0,q0,_⟩:=DataW.trod_bool Tryz.underlying4 k0
  have q0':c0=.bool z0:=by
   have:[c0]=[.bool z0]:=by rw [←e0]; exact q0
   simpa using this
  obtain ⟨y1,k1⟩:=hf 1 _ rfl
  have e1:(([c0,c1,c2].drop 1).take (Tryz.prog.cellsOf 24))=[c1,c2]:=by rw [show Tryz.prog.cellsOf 24=2 by kernel_rfl]; rfl
  have k1':DataW.trod enc Tryz.prog w base spare held n 24 [c1,c2]=some y1:=by rw [←e1]; exact k1
  obtain ⟨z1,g1⟩:=Qeu k1'
  rw [Tm.d_eq] at g1
  obtain ⟨g1_0,g1⟩:=Z2 g1
  obtain ⟨g1_1,g1⟩:=Z2 g1
  subst q0'
  exact ⟨⟨z0,z1⟩,by rw [Lt.d_eq]; exact (.cons (.bool _ z0) (.cons g1_0 (.cons g1_1 .nil)))⟩
theorem Xq {fuel:Nat} {v:Value} {x:DataW H × List MemPlace} (h:DataW.trod enc Tryz.prog w base spare held fuel 51 [v]=some x):∃ xs:List Lt,DAt w (.arr (xs.map Lt.d)) v:=by
 obtain ⟨a,len,cap,f,rfl,hl,hm,hS,hr⟩:=Z0 (P:=Tryz.prog) 3 (by kernel_rfl) (by omega) Tryz.underlying51 h
 exact Z1 Lt.d hl hm hS fun i hi=>by
  obtain ⟨n,x',hn,h1⟩:=hr i hi
  exact Z3 h1
theorem TI {fuel:Nat} {cs:List Value} {x:DataW H × List MemPlace} (h:DataW.trod enc Tryz.prog w base spare held fuel 53 cs=some x):∃ X:Cl,Lvs w X.d cs:=by
 obtain ⟨n,hn,hlen,hf⟩:=TH Tryz.underlying53 h
 rw [show Tryz.prog.cellsOf 53=1 by kernel_rfl] at hlen
 match cs,hlen with
 | [c0],_ =>
  obtain ⟨y0,k0⟩:=hf 0 _ rfl
  have e0:(([c0].drop 0).take (Tryz.prog.cellsOf 51))=[c0]:=by rw [show Tryz.prog.cellsOf 51=1 by kernel_rfl]; rfl
  have k0':DataW.trod enc Tryz.prog w base spare held n 51 [c0]=some y0:=by rw [←e0]; exact k0
  obtain ⟨z0,g0⟩:=Xq k0'
  exact ⟨⟨z0⟩,by rw [Cl.d_eq]; exact (.cons g0 .nil)⟩
end
end Go.Proofs.YtepbennkcbmgoaaGreatDoor
