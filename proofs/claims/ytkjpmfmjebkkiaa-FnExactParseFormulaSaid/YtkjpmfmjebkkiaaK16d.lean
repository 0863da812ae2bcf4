/-
  Texts of this claim, one behind the other, each built on those ahead of it. No condition.
-/
import Derived.Test.YtkjpmfmjebkkiaaK16b
import Derived.Test.YtkjpmfmjebkkiaaK16c
import Derived.ProofKit
import Derived.Deep.Slices
import Derived.Deep.Fields
import Derived.ChangeSame
import Derived.OpenShut
import Derived.ShutString
import Derived.ChangeOld
set_option maxHeartbeats 16000000
open ByteArray renaming size_append → zA
open List renaming getElem?_cons_zero → zB, getElem?_cons_succ → zC, map_cons → zD, map_nil → zF, length_cons → zH, drop_eq_getElem_cons → zJ, drop_zero → zL, mem_singleton → zM, not_mem_nil → zN, cons_append → zQ, getElem_mem → zR, mem_cons → zV, drop_eq_nil_of_le → zW, append_assoc → zY, length → zZ, length_nil → z6, length_append → z7, getLast?_append → z8, map_append → yA, length_pos_iff → yB, reverse_append → yC, getElem?_append_right → yE, nil_append → yH, length_map → yI, append_nil → yJ
open Int renaming toNat_zero → zE, toNat_natCast → zU, toNat_one → zX
open Option.some renaming injEq → zG
open Bool renaming and_eq_true → zI, or_true → zS
open Prod.mk renaming injEq → zK
open Nat renaming lt_or_ge → zO, le_refl → zP, zero_le → zT
open Option renaming isSome_some → yD, getD_some → yG
open List.cons renaming inj → yF
set_option maxRecDepth 100000
set_option linter.unusedSimpArgs false
set_option linter.unusedVariables false
set_option linter.unusedSectionVars false
namespace Go.Proofs.Ytkjpmfmjebkkiaa
open Go.RowKit
theorem Vr (s:ByteArray) (i:Nat) (hi:i≤s.size) (hs:s.size≤1048576):E 54 [.ptr 0 0] [psr s i true]=some (.str ⟨#[]⟩,[psr s (A3 s i) true]):=by
 refine Aj Fo Av (of_decide_eq_true rfl) ?_
 simp (disch:=omega) only [D8,go_sem,Ab]
 refine go_loop (α:=Nat) (fun j=>⟨slots 98 0 [(0,.ptr 0 0),(3,.int .i64 (i:Int))],[psr s j true]⟩) (fun j=>i≤j∧j≤s.size∧A3 s j=A3 s i) (fun j=>s.size-j) i ⟨zP _,hi,rfl⟩ (by simp (disch:=omega) only [go_sem,Ab]) ?_
 rintro j ⟨h1,h2,h3⟩
 have hj:((j:Nat):Int).toNat=j:=zU j
 rcases zO j s.size with hlt | hge
 ·have hw:=@Gr s j hlt
  have hx:Bt (Ay s j)=false→A3 s j=j:=fun h=>CM (fun k=>by rw [h] at k; exact absurd k.2 (by simp))
  have a1:=OF (Ay s j)
  have a2:=OG (Ay s j)
  have a3:=OH (Ay s j)
  unfold Bt at hw hx
  generalize hg1:(dec (97≤Ay s j)&&dec (Ay s j≤122))=q1 at *
  generalize hg2:(dec (65≤Ay s j)&&dec (Ay s j≤90))=q2 at *
  generalize hg3:(dec (48≤Ay s j)&&dec (Ay s j≤57))=q3 at *
  generalize hg4:dec (Ay s j=95)=q4 at *
  cases q1 <;> cases q2 <;> cases q3 <;> cases q4
  all_goals
   simp only [zS,Bool.or_false,Bool.true_or,Bool.false_or,true_implies,Bool.true_eq_false,Bool.false_eq_true,false_implies] at hw hx
  case false.false.false.false =>
   have e:A3 s i=j:=by rw [←h3,hx]
   rw [e]
   simp (disch:=omega) only [go_sem,Ab,hj,a1,a2,a3,hg4,Cj,Ck,Cm]
  all_goals
   simp (disch:=omega) only [go_sem,Ab,hj,a1,a2,a3,hg4,Cj,Ck,Cm]
   exact ⟨j+1,⟨by omega,by omega,by omega⟩,by omega,by first | trivial | (simp only [psr,Int.natCast_add,Int.natCast_one]) | rfl⟩
 ·have e:A3 s i=j:=by rw [←h3]; exact CM (by omega)
  rw [e]
  simp (disch:=omega) only [go_sem,Ab,hj]
theorem Vs (s:ByteArray) (i:Nat) (hi:i≤s.size) (hs:s.size≤1048576):E 92 [.ptr 0 0] [psr s i true]=some (.agg [.str ⟨#[]⟩,.ref 1],[psr s (A3 s i) true,.row 24 2 []]):=by
 have h1:=Vr s i hi hs
 have h2:=Fp s (A3 s i) ⟨#[40]⟩
 refine Aj Fq Bx (of_decide_eq_true rfl) ?_
 simp (disch:=omega) only [Cn,go_sem,Ab,h1,h2,Av,Ao,Ap]
theorem Vt (s:ByteArray) (i:Nat) (hi:i≤s.size) (hs:s.size≤1048576):E 59 [.ptr 0 0] [psr s i true]=some (.agg [.str ⟨#[]⟩,.ref 1],[psr s (A3 s i) true,.row 24 2 []]):=by
 have h1:=Vs s i hi hs
 have h2:=Fp s (A3 s i) ⟨#[32,61,32]⟩
 refine Aj Ft AL (of_decide_eq_true rfl) ?_
 simp (disch:=omega) only [Cp,go_sem,Ab,h1,h2,Bx,Ao]
theorem Ji (s:ByteArray) (i:Nat) (fl:Bool) (x:ByteArray) (hs:s.size≤1048576) (hi:i≤s.size):∃ (j:Nat) (b:Bool),E 55 [.ptr 0 0,.str x] [psr s i fl]=some (.tup [],[psr s j b])∧i≤j∧j≤s.size∧(b=false→fl=false∧j=i+x.size∧hasB s i x=true)∧(fl=false→hasB s i x=true→b=false):=by
 cases fl with
 | true=>exact ⟨i,true,SA s i x,zP _,hi,(fun h=>by cases h),(fun h=>by cases h)⟩
 | false =>
  cases h:hasB s i x with
  | false=>exact ⟨i,true,Qv s i x hi h,zP _,hi,(fun h=>by cases h),(fun _ h=>by cases h)⟩
  | true =>
   have hz:=((AO hi).1 h).1
   exact ⟨i+x.size,false,OJ s i x (by omega) hi h,by omega,hz,(fun _=>⟨rfl,rfl,rfl⟩),(fun _ _=>rfl)⟩
abbrev Ri (x:Fm):SV:=.agg [.int .i64 x.op,.str x.atom.name,.ref 1,.str x.var,.ref 2]
abbrev NG (x:Fm):Ob:=.row 24 2 (x.atom.args.map Tm.o)
abbrev NH (x:Fm):Ob:=.row 27 5 (x.parts.map Fm.o)
def VI (s:ByteArray) (i:Nat) (x:Fm) (j:Nat) (fl:Bool):Prop :=
 ∀ (f:Fm) (e:Nat),f.forms=true→e≤s.size→i≤e→((seg s i e=f.fmt∧GH s e)∨seg s i e=40 :: (f.fmt++[41]))→fl=false∧x=f∧j=e
def Nj (s:ByteArray) (i:Nat) (fl0:Bool) (out:SV × List Ob):Prop :=
 ∃ (x:Fm) (j:Nat) (fl:Bool),out=(Ri x,[psr s j fl,NG x,NH x])∧i≤j∧j≤s.size∧(fl=false→fl0=false∧x.nodes+i≤j∧x.tame)∧(fl0=false→VI s i x j fl)
def Uh (s:ByteArray) (i:Nat) (out:SV × List Ob):Prop :=
 ∃ (x:Fm) (j:Nat) (fl:Bool),out=(Ri x,[psr s j fl,NG x,NH x])∧i≤j∧j≤s.size∧(fl=false→x.nodes+i≤j∧x.tame) ∧
  (∀ (f:Fm) (e:Nat),f.forms=true→e≤s.size→i≤e→seg s i e=f.fmt++[41]→fl=false∧x=f∧j=e) ∧
  ∀ (op:Int) (p q:Fm) (e:Nat),(op=5∨op=6∨op=7)→p.forms=true→q.forms=true→e≤s.size→i≤e→seg s i e=p.fmt++(sgn op++(q.fmt++[41]))→fl=false∧x=.mk op Tm.zero ⟨#[]⟩ [p,q]∧j=e
def AD:SC:=(.seq (.reg [⟨(some 2),none,(.alloc 27 [(.int .i64 0),(.str ⟨#[]⟩),.nil,(.str ⟨#[]⟩),.nil])⟩]) (.seq (.block 0 (.seq (.reg [⟨some 7,none,.mv (.t 0)⟩,⟨(some 8),none,(.call 53 [(.t 7),(.c (.str ⟨#[97,108,108,32]⟩))])⟩,⟨some 6,none,.mv (.t 8)⟩]) (.cond (.t 6) (.seq (.reg [⟨some 9,none,.mv (.t 0)⟩,⟨some 10,none,.call 54 [(.t 9)]⟩,⟨some 3,none,.mv (.t 10)⟩]) (.seq (.reg [⟨some 11,none,.mv (.t 0)⟩,⟨(some 12),none,(.call 55 [(.t 11),(.c (.str ⟨#[46]⟩))])⟩]) (.seq (.reg [⟨some 13,none,.mv (.t 3)⟩,⟨some 14,none,.mv (.t 0)⟩,⟨some 15,none,.call 22 [(.t 14)]⟩,⟨some 16,none,.call 56 [(.c (.int .i64 8)),(.t 13),(.t 15)]⟩,⟨none,none,(.store 5 (.t 2) (.t 16))⟩]) .ret))) (.seq (.reg [⟨some 18,none,.mv (.t 0)⟩,⟨(some 19),none,(.call 53 [(.t 18),(.c (.str ⟨#[115,111,109,101,32]⟩))])⟩,⟨some 17,none,.mv (.t 19)⟩]) (.cond (.t 17) (.seq (.reg [⟨some 20,none,.mv (.t 0)⟩,⟨some 21,none,.call 54 [(.t 20)]⟩,⟨some 4,none,.mv (.t 21)⟩]) (.seq (.reg [⟨some 22,none,.mv (.t 0)⟩,⟨(some 23),none,(.call 55 [(.t 22),(.c (.str ⟨#[46]⟩))])⟩]) (.seq (.reg [⟨some 24,none,.mv (.t 4)⟩,⟨some 25,none,.mv (.t 0)⟩,⟨some 26,none,.call 22 [(.t 25)]⟩,⟨some 27,none,.call 56 [(.c (.int .i64 9)),(.t 24),(.t 26)]⟩,⟨none,none,(.store 5 (.t 2) (.t 27))⟩]) .ret))) (.seq (.reg [⟨some 29,none,.mv (.t 0)⟩,⟨(some 30),none,(.call 53 [(.t 29),(.c (.str ⟨#[126]⟩))])⟩,⟨some 28,none,.mv (.t 30)⟩]) (.cond (.t 28) (.seq (.reg [⟨some 31,none,.mv (.t 0)⟩,⟨some 32,none,.call 22 [(.t 31)]⟩,⟨some 33,none,.call 57 [(.t 32)]⟩,⟨none,none,(.store 5 (.t 2) (.t 33))⟩]) .ret) (.seq (.reg [⟨some 35,none,.mv (.t 0)⟩,⟨(some 36),none,(.call 53 [(.t 35),(.c (.str ⟨#[40]⟩))])⟩,⟨some 34,none,.mv (.t 36)⟩]) (.cond (.t 34) (.seq (.reg [⟨some 37,none,.mv (.t 0)⟩,⟨some 38,none,.call 58 [(.t 37)]⟩,⟨none,none,(.store 5 (.t 2) (.t 38))⟩]) .ret) .skip))))))))) (.seq (.reg [⟨some 39,none,.mv (.t 0)⟩,⟨some 40,none,.call 59 [(.t 39)]⟩,⟨(some 5),none,(.alloc 24 [(.str ⟨#[]⟩),.nil])⟩,⟨none,none,(.store 2 (.t 5) (.t 40))⟩]) (.seq (.block 1 (.seq (.reg [⟨some 42,none,.faddr 0 (.t 5)⟩,⟨some 43,none,.load false 1 (.t 42)⟩,⟨(some 44),none,(.bin .eql false (.t 43) (.c (.str ⟨#[116,114,117,101]⟩)))⟩,⟨some 45,none,.mv (.t 44)⟩,⟨(some 46),(some (45,true)),(.faddr 1 (.t 5))⟩,⟨(some 47),(some (45,true)),(.load false 1 (.t 46))⟩,⟨(some 48),(some (45,true)),(.len false (.t 47))⟩,⟨(some 49),(some (45,true)),(.bin .eql false (.t 48) (.c (.int .i64 0)))⟩,⟨some 50,none,.pick (.t 45) (.t 49) (.c (.bool false))⟩,⟨some 41,none,.mv (.t 50)⟩]) (.cond (.t 41) (.seq (.reg [⟨(some 51),none,(.build [(.int .i64 0),(.str ⟨#[]⟩),.nil,(.str ⟨#[]⟩),.nil] [(0,(1,(.c (.int .i64 1))))])⟩,⟨none,none,(.store 5 (.t 2) (.t 51))⟩]) .ret) (.seq (.reg [⟨some 53,none,.faddr 0 (.t 5)⟩,⟨some 54,none,.load false 1 (.t 53)⟩,⟨(some 55),none,(.bin .eql false (.t 54) (.c (.str ⟨#[102,97,108,115,101]⟩)))⟩,⟨some 56,none,.mv (.t 55)⟩,⟨(some 57),(some (56,true)),(.faddr 1 (.t 5))⟩,⟨(some 58),(some (56,true)),(.load false 1 (.t 57))⟩,⟨(some 59),(some (56,true)),(.len false (.t 58))⟩,⟨(some 60),(some (56,true)),(.bin .eql false (.t 59) (.c (.int .i64 0)))⟩,⟨some 61,none,.pick (.t 56) (.t 60) (.c (.bool false))⟩,⟨some 52,none,.mv (.t 61)⟩]) (.cond (.t 52) (.seq (.reg [⟨(some 62),none,(.build [(.int .i64 0),(.str ⟨#[]⟩),.nil,(.str ⟨#[]⟩),.nil] [(0,(1,(.c (.int .i64 2))))])⟩,⟨none,none,(.store 5 (.t 2) (.t 62))⟩]) .ret) .skip))))) (.seq (.reg [⟨some 63,none,.load true 2 (.t 5)⟩,⟨some 64,none,.call 60 [(.t 63)]⟩,⟨none,none,(.store 5 (.t 2) (.t 64))⟩]) .ret)))))
theorem AJ:codeOf Try.prog 22=some ⟨65,AD,[(.cell 2 true 5)]⟩:=by kernel_rfl
theorem Al:modes 22=⟨[],.own [none,none,some (24,2),none,some (27,5)],none,false⟩:=by unfold modes; rfl
def Dk:SC:=(.seq (.reg [⟨(some 2),none,(.alloc 27 [(.int .i64 0),(.str ⟨#[]⟩),.nil,(.str ⟨#[]⟩),.nil])⟩]) (.seq (.reg [⟨some 6,none,.mv (.t 0)⟩,⟨some 7,none,.call 22 [(.t 6)]⟩,⟨(some 3),none,(.alloc 27 [(.int .i64 0),(.str ⟨#[]⟩),.nil,(.str ⟨#[]⟩),.nil])⟩,⟨none,none,(.store 5 (.t 3) (.t 7))⟩]) (.seq (.seq (.reg [⟨some 8,none,.call 65 []⟩,⟨some 9,none,.mkit (.t 8)⟩]) (.block 0 (.mloop [1,0,1,1,0,0,0,0,0,1,0,0,0,0,0,0,0,0,0,0,0,0,0,0,0,0] [1,0,1,1,0,0,0,0,0,0,0,0,0,0,0,0,0,0,0,0,0,0,0,0,0,0] (.t 9) 10 11 (.seq (.cond (.t 11) .skip (.exit 0)) (.block 1 (.seq (.reg [⟨some 12,none,.mcur (.t 9)⟩,⟨some 13,none,.ext (.t 12) 0⟩,⟨some 14,none,.ext (.t 12) 1⟩,⟨some 4,none,.mv (.t 13)⟩,⟨some 5,none,.mv (.t 14)⟩]) (.seq (.reg [⟨some 15,none,.mv (.t 0)⟩,⟨some 16,none,.mv (.t 5)⟩,⟨some 17,none,.call 53 [(.t 15),(.t 16)]⟩]) (.cond (.t 17) (.seq (.dreg [[],[],[],[2],[0,1,3,2],[4,0,1,3,2]] [⟨some 18,none,.mv (.t 4)⟩,⟨some 19,none,.load true 5 (.t 3)⟩,⟨some 20,none,.mv (.t 0)⟩,⟨some 21,none,.call 22 [(.t 20)]⟩,⟨some 22,none,.call 91 [(.t 18),(.t 19),(.t 21)]⟩,⟨none,none,(.store 5 (.t 3) (.t 22))⟩]) (.exit 0)) .skip)))))))) (.seq (.reg [⟨some 23,none,.mv (.t 0)⟩,⟨(some 24),none,(.call 55 [(.t 23),(.c (.str ⟨#[41]⟩))])⟩]) (.seq (.reg [⟨some 25,none,.load true 5 (.t 3)⟩,⟨none,none,(.store 5 (.t 2) (.t 25))⟩]) .ret)))))
theorem EC:codeOf Try.prog 58=some ⟨26,Dk,[(.cell 2 true 5)]⟩:=by kernel_rfl
theorem AF:modes 58=⟨[],.own [none,none,some (24,2),none,some (27,5)],none,false⟩:=by unfold modes; rfl
theorem Rj (s:ByteArray) (i:Nat) (hi:i≤s.size) (hs:s.size≤1048576):∃ out,E 22 [.ptr 0 0] [psr s i true]=some out∧Nj s i true out:=by
 have h1:=Fp s i ⟨#[97,108,108,32]⟩
 have h2:=Fp s i ⟨#[115,111,109,101,32]⟩
 have h3:=Fp s i ⟨#[126]⟩
 have h4:=Fp s i ⟨#[40]⟩
 have h5:=Vt s i hi hs
 have h6:=OQ (.mk ⟨#[]⟩ [])
 have e1:((⟨#[]⟩:ByteArray)=⟨#[116,114,117,101]⟩)=False:=by simp
 have e2:((⟨#[]⟩:ByteArray)=⟨#[102,97,108,115,101]⟩)=False:=by simp
 have w1:=En s i
 have w2:=DC s i hi
 have e3:(Tm.mk ⟨#[]⟩ []).osv=.agg [.str ⟨#[]⟩,.ref 0]:=rfl
 have e4:(Tm.mk ⟨#[]⟩ []).obs=[.row 24 2 []]:=rfl
 have e5:(Tm.mk ⟨#[]⟩ []).name=⟨#[]⟩:=rfl
 have e6:(Tm.mk ⟨#[]⟩ []).args.map Tm.o=[]:=rfl
 rw [e3,e4,e5,e6] at h6
 refine AE AJ Al (of_decide_eq_true rfl) ?_
 simp (disch:=omega) only [AD,go_sem,Ab,h1,h2,h3,h4,h5,h6,e1,e2,Ao,Av,Ap,Al,AF,AL,AZ,Cb,B0,Fm.osv,Fm.obs,Tm.osv,Tm.obs]
 exact ⟨_,rfl,.mk 3 Tm.zero ⟨#[]⟩ [],A3 s i,true,rfl,w1,w2,(fun h=>by cases h),fun h=>by cases h⟩
theorem Gu {s:ByteArray} {i e:Nat} {l:List UInt8} (hl:l≠[]) (hw:∀ c∈l,Bt (c.toNat:Int)=true) (h:seg s i e=l) (he:e≤s.size) (hi:i≤e) (hs:GH s e):Ds ⟨#[32,61,32]⟩ s (s.size+1) i=some (.mk ⟨l.toArray⟩ [],e):=by
 have hz:=congrArg zZ h
 rw [BT he] at hz
 have hp:0<l.length:=yB.2 hl
 have hwe:A3 s i=e:=E0 l i e h hi he hw fun ⟨k1,k2⟩=>by
  rcases hs.1 with h1 | ⟨_,h1,_⟩
  ·omega
  ·rw [h1] at k2; cases k2
 have ha:Ci s e 40=false:=by
  cases hq:Ci s e 40 with
  | false=>rfl
  | true =>
   obtain ⟨k1,k2⟩:=Bp.1 hq
   rcases hs.1 with h1 | ⟨_,_,h1⟩
   ·omega
   ·exact absurd k2 h1
 have hx:s.extract i e=⟨l.toArray⟩:=AU (by rw [toList_extract,h,Bi])
 unfold Ds
 rw [rd,hwe,An (by omega),cond_false,ha,cond_false,hx]
 simp only [hs.2,cond_false]
theorem Jj {t:Tm} (h:t.atom=true) {n:ByteArray} (hn:D4 n=false) (hn2:n≠⟨#[61]⟩):t.name≠n:=fun e=>by
 unfold Tm.atom at h
 split at h
 ·rename_i he
  unfold Tm.eqn at he
  exact hn2 (e.symm.trans (At.1 he))
 ·rw [e,hn] at h; cases h
theorem PK (s:ByteArray) (hs:s.size≤1048576) (i:Nat) (hi:i≤s.size) (ihF:∀ i',i<i'→i'≤s.size→∀ fl,∃ out,E 22 [.ptr 0 0] [psr s i' fl]=some out∧Nj s i' fl out)
  (ihI:i+1≤s.size→∃ out,E 58 [.ptr 0 0] [psr s (i+1) false]=some out∧Uh s (i+1) out):∃ out,E 22 [.ptr 0 0] [psr s i false]=some out∧Nj s i false out:=by
 cases hA:hasB s i ⟨#[97,108,108,32]⟩ with
 | true =>
  have ht:E 53 [.ptr 0 0,.str ⟨#[97,108,108,32]⟩] [psr s i false]=some (.bool true,[psr s (i+4) false]):=E2 s i ⟨#[97,108,108,32]⟩ (by show i+4≤_; omega) hi hA
  have hz:i+4≤s.size:=((AO hi).1 hA).1
  have hw:=PC s (i+4) hz hs
  obtain ⟨w,hwd⟩:∃ w,w=A3 s (i+4):=⟨_,rfl⟩
  obtain ⟨b,hbd⟩:∃ b,b=dec (A3 s (i+4)=i+4):=⟨_,rfl⟩
  have hw1:=En s (i+4)
  have hw2:=DC s (i+4) hz
  obtain ⟨v,hv⟩:∃ v,v=(bif dec (A3 s (i+4)=i+4) then (⟨#[]⟩:ByteArray) else s.extract (i+4) (A3 s (i+4))):=⟨_,rfl⟩
  rw [←hv,← hbd,← hwd] at hw
  rw [←hwd] at hw1 hw2
  obtain ⟨j1,b1,hm,g1,g2,g3,g4⟩:=Ji s w b ⟨#[46]⟩ hs hw2
  obtain ⟨out,hF,p,j,fl,rfl,k1,k2,k3,k4⟩:=ihF j1 (by omega) g2 b1
  have hqt:=Jh 8 v p
  refine AE AJ Al (of_decide_eq_true rfl) ?_
  simp (disch:=omega) only [AD,go_sem,Ab,ht,hw,hm,hF,hqt,Ao,Av,Ap,Al,AF,AL,AZ,Cb,B0,Fm.osv,Fm.obs,Tm.osv,Tm.obs]
  refine ⟨_,rfl,.mk 8 Tm.zero v [p],j,fl,rfl,by omega,k2,fun h=>?_,fun _ f e hf he hie hsg=>?_⟩
  ·obtain ⟨h1,h2,h3⟩:=k3 h
   obtain ⟨_,h5,_⟩:=g3 h1
   have h5:j1=w+1:=h5
   refine ⟨rfl,?_,?_⟩
   ·rw [Fm.nodes_eq]; show 1+Fm.nodeS [p]+i≤j; rw [Fm.nodeS,Fm.nodeS]; omega
   ·rw [Fm.DL]
    refine ⟨?_,?_⟩
    ·show Tm.zero.nodes≤_
     rw [Tm.nodes_eq]; show 1+Tm.nodeS []≤_; rw [Tm.nodeS]; omega
    ·show Fm.Co [p]
     rw [Fm.Co,Fm.Co]; exact ⟨h3,trivial⟩
  ·rcases hsg with ⟨hsg,hst⟩ | hsg
   ·have hl:=(D1 hf hsg he hie hst).1
    rw [hA] at hl
    have ho:f.op=8:=At.1 hl.symm
    obtain ⟨p0,e0⟩:=Fm.DM (Fm.AC hf) (by omega)
    have hvv:=(Fm.BM (Fm.AC hf) (by unfold qB; rw [ho]; first | rw [A1 rfl]; rfl | rw [A1 (p:=(9:Int)=9) rfl,zS])).1
    rw [ho] at e0
    have hp0:p0.forms=true:=Fm.Bk hf (by rw [e0]; exact zM.2 rfl)
    have hfm:f.fmt=OM++(f.var.toList++46 :: p0.fmt):=by rw [e0]; exact Nb _ _ _
    rw [hfm] at hsg
    obtain ⟨s1,s2,s3⟩:=AV hsg he hie
    have s1:i+4≤e:=s1
    have s3:seg s (i+4) e=f.var.toList++46 :: p0.fmt:=s3
    obtain ⟨u1,u2,u3⟩:=AV s3 he s1
    obtain ⟨t1,t2,t3⟩:=Ax u3 he
    obtain ⟨wd1,wd2⟩:=Ja hvv
    have hpos:0<f.var.toList.length:=yB.2 wd1
    have hwe:A3 s (i+4)=i+4+f.var.toList.length:=E0 f.var.toList _ _ u2 (by omega) (by omega) wd2 fun ⟨_,k⟩=>by
     rw [t2] at k
     have h2:Bt ((46:UInt8).toNat:Int)=false:=by
      unfold Bt
      have e:((46:UInt8).toNat:Int)=46:=rfl
      rw [e,An (p:=(97:Int)≤46) (by omega),An (p:=(65:Int)≤46) (by omega),An (p:=(48:Int)≤46) (by omega),An (p:=(46:Int)=95) (by omega)]
      rfl
     rw [h2] at k; cases k
    rw [hwe] at hwd hbd hv
    have hbf:b=false:=by rw [hbd]; exact An (by omega)
    have hvf:v=f.var:=by rw [hv,An (by omega),cond_false]; exact AU (by rw [toList_extract,u2])
    have hdot:hasB s w ⟨#[46]⟩=true:=D0 (r:=p0.fmt) (by rw [NF,hwd]; exact u3) he (by omega)
    have hb1:=g4 hbf hdot
    obtain ⟨_,q2,_⟩:=g3 hb1
    have q2:j1=w+1:=q2
    obtain ⟨r1,r2,r3⟩:=k4 hb1 p0 e hp0 he (by omega) (.inl ⟨by rw [q2,hwd]; exact t3,hst⟩)
    exact ⟨r1,by rw [e0,r2,hvf],r3⟩
   ·obtain ⟨_,hb2,_⟩:=Ax hsg he
    have:=(EO L3 hi hA).2
    rw [hb2] at this
    exact absurd this (by decide)
 | false =>
  cases hS:hasB s i ⟨#[115,111,109,101,32]⟩ with
  | true =>
   have hno:=EM s i ⟨#[97,108,108,32]⟩ hi hA
   have ht:E 53 [.ptr 0 0,.str ⟨#[115,111,109,101,32]⟩] [psr s i false]=some (.bool true,[psr s (i+5) false]):=E2 s i ⟨#[115,111,109,101,32]⟩ (by show i+5≤_; omega) hi hS
   have hz:i+5≤s.size:=((AO hi).1 hS).1
   have hw:=PC s (i+5) hz hs
   obtain ⟨w,hwd⟩:∃ w,w=A3 s (i+5):=⟨_,rfl⟩
   obtain ⟨b,hbd⟩:∃ b,b=dec (A3 s (i+5)=i+5):=⟨_,rfl⟩
   have hw1:=En s (i+5)
   have hw2:=DC s (i+5) hz
   obtain ⟨v,hv⟩:∃ v,v=(bif dec (A3 s (i+5)=i+5) then (⟨#[]⟩:ByteArray) else s.extract (i+5) (A3 s (i+5))):=⟨_,rfl⟩
   rw [←hv,← hbd,← hwd] at hw
   rw [←hwd] at hw1 hw2
   obtain ⟨j1,b1,hm,g1,g2,g3,g4⟩:=Ji s w b ⟨#[46]⟩ hs hw2
   obtain ⟨out,hF,p,j,fl,rfl,k1,k2,k3,k4⟩:=ihF j1 (by omega) g2 b1
   have hqt:=Jh 9 v p
   refine AE AJ Al (of_decide_eq_true rfl) ?_
   simp (disch:=omega) only [AD,go_sem,Ab,ht,hno,hw,hm,hF,hqt,Ao,Av,Ap,Al,AF,AL,AZ,Cb,B0,Fm.osv,Fm.obs,Tm.osv,Tm.obs]
   refine ⟨_,rfl,.mk 9 Tm.zero v [p],j,fl,rfl,by omega,k2,fun h=>?_,fun _ f e hf he hie hsg=>?_⟩
   ·obtain ⟨h1,h2,h3⟩:=k3 h
    obtain ⟨_,h5,_⟩:=g3 h1
    have h5:j1=w+1:=h5
    refine ⟨rfl,?_,?_⟩
    ·rw [Fm.nodes_eq]; show 1+Fm.nodeS [p]+i≤j; rw [Fm.nodeS,Fm.nodeS]; omega
    ·rw [Fm.DL]
     refine ⟨?_,?_⟩
     ·show Tm.zero.nodes≤_
      rw [Tm.nodes_eq]; show 1+Tm.nodeS []≤_; rw [Tm.nodeS]; omega
     ·show Fm.Co [p]
      rw [Fm.Co,Fm.Co]; exact ⟨h3,trivial⟩
   ·rcases hsg with ⟨hsg,hst⟩ | hsg
    ·have hl:=(D1 hf hsg he hie hst).2.1
     rw [hS] at hl
     have ho:f.op=9:=At.1 hl.symm
     obtain ⟨p0,e0⟩:=Fm.DM (Fm.AC hf) (by omega)
     have hvv:=(Fm.BM (Fm.AC hf) (by unfold qB; rw [ho]; first | rw [A1 rfl]; rfl | rw [A1 (p:=(9:Int)=9) rfl,zS])).1
     rw [ho] at e0
     have hp0:p0.forms=true:=Fm.Bk hf (by rw [e0]; exact zM.2 rfl)
     have hfm:f.fmt=Kf++(f.var.toList++46 :: p0.fmt):=by rw [e0]; exact Nc _ _ _
     rw [hfm] at hsg
     obtain ⟨s1,s2,s3⟩:=AV hsg he hie
     have s1:i+5≤e:=s1
     have s3:seg s (i+5) e=f.var.toList++46 :: p0.fmt:=s3
     obtain ⟨u1,u2,u3⟩:=AV s3 he s1
     obtain ⟨t1,t2,t3⟩:=Ax u3 he
     obtain ⟨wd1,wd2⟩:=Ja hvv
     have hpos:0<f.var.toList.length:=yB.2 wd1
     have hwe:A3 s (i+5)=i+5+f.var.toList.length:=E0 f.var.toList _ _ u2 (by omega) (by omega) wd2 fun ⟨_,k⟩=>by
      rw [t2] at k
      have h2:Bt ((46:UInt8).toNat:Int)=false:=by
       unfold Bt
       have e:((46:UInt8).toNat:Int)=46:=rfl
       rw [e,An (p:=(97:Int)≤46) (by omega),An (p:=(65:Int)≤46) (by omega),An (p:=(48:Int)≤46) (by omega),An (p:=(46:Int)=95) (by omega)]
       rfl
      rw [h2] at k; cases k
     rw [hwe] at hwd hbd hv
     have hbf:b=false:=by rw [hbd]; exact An (by omega)
     have hvf:v=f.var:=by rw [hv,An (by omega),cond_false]; exact AU (by rw [toList_extract,u2])
     have hdot:hasB s w ⟨#[46]⟩=true:=D0 (r:=p0.fmt) (by rw [NF,hwd]; exact u3) he (by omega)
     have hb1:=g4 hbf hdot
     obtain ⟨_,q2,_⟩:=g3 hb1
     have q2:j1=w+1:=q2
     obtain ⟨r1,r2,r3⟩:=k4 hb1 p0 e hp0 he (by omega) (.inl ⟨by rw [q2,hwd]; exact t3,hst⟩)
     exact ⟨r1,by rw [e0,r2,hvf],r3⟩
    ·obtain ⟨_,hb2,_⟩:=Ax hsg he
     have:=(EO Je hi hS).2
     rw [hb2] at this
     exact absurd this (by decide)
  | false =>
   have hn1:=EM s i ⟨#[97,108,108,32]⟩ hi hA
   have hn2:=EM s i ⟨#[115,111,109,101,32]⟩ hi hS
   cases hN:hasB s i ⟨#[126]⟩ with
   | true =>
    have ht:E 53 [.ptr 0 0,.str ⟨#[126]⟩] [psr s i false]=some (.bool true,[psr s (i+1) false]):=E2 s i ⟨#[126]⟩ (by show i+1≤_; omega) hi hN
    have hz:i+1≤s.size:=((AO hi).1 hN).1
    obtain ⟨out,hF,p,j,fl,rfl,k1,k2,k3,k4⟩:=ihF (i+1) (by omega) hz false
    have hnt:=VH p
    refine AE AJ Al (of_decide_eq_true rfl) ?_
    simp (disch:=omega) only [AD,go_sem,Ab,hn1,hn2,ht,hF,hnt,Ao,Av,Ap,Al,AF,AL,AZ,Cb,B0,Fm.osv,Fm.obs,Tm.osv,Tm.obs]
    refine ⟨_,rfl,.mk 4 Tm.zero ⟨#[]⟩ [p],j,fl,rfl,by omega,k2,fun h=>?_,fun _ f e hf he hie hsg=>?_⟩
    ·obtain ⟨_,h2,h3⟩:=k3 h
     refine ⟨rfl,?_,?_⟩
     ·rw [Fm.nodes_eq]; show 1+Fm.nodeS [p]+i≤j; rw [Fm.nodeS,Fm.nodeS]; omega
     ·rw [Fm.DL]
      refine ⟨?_,?_⟩
      ·show Tm.zero.nodes≤_
       rw [Tm.nodes_eq]; show 1+Tm.nodeS []≤_; rw [Tm.nodeS]; omega
      ·show Fm.Co [p]
       rw [Fm.Co,Fm.Co]; exact ⟨h3,trivial⟩
    ·rcases hsg with ⟨hsg,hst⟩ | hsg
     ·have hl:=(D1 hf hsg he hie hst).2.2.1
      rw [hN] at hl
      obtain ⟨p0,e0⟩:=Fm.E3 (Fm.AC hf) (At.1 hl.symm)
      have hp0:p0.forms=true:=Fm.Bk hf (by rw [e0]; exact zM.2 rfl)
      rw [e0,Kg] at hsg
      cases hq:p0.atom.eqn with
      | true =>
       rw [hq,cond_true] at hsg
       obtain ⟨t1,_,t3⟩:=Ax hsg he
       obtain ⟨r1,r2,r3⟩:=k4 rfl p0 e hp0 he t1 (.inr t3)
       exact ⟨r1,by rw [e0,r2],r3⟩
      | false =>
       rw [hq,cond_false] at hsg
       obtain ⟨t1,_,t3⟩:=Ax hsg he
       obtain ⟨r1,r2,r3⟩:=k4 rfl p0 e hp0 he t1 (.inl ⟨t3,hst⟩)
       exact ⟨r1,by rw [e0,r2],r3⟩
     ·obtain ⟨_,hb2,_⟩:=Ax hsg he
      have:=(EO L4 hi hN).2
      rw [hb2] at this
      exact absurd this (by decide)
   | false =>
    have hn3:=EM s i ⟨#[126]⟩ hi hN
    cases hP:hasB s i ⟨#[40]⟩ with
    | true =>
     have ht:E 53 [.ptr 0 0,.str ⟨#[40]⟩] [psr s i false]=some (.bool true,[psr s (i+1) false]):=E2 s i ⟨#[40]⟩ (by show i+1≤_; omega) hi hP
     have hz:i+1≤s.size:=((AO hi).1 hP).1
     obtain ⟨out,hI,p,j,fl,rfl,k1,k2,k3,k4,k5⟩:=ihI hz
     refine AE AJ Al (of_decide_eq_true rfl) ?_
     simp (disch:=omega) only [AD,go_sem,Ab,hn1,hn2,hn3,ht,hI,Ao,Av,Ap,Al,AF,AL,AZ,Cb,B0,Fm.osv,Fm.obs,Tm.osv,Tm.obs]
     refine ⟨_,rfl,p,j,fl,rfl,by omega,k2,fun h=>⟨rfl,by have:=(k3 h).1; omega,(k3 h).2⟩,fun _ f e hf he hie hsg=>?_⟩
     rcases hsg with ⟨hsg,hst⟩ | hsg
     ·have hl:=(D1 hf hsg he hie hst).2.2.2
      rw [hP] at hl
      have ho:=At.1 hl.symm
      obtain ⟨p0,q0,e0⟩:=Fm.CL (Fm.AC hf) ho
      have hp0:p0.forms=true:=Fm.Bk hf (by rw [e0]; simp [Fm.parts])
      have hq0:q0.forms=true:=Fm.Bk hf (by rw [e0]; simp [Fm.parts])
      rw [e0,L2 ho] at hsg
      obtain ⟨t1,_,t3⟩:=Ax hsg he
      obtain ⟨r1,r2,r3⟩:=k5 f.op p0 q0 e ho hp0 hq0 he t1 t3
      exact ⟨r1,by rw [e0]; exact r2,r3⟩
     ·obtain ⟨t1,_,t3⟩:=Ax hsg he
      exact k4 f e hf he t1 t3
    | false =>
     have hn4:=EM s i ⟨#[40]⟩ hi hP
     obtain ⟨out,hT,t,j,fl,rfl,k1,k2,k3⟩:=Ug s hs i hi
     have nob:∀ (f:Fm) (e:Nat),e≤s.size→seg s i e=40 :: (f.fmt++[41])→False:=fun f e he hsg=>by
      have:hasB s i ⟨#[40]⟩=true:=D0 (r:=f.fmt++[41]) (by rw [L5]; exact hsg) he (by have:=(Ax hsg he).1; omega)
      rw [hP] at this; cases this
     have ops:∀ (f:Fm) (e:Nat),f.forms=true→e≤s.size→i≤e→seg s i e=f.fmt→GH s e→f.op=1∨f.op=2∨f.op=3:=fun f e hf he hie hsg hst=>by
      obtain ⟨l1,l2,l3,l4⟩:=D1 hf hsg he hie hst
      rw [hA] at l1
      rw [hS] at l2
      rw [hN] at l3
      rw [hP] at l4
      have d1:=Cf.1 l1.symm
      have d2:=Cf.1 l2.symm
      have d3:=Cf.1 l3.symm
      have d4:=Cf.1 l4.symm
      rcases Fm.Fs (Fm.AC hf) with h | h | h | h | h | h | h | h | h
      ·exact .inl h
      ·exact .inr (.inl h)
      ·exact .inr (.inr h)
      all_goals omega
     have read3:∀ (f:Fm) (e:Nat),f.forms=true→e≤s.size→i≤e→seg s i e=f.fmt→GH s e→fl=false∧j=e∧((f.op=1∧f=.mk 1 Tm.zero ⟨#[]⟩ []∧t=.mk ⟨#[116,114,117,101]⟩ [])∨(f.op=2∧f=.mk 2 Tm.zero ⟨#[]⟩ []∧t=.mk ⟨#[102,97,108,115,101]⟩ [])∨(f=.mk 3 t ⟨#[]⟩ []∧t.atom=true)):=fun f e hf he hie hsg hst=>by
      rcases ops f e hf he hie hsg hst with ho | ho | ho
      ·have e0:=Fm.Ca (Fm.AC hf) (.inl ho)
       rw [ho] at e0
       rw [e0,MZ] at hsg
       have hr:=Gu (l:=bTrue) (by decide) (fun c hc=>by
        simp only [bTrue,zV,zN,or_false] at hc
        rcases hc with rfl | rfl | rfl | rfl <;> exact Cs (by decide +kernel)) hsg he hie hst
       rw [hr] at k3
       exact ⟨k3.2.2,k3.2.1,.inl ⟨ho,e0,k3.1⟩⟩
      ·have e0:=Fm.Ca (Fm.AC hf) (.inr ho)
       rw [ho] at e0
       rw [e0,Na] at hsg
       have hr:=Gu (l:=bFalse) (by decide) (fun c hc=>by
        simp only [bFalse,zV,zN,or_false] at hc
        rcases hc with rfl | rfl | rfl | rfl | rfl <;> exact Cs (by decide +kernel)) hsg he hie hst
       rw [hr] at k3
       exact ⟨k3.2.2,k3.2.1,.inr (.inl ⟨ho,e0,k3.1⟩)⟩
      ·obtain ⟨hpp,hat,hvv⟩:=Fm.Dc (Fm.AC hf) ho
       have e0:f=.mk 3 f.atom ⟨#[]⟩ []:=by
        obtain ⟨op,a,v,ps⟩:=f
        have ho:op=3:=ho
        have hpp:ps=[]:=hpp
        have hvv:v=⟨#[]⟩:=hvv
        subst ho hpp hvv
        rfl
       rw [e0,L1] at hsg
       have hr:=(Hu hat hsg he hie hst).1
       rw [hr] at k3
       obtain ⟨k31,k32,k33⟩:=k3
       exact ⟨k33,k32,.inr (.inr ⟨by rw [k31]; exact e0,by rw [k31]; exact hat⟩)⟩
     have bnd:fl=false→i<j∧t.nodes≤2*s.size+1:=fun h=>by
      cases hr:Ds ⟨#[32,61,32]⟩ s (s.size+1) i with
      | none=>rw [hr] at k3; have k3:fl=true:=k3; rw [h] at k3; cases k3
      | some q =>
       obtain ⟨t0,e⟩:=q
       have hn:=Ht hr PF
       rw [hr] at k3
       obtain ⟨rfl,rfl,_⟩:=k3
       refine ⟨?_,hn⟩
       unfold Ds at hr
       cases h1:rd s (s.size+1) i with
       | none=>rw [h1] at hr; cases hr
       | some q =>
        obtain ⟨a,e0⟩:=q
        have r1:=(GG _ _ _ _ hi h1)
        rw [h1] at hr
        simp only at hr
        cases hh:hasB s e0 ⟨#[32,61,32]⟩ with
        | false=>rw [hh] at hr; simp only [cond_false,zG,zK] at hr; omega
        | true =>
         have hz:=((AO r1.2.1).1 hh).1
         rw [hh] at hr
         simp only [cond_true] at hr
         cases h2:rd s (s.size+1) (e0+(⟨#[32,61,32]⟩:ByteArray).size) with
         | none=>rw [h2] at hr; cases hr
         | some q =>
          obtain ⟨b,e2⟩:=q
          have r2:=(GG _ _ _ _ hz h2)
          rw [h2] at hr
          simp only [zG,zK] at hr
          omega
     have ntr:(⟨#[116,114,117,101]⟩:ByteArray)≠⟨#[102,97,108,115,101]⟩:=by simp
     have one:∀ (op:Int) (a:Tm),1≤(Fm.mk op a ⟨#[]⟩ []).nodes∧(Fm.mk op a ⟨#[]⟩ []).nodes=1:=fun op a=>by
      rw [Fm.nodes_eq]; show 1≤1+Fm.nodeS []∧1+Fm.nodeS []=1; rw [Fm.nodeS]; omega
     have tmz:∀ (op:Int) (a:Tm),a.nodes≤1099511627776→(Fm.mk op a ⟨#[]⟩ []).tame:=fun op a ha=>by
      rw [Fm.DL]
      refine ⟨ha,?_⟩
      show Fm.Co []
      rw [Fm.Co]; trivial
     have z1:Tm.zero.nodes≤1099511627776:=by rw [Tm.nodes_eq]; show 1+Tm.nodeS []≤_; rw [Tm.nodeS]; omega
     have hat:=OQ t
     by_cases hl:t.args.length=0
     ·have ql:((t.args.length:Int)=0)=True:=eq_true (by omega)
      have ha0:t.args=[]:=List.eq_nil_of_length_eq_zero hl
      by_cases n1:t.name=⟨#[116,114,117,101]⟩
      ·have q1:(t.name=⟨#[116,114,117,101]⟩)=True:=eq_true n1
       refine AE AJ Al (of_decide_eq_true rfl) ?_
       simp (disch:=omega) only [AD,go_sem,Ab,hn1,hn2,hn3,hn4,hT,hat,ql,q1,Ao,Av,Ap,Al,AF,AL,AZ,Cb,B0,Fm.osv,Fm.obs,Tm.osv,Tm.obs]
       refine ⟨_,rfl,.mk 1 Tm.zero ⟨#[]⟩ [],j,fl,rfl,k1,k2,fun h=>⟨rfl,by have:=(one 1 Tm.zero).2; have:=(bnd h).1; omega,tmz _ _ z1⟩,fun _ f e hf he hie hsg=>?_⟩
       rcases hsg with ⟨hsg,hst⟩ | hsg
       ·obtain ⟨r1,r2,⟨_,r3,_⟩ | ⟨_,_,r4⟩ | ⟨_,r4⟩⟩:=read3 f e hf he hie hsg hst
        ·exact ⟨r1,r3.symm,r2⟩
        ·rw [r4] at n1; exact absurd n1.symm ntr
        ·exact absurd n1 (Jj r4 (by decide +kernel) (by simp))
       ·exact (nob f e he hsg).elim
      ·have q1:(t.name=⟨#[116,114,117,101]⟩)=False:=eq_false n1
       by_cases n2:t.name=⟨#[102,97,108,115,101]⟩
       ·have q2:(t.name=⟨#[102,97,108,115,101]⟩)=True:=eq_true n2
        refine AE AJ Al (of_decide_eq_true rfl) ?_
        simp (disch:=omega) only [AD,go_sem,Ab,hn1,hn2,hn3,hn4,hT,hat,ql,q1,q2,Ao,Av,Ap,Al,AF,AL,AZ,Cb,B0,Fm.osv,Fm.obs,Tm.osv,Tm.obs]
        refine ⟨_,rfl,.mk 2 Tm.zero ⟨#[]⟩ [],j,fl,rfl,k1,k2,fun h=>⟨rfl,by have:=(one 2 Tm.zero).2; have:=(bnd h).1; omega,tmz _ _ z1⟩,fun _ f e hf he hie hsg=>?_⟩
        rcases hsg with ⟨hsg,hst⟩ | hsg
        ·obtain ⟨r1,r2,⟨_,_,r4⟩ | ⟨_,r3,_⟩ | ⟨_,r4⟩⟩:=read3 f e hf he hie hsg hst
         ·rw [r4] at n2; exact absurd n2 ntr
         ·exact ⟨r1,r3.symm,r2⟩
         ·exact absurd n2 (Jj r4 (by decide +kernel) (by simp))
        ·exact (nob f e he hsg).elim
       ·have q2:(t.name=⟨#[102,97,108,115,101]⟩)=False:=eq_false n2
        refine AE AJ Al (of_decide_eq_true rfl) ?_
        simp (disch:=omega) only [AD,go_sem,Ab,hn1,hn2,hn3,hn4,hT,hat,ql,q1,q2,Ao,Av,Ap,Al,AF,AL,AZ,Cb,B0,Fm.osv,Fm.obs,Tm.osv,Tm.obs]
        refine ⟨_,rfl,.mk 3 t ⟨#[]⟩ [],j,fl,rfl,k1,k2,fun h=>⟨rfl,by have:=(one 3 t).2; have:=(bnd h).1; omega,tmz _ _ (by have:=(bnd h).2; omega)⟩,fun _ f e hf he hie hsg=>?_⟩
        rcases hsg with ⟨hsg,hst⟩ | hsg
        ·obtain ⟨r1,r2,⟨_,_,r4⟩ | ⟨_,_,r4⟩ | ⟨r3,_⟩⟩:=read3 f e hf he hie hsg hst
         ·exact absurd (by rw [r4]; rfl) n1
         ·exact absurd (by rw [r4]; rfl) n2
         ·exact ⟨r1,r3.symm,r2⟩
        ·exact (nob f e he hsg).elim
     ·have ql:((t.args.length:Int)=0)=False:=eq_false (by omega)
      have fin3:Nj s i false (Ri (.mk 3 t ⟨#[]⟩ []),[psr s j fl,NG (.mk 3 t ⟨#[]⟩ []),NH (.mk 3 t ⟨#[]⟩ [])]):=by
       refine ⟨.mk 3 t ⟨#[]⟩ [],j,fl,rfl,k1,k2,fun h=>⟨rfl,by have:=(one 3 t).2; have:=(bnd h).1; omega,tmz _ _ (by have:=(bnd h).2; omega)⟩,fun _ f e hf he hie hsg=>?_⟩
       rcases hsg with ⟨hsg,hst⟩ | hsg
       ·obtain ⟨r1,r2,⟨_,_,r4⟩ | ⟨_,_,r4⟩ | ⟨r3,_⟩⟩:=read3 f e hf he hie hsg hst
        ·exact absurd (by rw [r4]; rfl) hl
        ·exact absurd (by rw [r4]; rfl) hl
        ·exact ⟨r1,r3.symm,r2⟩
       ·exact (nob f e he hsg).elim
      by_cases n1:t.name=⟨#[116,114,117,101]⟩
      ·have q1:(t.name=⟨#[116,114,117,101]⟩)=True:=eq_true n1
       have q2:(t.name=⟨#[102,97,108,115,101]⟩)=False:=eq_false (by rw [n1]; exact ntr)
       refine AE AJ Al (of_decide_eq_true rfl) ?_
       simp (disch:=omega) only [AD,go_sem,Ab,hn1,hn2,hn3,hn4,hT,hat,ql,q1,q2,Ao,Av,Ap,Al,AF,AL,AZ,Cb,B0,Fm.osv,Fm.obs,Tm.osv,Tm.obs]
       exact ⟨_,rfl,fin3⟩
      ·have q1:(t.name=⟨#[116,114,117,101]⟩)=False:=eq_false n1
       by_cases n2:t.name=⟨#[102,97,108,115,101]⟩
       ·have q2:(t.name=⟨#[102,97,108,115,101]⟩)=True:=eq_true n2
        refine AE AJ Al (of_decide_eq_true rfl) ?_
        simp (disch:=omega) only [AD,go_sem,Ab,hn1,hn2,hn3,hn4,hT,hat,ql,q1,q2,Ao,Av,Ap,Al,AF,AL,AZ,Cb,B0,Fm.osv,Fm.obs,Tm.osv,Tm.obs]
        exact ⟨_,rfl,fin3⟩
       ·have q2:(t.name=⟨#[102,97,108,115,101]⟩)=False:=eq_false n2
        refine AE AJ Al (of_decide_eq_true rfl) ?_
        simp (disch:=omega) only [AD,go_sem,Ab,hn1,hn2,hn3,hn4,hT,hat,ql,q1,q2,Ao,Av,Ap,Al,AF,AL,AZ,Cb,B0,Fm.osv,Fm.obs,Tm.osv,Tm.obs]
        exact ⟨_,rfl,fin3⟩
def sgB (op:Int):ByteArray:=⟨(sgn op).toArray⟩
theorem DA (op:Int):(sgB op).toList=sgn op:=Bi _
theorem Up:sgB 5=⟨#[32,38,32]⟩:=rfl
theorem Uq:sgB 6=⟨#[32,124,32]⟩:=rfl
theorem Ur:sgB 7=⟨#[32,61,62,32]⟩:=rfl
theorem DO {op:Int} (h:op=5∨op=6∨op=7):3≤(sgB op).size∧(sgB op).size≤4:=by
 rcases h with rfl | rfl | rfl
 ·rw [Up]; exact ⟨zP 3,by show 3≤4; omega⟩
 ·rw [Uq]; exact ⟨zP 3,by show 3≤4; omega⟩
 ·rw [Ur]; exact ⟨by show 3≤4; omega,zP 4⟩
noncomputable def sgM:MF
 | .int n=>if n=5∨n=6∨n=7 then some (false,[D.str (sgB n)]) else none
 | .str _=>none
theorem L8 {k:MK} {v:MV} (h:sgM k=some v):∃ n,k=.int n∧(n=5∨n=6∨n=7)∧v=(false,[D.str (sgB n)]):=by
 cases k with
 | str s=>cases h
 | int n =>
  have h:(if n=5∨n=6∨n=7 then some (false,[D.str (sgB n)]) else none)=some v:=h
  by_cases e:n=5∨n=6∨n=7
  ·rw [if_pos e] at h
   exact ⟨n,rfl,e,(Option.some.inj h).symm⟩
  ·rw [if_neg e] at h; cases h
theorem Hx {n:Int} (h:n=5∨n=6∨n=7):sgM (.int n)=some (false,[D.str (sgB n)]):=by
 show (if n=5∨n=6∨n=7 then some (false,[D.str (sgB n)]) else none)=_
 rw [if_pos h]
theorem Vu:Jv (Jv (Jv nomap (.int 5) (false,[D.str ⟨#[32,38,32]⟩])) (.int 6) (false,[D.str ⟨#[32,124,32]⟩])) (.int 7) (false,[D.str ⟨#[32,61,62,32]⟩])=sgM:=by
 funext k
 by_cases h7:k=.int 7
 ·subst h7; rw [DX,Hx (by omega)]; rfl
 ·rw [EG h7]
  by_cases h6:k=.int 6
  ·subst h6; rw [DX,Hx (by omega)]; rfl
  ·rw [EG h6]
   by_cases h5:k=.int 5
   ·subst h5; rw [DX,Hx (by omega)]; rfl
   ·rw [EG h5]
    cases k with
    | str s=>rfl
    | int n =>
     have:¬ (n=5∨n=6∨n=7):=fun h=>by
      rcases h with rfl | rfl | rfl
      ·exact h5 rfl
      ·exact h6 rfl
      ·exact h7 rfl
     show none=(if n=5∨n=6∨n=7 then _ else none)
     rw [if_neg this]
theorem OR:∃ l,Enum sgM l:=by
 refine ⟨[(.int 5,(false,[D.str (sgB 5)])),(.int 6,(false,[D.str (sgB 6)])),(.int 7,(false,[D.str (sgB 7)]))],by simp,fun k v=>⟨fun h=>?_,fun h=>?_⟩⟩
 ·simp only [zV,zN,or_false,zK] at h
  rcases h with ⟨rfl,rfl⟩ | ⟨rfl,rfl⟩ | ⟨rfl,rfl⟩ <;> exact Hx (by omega)
 ·obtain ⟨n,rfl,hn,rfl⟩:=L8 h
  rcases hn with rfl | rfl | rfl <;> simp
def Jk:SC:=(.seq (.reg [⟨some 0,none,.mv (.c (.mp true nomap))⟩]) (.seq (.reg [⟨some 1,none,.mkmap false none⟩,⟨none,none,(.mset false (.t 1) (.c (.int .i64 5)) (.c (.str ⟨#[32,38,32]⟩)))⟩,⟨none,none,(.mset false (.t 1) (.c (.int .i64 6)) (.c (.str ⟨#[32,124,32]⟩)))⟩,⟨none,none,(.mset false (.t 1) (.c (.int .i64 7)) (.c (.str ⟨#[32,61,62,32]⟩)))⟩,⟨some 2,none,.mv (.t 1)⟩,⟨some 0,none,.mv (.t 2)⟩]) .ret))
theorem NI:codeOf Try.prog 65=some ⟨3,Jk,[(.tmp 0)]⟩:=by kernel_rfl
theorem Bf:modes 65=⟨[],.frz,none,false⟩:=by unfold modes; rfl
theorem K5:E 65 [] []=some (.mp false sgM,[]):=by
 have h:=Vu
 refine Aj NI Bf (of_decide_eq_true rfl) ?_
 simp (disch:=omega) only [Jk,go_sem,Ab,h]
theorem Hy {s:ByteArray} {j:Nat} {a b:Int} (ha:a=5∨a=6∨a=7) (hb:b=5∨b=6∨b=7) (hj:j≤s.size) (h:hasB s j (sgB a)=true) (k:hasB s j (sgB b)=true):a=b:=by
 obtain ⟨h1,h2⟩:=(AO hj).1 h
 obtain ⟨k1,k2⟩:=(AO hj).1 k
 rw [DA] at h2 k2
 have z1:=DO ha
 have z2:=DO hb
 have two:∀ {c:Int} {e:Nat},(c=5∨c=6∨c=7)→e≤s.size→seg s j e=sgn c→Ay s (j+1)=(if c=5 then 38 else if c=6 then 124 else 61):=fun {c e} hc he hs=>by
  rcases hc with rfl | rfl | rfl
  ·have hs:seg s j e=[32,38,32]:=hs
   obtain ⟨_,_,h3⟩:=Ax hs he
   obtain ⟨_,h4,_⟩:=Ax h3 he
   rw [h4]; decide
  ·have hs:seg s j e=[32,124,32]:=hs
   obtain ⟨_,_,h3⟩:=Ax hs he
   obtain ⟨_,h4,_⟩:=Ax h3 he
   rw [h4]; decide
  ·have hs:seg s j e=[32,61,62,32]:=hs
   obtain ⟨_,_,h3⟩:=Ax hs he
   obtain ⟨_,h4,_⟩:=Ax h3 he
   rw [h4]; decide
 have e1:=two ha h1 h2
 have e2:=two hb k1 k2
 rw [e1] at e2
 rcases ha with rfl | rfl | rfl <;> rcases hb with rfl | rfl | rfl <;> first | rfl | exact absurd e2 (by decide)
theorem OS (s:ByteArray) (i:Nat) (fl:Bool) (x:ByteArray) (hi:i≤s.size) (h:fl=true∨hasB s i x=false):E 53 [.ptr 0 0,.str x] [psr s i fl]=some (.bool false,[psr s i fl]):=by
 cases fl with
 | true=>exact Fp s i x
 | false =>
  rcases h with h | h
  ·cases h
  ·exact EM s i x hi h
theorem SO (s:ByteArray) (hs:s.size≤1048576) (i:Nat) (hi:i≤s.size) (ihF:∀ i',i≤i'→i'≤s.size→∀ fl,∃ out,E 22 [.ptr 0 0] [psr s i' fl]=some out∧Nj s i' fl out):∃ out,E 58 [.ptr 0 0] [psr s i false]=some out∧Uh s i out:=by
 obtain ⟨out,hF,x,j,fl,rfl,k1,k2,k3,k4⟩:=ihF i (zP _) hi false
 have k4:=k4 rfl
 have hsg:=K5
 have one:∀ (f:Fm) (e:Nat),f.forms=true→e≤s.size→i≤e→seg s i e=f.fmt++[41]→fl=false∧x=f∧j<e∧Ay s j=41∧e=j+1:=fun f e hf he hie h=>by
  obtain ⟨h1,h2,h3⟩:=AV h he hie
  obtain ⟨g1,g2,g3⟩:=Ax h3 he
  have hl:=congrArg zZ g3
  rw [BT he] at hl
  have hl:e-(i+f.fmt.length+1)=0:=hl
  obtain ⟨r1,r2,r3⟩:=k4 f (i+f.fmt.length) hf (by omega) (by omega) (.inl ⟨h2,EV (by omega) g2⟩)
  refine ⟨r1,r2,by omega,by rw [r3]; exact g2,by omega⟩
 have two:∀ (op:Int) (p q:Fm) (e:Nat),(op=5∨op=6∨op=7)→p.forms=true→q.forms=true→e≤s.size→i≤e→seg s i e=p.fmt++(sgn op++(q.fmt++[41]))→fl=false∧x=p∧hasB s j (sgB op)=true∧j+(sgB op).size≤e∧seg s (j+(sgB op).size) e=q.fmt++[41]:=fun op p q e ho hp hq he hie h=>by
  obtain ⟨h1,h2,h3⟩:=AV h he hie
  obtain ⟨r1,r2,r3⟩:=k4 p (i+p.fmt.length) hp (by omega) (by omega) (.inl ⟨h2,JA h3 he⟩)
  obtain ⟨g1,g2,g3⟩:=AV h3 he h1
  have e1:(sgn op).length=(sgB op).size:=by rw [←AK,DA]
  rw [e1] at g1 g3
  refine ⟨r1,r2,?_,by rw [r3]; exact g1,by rw [r3]; exact g3⟩
  rw [r3]
  exact D0 (r:=q.fmt++[41]) (by rw [DA]; exact h3) he h1
 by_cases hm:fl=false∧∃ op,(op=5∨op=6∨op=7)∧hasB s j (sgB op)=true
 ·obtain ⟨rfl,op,ho,hh⟩:=hm
  have hz:=((AO k2).1 hh).1
  have hsz:=DO ho
  obtain ⟨out,hF2,y,j2,fl2,rfl,g1,g2,g3,g4⟩:=ihF (j+(sgB op).size) (by omega) hz false
  have g4:=g4 rfl
  have hb:=SN op x y
  obtain ⟨j3,b3,hmu,m1,m2,m3,m4⟩:=Ji s j2 fl2 ⟨#[41]⟩ hs g2
  obtain ⟨n1,n2⟩:=k3 rfl
  have hty:=E2 s j (sgB op) (by omega) k2 hh
  have fin:Uh s i (Ri (.mk op Tm.zero ⟨#[]⟩ [x,y]),[psr s j3 b3,NG (.mk op Tm.zero ⟨#[]⟩ [x,y]),NH (.mk op Tm.zero ⟨#[]⟩ [x,y])]):=by
   refine ⟨.mk op Tm.zero ⟨#[]⟩ [x,y],j3,b3,rfl,by omega,m2,fun h=>?_,fun f e hf he hie h=>?_,fun op' p q e ho' hp hq he hie h=>?_⟩
   ·obtain ⟨h1,h2,h3⟩:=m3 h
    obtain ⟨_,y1,y2⟩:=g3 h1
    have h2:j3=j2+1:=h2
    refine ⟨?_,?_⟩
    ·rw [Fm.nodes_eq]; show 1+Fm.nodeS [x,y]+i≤j3; rw [Fm.nodeS,Fm.nodeS,Fm.nodeS]; omega
    ·rw [Fm.DL]
     refine ⟨?_,?_⟩
     ·show Tm.zero.nodes≤_
      rw [Tm.nodes_eq]; show 1+Tm.nodeS []≤_; rw [Tm.nodeS]; omega
     ·show Fm.Co [x,y]
      rw [Fm.Co,Fm.Co,Fm.Co]; exact ⟨n2.2,y2,trivial⟩
   ·obtain ⟨_,_,_,h4,_⟩:=one f e hf he hie h
    obtain ⟨b,q,hs1,_⟩:=J9 op
    have:=(EO (by rw [DA]; exact hs1) k2 hh).2
    rw [h4] at this
    exact absurd this (by decide)
   ·obtain ⟨_,h2,h3,h4,h5⟩:=two op' p q e ho' hp hq he hie h
    obtain rfl:=Hy ho ho' k2 hh h3
    obtain ⟨u1,u2,u3⟩:=AV h5 he h4
    obtain ⟨t1,t2,t3⟩:=Ax u3 he
    have hl:=congrArg zZ t3
    rw [BT he] at hl
    have hl:e-(j+(sgB op).size+q.fmt.length+1)=0:=hl
    obtain ⟨r1,r2,r3⟩:=g4 q _ hq (by omega) (by omega) (.inl ⟨u2,EV (by omega) t2⟩)
    have hp:hasB s j2 ⟨#[41]⟩=true:=D0 (r:=[]) (by rw [NE,r3]; exact u3) he (by omega)
    have hb3:=m4 r1 hp
    have h6:j3=j2+1:=(m3 hb3).2.1
    exact ⟨hb3,by rw [h2,r2],by omega⟩
  refine AE EC AF (of_decide_eq_true rfl) ?_
  simp (disch:=omega) only [Dk,go_sem,Ab,hF,hsg,Ao,Ap,Al,BV,Bf,Fm.osv,Fm.obs,Ev,Ew,Ex]
  refine MH sgM OR (.exit 0,⟨slots 26 0 [(0,.ptr 0 0),(2,.ptr 1 0),(3,.ptr 2 0)],[psr s j2 fl2,.box 27 [.int .i64 0,.str ⟨#[]⟩,.nil,.str ⟨#[]⟩,.nil],.box 27 [.int .i64 op,.str ⟨#[]⟩,.ref 3,.str ⟨#[]⟩,.ref 4],.row 24 2 [],.row 27 5 [x.o,y.o]]⟩) ?_ (fun p=>⟨slots 26 0 [(0,.ptr 0 0),(2,.ptr 1 0),(3,.ptr 2 0),(9,.ptr 3 0)],[psr s j false,.box 27 [.int .i64 0,.str ⟨#[]⟩,.nil,.str ⟨#[]⟩,.nil],.box 27 [.int .i64 x.op,.str x.atom.name,.ref 4,.str x.var,.ref 5],.it false sgM (p.map (·.1)).reverse p.getLast?,NG x,NH x]⟩) (fun p=>∀ v,(MK.int op,v) ∉ p) (fun v h=>by cases h) 3 false (by simp (disch:=omega) only [go_sem,Ab]; first | exact ⟨rfl,rfl⟩ | rfl) (fun p=>by simp (disch:=omega) only [go_sem,Ab]) (fun p k v hok _ _ hk _=>?_) (fun p hok hp=>?_)
  ·simp (disch:=omega) only [go_sem,Ab,hmu,Ao,Ap,Al,BV,Bf,Fm.osv,Fm.obs,Ev,Ew,Ex]
   exact ⟨_,rfl,fin⟩
  ·obtain ⟨n,rfl,hn,rfl⟩:=L8 hk
   by_cases e:n=op
   ·subst e
    simp (disch:=omega) only [go_sem,Ab,hty,hF2,hb,z8,yA,yC,Ao,Ap,Al,BV,Bf,Fm.osv,Fm.obs,Ev,Ew,Ex]
    first | done | trivial
   ·have hno:=OS s j false (sgB n) k2 (.inr (by
     cases hq:hasB s j (sgB n) with
     | false=>rfl
     | true=>exact absurd (Hy hn ho k2 hq hh) e))
    simp (disch:=omega) only [go_sem,Ab,hno,z8,yA,yC,Ao,Ap,Al,BV,Bf,Fm.osv,Fm.obs,Ev,Ew,Ex]
    refine ⟨fun v h=>?_,by first | rfl | trivial | exact ⟨rfl,rfl⟩⟩
    rcases List.mem_append.1 h with h | h
    ·exact hok v h
    ·simp only [zM,zK,MK.int.injEq] at h
     exact e h.1.symm
  ·exact absurd ((hp.mem (.int op) _).2 (Hx ho)) (hok _)
 ·have hno:∀ n,(n=5∨n=6∨n=7)→E 53 [.ptr 0 0,.str (sgB n)] [psr s j fl]=some (.bool false,[psr s j fl]):=fun n hn=>OS s j fl (sgB n) k2 (by
   cases hf:fl with
   | true=>exact .inl rfl
   | false =>
    right
    cases hq:hasB s j (sgB n) with
    | false=>rfl
    | true=>exact absurd ⟨hf,n,hn,hq⟩ hm)
  obtain ⟨j3,b3,hmu,m1,m2,m3,m4⟩:=Ji s j fl ⟨#[41]⟩ hs k2
  have fin:Uh s i (Ri x,[psr s j3 b3,NG x,NH x]):=by
   refine ⟨x,j3,b3,rfl,by omega,m2,fun h=>?_,fun f e hf he hie h=>?_,fun op' p q e ho' hp hq he hie h=>?_⟩
   ·obtain ⟨h1,h2,h3⟩:=m3 h
    obtain ⟨_,y1,y2⟩:=k3 h1
    exact ⟨by omega,y2⟩
   ·obtain ⟨h1,h2,h3,h4,h5⟩:=one f e hf he hie h
    have hj:hasB s j ⟨#[41]⟩=true:=by
     rw [E1 k2]
     exact Bp.2 ⟨by omega,h4⟩
    have hb3:=m4 h1 hj
    have h6:j3=j+1:=(m3 hb3).2.1
    exact ⟨hb3,h2,by omega⟩
   ·obtain ⟨h1,_,h3,_,_⟩:=two op' p q e ho' hp hq he hie h
    exact absurd ⟨h1,op',ho',h3⟩ hm
  refine AE EC AF (of_decide_eq_true rfl) ?_
  simp (disch:=omega) only [Dk,go_sem,Ab,hF,hsg,Ao,Ap,Al,BV,Bf,Fm.osv,Fm.obs,Ev,Ew,Ex]
  refine MH sgM OR (.exit 0,⟨slots 26 0 [(0,.ptr 0 0),(2,.ptr 1 0),(3,.ptr 2 0)],[psr s j fl,.box 27 [.int .i64 0,.str ⟨#[]⟩,.nil,.str ⟨#[]⟩,.nil],.box 27 [.int .i64 x.op,.str x.atom.name,.ref 3,.str x.var,.ref 4],NG x,NH x]⟩) ?_ (fun p=>⟨slots 26 0 [(0,.ptr 0 0),(2,.ptr 1 0),(3,.ptr 2 0),(9,.ptr 3 0)],[psr s j fl,.box 27 [.int .i64 0,.str ⟨#[]⟩,.nil,.str ⟨#[]⟩,.nil],.box 27 [.int .i64 x.op,.str x.atom.name,.ref 4,.str x.var,.ref 5],.it false sgM (p.map (·.1)).reverse p.getLast?,NG x,NH x]⟩) (fun _=>True) trivial 3 false (by simp (disch:=omega) only [go_sem,Ab]; first | exact ⟨rfl,rfl⟩ | rfl) (fun p=>by simp (disch:=omega) only [go_sem,Ab]) (fun p k v hok _ _ hk _=>?_) (fun p hok hp=>?_)
  ·simp (disch:=omega) only [go_sem,Ab,hmu,Ao,Ap,Al,BV,Bf,Fm.osv,Fm.obs,Ev,Ew,Ex]
   exact ⟨_,rfl,fin⟩
  ·obtain ⟨n,rfl,hn,rfl⟩:=L8 hk
   have hno:=hno n hn
   simp (disch:=omega) only [go_sem,Ab,hno,z8,yA,yC,Ao,Ap,Al,BV,Bf,Fm.osv,Fm.obs,Ev,Ew,Ex]
   first | rfl | exact ⟨trivial,rfl⟩
  ·simp (disch:=omega) only [go_sem,Ab,Ao,Ap,Al,BV,Bf,Fm.osv,Fm.obs,Ev,Ew,Ex]
   first | done | rfl | trivial
theorem FE (s:ByteArray) (hs:s.size≤1048576):∀ (n i:Nat),i≤s.size→s.size-i<n→∀ fl,∃ out,E 22 [.ptr 0 0] [psr s i fl]=some out∧Nj s i fl out
 | 0,i,_,h,_=>absurd h (by omega)
 | n+1,i,hi,hn,true=>Rj s i hi hs
 | n+1,i,hi,hn,false=>PK s hs i hi (fun i' h1 h2 fl=>FE s hs n i' h2 (by omega) fl) fun h1=>SO s hs (i+1) h1 fun i' h2 h3 fl=>FE s hs n i' h3 (by omega) fl
theorem Ui (op:Int):(sgn op).length≤4:=by
 unfold sgn
 by_cases h5:op=5
 ·rw [if_pos h5]; decide
 ·rw [if_neg h5]
  by_cases h6:op=6
  ·rw [if_pos h6]; decide
  ·rw [if_neg h6]; decide
theorem Fm.fmt_len (x:Fm) (hx:x.forms=true):x.fmt.length≤4010*x.nodes:=by
 have ih:∀ y∈x.parts,y.fmt.length≤4010*y.nodes:=fun y hy=>Fm.fmt_len y (Fm.Bk hx hy)
 have hf:=Fm.AC hx
 have hp:=Fm.nodes_pos x
 rcases Fm.Fs hf with ho | ho | ho | ho | ho | ho | ho | ho | ho
 ·have e0:=Fm.Ca hf (.inl ho)
  rw [ho] at e0
  rw [e0,MZ]
  have:(Fm.mk 1 Tm.zero ⟨#[]⟩ []).nodes=x.nodes:=by rw [←e0]
  show 4≤_; omega
 ·have e0:=Fm.Ca hf (.inr ho)
  rw [ho] at e0
  rw [e0,Na]
  have:(Fm.mk 2 Tm.zero ⟨#[]⟩ []).nodes=x.nodes:=by rw [←e0]
  show 5≤_; omega
 ·obtain ⟨_,hat,_⟩:=Fm.Dc hf ho
  have e0:x.fmt=x.atom.fmtA:=by
   obtain ⟨op,a,v,ps⟩:=x
   have ho:op=3:=ho
   subst ho
   exact L1 a v ps
  have:=SF hat
  rw [←AK,Tm.Ch] at this
  rw [e0]; omega
 ·obtain ⟨p,e0⟩:=Fm.E3 hf ho
  have hi:=ih p (by rw [e0]; simp [Fm.parts])
  have hn:x.nodes=1+p.nodes:=by rw [Fm.nodes_eq,e0]; show 1+Fm.nodeS [p]=_; rw [Fm.nodeS,Fm.nodeS]; omega
  rw [hn,e0,Kg]
  cases p.atom.eqn with
  | true=>simp only [cond_true,zH,z7,z6]; omega
  | false=>simp only [cond_false,zH]; omega
 iterate 3
  ·obtain ⟨p,q,e0⟩:=Fm.CL hf (by omega)
   have h1:=ih p (by rw [e0]; simp [Fm.parts])
   have h2:=ih q (by rw [e0]; simp [Fm.parts])
   have hn:x.nodes=1+p.nodes+q.nodes:=by rw [Fm.nodes_eq,e0]; show 1+Fm.nodeS [p,q]=_; rw [Fm.nodeS,Fm.nodeS,Fm.nodeS]; omega
   have hs:=Ui x.op
   have e1:x.fmt=40 :: (p.fmt++(sgn x.op++(q.fmt++[41]))):=by
    have:=L2 (op:=x.op) (by omega) Tm.zero ⟨#[]⟩ p q
    rwa [←e0] at this
   rw [hn,e1]
   simp only [zH,z7,z6]; omega
 ·obtain ⟨p,e0⟩:=Fm.DM hf (.inl ho)
  rw [ho] at e0
  have hi:=ih p (by rw [e0]; simp [Fm.parts])
  have hv:=CO (Fm.BM hf (by unfold qB; rw [ho,A1 rfl]; rfl)).1
  have hn:x.nodes=1+p.nodes:=by rw [Fm.nodes_eq,e0]; show 1+Fm.nodeS [p]=_; rw [Fm.nodeS,Fm.nodeS]; omega
  have e1:x.fmt=OM++(x.var.toList++46 :: p.fmt):=by
   have:=Nb Tm.zero x.var p
   rwa [←e0] at this
  rw [hn,e1]
  simp only [z7,zH,AK,OM,z6]; omega
 ·obtain ⟨p,e0⟩:=Fm.DM hf (.inr ho)
  rw [ho] at e0
  have hi:=ih p (by rw [e0]; simp [Fm.parts])
  have hv:=CO (Fm.BM hf (by unfold qB; rw [ho,A1 (p:=(9:Int)=9) rfl,zS])).1
  have hn:x.nodes=1+p.nodes:=by rw [Fm.nodes_eq,e0]; show 1+Fm.nodeS [p]=_; rw [Fm.nodeS,Fm.nodeS]; omega
  have e1:x.fmt=Kf++(x.var.toList++46 :: p.fmt):=by
   have:=Nc Tm.zero x.var p
   rwa [←e0] at this
  rw [hn,e1]
  simp only [z7,zH,AK,Kf,z6]; omega
termination_by SizeOf.sizeOf x
decreasing_by exact Fm.lt_of_mem hy
theorem Fm.txt_size (x:Fm):x.txt.size=x.fmt.length:=by rw [←AK,Fm.txt_toList]
theorem Us (a:Tm) (v:ByteArray) (p:Fm) (h:p.atom.eqn=false):(⟨#[126]⟩:ByteArray)++p.txt=(Fm.mk 4 a v [p]).txt:=AU (by rw [AR,Fm.txt_toList,Fm.txt_toList,Kg,h,L4]; rfl)
theorem SP (a:Tm) (v:ByteArray) (p:Fm) (h:p.atom.eqn=true):(⟨#[126,40]⟩:ByteArray)++p.txt++⟨#[41]⟩=(Fm.mk 4 a v [p]).txt:=AU (by
 have e:(⟨#[126,40]⟩:ByteArray).toList=[126,40]:=Bi [126,40]
 rw [AR,AR,Fm.txt_toList,Fm.txt_toList,Kg,h,e,NE]; rfl)
theorem Ut (a:Tm) (v:ByteArray) (p:Fm):(⟨#[97,108,108,32]⟩:ByteArray)++v++⟨#[46]⟩++p.txt=(Fm.mk 8 a v [p]).txt:=AU (by
 rw [AR,AR,AR,Fm.txt_toList,Fm.txt_toList,Nb,L3,NF]
 simp only [OM,zY,zQ,yH])
theorem Uu (a:Tm) (v:ByteArray) (p:Fm):(⟨#[115,111,109,101,32]⟩:ByteArray)++v++⟨#[46]⟩++p.txt=(Fm.mk 9 a v [p]).txt:=AU (by
 rw [AR,AR,AR,Fm.txt_toList,Fm.txt_toList,Nc,Je,NF]
 simp only [Kf,zY,zQ,yH])
theorem Nk {op:Int} (ho:op=5∨op=6∨op=7) (a:Tm) (v:ByteArray) (p q:Fm):(⟨#[40]⟩:ByteArray)++p.txt++sgB op++q.txt++⟨#[41]⟩=(Fm.mk op a v [p,q]).txt:=AU (by
 rw [AR,AR,AR,AR,Fm.txt_toList,Fm.txt_toList,Fm.txt_toList,L2 ho,L5,NE,DA]
 simp only [zY,zQ,yH])
theorem Uv (a:Tm) (v:ByteArray) (ps:List Fm):(Fm.mk 3 a v ps).txt=a.txtA:=AU (by rw [Fm.txt_toList,Tm.Ch,L1])
theorem Uw (a:Tm) (v:ByteArray) (ps:List Fm):(Fm.mk 1 a v ps).txt=⟨#[116,114,117,101]⟩:=AU (by rw [Fm.txt_toList,MZ]; exact (Bi bTrue).symm)
theorem Ux (a:Tm) (v:ByteArray) (ps:List Fm):(Fm.mk 2 a v ps).txt=⟨#[102,97,108,115,101]⟩:=AU (by rw [Fm.txt_toList,Na]; exact (Bi bFalse).symm)
def AN:SC:=(.seq (.reg [⟨some 1,none,.boxv 27 5 (.t 0)⟩,⟨(some 2),none,(.mv (.c (.str ⟨#[]⟩)))⟩]) (.seq (.seq (.reg [⟨some 3,none,.faddr 0 (.t 1)⟩,⟨some 4,none,.load false 1 (.t 3)⟩]) (.block 0 (.seq (.reg [⟨some 6,none,.bin .eql false (.t 4) (.c (.int .i64 1))⟩,⟨some 5,none,.mv (.t 6)⟩]) (.cond (.t 5) (.seq (.reg [⟨(some 2),none,(.mv (.c (.str ⟨#[116,114,117,101]⟩)))⟩]) .ret) (.seq (.reg [⟨some 8,none,.bin .eql false (.t 4) (.c (.int .i64 2))⟩,⟨some 7,none,.mv (.t 8)⟩]) (.cond (.t 7) (.seq (.reg [⟨(some 2),none,(.mv (.c (.str ⟨#[102,97,108,115,101]⟩)))⟩]) .ret) (.seq (.reg [⟨some 10,none,.bin .eql false (.t 4) (.c (.int .i64 3))⟩,⟨some 9,none,.mv (.t 10)⟩]) (.cond (.t 9) (.seq (.reg [⟨some 11,none,.faddr 1 (.t 1)⟩,⟨some 12,none,.load true 2 (.t 11)⟩,⟨some 13,none,.call 63 [(.t 12)]⟩,⟨some 2,none,.mv (.t 13)⟩]) .ret) (.seq (.reg [⟨some 15,none,.bin .eql false (.t 4) (.c (.int .i64 4))⟩,⟨some 14,none,.mv (.t 15)⟩]) (.cond (.t 14) (.seq (.seq (.reg [⟨some 16,none,.faddr 4 (.t 1)⟩,⟨some 17,none,.load false 1 (.t 16)⟩,⟨some 18,none,.iaddr 5 (.t 17) (.c (.int .i64 0))⟩,⟨some 19,none,.faddr 1 (.t 18)⟩,⟨some 20,none,.load true 2 (.t 19)⟩,⟨some 21,none,.call 64 [(.t 20)]⟩]) (.cond (.t 21) (.seq (.reg [⟨some 22,none,.faddr 4 (.t 1)⟩,⟨some 23,none,.load false 1 (.t 22)⟩,⟨some 24,none,.iaddr 5 (.t 23) (.c (.int .i64 0))⟩,⟨some 25,none,.load true 5 (.t 24)⟩,⟨some 26,none,.call 25 [(.t 25)]⟩,⟨(some 27),none,(.bin .add false (.c (.str ⟨#[126,40]⟩)) (.t 26))⟩,⟨(some 28),none,(.bin .add false (.t 27) (.c (.str ⟨#[41]⟩)))⟩,⟨some 2,none,.mv (.t 28)⟩]) .ret) .skip)) (.seq (.reg [⟨some 29,none,.faddr 4 (.t 1)⟩,⟨some 30,none,.load false 1 (.t 29)⟩,⟨some 31,none,.iaddr 5 (.t 30) (.c (.int .i64 0))⟩,⟨some 32,none,.load true 5 (.t 31)⟩,⟨some 33,none,.call 25 [(.t 32)]⟩,⟨(some 34),none,(.bin .add false (.c (.str ⟨#[126]⟩)) (.t 33))⟩,⟨some 2,none,.mv (.t 34)⟩]) .ret)) (.seq (.reg [⟨some 36,none,.bin .eql false (.t 4) (.c (.int .i64 8))⟩,⟨some 35,none,.mv (.t 36)⟩]) (.cond (.t 35) (.seq (.dreg [[],[0],[1,0],[2,1,0],[],[4],[5,4],[6,5,4],[7,6,5,4],[3,2,1,0,8,7,6,5,4],[9,3,2,1,0,8,7,6,5,4]] [⟨some 37,none,.faddr 3 (.t 1)⟩,⟨some 38,none,.load false 1 (.t 37)⟩,⟨(some 39),none,(.bin .add false (.c (.str ⟨#[97,108,108,32]⟩)) (.t 38))⟩,⟨(some 40),none,(.bin .add false (.t 39) (.c (.str ⟨#[46]⟩)))⟩,⟨some 41,none,.faddr 4 (.t 1)⟩,⟨some 42,none,.load false 1 (.t 41)⟩,⟨some 43,none,.iaddr 5 (.t 42) (.c (.int .i64 0))⟩,⟨some 44,none,.load true 5 (.t 43)⟩,⟨some 45,none,.call 25 [(.t 44)]⟩,⟨some 46,none,.bin .add false (.t 40) (.t 45)⟩,⟨some 2,none,.mv (.t 46)⟩]) .ret) (.seq (.reg [⟨some 48,none,.bin .eql false (.t 4) (.c (.int .i64 9))⟩,⟨some 47,none,.mv (.t 48)⟩]) (.cond (.t 47) (.seq (.dreg [[],[0],[1,0],[2,1,0],[],[4],[5,4],[6,5,4],[7,6,5,4],[3,2,1,0,8,7,6,5,4],[9,3,2,1,0,8,7,6,5,4]] [⟨some 49,none,.faddr 3 (.t 1)⟩,⟨some 50,none,.load false 1 (.t 49)⟩,⟨(some 51),none,(.bin .add false (.c (.str ⟨#[115,111,109,101,32]⟩)) (.t 50))⟩,⟨(some 52),none,(.bin .add false (.t 51) (.c (.str ⟨#[46]⟩)))⟩,⟨some 53,none,.faddr 4 (.t 1)⟩,⟨some 54,none,.load false 1 (.t 53)⟩,⟨some 55,none,.iaddr 5 (.t 54) (.c (.int .i64 0))⟩,⟨some 56,none,.load true 5 (.t 55)⟩,⟨some 57,none,.call 25 [(.t 56)]⟩,⟨some 58,none,.bin .add false (.t 52) (.t 57)⟩,⟨some 2,none,.mv (.t 58)⟩]) .ret) .skip)))))))))))))) (.seq (.dreg [[],[0],[1,0],[2,1,0],[3,2,1,0],[4,3,2,1,0],[4,3,2,1,0],[],[7],[6,4,3,2,1,0,8,7],[5,4,3,2,1,0,9,6,8,7],[],[11],[12,11],[13,12,11],[14,13,12,11,6,4,3,2,1,0],[10,5,4,3,2,1,0,9,6,8,7,15,14,13,12,11],[16,10,5,4,3,2,1,0,9,6,8,7,15,14,13,12,11],[17,16,10,5,4,3,2,1,0,9,6,8,7,15,14,13,12,11]] [⟨some 59,none,.faddr 4 (.t 1)⟩,⟨some 60,none,.load false 1 (.t 59)⟩,⟨some 61,none,.iaddr 5 (.t 60) (.c (.int .i64 0))⟩,⟨some 62,none,.load true 5 (.t 61)⟩,⟨some 63,none,.call 25 [(.t 62)]⟩,⟨(some 64),none,(.bin .add false (.c (.str ⟨#[40]⟩)) (.t 63))⟩,⟨some 65,none,.call 65 []⟩,⟨some 66,none,.faddr 0 (.t 1)⟩,⟨some 67,none,.load false 1 (.t 66)⟩,⟨(some 68),none,(.mget false false false [(.str ⟨#[]⟩)] (.t 65) (.t 67))⟩,⟨some 69,none,.bin .add false (.t 64) (.t 68)⟩,⟨some 70,none,.faddr 4 (.t 1)⟩,⟨some 71,none,.load false 1 (.t 70)⟩,⟨some 72,none,.iaddr 5 (.t 71) (.c (.int .i64 1))⟩,⟨some 73,none,.load true 5 (.t 72)⟩,⟨some 74,none,.call 25 [(.t 73)]⟩,⟨some 75,none,.bin .add false (.t 69) (.t 74)⟩,⟨(some 76),none,(.bin .add false (.t 75) (.c (.str ⟨#[41]⟩)))⟩,⟨some 2,none,.mv (.t 76)⟩]) .ret)))
theorem AY:codeOf Try.prog 25=some ⟨77,AN,[(.tmp 2)]⟩:=by kernel_rfl
theorem As:modes 25=⟨[],.asis,none,false⟩:=by unfold modes; rfl
theorem JF (x:Fm) (hx:x.forms=true) (hn:x.nodes≤1000) (ih:∀ y∈x.parts,E 25 [y.sv] []=some (.str y.txt,[])):E 25 [x.sv] []=some (.str x.txt,[]):=by
 have hf:=Fm.AC hx
 have ln:∀ y∈x.parts,y.txt.size≤4010000:=fun y hy=>by
  have h1:=Fm.fmt_len y (Fm.Bk hx hy)
  have h2:=Fm.nodes_mem hy
  have h3:=Fm.nodes_eq x
  rw [Fm.txt_size]; omega
 rcases Fm.Fs hf with ho | ho | ho | ho | ho | ho | ho | ho | ho
 ·have e0:=Fm.Ca hf (.inl ho)
  rw [ho] at e0
  rw [e0,Uw]
  show E 25 [.agg [.int .i64 1,.str ⟨#[]⟩,.arr [],.str ⟨#[]⟩,.arr []]] []=_
  refine Aj AY As (of_decide_eq_true rfl) ?_
  simp (disch:=omega) only [AN,go_sem,Ab]
 ·have e0:=Fm.Ca hf (.inr ho)
  rw [ho] at e0
  rw [e0,Ux]
  show E 25 [.agg [.int .i64 2,.str ⟨#[]⟩,.arr [],.str ⟨#[]⟩,.arr []]] []=_
  refine Aj AY As (of_decide_eq_true rfl) ?_
  simp (disch:=omega) only [AN,go_sem,Ab]
 ·obtain ⟨_,hat,_⟩:=Fm.Dc hf ho
  have e0:x.txt=x.atom.txtA:=by
   obtain ⟨op,a,v,ps⟩:=x
   have ho:op=3:=ho
   subst ho
   exact Uv a v ps
  have hc:=Rf x.atom hat
  rw [e0]
  have q1:(x.op=1)=False:=eq_false (by omega)
  have q2:(x.op=2)=False:=eq_false (by omega)
  have q3:(x.op=3)=True:=eq_true ho
  refine Aj AY As (of_decide_eq_true rfl) ?_
  simp (disch:=omega) only [AN,go_sem,Ab,q1,q2,q3,hc,AP,A6,As,Bf]
 ·obtain ⟨p,e0⟩:=Fm.E3 hf ho
  have hp:p∈x.parts:=by rw [e0]; simp [Fm.parts]
  have c0:=ih p hp
  have lp:=ln p hp
  have he:=DH p.atom
  have g0:([p].map Fm.d)[(0:Nat)]?=some [D.int p.op,D.str p.atom.name,D.arr (p.atom.args.map Tm.d),D.str p.var,D.arr (p.parts.map Fm.d)]:=by simp only [zD,zF,zB,zC]; rw [Fm.d_eq]
  have s1:((⟨#[126,40]⟩:ByteArray)++p.txt).size=2+p.txt.size:=by rw [zA]; rfl
  have s2:(⟨#[126,40]⟩:ByteArray).size=2:=rfl
  have s3:(⟨#[126]⟩:ByteArray).size=1:=rfl
  have s4:(⟨#[41]⟩:ByteArray).size=1:=rfl
  cases hq:p.atom.eqn with
  | true =>
   rw [hq] at he
   have ht:=SP Tm.zero ⟨#[]⟩ p hq
   rw [e0]
   show E 25 [.agg [.int .i64 4,.str ⟨#[]⟩,.arr [],.str ⟨#[]⟩,.arr ([p].map Fm.d)]] []=_
   obtain ⟨ds,hds⟩:∃ ds,ds=[p].map Fm.d:=⟨_,rfl⟩
   rw [←hds] at g0 ⊢
   refine Aj AY As (of_decide_eq_true rfl) ?_
   simp (disch:=omega) only [AN,go_sem,Ab,g0,c0,he,s1,s2,s3,s4,ht,zE,AP,A6,As,Bf]
  | false =>
   rw [hq] at he
   have ht:=Us Tm.zero ⟨#[]⟩ p hq
   rw [e0]
   show E 25 [.agg [.int .i64 4,.str ⟨#[]⟩,.arr [],.str ⟨#[]⟩,.arr ([p].map Fm.d)]] []=_
   obtain ⟨ds,hds⟩:∃ ds,ds=[p].map Fm.d:=⟨_,rfl⟩
   rw [←hds] at g0 ⊢
   refine Aj AY As (of_decide_eq_true rfl) ?_
   simp (disch:=omega) only [AN,go_sem,Ab,g0,c0,he,s1,s2,s3,s4,ht,zE,AP,A6,As,Bf]
 ·obtain ⟨p,q,e0⟩:=Fm.CL hf (by omega)
  rw [ho] at e0
  have hp:p∈x.parts:=by rw [e0]; simp [Fm.parts]
  have hq:q∈x.parts:=by rw [e0]; simp [Fm.parts]
  have c0:=ih p hp
  have c1:=ih q hq
  have lp:=ln p hp
  have lq:=ln q hq
  have ht:=Nk (op:=5) (by omega) Tm.zero ⟨#[]⟩ p q
  have hsg:=K5
  have hsm:=Hx (n:=5) (by omega)
  have z0:=DO (op:=5) (by omega)
  have g0:([p,q].map Fm.d)[(0:Nat)]?=some [D.int p.op,D.str p.atom.name,D.arr (p.atom.args.map Tm.d),D.str p.var,D.arr (p.parts.map Fm.d)]:=by simp only [zD,zF,zB,zC]; rw [Fm.d_eq]
  have g1:([p,q].map Fm.d)[(1:Nat)]?=some [D.int q.op,D.str q.atom.name,D.arr (q.atom.args.map Tm.d),D.str q.var,D.arr (q.parts.map Fm.d)]:=by simp only [zD,zF,zB,zC]; rw [Fm.d_eq]
  rw [e0]
  show E 25 [.agg [.int .i64 5,.str ⟨#[]⟩,.arr [],.str ⟨#[]⟩,.arr ([p,q].map Fm.d)]] []=_
  obtain ⟨ds,hds⟩:∃ ds,ds=[p,q].map Fm.d:=⟨_,rfl⟩
  rw [←hds] at g0 g1 ⊢
  have s1:((⟨#[40]⟩:ByteArray)++p.txt).size=1+p.txt.size:=by rw [zA]; rfl
  have s2:((⟨#[40]⟩:ByteArray)++p.txt++sgB 5).size=1+p.txt.size+(sgB 5).size:=by rw [zA,s1]
  have s3:((⟨#[40]⟩:ByteArray)++p.txt++sgB 5++q.txt).size=1+p.txt.size+(sgB 5).size+q.txt.size:=by rw [zA,s2]
  have s4:(⟨#[40]⟩:ByteArray).size=1:=rfl
  have s5:(⟨#[41]⟩:ByteArray).size=1:=rfl
  refine Aj AY As (of_decide_eq_true rfl) ?_
  simp (disch:=omega) only [AN,go_sem,Ab,g0,g1,c0,c1,hsg,hsm,s1,s2,s3,s4,s5,ht,zE,zX,yG,yD,AP,A6,As,Bf]
 ·obtain ⟨p,q,e0⟩:=Fm.CL hf (by omega)
  rw [ho] at e0
  have hp:p∈x.parts:=by rw [e0]; simp [Fm.parts]
  have hq:q∈x.parts:=by rw [e0]; simp [Fm.parts]
  have c0:=ih p hp
  have c1:=ih q hq
  have lp:=ln p hp
  have lq:=ln q hq
  have ht:=Nk (op:=6) (by omega) Tm.zero ⟨#[]⟩ p q
  have hsg:=K5
  have hsm:=Hx (n:=6) (by omega)
  have z0:=DO (op:=6) (by omega)
  have g0:([p,q].map Fm.d)[(0:Nat)]?=some [D.int p.op,D.str p.atom.name,D.arr (p.atom.args.map Tm.d),D.str p.var,D.arr (p.parts.map Fm.d)]:=by simp only [zD,zF,zB,zC]; rw [Fm.d_eq]
  have g1:([p,q].map Fm.d)[(1:Nat)]?=some [D.int q.op,D.str q.atom.name,D.arr (q.atom.args.map Tm.d),D.str q.var,D.arr (q.parts.map Fm.d)]:=by simp only [zD,zF,zB,zC]; rw [Fm.d_eq]
  rw [e0]
  show E 25 [.agg [.int .i64 6,.str ⟨#[]⟩,.arr [],.str ⟨#[]⟩,.arr ([p,q].map Fm.d)]] []=_
  obtain ⟨ds,hds⟩:∃ ds,ds=[p,q].map Fm.d:=⟨_,rfl⟩
  rw [←hds] at g0 g1 ⊢
  have s1:((⟨#[40]⟩:ByteArray)++p.txt).size=1+p.txt.size:=by rw [zA]; rfl
  have s2:((⟨#[40]⟩:ByteArray)++p.txt++sgB 6).size=1+p.txt.size+(sgB 6).size:=by rw [zA,s1]
  have s3:((⟨#[40]⟩:ByteArray)++p.txt++sgB 6++q.txt).size=1+p.txt.size+(sgB 6).size+q.txt.size:=by rw [zA,s2]
  have s4:(⟨#[40]⟩:ByteArray).size=1:=rfl
  have s5:(⟨#[41]⟩:ByteArray).size=1:=rfl
  refine Aj AY As (of_decide_eq_true rfl) ?_
  simp (disch:=omega) only [AN,go_sem,Ab,g0,g1,c0,c1,hsg,hsm,s1,s2,s3,s4,s5,ht,zE,zX,yG,yD,AP,A6,As,Bf]
 ·obtain ⟨p,q,e0⟩:=Fm.CL hf (by omega)
  rw [ho] at e0
  have hp:p∈x.parts:=by rw [e0]; simp [Fm.parts]
  have hq:q∈x.parts:=by rw [e0]; simp [Fm.parts]
  have c0:=ih p hp
  have c1:=ih q hq
  have lp:=ln p hp
  have lq:=ln q hq
  have ht:=Nk (op:=7) (by omega) Tm.zero ⟨#[]⟩ p q
  have hsg:=K5
  have hsm:=Hx (n:=7) (by omega)
  have z0:=DO (op:=7) (by omega)
  have g0:([p,q].map Fm.d)[(0:Nat)]?=some [D.int p.op,D.str p.atom.name,D.arr (p.atom.args.map Tm.d),D.str p.var,D.arr (p.parts.map Fm.d)]:=by simp only [zD,zF,zB,zC]; rw [Fm.d_eq]
  have g1:([p,q].map Fm.d)[(1:Nat)]?=some [D.int q.op,D.str q.atom.name,D.arr (q.atom.args.map Tm.d),D.str q.var,D.arr (q.parts.map Fm.d)]:=by simp only [zD,zF,zB,zC]; rw [Fm.d_eq]
  rw [e0]
  show E 25 [.agg [.int .i64 7,.str ⟨#[]⟩,.arr [],.str ⟨#[]⟩,.arr ([p,q].map Fm.d)]] []=_
  obtain ⟨ds,hds⟩:∃ ds,ds=[p,q].map Fm.d:=⟨_,rfl⟩
  rw [←hds] at g0 g1 ⊢
  have s1:((⟨#[40]⟩:ByteArray)++p.txt).size=1+p.txt.size:=by rw [zA]; rfl
  have s2:((⟨#[40]⟩:ByteArray)++p.txt++sgB 7).size=1+p.txt.size+(sgB 7).size:=by rw [zA,s1]
  have s3:((⟨#[40]⟩:ByteArray)++p.txt++sgB 7++q.txt).size=1+p.txt.size+(sgB 7).size+q.txt.size:=by rw [zA,s2]
  have s4:(⟨#[40]⟩:ByteArray).size=1:=rfl
  have s5:(⟨#[41]⟩:ByteArray).size=1:=rfl
  refine Aj AY As (of_decide_eq_true rfl) ?_
  simp (disch:=omega) only [AN,go_sem,Ab,g0,g1,c0,c1,hsg,hsm,s1,s2,s3,s4,s5,ht,zE,zX,yG,yD,AP,A6,As,Bf]
 ·obtain ⟨p,e0⟩:=Fm.DM hf (by omega)
  rw [ho] at e0
  have hp:p∈x.parts:=by rw [e0]; simp [Fm.parts]
  have hv:=CO (Fm.BM hf (by unfold qB; rw [ho]; first | rw [A1 rfl]; rfl | rw [A1 (p:=(9:Int)=9) rfl,zS])).1
  have c0:=ih p hp
  have lp:=ln p hp
  have ht:=Ut Tm.zero x.var p
  have g0:([p].map Fm.d)[(0:Nat)]?=some [D.int p.op,D.str p.atom.name,D.arr (p.atom.args.map Tm.d),D.str p.var,D.arr (p.parts.map Fm.d)]:=by simp only [zD,zF,zB,zC]; rw [Fm.d_eq]
  obtain ⟨v,hvv⟩:∃ v,v=x.var:=⟨_,rfl⟩
  rw [←hvv] at ht hv e0
  rw [e0]
  show E 25 [.agg [.int .i64 8,.str ⟨#[]⟩,.arr [],.str v,.arr ([p].map Fm.d)]] []=_
  obtain ⟨ds,hds⟩:∃ ds,ds=[p].map Fm.d:=⟨_,rfl⟩
  rw [←hds] at g0 ⊢
  have s1:((⟨#[97,108,108,32]⟩:ByteArray)++v).size=4+v.size:=by rw [zA]; rfl
  have s2:((⟨#[97,108,108,32]⟩:ByteArray)++v++⟨#[46]⟩).size=4+v.size+1:=by rw [zA,s1]; rfl
  have s3:(⟨#[97,108,108,32]⟩:ByteArray).size=4:=rfl
  have s4:(⟨#[46]⟩:ByteArray).size=1:=rfl
  refine Aj AY As (of_decide_eq_true rfl) ?_
  simp (disch:=omega) only [AN,go_sem,Ab,g0,c0,s1,s2,s3,s4,ht,zE,AP,A6,As,Bf]
 ·obtain ⟨p,e0⟩:=Fm.DM hf (by omega)
  rw [ho] at e0
  have hp:p∈x.parts:=by rw [e0]; simp [Fm.parts]
  have hv:=CO (Fm.BM hf (by unfold qB; rw [ho]; first | rw [A1 rfl]; rfl | rw [A1 (p:=(9:Int)=9) rfl,zS])).1
  have c0:=ih p hp
  have lp:=ln p hp
  have ht:=Uu Tm.zero x.var p
  have g0:([p].map Fm.d)[(0:Nat)]?=some [D.int p.op,D.str p.atom.name,D.arr (p.atom.args.map Tm.d),D.str p.var,D.arr (p.parts.map Fm.d)]:=by simp only [zD,zF,zB,zC]; rw [Fm.d_eq]
  obtain ⟨v,hvv⟩:∃ v,v=x.var:=⟨_,rfl⟩
  rw [←hvv] at ht hv e0
  rw [e0]
  show E 25 [.agg [.int .i64 9,.str ⟨#[]⟩,.arr [],.str v,.arr ([p].map Fm.d)]] []=_
  obtain ⟨ds,hds⟩:∃ ds,ds=[p].map Fm.d:=⟨_,rfl⟩
  rw [←hds] at g0 ⊢
  have s1:((⟨#[115,111,109,101,32]⟩:ByteArray)++v).size=5+v.size:=by rw [zA]; rfl
  have s2:((⟨#[115,111,109,101,32]⟩:ByteArray)++v++⟨#[46]⟩).size=5+v.size+1:=by rw [zA,s1]; rfl
  have s3:(⟨#[115,111,109,101,32]⟩:ByteArray).size=5:=rfl
  have s4:(⟨#[46]⟩:ByteArray).size=1:=rfl
  refine Aj AY As (of_decide_eq_true rfl) ?_
  simp (disch:=omega) only [AN,go_sem,Ab,g0,c0,s1,s2,s3,s4,ht,zE,AP,A6,As,Bf]
theorem GJ (x:Fm) (hx:x.forms=true) (hn:x.nodes≤1000):E 25 [x.sv] []=some (.str x.txt,[]) :=
 JF x hx hn fun y hy=>GJ y (Fm.Bk hx hy) (by have:=Fm.nodes_mem hy; have:=Fm.nodes_eq x; omega)
termination_by SizeOf.sizeOf x
decreasing_by exact Fm.lt_of_mem hy
def LZ (s:ByteArray) (f:Fm):Prop:=f.valid=true∧f.txt=s
noncomputable def PL (s:ByteArray):Bool:=dec (s.size≤4000∧∃ f,LZ s f)
open Classical in
noncomputable def Kq (s:ByteArray):Fm:=if h:s.size≤4000∧∃ f,LZ s f then h.2.choose else Fm.zero
theorem EW {s:ByteArray} (hs:s.size≤1048576) {f:Fm} (h:LZ s f) {x:Fm} {j:Nat} {fl:Bool} (hc:VI s 0 x j fl):fl=false∧x=f∧j=s.size :=
 hc f s.size (FA h.1).2 (zP _) (zT _) (.inl ⟨by rw [Qt,← h.2,Fm.txt_toList],Nd s⟩)
theorem Rk {s:ByteArray} (hs:s.size≤1048576) {f g:Fm} (h:LZ s f) (k:LZ s g):f=g:=by
 obtain ⟨out,_,x,j,fl,_,_,_,_,hc⟩:=FE s hs (s.size+1) 0 (zT _) (by omega) false
 exact (EW hs h (hc rfl)).2.1.symm.trans (EW hs k (hc rfl)).2.1
theorem PM {s:ByteArray} (hs:s.size≤4000) {f:Fm} (h:LZ s f):PL s=true∧Kq s=f:=by
 have he:s.size≤4000∧∃ f,LZ s f:=⟨hs,f,h⟩
 refine ⟨A1 he,?_⟩
 unfold Kq
 rw [dif_pos he]
 exact Rk (by omega) he.2.choose_spec h
theorem Jl {s:ByteArray} (h:s.size≤4000→∀ f,¬ LZ s f):PL s=false∧Kq s=Fm.zero:=by
 have he:¬ (s.size≤4000∧∃ f,LZ s f):=fun ⟨h1,f,hf⟩=>h h1 f hf
 refine ⟨An he,?_⟩
 unfold Kq
 rw [dif_neg he]
theorem SQ {s:ByteArray} (h:PL s=true):(Kq s).valid=true:=by
 obtain ⟨h1,f,hf⟩:=At.1 h
 rw [(PM h1 hf).2]; exact hf.1
def B5:SC:=(.seq (.reg [⟨(some 2),none,(.alloc 27 [(.int .i64 0),(.str ⟨#[]⟩),.nil,(.str ⟨#[]⟩),.nil])⟩,⟨some 3,none,.mv (.c (.bool false))⟩]) (.seq (.seq (.reg [⟨some 6,none,.mv (.t 0)⟩,⟨some 7,none,.len true (.t 6)⟩,⟨some 8,none,.bin .gtr false (.t 7) (.c (.int .i64 4000))⟩]) (.cond (.t 8) (.seq (.reg [⟨(some 9),none,(.build [(.int .i64 0),(.str ⟨#[]⟩),.nil,(.str ⟨#[]⟩),.nil] [])⟩,⟨none,none,(.store 5 (.t 2) (.t 9))⟩,⟨some 3,none,.mv (.c (.bool false))⟩]) .ret) .skip)) (.seq (.reg [⟨some 10,none,.mv (.t 0)⟩,⟨(some 11),none,(.build [(.str ⟨#[]⟩),(.int .i64 0),(.bool false)] [(0,(1,(.t 10)))])⟩,⟨some 12,none,.boxv 51 3 (.t 11)⟩,⟨some 4,none,.mv (.t 12)⟩]) (.seq (.reg [⟨some 13,none,.mv (.t 4)⟩,⟨some 14,none,.call 22 [(.t 13)]⟩,⟨(some 5),none,(.alloc 27 [(.int .i64 0),(.str ⟨#[]⟩),.nil,(.str ⟨#[]⟩),.nil])⟩,⟨none,none,(.store 5 (.t 5) (.t 14))⟩]) (.seq (.seq (.reg [⟨some 15,none,.mv (.t 4)⟩,⟨some 16,none,.call 23 [(.t 15)]⟩,⟨some 17,none,.un .not (.t 16)⟩,⟨some 18,none,.mv (.t 17)⟩,⟨(some 19),(some (18,false)),(.load true 5 (.t 5))⟩,⟨(some 20),(some (18,false)),(.call 24 [(.t 19)])⟩,⟨(some 21),(some (18,false)),(.un .not (.t 20))⟩,⟨some 22,none,.pick (.t 18) (.c (.bool true)) (.t 21)⟩,⟨some 23,none,.mv (.t 22)⟩,⟨(some 24),(some (23,false)),(.load true 5 (.t 5))⟩,⟨(some 25),(some (23,false)),(.call 25 [(.t 24)])⟩,⟨(some 26),(some (23,false)),(.mv (.t 0))⟩,⟨(some 27),(some (23,false)),(.bin .neq false (.t 25) (.t 26))⟩,⟨some 28,none,.pick (.t 23) (.c (.bool true)) (.t 27)⟩]) (.cond (.t 28) (.seq (.reg [⟨(some 29),none,(.build [(.int .i64 0),(.str ⟨#[]⟩),.nil,(.str ⟨#[]⟩),.nil] [])⟩,⟨none,none,(.store 5 (.t 2) (.t 29))⟩,⟨some 3,none,.mv (.c (.bool false))⟩]) .ret) .skip)) (.seq (.reg [⟨some 30,none,.load true 5 (.t 5)⟩,⟨none,none,(.store 5 (.t 2) (.t 30))⟩,⟨some 3,none,.mv (.c (.bool true))⟩]) .ret))))))
theorem BN:codeOf Try.prog 6=some ⟨31,B5,[(.cell 2 true 5),(.tmp 3)]⟩:=by kernel_rfl
theorem B6:modes 6=⟨[],.own [none,none,some (24,2),none,some (27,5),none],none,false⟩:=by unfold modes; rfl
theorem I8 (s:ByteArray) (hs:s.size≤1048576):E 6 [.str s] []=some (.tup [(Kq s).osv,.bool (PL s)],(Kq s).obs):=by
 have hz1:Fm.zero.osv=.agg [.int .i64 0,.str ⟨#[]⟩,.ref 0,.str ⟨#[]⟩,.ref 1]:=rfl
 have hz2:Fm.zero.obs=[.row 24 2 [],.row 27 5 []]:=rfl
 rcases zO 4000 s.size with h4 | h4
 ·have hq:((4000:Int)<(s.size:Int))=True:=eq_true (by omega)
  obtain ⟨q1,q2⟩:=Jl (s:=s) fun h=>absurd h (by omega)
  rw [q1,q2,hz1,hz2]
  refine Aj BN B6 (of_decide_eq_true rfl) ?_
  simp (disch:=omega) only [B5,go_sem,Ab,hq]
 ·have hq:((4000:Int)<(s.size:Int))=False:=eq_false (by omega)
  obtain ⟨out,h1,x,j,fl,rfl,_,hj,hb,hc⟩:=FE s hs (s.size+1) 0 (zT _) (by omega) false
  have hc:=hc rfl
  have h1:E 22 [.ptr 0 0] [.box 51 [.str s,.int .i64 0,.bool false]]=some (Ri x,[psr s j fl,NG x,NH x]):=h1
  cases fl with
  | true =>
   have he:=Uc s j
   obtain ⟨q1,q2⟩:=Jl (s:=s) fun _ u hu=>by have:=(EW hs hu hc).1; cases this
   rw [q1,q2,hz1,hz2]
   refine Aj BN B6 (of_decide_eq_true rfl) ?_
   simp (disch:=omega) only [B5,go_sem,Ab,hq,h1,he,Bs,As,Al,B4]
  | false =>
   obtain ⟨_,hn,htm⟩:=hb rfl
   have he:=Ud s j
   have hv1:=JE x htm (by omega)
   by_cases h0:j=s.size
   ·rw [A1 h0] at he
    cases hv:x.valid with
    | true =>
     rw [hv] at hv1
     obtain ⟨v1,v2⟩:=FA hv
     have hf:=GJ x v2 (by omega)
     by_cases hx:x.txt=s
     ·obtain ⟨q1,q2⟩:=PM h4 (f:=x) ⟨hv,hx⟩
      rw [q1,q2]
      have hx':(x.txt=s)=True:=eq_true hx
      refine Aj BN B6 (of_decide_eq_true rfl) ?_
      simp (disch:=omega) only [B5,go_sem,Ab,hq,h1,he,hv1,hf,hx',Fm.osv,Fm.obs,Bs,As,Al,B4]
     ·obtain ⟨q1,q2⟩:=Jl (s:=s) fun _ u hu=>by
       obtain ⟨_,h2,_⟩:=EW hs hu hc
       exact hx (by rw [h2]; exact hu.2)
      rw [q1,q2,hz1,hz2]
      have hx':(x.txt=s)=False:=eq_false hx
      refine Aj BN B6 (of_decide_eq_true rfl) ?_
      simp (disch:=omega) only [B5,go_sem,Ab,hq,h1,he,hv1,hf,hx',Fm.osv,Fm.obs,Bs,As,Al,B4]
    | false =>
     rw [hv] at hv1
     obtain ⟨q1,q2⟩:=Jl (s:=s) fun _ u hu=>by
      obtain ⟨_,h2,_⟩:=EW hs hu hc
      rw [h2,hu.1] at hv; cases hv
     rw [q1,q2,hz1,hz2]
     refine Aj BN B6 (of_decide_eq_true rfl) ?_
     simp (disch:=omega) only [B5,go_sem,Ab,hq,h1,he,hv1,Bs,As,Al,B4]
   ·rw [An h0] at he
    obtain ⟨q1,q2⟩:=Jl (s:=s) fun _ u hu=>h0 (EW hs hu hc).2.2
    rw [q1,q2,hz1,hz2]
    refine Aj BN B6 (of_decide_eq_true rfl) ?_
    simp (disch:=omega) only [B5,go_sem,Ab,hq,h1,he,Bs,As,Al,B4]
theorem L9 (y:List UInt8):∀ xs:List (List UInt8),C2 [44] (xs++[y])=if xs=[] then y else C2 [44] xs++44 :: y
 | []=>by rw [if_pos rfl]; rfl
 | [x]=>by
  rw [if_neg (by simp)]
  show C2 [44] [x,y]=_
  rw [C2,C2,C2]
  simp
 | x :: z :: r=>by
  have ih:=L9 y (z :: r)
  rw [if_neg (by simp)] at ih
  rw [if_neg (by simp)]
  show C2 [44] (x :: ((z :: r)++[y]))=_
  rw [zQ,C2,← zQ,ih,C2]
  simp
noncomputable def OU (x:Tm) (k:Nat):List UInt8:=x.name.toList++(if k=0 then [] else 40 :: C2 [44] ((x.args.take k).map Tm.fmt))
theorem Rl {x:Tm} {k:Nat} (h:k<x.args.length):OU x (k+1)=OU x k++(if k=0 then 40 else 44) :: (x.args[k]).fmt:=by
 unfold OU
 rw [if_neg (by omega),List.take_succ_eq_append_getElem h,yA]
 show _++40 :: C2 [44] ((x.args.take k).map Tm.fmt++[(x.args[k]).fmt])=_
 rw [L9]
 by_cases h0:k=0
 ·subst h0
  simp
 ·rw [if_neg h0,if_neg h0,if_neg (by intro e; have:=congrArg zZ e; rw [yI,List.length_take,z6] at this; omega)]
  simp
theorem SR {x:Tm} (h:x.args.length≠0):OU x x.args.length++[41]=x.fmt:=by
 unfold OU
 rw [if_neg h,List.take_length,Tm.Hj,if_neg h,Tm.Lr]
 simp
def FV:SC:=(.seq (.reg [⟨some 1,none,.boxv 24 2 (.t 0)⟩,⟨(some 2),none,(.mv (.c (.str ⟨#[]⟩)))⟩]) (.seq (.seq (.reg [⟨some 5,none,.faddr 0 (.t 1)⟩,⟨some 6,none,.load false 1 (.t 5)⟩,⟨(some 7),none,(.bin .eql false (.t 6) (.c (.str ⟨#[61]⟩)))⟩]) (.cond (.t 7) (.seq (.dreg [[],[0],[1,0],[2,1,0],[3,2,1,0],[4,3,2,1,0],[],[6],[7,6],[8,7,6],[9,8,7,6,4,3,2,1,0],[5,4,3,2,1,0,10,9,8,7,6],[11,5,4,3,2,1,0,10,9,8,7,6]] [⟨some 8,none,.faddr 1 (.t 1)⟩,⟨some 9,none,.load false 1 (.t 8)⟩,⟨some 10,none,.iaddr 2 (.t 9) (.c (.int .i64 0))⟩,⟨some 11,none,.load true 2 (.t 10)⟩,⟨some 12,none,.call 52 [(.t 11)]⟩,⟨(some 13),none,(.bin .add false (.t 12) (.c (.str ⟨#[32,61,32]⟩)))⟩,⟨some 14,none,.faddr 1 (.t 1)⟩,⟨some 15,none,.load false 1 (.t 14)⟩,⟨some 16,none,.iaddr 2 (.t 15) (.c (.int .i64 1))⟩,⟨some 17,none,.load true 2 (.t 16)⟩,⟨some 18,none,.call 52 [(.t 17)]⟩,⟨some 19,none,.bin .add false (.t 13) (.t 18)⟩,⟨some 2,none,.mv (.t 19)⟩]) .ret) .skip)) (.seq (.reg [⟨some 20,none,.faddr 0 (.t 1)⟩,⟨some 21,none,.load false 1 (.t 20)⟩,⟨some 3,none,.mv (.t 21)⟩]) (.seq (.seq (.reg [⟨some 4,none,.mv (.c (.int .i64 0))⟩]) (.block 0 (.loop [0,1,0,1,1,0,0,0,0,0,0,0,0,0,0,0,0,0,0,0,0,0,0,0,0,0,0,0,0,0,0,0,0,0,0,0,0,0,0,0,0,0,0,0,0,0,0,0,0,0] (.seq (.seq (.reg [⟨some 22,none,.mv (.t 4)⟩,⟨some 23,none,.faddr 1 (.t 1)⟩,⟨some 24,none,.load false 1 (.t 23)⟩,⟨some 25,none,.len false (.t 24)⟩,⟨some 26,none,.bin .lss false (.t 22) (.t 25)⟩]) (.cond (.t 26) .skip (.exit 0))) (.seq (.block 1 (.seq (.seq (.reg [⟨some 29,none,.mv (.t 4)⟩,⟨some 30,none,.bin .eql false (.t 29) (.c (.int .i64 0))⟩]) (.cond (.t 30) (.reg [⟨some 31,none,.mv (.t 3)⟩,⟨(some 32),none,(.bin .add false (.t 31) (.c (.str ⟨#[40]⟩)))⟩,⟨some 3,none,.mv (.t 32)⟩]) (.reg [⟨some 33,none,.mv (.t 3)⟩,⟨(some 34),none,(.bin .add false (.t 33) (.c (.str ⟨#[44]⟩)))⟩,⟨some 3,none,.mv (.t 34)⟩]))) (.reg [⟨some 35,none,.mv (.t 3)⟩,⟨some 36,none,.faddr 1 (.t 1)⟩,⟨some 37,none,.load false 1 (.t 36)⟩,⟨some 38,none,.mv (.t 4)⟩,⟨some 39,none,.iaddr 2 (.t 37) (.t 38)⟩,⟨some 40,none,.load true 2 (.t 39)⟩,⟨some 41,none,.call 52 [(.t 40)]⟩,⟨some 42,none,.bin .add false (.t 35) (.t 41)⟩,⟨some 3,none,.mv (.t 42)⟩]))) (.reg [⟨some 27,none,.mv (.t 4)⟩,⟨some 28,none,.bin .add false (.t 27) (.c (.int .i64 1))⟩,⟨some 4,none,.mv (.t 28)⟩])))))) (.seq (.seq (.reg [⟨some 43,none,.faddr 1 (.t 1)⟩,⟨some 44,none,.load false 1 (.t 43)⟩,⟨some 45,none,.len false (.t 44)⟩,⟨some 46,none,.bin .gtr false (.t 45) (.c (.int .i64 0))⟩]) (.cond (.t 46) (.reg [⟨some 47,none,.mv (.t 3)⟩,⟨(some 48),none,(.bin .add false (.t 47) (.c (.str ⟨#[41]⟩)))⟩,⟨some 3,none,.mv (.t 48)⟩]) .skip)) (.seq (.reg [⟨some 49,none,.mv (.t 3)⟩,⟨some 2,none,.mv (.t 49)⟩]) .ret))))))
theorem Il:codeOf Try.prog 52=some ⟨50,FV,[(.tmp 2)]⟩:=by kernel_rfl
theorem Bm:modes 52=⟨[],.asis,none,false⟩:=by unfold modes; rfl
theorem Rm (x:Tm) (hx:x.names=true) (hn:x.nodes≤1048576) (ih:∀ y∈x.args,E 52 [y.sv] []=some (.str y.txt,[])):E 52 [x.sv] []=some (.str x.txt,[]):=by
 have hl:=Tm.length_le x.args
 have hne:=Tm.nodes_eq x
 have heq:(x.name=⟨#[61]⟩)=False:=eq_false fun e=>by
  have:=Tm.MR hx
  unfold Tm.eqn at this
  rw [A1 e] at this; cases this
 have hnm:x.name.size≤6:=by
  rw [Tm.Dq] at hx
  split at hx
  ·rename_i hv; exact CO hv
  ·rw [zI,zI] at hx; exact HI hx.1.1
 have s1:(⟨#[40]⟩:ByteArray).size=1:=rfl
 have s2:(⟨#[44]⟩:ByteArray).size=1:=rfl
 have s3:(⟨#[41]⟩:ByteArray).size=1:=rfl
 refine Aj Il Bm (of_decide_eq_true rfl) ?_
 simp (disch:=omega) only [FV,go_sem,Ab,heq]
 refine go_loop (α:=Int × (ByteArray)) (fun a=>⟨slots 50 0 [(1,.ptr 0 0),(3,.str (a.2)),(4,.int .i64 (a.1))],[.box 24 [.str x.name,.arr (x.args.map Tm.d)]]⟩) (fun a=>∃ k:Nat,a.1=k∧k≤(x.args).length∧(a.2).toList=OU x k∧(a.2).size+10*Tm.nodeS (x.args.drop k)≤100+10*x.nodes) (fun a=>(x.args).length-(a.1).toNat) (0,x.name) ⟨0,rfl,zT _,(by unfold OU; rw [if_pos rfl,yJ]),(by rw [zL]; dsimp only; omega)⟩ (by simp (disch:=omega) only [go_sem,Ab]) ?_
 rintro ⟨i,acc⟩ ⟨k,hi,hk,hR⟩
 dsimp only at hi hR
 have hni:i.toNat=k:=by omega
 have hni1:(i+1).toNat=k+1:=by omega
 rcases zO k (x.args).length with hlt | hge
 ·have hg:=get_at Tm.d hlt
  rw [Tm.d_eq] at hg
  have hc:=ih x.args[k] (zR hlt)
  have hst:=Rl hlt
  have hfl:=Tm.fmt_len x.args[k] (Tm.Ei hx (zR hlt))
  rw [←Tm.txt_size] at hfl
  obtain ⟨hR1,hR2⟩:=hR
  rw [zJ hlt,Tm.nodeS] at hR2
  have a1:(acc++(⟨#[40]⟩:ByteArray)).size=acc.size+1:=by rw [zA]; rfl
  have a2:(acc++(⟨#[44]⟩:ByteArray)).size=acc.size+1:=by rw [zA]; rfl
  have a3:(acc++(⟨#[40]⟩:ByteArray)++(x.args[k]).txt).size=acc.size+1+(x.args[k]).txt.size:=by rw [zA,a1]
  have a4:(acc++(⟨#[44]⟩:ByteArray)++(x.args[k]).txt).size=acc.size+1+(x.args[k]).txt.size:=by rw [zA,a2]
  have e40:(⟨#[40]⟩:ByteArray).toList=[40]:=Bi [40]
  have e44:(⟨#[44]⟩:ByteArray).toList=[44]:=Bi [44]
  by_cases h0:k=0
  ·have q0:(i=0)=True:=eq_true (by omega)
   rw [if_pos h0] at hst
   simp (disch:=omega) only [go_sem,Ab,hni,hg,hc,q0,s1,s2,a1,a2,a3,a4,Bm]
   refine ⟨(i+1,acc++⟨#[40]⟩++(x.args[k]).txt),⟨k+1,by dsimp only; omega,hlt,?_,by dsimp only; rw [a3]; omega⟩,by dsimp only; omega,by first | trivial | rfl | exact ⟨rfl,rfl⟩⟩
   show (acc++(⟨#[40]⟩:ByteArray)++(x.args[k]).txt).toList=_
   rw [AR,AR,hR1,e40,Tm.txt_toList,hst,zY]; rfl
  ·have q0:(i=0)=False:=eq_false (by omega)
   rw [if_neg h0] at hst
   simp (disch:=omega) only [go_sem,Ab,hni,hg,hc,q0,s1,s2,a1,a2,a3,a4,Bm]
   refine ⟨(i+1,acc++⟨#[44]⟩++(x.args[k]).txt),⟨k+1,by dsimp only; omega,hlt,?_,by dsimp only; rw [a4]; omega⟩,by dsimp only; omega,by first | trivial | rfl | exact ⟨rfl,rfl⟩⟩
   show (acc++(⟨#[44]⟩:ByteArray)++(x.args[k]).txt).toList=_
   rw [AR,AR,hR1,e44,Tm.txt_toList,hst,zY]; rfl
 ·obtain ⟨hR1,hR2⟩:=hR
  obtain rfl:k=x.args.length:=by omega
  have a5:(acc++(⟨#[41]⟩:ByteArray)).size=acc.size+1:=by rw [zA]; rfl
  have e41:(⟨#[41]⟩:ByteArray).toList=[41]:=Bi [41]
  rcases Nat.eq_zero_or_pos x.args.length with h0 | h0
  ·have q1:(0<(x.args.length:Int))=False:=eq_false (by omega)
   have hx0:acc=x.txt:=AU (by
    have hR1:acc.toList=_:=hR1
    rw [hR1,Tm.txt_toList,Tm.Hj]
    unfold OU
    rw [if_pos h0,if_pos h0])
   rw [←hx0]
   simp (disch:=omega) only [go_sem,Ab,hni,q1,s3,a5]
  ·have q1:(0<(x.args.length:Int))=True:=eq_true (by omega)
   have hx0:acc++⟨#[41]⟩=x.txt:=AU (by
    have hR1:acc.toList=_:=hR1
    rw [AR,hR1,e41,SR (by omega),Tm.txt_toList])
   rw [←hx0]
   simp (disch:=omega) only [go_sem,Ab,hni,q1,s3,a5]
theorem Jm (x:Tm) (hx:x.names=true) (hn:x.nodes≤1048576):E 52 [x.sv] []=some (.str x.txt,[]) :=
 Rm x hx hn fun y hy=>Jm y (Tm.Ei hx hy) (by have:=Tm.nodes_mem hy; have:=Tm.nodes_eq x; omega)
termination_by SizeOf.sizeOf x
decreasing_by exact Tm.lt_of_mem hy
theorem Rn (x:Tm) (hx:x.atom=true):E 52 [x.sv] []=some (.str x.txtA,[]):=by
 rcases Tm.G9 hx with ⟨h1,h2⟩ | ⟨a,b,rfl,h1,h2,h3,h4⟩
 ·have e:x.txtA=x.txt:=AU (by rw [Tm.Ch,Tm.txt_toList]; unfold Tm.fmtA; rw [h1]; rfl)
  rw [e]
  exact Jm x (CE h2) (by have:=BU h2; omega)
 ·obtain ⟨s1,s2⟩:=I6 h4
  have va:a.valid=true:=by unfold Tm.valid; rw [s1,h2]; rfl
  have vb:b.valid=true:=by unfold Tm.valid; rw [s2,h3]; rfl
  have f1:=Jm a h2 (by have:=BU va; omega)
  have f2:=Jm b h3 (by have:=BU vb; omega)
  have z1:=F9 va
  have z2:=F9 vb
  have hs1:(a.txt++(⟨#[32,61,32]⟩:ByteArray)).size=a.txt.size+3:=by rw [zA]; rfl
  have hs2:(⟨#[32,61,32]⟩:ByteArray).size=3:=rfl
  have ht:a.txt++⟨#[32,61,32]⟩++b.txt=(Tm.mk ⟨#[61]⟩ [a,b]).txtA:=by
   refine AU ?_
   rw [AR,AR,Tm.txt_toList,Tm.txt_toList,Tm.Ch,Hv]
   unfold Tm.fmtA
   rw [h1]; rfl
  have g0:([a,b].map Tm.d)[(0:Nat)]?=some [D.str a.name,D.arr (a.args.map Tm.d)]:=by rw [zD,Tm.d_eq]; rfl
  have g1:([a,b].map Tm.d)[(1:Nat)]?=some [D.str b.name,D.arr (b.args.map Tm.d)]:=by rw [zD,zD,Tm.d_eq b]; rfl
  have hsv:(Tm.mk ⟨#[61]⟩ [a,b]).sv=.agg [.str ⟨#[61]⟩,.arr ([a,b].map Tm.d)]:=rfl
  rw [hsv]
  obtain ⟨ds,hds⟩:∃ ds,ds=[a,b].map Tm.d:=⟨_,rfl⟩
  rw [←hds] at g0 g1 ⊢
  refine Aj Il Bm (of_decide_eq_true rfl) ?_
  simp (disch:=omega) only [FV,go_sem,Ab,g0,g1,f1,f2,hs1,hs2,ht,zE,zX,DE,Bm]
def B3:SC:=(.seq (.reg [⟨some 1,none,.boxv 27 5 (.t 0)⟩,⟨(some 2),none,(.mv (.c (.str ⟨#[]⟩)))⟩]) (.seq (.seq (.reg [⟨some 4,none,.faddr 0 (.t 1)⟩,⟨some 5,none,.load false 1 (.t 4)⟩]) (.block 0 (.seq (.reg [⟨some 7,none,.bin .eql false (.t 5) (.c (.int .i64 1))⟩,⟨some 6,none,.mv (.t 7)⟩]) (.cond (.t 6) (.seq (.reg [⟨(some 2),none,(.mv (.c (.str ⟨#[116,114,117,101]⟩)))⟩]) .ret) (.seq (.reg [⟨some 9,none,.bin .eql false (.t 5) (.c (.int .i64 2))⟩,⟨some 8,none,.mv (.t 9)⟩]) (.cond (.t 8) (.seq (.reg [⟨(some 2),none,(.mv (.c (.str ⟨#[102,97,108,115,101]⟩)))⟩]) .ret) (.seq (.reg [⟨some 11,none,.bin .eql false (.t 5) (.c (.int .i64 3))⟩,⟨some 10,none,.mv (.t 11)⟩]) (.cond (.t 10) (.seq (.reg [⟨some 12,none,.faddr 1 (.t 1)⟩,⟨some 13,none,.load true 2 (.t 12)⟩,⟨some 14,none,.call 52 [(.t 13)]⟩,⟨some 2,none,.mv (.t 14)⟩]) .ret) (.seq (.reg [⟨some 16,none,.bin .eql false (.t 5) (.c (.int .i64 4))⟩,⟨some 15,none,.mv (.t 16)⟩]) (.cond (.t 15) (.seq (.seq (.reg [⟨some 17,none,.faddr 4 (.t 1)⟩,⟨some 18,none,.load false 1 (.t 17)⟩,⟨some 19,none,.iaddr 5 (.t 18) (.c (.int .i64 0))⟩,⟨some 20,none,.faddr 0 (.t 19)⟩,⟨some 21,none,.load false 1 (.t 20)⟩,⟨some 22,none,.bin .eql false (.t 21) (.c (.int .i64 3))⟩,⟨some 23,none,.mv (.t 22)⟩,⟨(some 24),(some (23,true)),(.faddr 4 (.t 1))⟩,⟨(some 25),(some (23,true)),(.load false 1 (.t 24))⟩,⟨(some 26),(some (23,true)),(.iaddr 5 (.t 25) (.c (.int .i64 0)))⟩,⟨(some 27),(some (23,true)),(.faddr 1 (.t 26))⟩,⟨(some 28),(some (23,true)),(.faddr 0 (.t 27))⟩,⟨(some 29),(some (23,true)),(.load false 1 (.t 28))⟩,⟨(some 30),(some (23,true)),(.bin .eql false (.t 29) (.c (.str ⟨#[61]⟩)))⟩,⟨some 31,none,.pick (.t 23) (.t 30) (.c (.bool false))⟩]) (.cond (.t 31) (.seq (.reg [⟨some 32,none,.faddr 4 (.t 1)⟩,⟨some 33,none,.load false 1 (.t 32)⟩,⟨some 34,none,.iaddr 5 (.t 33) (.c (.int .i64 0))⟩,⟨some 35,none,.load true 5 (.t 34)⟩,⟨some 36,none,.call 21 [(.t 35)]⟩,⟨(some 37),none,(.bin .add false (.c (.str ⟨#[126,40]⟩)) (.t 36))⟩,⟨(some 38),none,(.bin .add false (.t 37) (.c (.str ⟨#[41]⟩)))⟩,⟨some 2,none,.mv (.t 38)⟩]) .ret) .skip)) (.seq (.reg [⟨some 39,none,.faddr 4 (.t 1)⟩,⟨some 40,none,.load false 1 (.t 39)⟩,⟨some 41,none,.iaddr 5 (.t 40) (.c (.int .i64 0))⟩,⟨some 42,none,.load true 5 (.t 41)⟩,⟨some 43,none,.call 21 [(.t 42)]⟩,⟨(some 44),none,(.bin .add false (.c (.str ⟨#[126]⟩)) (.t 43))⟩,⟨some 2,none,.mv (.t 44)⟩]) .ret)) (.seq (.reg [⟨some 46,none,.bin .eql false (.t 5) (.c (.int .i64 8))⟩,⟨some 45,none,.mv (.t 46)⟩]) (.cond (.t 45) (.seq (.dreg [[],[0],[1,0],[2,1,0],[],[4],[5,4],[6,5,4],[7,6,5,4],[3,2,1,0,8,7,6,5,4],[9,3,2,1,0,8,7,6,5,4]] [⟨some 47,none,.faddr 3 (.t 1)⟩,⟨some 48,none,.load false 1 (.t 47)⟩,⟨(some 49),none,(.bin .add false (.c (.str ⟨#[97,108,108,32]⟩)) (.t 48))⟩,⟨(some 50),none,(.bin .add false (.t 49) (.c (.str ⟨#[46]⟩)))⟩,⟨some 51,none,.faddr 4 (.t 1)⟩,⟨some 52,none,.load false 1 (.t 51)⟩,⟨some 53,none,.iaddr 5 (.t 52) (.c (.int .i64 0))⟩,⟨some 54,none,.load true 5 (.t 53)⟩,⟨some 55,none,.call 21 [(.t 54)]⟩,⟨some 56,none,.bin .add false (.t 50) (.t 55)⟩,⟨some 2,none,.mv (.t 56)⟩]) .ret) (.seq (.reg [⟨some 58,none,.bin .eql false (.t 5) (.c (.int .i64 9))⟩,⟨some 57,none,.mv (.t 58)⟩]) (.cond (.t 57) (.seq (.dreg [[],[0],[1,0],[2,1,0],[],[4],[5,4],[6,5,4],[7,6,5,4],[3,2,1,0,8,7,6,5,4],[9,3,2,1,0,8,7,6,5,4]] [⟨some 59,none,.faddr 3 (.t 1)⟩,⟨some 60,none,.load false 1 (.t 59)⟩,⟨(some 61),none,(.bin .add false (.c (.str ⟨#[115,111,109,101,32]⟩)) (.t 60))⟩,⟨(some 62),none,(.bin .add false (.t 61) (.c (.str ⟨#[46]⟩)))⟩,⟨some 63,none,.faddr 4 (.t 1)⟩,⟨some 64,none,.load false 1 (.t 63)⟩,⟨some 65,none,.iaddr 5 (.t 64) (.c (.int .i64 0))⟩,⟨some 66,none,.load true 5 (.t 65)⟩,⟨some 67,none,.call 21 [(.t 66)]⟩,⟨some 68,none,.bin .add false (.t 62) (.t 67)⟩,⟨some 2,none,.mv (.t 68)⟩]) .ret) .skip)))))))))))))) (.seq (.reg [⟨(some 3),none,(.mv (.c (.str ⟨#[32,38,32]⟩)))⟩]) (.seq (.seq (.reg [⟨some 69,none,.faddr 0 (.t 1)⟩,⟨some 70,none,.load false 1 (.t 69)⟩,⟨some 71,none,.bin .eql false (.t 70) (.c (.int .i64 6))⟩]) (.cond (.t 71) (.reg [⟨(some 3),none,(.mv (.c (.str ⟨#[32,124,32]⟩)))⟩]) .skip)) (.seq (.seq (.reg [⟨some 72,none,.faddr 0 (.t 1)⟩,⟨some 73,none,.load false 1 (.t 72)⟩,⟨some 74,none,.bin .eql false (.t 73) (.c (.int .i64 7))⟩]) (.cond (.t 74) (.reg [⟨(some 3),none,(.mv (.c (.str ⟨#[32,61,62,32]⟩)))⟩]) .skip)) (.seq (.dreg [[],[0],[1,0],[2,1,0],[3,2,1,0],[4,3,2,1,0],[],[5,4,3,2,1,0,6],[],[8],[9,8],[10,9,8],[11,10,9,8,4,3,2,1,0],[7,5,4,3,2,1,0,6,12,11,10,9,8],[13,7,5,4,3,2,1,0,6,12,11,10,9,8],[14,13,7,5,4,3,2,1,0,6,12,11,10,9,8]] [⟨some 75,none,.faddr 4 (.t 1)⟩,⟨some 76,none,.load false 1 (.t 75)⟩,⟨some 77,none,.iaddr 5 (.t 76) (.c (.int .i64 0))⟩,⟨some 78,none,.load true 5 (.t 77)⟩,⟨some 79,none,.call 21 [(.t 78)]⟩,⟨(some 80),none,(.bin .add false (.c (.str ⟨#[40]⟩)) (.t 79))⟩,⟨some 81,none,.mv (.t 3)⟩,⟨some 82,none,.bin .add false (.t 80) (.t 81)⟩,⟨some 83,none,.faddr 4 (.t 1)⟩,⟨some 84,none,.load false 1 (.t 83)⟩,⟨some 85,none,.iaddr 5 (.t 84) (.c (.int .i64 1))⟩,⟨some 86,none,.load true 5 (.t 85)⟩,⟨some 87,none,.call 21 [(.t 86)]⟩,⟨some 88,none,.bin .add false (.t 82) (.t 87)⟩,⟨(some 89),none,(.bin .add false (.t 88) (.c (.str ⟨#[41]⟩)))⟩,⟨some 2,none,.mv (.t 89)⟩]) .ret))))))
theorem B9:codeOf Try.prog 21=some ⟨90,B3,[(.tmp 2)]⟩:=by kernel_rfl
theorem A8:modes 21=⟨[],.asis,none,false⟩:=by unfold modes; rfl
theorem Ro (x:Fm) (hx:x.forms=true) (hn:x.nodes≤1000) (ih:∀ y∈x.parts,E 21 [y.sv] []=some (.str y.txt,[])):E 21 [x.sv] []=some (.str x.txt,[]):=by
 have hf:=Fm.AC hx
 have ln:∀ y∈x.parts,y.txt.size≤4010000:=fun y hy=>by
  have h1:=Fm.fmt_len y (Fm.Bk hx hy)
  have h2:=Fm.nodes_mem hy
  have h3:=Fm.nodes_eq x
  rw [Fm.txt_size]; omega
 rcases Fm.Fs hf with ho | ho | ho | ho | ho | ho | ho | ho | ho
 ·have e0:=Fm.Ca hf (.inl ho)
  rw [ho] at e0
  rw [e0,Uw]
  show E 21 [.agg [.int .i64 1,.str ⟨#[]⟩,.arr [],.str ⟨#[]⟩,.arr []]] []=_
  refine Aj B9 A8 (of_decide_eq_true rfl) ?_
  simp (disch:=omega) only [B3,go_sem,Ab]
 ·have e0:=Fm.Ca hf (.inr ho)
  rw [ho] at e0
  rw [e0,Ux]
  show E 21 [.agg [.int .i64 2,.str ⟨#[]⟩,.arr [],.str ⟨#[]⟩,.arr []]] []=_
  refine Aj B9 A8 (of_decide_eq_true rfl) ?_
  simp (disch:=omega) only [B3,go_sem,Ab]
 ·obtain ⟨_,hat,_⟩:=Fm.Dc hf ho
  have e0:x.txt=x.atom.txtA:=by
   obtain ⟨op,a,v,ps⟩:=x
   have ho:op=3:=ho
   subst ho
   exact Uv a v ps
  have hc:=Rn x.atom hat
  rw [e0]
  have q1:(x.op=1)=False:=eq_false (by omega)
  have q2:(x.op=2)=False:=eq_false (by omega)
  have q3:(x.op=3)=True:=eq_true ho
  refine Aj B9 A8 (of_decide_eq_true rfl) ?_
  simp (disch:=omega) only [B3,go_sem,Ab,q1,q2,q3,hc,Bm,A8]
 ·obtain ⟨p,e0⟩:=Fm.E3 hf ho
  have hp:p∈x.parts:=by rw [e0]; simp [Fm.parts]
  have hpf:=Fm.AC (Fm.Bk hx hp)
  have c0:=ih p hp
  have lp:=ln p hp
  have g0:([p].map Fm.d)[(0:Nat)]?=some [D.int p.op,D.str p.atom.name,D.arr (p.atom.args.map Tm.d),D.str p.var,D.arr (p.parts.map Fm.d)]:=by simp only [zD,zF,zB,zC]; rw [Fm.d_eq]
  have s1:((⟨#[126,40]⟩:ByteArray)++p.txt).size=2+p.txt.size:=by rw [zA]; rfl
  have s2:(⟨#[126,40]⟩:ByteArray).size=2:=rfl
  have s3:(⟨#[126]⟩:ByteArray).size=1:=rfl
  have s4:(⟨#[41]⟩:ByteArray).size=1:=rfl
  cases hq:p.atom.eqn with
  | true =>
   have hn1:p.atom.name=⟨#[61]⟩:=by unfold Tm.eqn at hq; exact At.1 hq
   have ho3:p.op=3:=by
    rcases Classical.em (p.op=3) with h | h
    ·exact h
    ·rw [Fm.D9 hpf h] at hn1
     exact absurd hn1 (by simp [Tm.name])
   have q1:(p.atom.name=⟨#[61]⟩)=True:=eq_true hn1
   have q2:(p.op=3)=True:=eq_true ho3
   have ht:=SP Tm.zero ⟨#[]⟩ p hq
   rw [e0]
   show E 21 [.agg [.int .i64 4,.str ⟨#[]⟩,.arr [],.str ⟨#[]⟩,.arr ([p].map Fm.d)]] []=_
   obtain ⟨ds,hds⟩:∃ ds,ds=[p].map Fm.d:=⟨_,rfl⟩
   rw [←hds] at g0 ⊢
   refine Aj B9 A8 (of_decide_eq_true rfl) ?_
   simp (disch:=omega) only [B3,go_sem,Ab,g0,c0,q1,q2,s1,s2,s3,s4,ht,zE,Bm,A8]
  | false =>
   have q1:(p.atom.name=⟨#[61]⟩)=False:=eq_false fun h=>by unfold Tm.eqn at hq; rw [A1 h] at hq; cases hq
   have ht:=Us Tm.zero ⟨#[]⟩ p hq
   rw [e0]
   show E 21 [.agg [.int .i64 4,.str ⟨#[]⟩,.arr [],.str ⟨#[]⟩,.arr ([p].map Fm.d)]] []=_
   obtain ⟨ds,hds⟩:∃ ds,ds=[p].map Fm.d:=⟨_,rfl⟩
   rw [←hds] at g0 ⊢
   rcases Classical.em (p.op=3) with h | h
   ·have q2:(p.op=3)=True:=eq_true h
    refine Aj B9 A8 (of_decide_eq_true rfl) ?_
    simp (disch:=omega) only [B3,go_sem,Ab,g0,c0,q1,q2,s1,s2,s3,s4,ht,zE,Bm,A8]
   ·have q2:(p.op=3)=False:=eq_false h
    refine Aj B9 A8 (of_decide_eq_true rfl) ?_
    simp (disch:=omega) only [B3,go_sem,Ab,g0,c0,q1,q2,s1,s2,s3,s4,ht,zE,Bm,A8]
 ·obtain ⟨p,q,e0⟩:=Fm.CL hf (by omega)
  rw [ho] at e0
  have hp:p∈x.parts:=by rw [e0]; simp [Fm.parts]
  have hq:q∈x.parts:=by rw [e0]; simp [Fm.parts]
  have c0:=ih p hp
  have c1:=ih q hq
  have lp:=ln p hp
  have lq:=ln q hq
  have ht:=Nk (op:=5) (by omega) Tm.zero ⟨#[]⟩ p q
  have z0:=DO (op:=5) (by omega)
  have hsb:=Up
  rw [hsb] at ht z0
  have g0:([p,q].map Fm.d)[(0:Nat)]?=some [D.int p.op,D.str p.atom.name,D.arr (p.atom.args.map Tm.d),D.str p.var,D.arr (p.parts.map Fm.d)]:=by simp only [zD,zF,zB,zC]; rw [Fm.d_eq]
  have g1:([p,q].map Fm.d)[(1:Nat)]?=some [D.int q.op,D.str q.atom.name,D.arr (q.atom.args.map Tm.d),D.str q.var,D.arr (q.parts.map Fm.d)]:=by simp only [zD,zF,zB,zC]; rw [Fm.d_eq]
  rw [e0]
  show E 21 [.agg [.int .i64 5,.str ⟨#[]⟩,.arr [],.str ⟨#[]⟩,.arr ([p,q].map Fm.d)]] []=_
  obtain ⟨ds,hds⟩:∃ ds,ds=[p,q].map Fm.d:=⟨_,rfl⟩
  rw [←hds] at g0 g1 ⊢
  have s1:((⟨#[40]⟩:ByteArray)++p.txt).size=1+p.txt.size:=by rw [zA]; rfl
  have s2:((⟨#[40]⟩:ByteArray)++p.txt++⟨#[32,38,32]⟩).size=1+p.txt.size+3:=by rw [zA,s1]; rfl
  have s3:((⟨#[40]⟩:ByteArray)++p.txt++⟨#[32,38,32]⟩++q.txt).size=1+p.txt.size+3+q.txt.size:=by rw [zA,s2]
  have s4:(⟨#[40]⟩:ByteArray).size=1:=rfl
  have s5:(⟨#[41]⟩:ByteArray).size=1:=rfl
  have s6:(⟨#[32,38,32]⟩:ByteArray).size=3:=rfl
  refine Aj B9 A8 (of_decide_eq_true rfl) ?_
  simp (disch:=omega) only [B3,go_sem,Ab,g0,g1,c0,c1,s1,s2,s3,s4,s5,s6,ht,zE,zX,Bm,A8]
 ·obtain ⟨p,q,e0⟩:=Fm.CL hf (by omega)
  rw [ho] at e0
  have hp:p∈x.parts:=by rw [e0]; simp [Fm.parts]
  have hq:q∈x.parts:=by rw [e0]; simp [Fm.parts]
  have c0:=ih p hp
  have c1:=ih q hq
  have lp:=ln p hp
  have lq:=ln q hq
  have ht:=Nk (op:=6) (by omega) Tm.zero ⟨#[]⟩ p q
  have z0:=DO (op:=6) (by omega)
  have hsb:=Uq
  rw [hsb] at ht z0
  have g0:([p,q].map Fm.d)[(0:Nat)]?=some [D.int p.op,D.str p.atom.name,D.arr (p.atom.args.map Tm.d),D.str p.var,D.arr (p.parts.map Fm.d)]:=by simp only [zD,zF,zB,zC]; rw [Fm.d_eq]
  have g1:([p,q].map Fm.d)[(1:Nat)]?=some [D.int q.op,D.str q.atom.name,D.arr (q.atom.args.map Tm.d),D.str q.var,D.arr (q.parts.map Fm.d)]:=by simp only [zD,zF,zB,zC]; rw [Fm.d_eq]
  rw [e0]
  show E 21 [.agg [.int .i64 6,.str ⟨#[]⟩,.arr [],.str ⟨#[]⟩,.arr ([p,q].map Fm.d)]] []=_
  obtain ⟨ds,hds⟩:∃ ds,ds=[p,q].map Fm.d:=⟨_,rfl⟩
  rw [←hds] at g0 g1 ⊢
  have s1:((⟨#[40]⟩:ByteArray)++p.txt).size=1+p.txt.size:=by rw [zA]; rfl
  have s2:((⟨#[40]⟩:ByteArray)++p.txt++⟨#[32,124,32]⟩).size=1+p.txt.size+3:=by rw [zA,s1]; rfl
  have s3:((⟨#[40]⟩:ByteArray)++p.txt++⟨#[32,124,32]⟩++q.txt).size=1+p.txt.size+3+q.txt.size:=by rw [zA,s2]
  have s4:(⟨#[40]⟩:ByteArray).size=1:=rfl
  have s5:(⟨#[41]⟩:ByteArray).size=1:=rfl
  have s6:(⟨#[32,124,32]⟩:ByteArray).size=3:=rfl
  refine Aj B9 A8 (of_decide_eq_true rfl) ?_
  simp (disch:=omega) only [B3,go_sem,Ab,g0,g1,c0,c1,s1,s2,s3,s4,s5,s6,ht,zE,zX,Bm,A8]
 ·obtain ⟨p,q,e0⟩:=Fm.CL hf (by omega)
  rw [ho] at e0
  have hp:p∈x.parts:=by rw [e0]; simp [Fm.parts]
  have hq:q∈x.parts:=by rw [e0]; simp [Fm.parts]
  have c0:=ih p hp
  have c1:=ih q hq
  have lp:=ln p hp
  have lq:=ln q hq
  have ht:=Nk (op:=7) (by omega) Tm.zero ⟨#[]⟩ p q
  have z0:=DO (op:=7) (by omega)
  have hsb:=Ur
  rw [hsb] at ht z0
  have g0:([p,q].map Fm.d)[(0:Nat)]?=some [D.int p.op,D.str p.atom.name,D.arr (p.atom.args.map Tm.d),D.str p.var,D.arr (p.parts.map Fm.d)]:=by simp only [zD,zF,zB,zC]; rw [Fm.d_eq]
  have g1:([p,q].map Fm.d)[(1:Nat)]?=some [D.int q.op,D.str q.atom.name,D.arr (q.atom.args.map Tm.d),D.str q.var,D.arr (q.parts.map Fm.d)]:=by simp only [zD,zF,zB,zC]; rw [Fm.d_eq]
  rw [e0]
  show E 21 [.agg [.int .i64 7,.str ⟨#[]⟩,.arr [],.str ⟨#[]⟩,.arr ([p,q].map Fm.d)]] []=_
  obtain ⟨ds,hds⟩:∃ ds,ds=[p,q].map Fm.d:=⟨_,rfl⟩
  rw [←hds] at g0 g1 ⊢
  have s1:((⟨#[40]⟩:ByteArray)++p.txt).size=1+p.txt.size:=by rw [zA]; rfl
  have s2:((⟨#[40]⟩:ByteArray)++p.txt++⟨#[32,61,62,32]⟩).size=1+p.txt.size+4:=by rw [zA,s1]; rfl
  have s3:((⟨#[40]⟩:ByteArray)++p.txt++⟨#[32,61,62,32]⟩++q.txt).size=1+p.txt.size+4+q.txt.size:=by rw [zA,s2]
  have s4:(⟨#[40]⟩:ByteArray).size=1:=rfl
  have s5:(⟨#[41]⟩:ByteArray).size=1:=rfl
  have s6:(⟨#[32,61,62,32]⟩:ByteArray).size=4:=rfl
  refine Aj B9 A8 (of_decide_eq_true rfl) ?_
  simp (disch:=omega) only [B3,go_sem,Ab,g0,g1,c0,c1,s1,s2,s3,s4,s5,s6,ht,zE,zX,Bm,A8]
 ·obtain ⟨p,e0⟩:=Fm.DM hf (by omega)
  rw [ho] at e0
  have hp:p∈x.parts:=by rw [e0]; simp [Fm.parts]
  have hv:=CO (Fm.BM hf (by unfold qB; rw [ho]; first | rw [A1 rfl]; rfl | rw [A1 (p:=(9:Int)=9) rfl,zS])).1
  have c0:=ih p hp
  have lp:=ln p hp
  have ht:=Ut Tm.zero x.var p
  have g0:([p].map Fm.d)[(0:Nat)]?=some [D.int p.op,D.str p.atom.name,D.arr (p.atom.args.map Tm.d),D.str p.var,D.arr (p.parts.map Fm.d)]:=by simp only [zD,zF,zB,zC]; rw [Fm.d_eq]
  obtain ⟨v,hvv⟩:∃ v,v=x.var:=⟨_,rfl⟩
  rw [←hvv] at ht hv e0
  rw [e0]
  show E 21 [.agg [.int .i64 8,.str ⟨#[]⟩,.arr [],.str v,.arr ([p].map Fm.d)]] []=_
  obtain ⟨ds,hds⟩:∃ ds,ds=[p].map Fm.d:=⟨_,rfl⟩
  rw [←hds] at g0 ⊢
  have s1:((⟨#[97,108,108,32]⟩:ByteArray)++v).size=4+v.size:=by rw [zA]; rfl
  have s2:((⟨#[97,108,108,32]⟩:ByteArray)++v++⟨#[46]⟩).size=4+v.size+1:=by rw [zA,s1]; rfl
  have s3:(⟨#[97,108,108,32]⟩:ByteArray).size=4:=rfl
  have s4:(⟨#[46]⟩:ByteArray).size=1:=rfl
  refine Aj B9 A8 (of_decide_eq_true rfl) ?_
  simp (disch:=omega) only [B3,go_sem,Ab,g0,c0,s1,s2,s3,s4,ht,zE,Bm,A8]
 ·obtain ⟨p,e0⟩:=Fm.DM hf (by omega)
  rw [ho] at e0
  have hp:p∈x.parts:=by rw [e0]; simp [Fm.parts]
  have hv:=CO (Fm.BM hf (by unfold qB; rw [ho]; first | rw [A1 rfl]; rfl | rw [A1 (p:=(9:Int)=9) rfl,zS])).1
  have c0:=ih p hp
  have lp:=ln p hp
  have ht:=Uu Tm.zero x.var p
  have g0:([p].map Fm.d)[(0:Nat)]?=some [D.int p.op,D.str p.atom.name,D.arr (p.atom.args.map Tm.d),D.str p.var,D.arr (p.parts.map Fm.d)]:=by simp only [zD,zF,zB,zC]; rw [Fm.d_eq]
  obtain ⟨v,hvv⟩:∃ v,v=x.var:=⟨_,rfl⟩
  rw [←hvv] at ht hv e0
  rw [e0]
  show E 21 [.agg [.int .i64 9,.str ⟨#[]⟩,.arr [],.str v,.arr ([p].map Fm.d)]] []=_
  obtain ⟨ds,hds⟩:∃ ds,ds=[p].map Fm.d:=⟨_,rfl⟩
  rw [←hds] at g0 ⊢
  have s1:((⟨#[115,111,109,101,32]⟩:ByteArray)++v).size=5+v.size:=by rw [zA]; rfl
  have s2:((⟨#[115,111,109,101,32]⟩:ByteArray)++v++⟨#[46]⟩).size=5+v.size+1:=by rw [zA,s1]; rfl
  have s3:(⟨#[115,111,109,101,32]⟩:ByteArray).size=5:=rfl
  have s4:(⟨#[46]⟩:ByteArray).size=1:=rfl
  refine Aj B9 A8 (of_decide_eq_true rfl) ?_
  simp (disch:=omega) only [B3,go_sem,Ab,g0,c0,s1,s2,s3,s4,ht,zE,Bm,A8]
theorem OV (x:Fm) (hx:x.forms=true) (hn:x.nodes≤1000):E 21 [x.sv] []=some (.str x.txt,[]) :=
 Ro x hx hn fun y hy=>OV y (Fm.Bk hx hy) (by have:=Fm.nodes_mem hy; have:=Fm.nodes_eq x; omega)
termination_by SizeOf.sizeOf x
decreasing_by exact Fm.lt_of_mem hy
def D2:SC:=(.seq (.reg [⟨some 6,none,.mv (.c (.bool false))⟩]) (.seq (.reg [⟨some 7,none,.mv (.t 1)⟩,⟨some 8,none,.mv (.t 2)⟩,⟨some 9,none,.len true (.t 8)⟩,⟨some 10,none,.bin .add false (.t 7) (.t 9)⟩,⟨some 11,none,.mv (.t 0)⟩,⟨some 12,none,.len true (.t 11)⟩,⟨some 13,none,.bin .leq false (.t 10) (.t 12)⟩,⟨some 14,none,.mv (.t 13)⟩,⟨(some 15),(some (14,true)),(.mv (.t 0))⟩,⟨(some 16),(some (14,true)),(.mv (.t 1))⟩,⟨(some 17),(some (14,true)),(.mv (.t 1))⟩,⟨(some 18),(some (14,true)),(.mv (.t 2))⟩,⟨(some 19),(some (14,true)),(.len true (.t 18))⟩,⟨(some 20),(some (14,true)),(.bin .add false (.t 17) (.t 19))⟩,⟨(some 21),(some (14,true)),(.slice true 0 (.t 15) (some (.t 16)) (some (.t 20)))⟩,⟨(some 22),(some (14,true)),(.mv (.t 2))⟩,⟨(some 23),(some (14,true)),(.bin .eql false (.t 21) (.t 22))⟩,⟨some 24,none,.pick (.t 14) (.t 23) (.c (.bool false))⟩,⟨some 6,none,.mv (.t 24)⟩]) .ret))
theorem E6:codeOf Try.prog 46=some ⟨25,D2,[(.tmp 6)]⟩:=by kernel_rfl
theorem Ar:modes 46=⟨[],.frz,none,false⟩:=by unfold modes; rfl
def Cc:SC:=(.seq (.reg [⟨(some 4),none,(.alloc 27 [(.int .i64 0),(.str ⟨#[]⟩),.nil,(.str ⟨#[]⟩),.nil])⟩,⟨some 5,none,.mv (.c (.int .i64 0))⟩]) (.seq (.reg [⟨some 11,none,.mv (.t 0)⟩,⟨some 12,none,.mv (.t 1)⟩,⟨some 13,none,.call 85 [(.t 11),(.t 12)]⟩,⟨some 10,none,.mv (.t 13)⟩,⟨some 14,none,.ext (.t 10) 0⟩,⟨some 15,none,.ext (.t 10) 1⟩,⟨(some 6),none,(.alloc 24 [(.str ⟨#[]⟩),.nil])⟩,⟨none,none,(.store 2 (.t 6) (.t 14))⟩,⟨some 7,none,.mv (.t 15)⟩]) (.seq (.seq (.reg [⟨some 16,none,.mv (.t 7)⟩,⟨some 17,none,.bin .lss false (.t 16) (.c (.int .i64 0))⟩]) (.cond (.t 17) (.seq (.reg [⟨(some 18),none,(.build [(.int .i64 0),(.str ⟨#[]⟩),.nil,(.str ⟨#[]⟩),.nil] [])⟩,⟨none,none,(.store 5 (.t 4) (.t 18))⟩,⟨some 5,none,.mv (.c (.int .i64 (-(0+1))))⟩]) .ret) .skip)) (.seq (.seq (.reg [⟨some 19,none,.mv (.t 0)⟩,⟨some 20,none,.mv (.t 7)⟩,⟨(some 21),none,(.call 46 [(.t 19),(.t 20),(.c (.str ⟨#[32,61,32]⟩))])⟩]) (.cond (.t 21) (.seq (.reg [⟨some 23,none,.mv (.t 0)⟩,⟨some 24,none,.mv (.t 7)⟩,⟨some 25,none,.bin .add false (.t 24) (.c (.int .i64 3))⟩,⟨some 26,none,.call 85 [(.t 23),(.t 25)]⟩,⟨some 22,none,.mv (.t 26)⟩,⟨some 27,none,.ext (.t 22) 0⟩,⟨some 28,none,.ext (.t 22) 1⟩,⟨(some 8),none,(.alloc 24 [(.str ⟨#[]⟩),.nil])⟩,⟨none,none,(.store 2 (.t 8) (.t 27))⟩,⟨some 9,none,.mv (.t 28)⟩]) (.seq (.reg [⟨some 29,none,.load true 2 (.t 6)⟩,⟨some 30,none,.load true 2 (.t 8)⟩,⟨(some 31),none,(.mkrow 24 2 [(.str ⟨#[]⟩),.nil] 2 [(0,(.t 29)),(1,(.t 30))])⟩,⟨(some 32),none,(.build [(.str ⟨#[]⟩),.nil] [(0,(1,(.c (.str ⟨#[61]⟩)))),(1,(1,(.t 31)))])⟩,⟨(some 33),none,(.build [(.int .i64 0),(.str ⟨#[]⟩),.nil,(.str ⟨#[]⟩),.nil] [(0,(1,(.c (.int .i64 3)))),(1,(2,(.t 32)))])⟩,⟨some 34,none,.mv (.t 9)⟩,⟨none,none,(.store 5 (.t 4) (.t 33))⟩,⟨some 5,none,.mv (.t 34)⟩]) .ret)) .skip)) (.seq (.seq (.reg [⟨some 35,none,.faddr 1 (.t 6)⟩,⟨some 36,none,.load false 1 (.t 35)⟩,⟨some 37,none,.len false (.t 36)⟩,⟨some 38,none,.bin .eql false (.t 37) (.c (.int .i64 0))⟩,⟨some 39,none,.mv (.t 38)⟩,⟨(some 40),(some (39,true)),(.faddr 0 (.t 6))⟩,⟨(some 41),(some (39,true)),(.load false 1 (.t 40))⟩,⟨(some 42),(some (39,true)),(.bin .eql false (.t 41) (.c (.str ⟨#[116,114,117,101]⟩)))⟩,⟨(some 43),(some (39,true)),(.mv (.t 42))⟩,⟨(some 44),(some (43,false)),(.faddr 0 (.t 6))⟩,⟨(some 45),(some (43,false)),(.load false 1 (.t 44))⟩,⟨(some 46),(some (43,false)),(.bin .eql false (.t 45) (.c (.str ⟨#[102,97,108,115,101]⟩)))⟩,⟨(some 47),(some (39,true)),(.pick (.t 43) (.c (.bool true)) (.t 46))⟩,⟨some 48,none,.pick (.t 39) (.t 47) (.c (.bool false))⟩]) (.cond (.t 48) (.seq (.seq (.reg [⟨some 49,none,.faddr 0 (.t 6)⟩,⟨some 50,none,.load false 1 (.t 49)⟩,⟨(some 51),none,(.bin .eql false (.t 50) (.c (.str ⟨#[116,114,117,101]⟩)))⟩]) (.cond (.t 51) (.seq (.reg [⟨(some 52),none,(.build [(.int .i64 0),(.str ⟨#[]⟩),.nil,(.str ⟨#[]⟩),.nil] [(0,(1,(.c (.int .i64 1))))])⟩,⟨some 53,none,.mv (.t 7)⟩,⟨none,none,(.store 5 (.t 4) (.t 52))⟩,⟨some 5,none,.mv (.t 53)⟩]) .ret) .skip)) (.seq (.reg [⟨(some 54),none,(.build [(.int .i64 0),(.str ⟨#[]⟩),.nil,(.str ⟨#[]⟩),.nil] [(0,(1,(.c (.int .i64 2))))])⟩,⟨some 55,none,.mv (.t 7)⟩,⟨none,none,(.store 5 (.t 4) (.t 54))⟩,⟨some 5,none,.mv (.t 55)⟩]) .ret)) .skip)) (.seq (.reg [⟨some 56,none,.load true 2 (.t 6)⟩,⟨(some 57),none,(.build [(.int .i64 0),(.str ⟨#[]⟩),.nil,(.str ⟨#[]⟩),.nil] [(0,(1,(.c (.int .i64 3)))),(1,(2,(.t 56)))])⟩,⟨some 58,none,.mv (.t 7)⟩,⟨none,none,(.store 5 (.t 4) (.t 57))⟩,⟨some 5,none,.mv (.t 58)⟩]) .ret))))))
theorem Ct:codeOf Try.prog 48=some ⟨59,Cc,[(.cell 4 true 5),(.tmp 5)]⟩:=by kernel_rfl
theorem AM:modes 48=⟨[],.frz,none,false⟩:=by unfold modes; rfl
def ED:SC:=(.seq (.reg [⟨(some 6),none,(.alloc 27 [(.int .i64 0),(.str ⟨#[]⟩),.nil,(.str ⟨#[]⟩),.nil])⟩,⟨some 7,none,.mv (.c (.int .i64 0))⟩]) (.seq (.reg [⟨some 11,none,.mv (.t 1)⟩,⟨some 8,none,.mv (.t 11)⟩]) (.seq (.block 0 (.loop [1,1,1,0,0,0,1,0,1,0,0,0,0,0,0,0,0,0,0,0,0,0,0,0,0,0,0,0,0,0,0,0,0,0,0,0,0,0,0,0,0,0,0,0,0,0,0,0,0,0,0] (.seq (.seq (.reg [⟨some 12,none,.mv (.t 8)⟩,⟨some 13,none,.mv (.t 0)⟩,⟨some 14,none,.len true (.t 13)⟩,⟨some 15,none,.bin .lss false (.t 12) (.t 14)⟩,⟨some 16,none,.mv (.t 15)⟩,⟨(some 17),(some (16,true)),(.mv (.t 0))⟩,⟨(some 18),(some (16,true)),(.mv (.t 8))⟩,⟨(some 19),(some (16,true)),(.idx (.t 17) (.t 18))⟩,⟨(some 20),(some (16,true)),(.call 84 [(.t 19)])⟩,⟨some 21,none,.pick (.t 16) (.t 20) (.c (.bool false))⟩]) (.cond (.t 21) .skip (.exit 0))) (.block 1 (.reg [⟨some 22,none,.mv (.t 8)⟩,⟨some 23,none,.bin .add false (.t 22) (.c (.int .i64 1))⟩,⟨some 8,none,.mv (.t 23)⟩]))))) (.seq (.seq (.reg [⟨some 24,none,.mv (.t 8)⟩,⟨some 25,none,.mv (.t 0)⟩,⟨some 26,none,.len true (.t 25)⟩,⟨some 27,none,.bin .eql false (.t 24) (.t 26)⟩,⟨some 28,none,.mv (.t 27)⟩,⟨(some 29),(some (28,false)),(.mv (.t 0))⟩,⟨(some 30),(some (28,false)),(.mv (.t 8))⟩,⟨(some 31),(some (28,false)),(.idx (.t 29) (.t 30))⟩,⟨(some 32),(some (28,false)),(.bin .neq false (.t 31) (.c (.int .u8 46)))⟩,⟨some 33,none,.pick (.t 28) (.c (.bool true)) (.t 32)⟩]) (.cond (.t 33) (.seq (.reg [⟨(some 34),none,(.build [(.int .i64 0),(.str ⟨#[]⟩),.nil,(.str ⟨#[]⟩),.nil] [])⟩,⟨none,none,(.store 5 (.t 6) (.t 34))⟩,⟨some 7,none,.mv (.c (.int .i64 (-(0+1))))⟩]) .ret) .skip)) (.seq (.reg [⟨some 36,none,.mv (.t 0)⟩,⟨some 37,none,.mv (.t 8)⟩,⟨some 38,none,.bin .add false (.t 37) (.c (.int .i64 1))⟩,⟨some 39,none,.call 19 [(.t 36),(.t 38)]⟩,⟨some 35,none,.mv (.t 39)⟩,⟨some 40,none,.ext (.t 35) 0⟩,⟨some 41,none,.ext (.t 35) 1⟩,⟨(some 9),none,(.alloc 27 [(.int .i64 0),(.str ⟨#[]⟩),.nil,(.str ⟨#[]⟩),.nil])⟩,⟨none,none,(.store 5 (.t 9) (.t 40))⟩,⟨some 10,none,.mv (.t 41)⟩]) (.seq (.dreg [[],[],[],[],[1,2,3],[],[5],[0,4,1,2,3,6,5],[],[7,0,4,1,2,3,6,5],[8,9,7,0,4,1,2,3,6,5]] [⟨some 42,none,.mv (.t 2)⟩,⟨some 43,none,.mv (.t 0)⟩,⟨some 44,none,.mv (.t 1)⟩,⟨some 45,none,.mv (.t 8)⟩,⟨some 46,none,.slice true 0 (.t 43) (some (.t 44)) (some (.t 45))⟩,⟨some 47,none,.load true 5 (.t 9)⟩,⟨(some 48),none,(.mkrow 27 5 [(.int .i64 0),(.str ⟨#[]⟩),.nil,(.str ⟨#[]⟩),.nil] 1 [(0,(.t 47))])⟩,⟨(some 49),none,(.build [(.int .i64 0),(.str ⟨#[]⟩),.nil,(.str ⟨#[]⟩),.nil] [(0,(1,(.t 42))),(3,(1,(.t 46))),(4,(1,(.t 48)))])⟩,⟨some 50,none,.mv (.t 10)⟩,⟨none,none,(.store 5 (.t 6) (.t 49))⟩,⟨some 7,none,.mv (.t 50)⟩]) .ret))))))
theorem HM:codeOf Try.prog 47=some ⟨51,ED,[(.cell 6 true 5),(.tmp 7)]⟩:=by kernel_rfl
theorem AT:modes 47=⟨[],.frz,none,false⟩:=by unfold modes; rfl
def Bh:SC:=(.seq (.reg [⟨(some 4),none,(.alloc 27 [(.int .i64 0),(.str ⟨#[]⟩),.nil,(.str ⟨#[]⟩),.nil])⟩,⟨some 5,none,.mv (.c (.int .i64 0))⟩]) (.seq (.reg [⟨some 13,none,.mv (.t 0)⟩,⟨some 14,none,.mv (.t 1)⟩,⟨some 15,none,.bin .add false (.t 14) (.c (.int .i64 1))⟩,⟨some 16,none,.call 19 [(.t 13),(.t 15)]⟩,⟨some 12,none,.mv (.t 16)⟩,⟨some 17,none,.ext (.t 12) 0⟩,⟨some 18,none,.ext (.t 12) 1⟩,⟨(some 6),none,(.alloc 27 [(.int .i64 0),(.str ⟨#[]⟩),.nil,(.str ⟨#[]⟩),.nil])⟩,⟨none,none,(.store 5 (.t 6) (.t 17))⟩,⟨some 7,none,.mv (.t 18)⟩]) (.seq (.seq (.reg [⟨some 19,none,.mv (.t 7)⟩,⟨some 20,none,.bin .lss false (.t 19) (.c (.int .i64 0))⟩]) (.cond (.t 20) (.seq (.reg [⟨(some 21),none,(.build [(.int .i64 0),(.str ⟨#[]⟩),.nil,(.str ⟨#[]⟩),.nil] [])⟩,⟨none,none,(.store 5 (.t 4) (.t 21))⟩,⟨some 5,none,.mv (.c (.int .i64 (-(0+1))))⟩]) .ret) .skip)) (.seq (.reg [⟨some 8,none,.mv (.c (.int .i64 0))⟩,⟨some 9,none,.mv (.c (.int .i64 3))⟩]) (.seq (.block 0 (.seq (.reg [⟨some 24,none,.mv (.t 0)⟩,⟨some 25,none,.mv (.t 7)⟩,⟨(some 26),none,(.call 46 [(.t 24),(.t 25),(.c (.str ⟨#[32,38,32]⟩))])⟩,⟨some 23,none,.mv (.t 26)⟩]) (.cond (.t 23) (.reg [⟨some 8,none,.mv (.c (.int .i64 5))⟩]) (.seq (.reg [⟨some 28,none,.mv (.t 0)⟩,⟨some 29,none,.mv (.t 7)⟩,⟨(some 30),none,(.call 46 [(.t 28),(.t 29),(.c (.str ⟨#[32,124,32]⟩))])⟩,⟨some 27,none,.mv (.t 30)⟩]) (.cond (.t 27) (.reg [⟨some 8,none,.mv (.c (.int .i64 6))⟩]) (.seq (.reg [⟨some 32,none,.mv (.t 0)⟩,⟨some 33,none,.mv (.t 7)⟩,⟨(some 34),none,(.call 46 [(.t 32),(.t 33),(.c (.str ⟨#[32,61,62,32]⟩))])⟩,⟨some 31,none,.mv (.t 34)⟩]) (.cond (.t 31) (.seq (.reg [⟨some 8,none,.mv (.c (.int .i64 7))⟩]) (.reg [⟨some 9,none,.mv (.c (.int .i64 4))⟩])) (.seq (.reg [⟨(some 22),none,(.build [(.int .i64 0),(.str ⟨#[]⟩),.nil,(.str ⟨#[]⟩),.nil] [])⟩,⟨none,none,(.store 5 (.t 4) (.t 22))⟩,⟨some 5,none,.mv (.c (.int .i64 (-(0+1))))⟩]) .ret)))))))) (.seq (.reg [⟨some 36,none,.mv (.t 0)⟩,⟨some 37,none,.mv (.t 7)⟩,⟨some 38,none,.mv (.t 9)⟩,⟨some 39,none,.bin .add false (.t 37) (.t 38)⟩,⟨some 40,none,.call 19 [(.t 36),(.t 39)]⟩,⟨some 35,none,.mv (.t 40)⟩,⟨some 41,none,.ext (.t 35) 0⟩,⟨some 42,none,.ext (.t 35) 1⟩,⟨(some 10),none,(.alloc 27 [(.int .i64 0),(.str ⟨#[]⟩),.nil,(.str ⟨#[]⟩),.nil])⟩,⟨none,none,(.store 5 (.t 10) (.t 41))⟩,⟨some 11,none,.mv (.t 42)⟩]) (.seq (.seq (.reg [⟨some 43,none,.mv (.t 11)⟩,⟨some 44,none,.bin .lss false (.t 43) (.c (.int .i64 0))⟩,⟨some 45,none,.mv (.t 44)⟩,⟨(some 46),(some (45,false)),(.mv (.t 11))⟩,⟨(some 47),(some (45,false)),(.mv (.t 0))⟩,⟨(some 48),(some (45,false)),(.len true (.t 47))⟩,⟨(some 49),(some (45,false)),(.bin .eql false (.t 46) (.t 48))⟩,⟨some 50,none,.pick (.t 45) (.c (.bool true)) (.t 49)⟩,⟨some 51,none,.mv (.t 50)⟩,⟨(some 52),(some (51,false)),(.mv (.t 0))⟩,⟨(some 53),(some (51,false)),(.mv (.t 11))⟩,⟨(some 54),(some (51,false)),(.idx (.t 52) (.t 53))⟩,⟨(some 55),(some (51,false)),(.bin .neq false (.t 54) (.c (.int .u8 41)))⟩,⟨some 56,none,.pick (.t 51) (.c (.bool true)) (.t 55)⟩]) (.cond (.t 56) (.seq (.reg [⟨(some 57),none,(.build [(.int .i64 0),(.str ⟨#[]⟩),.nil,(.str ⟨#[]⟩),.nil] [])⟩,⟨none,none,(.store 5 (.t 4) (.t 57))⟩,⟨some 5,none,.mv (.c (.int .i64 (-(0+1))))⟩]) .ret) .skip)) (.seq (.reg [⟨some 58,none,.mv (.t 8)⟩,⟨some 59,none,.load true 5 (.t 6)⟩,⟨some 60,none,.load true 5 (.t 10)⟩,⟨(some 61),none,(.mkrow 27 5 [(.int .i64 0),(.str ⟨#[]⟩),.nil,(.str ⟨#[]⟩),.nil] 2 [(0,(.t 59)),(1,(.t 60))])⟩,⟨(some 62),none,(.build [(.int .i64 0),(.str ⟨#[]⟩),.nil,(.str ⟨#[]⟩),.nil] [(0,(1,(.t 58))),(4,(1,(.t 61)))])⟩,⟨some 63,none,.mv (.t 11)⟩,⟨some 64,none,.bin .add false (.t 63) (.c (.int .i64 1))⟩,⟨none,none,(.store 5 (.t 4) (.t 62))⟩,⟨some 5,none,.mv (.t 64)⟩]) .ret))))))))
theorem Bo:codeOf Try.prog 49=some ⟨65,Bh,[(.cell 4 true 5),(.tmp 5)]⟩:=by kernel_rfl
theorem A9:modes 49=⟨[],.frz,none,false⟩:=by unfold modes; rfl
def BA:SC:=(.seq (.reg [⟨(some 4),none,(.alloc 27 [(.int .i64 0),(.str ⟨#[]⟩),.nil,(.str ⟨#[]⟩),.nil])⟩,⟨some 5,none,.mv (.c (.int .i64 0))⟩]) (.seq (.block 0 (.seq (.reg [⟨some 13,none,.mv (.t 0)⟩,⟨some 14,none,.mv (.t 1)⟩,⟨(some 15),none,(.call 46 [(.t 13),(.t 14),(.c (.str ⟨#[97,108,108,32]⟩))])⟩,⟨some 12,none,.mv (.t 15)⟩]) (.cond (.t 12) (.seq (.reg [⟨some 16,none,.mv (.t 0)⟩,⟨some 17,none,.mv (.t 1)⟩,⟨some 18,none,.bin .add false (.t 17) (.c (.int .i64 4))⟩,⟨some 19,none,.call 47 [(.t 16),(.t 18),(.c (.int .i64 8))]⟩,⟨some 20,none,.ext (.t 19) 0⟩,⟨some 21,none,.ext (.t 19) 1⟩,⟨none,none,(.store 5 (.t 4) (.t 20))⟩,⟨some 5,none,.mv (.t 21)⟩]) .ret) (.seq (.reg [⟨some 23,none,.mv (.t 0)⟩,⟨some 24,none,.mv (.t 1)⟩,⟨(some 25),none,(.call 46 [(.t 23),(.t 24),(.c (.str ⟨#[115,111,109,101,32]⟩))])⟩,⟨some 22,none,.mv (.t 25)⟩]) (.cond (.t 22) (.seq (.reg [⟨some 26,none,.mv (.t 0)⟩,⟨some 27,none,.mv (.t 1)⟩,⟨some 28,none,.bin .add false (.t 27) (.c (.int .i64 5))⟩,⟨some 29,none,.call 47 [(.t 26),(.t 28),(.c (.int .i64 9))]⟩,⟨some 30,none,.ext (.t 29) 0⟩,⟨some 31,none,.ext (.t 29) 1⟩,⟨none,none,(.store 5 (.t 4) (.t 30))⟩,⟨some 5,none,.mv (.t 31)⟩]) .ret) (.seq (.reg [⟨some 33,none,.mv (.t 0)⟩,⟨some 34,none,.mv (.t 1)⟩,⟨(some 35),none,(.call 46 [(.t 33),(.t 34),(.c (.str ⟨#[126,40]⟩))])⟩,⟨some 32,none,.mv (.t 35)⟩]) (.cond (.t 32) (.seq (.seq (.reg [⟨some 37,none,.mv (.t 0)⟩,⟨some 38,none,.mv (.t 1)⟩,⟨some 39,none,.bin .add false (.t 38) (.c (.int .i64 2))⟩,⟨some 40,none,.call 48 [(.t 37),(.t 39)]⟩,⟨some 36,none,.mv (.t 40)⟩,⟨some 41,none,.ext (.t 36) 0⟩,⟨some 42,none,.ext (.t 36) 1⟩,⟨(some 6),none,(.alloc 27 [(.int .i64 0),(.str ⟨#[]⟩),.nil,(.str ⟨#[]⟩),.nil])⟩,⟨none,none,(.store 5 (.t 6) (.t 41))⟩,⟨some 7,none,.mv (.t 42)⟩]) (.seq (.reg [⟨some 43,none,.mv (.t 7)⟩,⟨some 44,none,.bin .geq false (.t 43) (.c (.int .i64 0))⟩,⟨some 45,none,.mv (.t 44)⟩,⟨(some 46),(some (45,true)),(.faddr 0 (.t 6))⟩,⟨(some 47),(some (45,true)),(.load false 1 (.t 46))⟩,⟨(some 48),(some (45,true)),(.bin .eql false (.t 47) (.c (.int .i64 3)))⟩,⟨some 49,none,.pick (.t 45) (.t 48) (.c (.bool false))⟩,⟨some 50,none,.mv (.t 49)⟩,⟨(some 51),(some (50,true)),(.faddr 1 (.t 6))⟩,⟨(some 52),(some (50,true)),(.faddr 0 (.t 51))⟩,⟨(some 53),(some (50,true)),(.load false 1 (.t 52))⟩,⟨(some 54),(some (50,true)),(.bin .eql false (.t 53) (.c (.str ⟨#[61]⟩)))⟩,⟨some 55,none,.pick (.t 50) (.t 54) (.c (.bool false))⟩,⟨some 56,none,.mv (.t 55)⟩,⟨(some 57),(some (56,true)),(.mv (.t 0))⟩,⟨(some 58),(some (56,true)),(.mv (.t 7))⟩,⟨(some 59),(some (56,true)),(.call 46 [(.t 57),(.t 58),(.c (.str ⟨#[41]⟩))])⟩,⟨some 60,none,.pick (.t 56) (.t 59) (.c (.bool false))⟩]) (.cond (.t 60) (.seq (.reg [⟨some 61,none,.load true 5 (.t 6)⟩,⟨(some 62),none,(.mkrow 27 5 [(.int .i64 0),(.str ⟨#[]⟩),.nil,(.str ⟨#[]⟩),.nil] 1 [(0,(.t 61))])⟩,⟨(some 63),none,(.build [(.int .i64 0),(.str ⟨#[]⟩),.nil,(.str ⟨#[]⟩),.nil] [(0,(1,(.c (.int .i64 4)))),(4,(1,(.t 62)))])⟩,⟨some 64,none,.mv (.t 7)⟩,⟨some 65,none,.bin .add false (.t 64) (.c (.int .i64 1))⟩,⟨none,none,(.store 5 (.t 4) (.t 63))⟩,⟨some 5,none,.mv (.t 65)⟩]) .ret) .skip))) (.seq (.reg [⟨some 67,none,.mv (.t 0)⟩,⟨some 68,none,.mv (.t 1)⟩,⟨some 69,none,.bin .add false (.t 68) (.c (.int .i64 1))⟩,⟨some 70,none,.call 49 [(.t 67),(.t 69)]⟩,⟨some 66,none,.mv (.t 70)⟩,⟨some 71,none,.ext (.t 66) 0⟩,⟨some 72,none,.ext (.t 66) 1⟩,⟨(some 8),none,(.alloc 27 [(.int .i64 0),(.str ⟨#[]⟩),.nil,(.str ⟨#[]⟩),.nil])⟩,⟨none,none,(.store 5 (.t 8) (.t 71))⟩,⟨some 9,none,.mv (.t 72)⟩]) (.seq (.reg [⟨some 73,none,.load true 5 (.t 8)⟩,⟨(some 74),none,(.mkrow 27 5 [(.int .i64 0),(.str ⟨#[]⟩),.nil,(.str ⟨#[]⟩),.nil] 1 [(0,(.t 73))])⟩,⟨(some 75),none,(.build [(.int .i64 0),(.str ⟨#[]⟩),.nil,(.str ⟨#[]⟩),.nil] [(0,(1,(.c (.int .i64 4)))),(4,(1,(.t 74)))])⟩,⟨some 76,none,.mv (.t 9)⟩,⟨none,none,(.store 5 (.t 4) (.t 75))⟩,⟨some 5,none,.mv (.t 76)⟩]) .ret))) (.seq (.reg [⟨some 78,none,.mv (.t 0)⟩,⟨some 79,none,.mv (.t 1)⟩,⟨(some 80),none,(.call 46 [(.t 78),(.t 79),(.c (.str ⟨#[126]⟩))])⟩,⟨some 77,none,.mv (.t 80)⟩]) (.cond (.t 77) (.seq (.reg [⟨some 82,none,.mv (.t 0)⟩,⟨some 83,none,.mv (.t 1)⟩,⟨some 84,none,.bin .add false (.t 83) (.c (.int .i64 1))⟩,⟨some 85,none,.call 19 [(.t 82),(.t 84)]⟩,⟨some 81,none,.mv (.t 85)⟩,⟨some 86,none,.ext (.t 81) 0⟩,⟨some 87,none,.ext (.t 81) 1⟩,⟨(some 10),none,(.alloc 27 [(.int .i64 0),(.str ⟨#[]⟩),.nil,(.str ⟨#[]⟩),.nil])⟩,⟨none,none,(.store 5 (.t 10) (.t 86))⟩,⟨some 11,none,.mv (.t 87)⟩]) (.seq (.reg [⟨some 88,none,.load true 5 (.t 10)⟩,⟨(some 89),none,(.mkrow 27 5 [(.int .i64 0),(.str ⟨#[]⟩),.nil,(.str ⟨#[]⟩),.nil] 1 [(0,(.t 88))])⟩,⟨(some 90),none,(.build [(.int .i64 0),(.str ⟨#[]⟩),.nil,(.str ⟨#[]⟩),.nil] [(0,(1,(.c (.int .i64 4)))),(4,(1,(.t 89)))])⟩,⟨some 91,none,.mv (.t 11)⟩,⟨none,none,(.store 5 (.t 4) (.t 90))⟩,⟨some 5,none,.mv (.t 91)⟩]) .ret)) (.seq (.reg [⟨some 93,none,.mv (.t 0)⟩,⟨some 94,none,.mv (.t 1)⟩,⟨(some 95),none,(.call 46 [(.t 93),(.t 94),(.c (.str ⟨#[40]⟩))])⟩,⟨some 92,none,.mv (.t 95)⟩]) (.cond (.t 92) (.seq (.reg [⟨some 96,none,.mv (.t 0)⟩,⟨some 97,none,.mv (.t 1)⟩,⟨some 98,none,.call 49 [(.t 96),(.t 97)]⟩,⟨some 99,none,.ext (.t 98) 0⟩,⟨some 100,none,.ext (.t 98) 1⟩,⟨none,none,(.store 5 (.t 4) (.t 99))⟩,⟨some 5,none,.mv (.t 100)⟩]) .ret) .skip))))))))))) (.seq (.reg [⟨some 101,none,.mv (.t 0)⟩,⟨some 102,none,.mv (.t 1)⟩,⟨some 103,none,.call 48 [(.t 101),(.t 102)]⟩,⟨some 104,none,.ext (.t 103) 0⟩,⟨some 105,none,.ext (.t 103) 1⟩,⟨none,none,(.store 5 (.t 4) (.t 104))⟩,⟨some 5,none,.mv (.t 105)⟩]) .ret)))
theorem BJ:codeOf Try.prog 19=some ⟨106,BA,[(.cell 4 true 5),(.tmp 5)]⟩:=by kernel_rfl
theorem Aq:modes 19=⟨[],.frz,none,false⟩:=by unfold modes; rfl
def BO:SC:=(.seq (.reg [⟨(some 2),none,(.alloc 27 [(.int .i64 0),(.str ⟨#[]⟩),.nil,(.str ⟨#[]⟩),.nil])⟩,⟨some 3,none,.mv (.c (.bool false))⟩]) (.seq (.seq (.reg [⟨some 6,none,.mv (.t 0)⟩,⟨some 7,none,.len true (.t 6)⟩,⟨some 8,none,.bin .gtr false (.t 7) (.c (.int .i64 4000))⟩]) (.cond (.t 8) (.seq (.reg [⟨(some 9),none,(.build [(.int .i64 0),(.str ⟨#[]⟩),.nil,(.str ⟨#[]⟩),.nil] [])⟩,⟨none,none,(.store 5 (.t 2) (.t 9))⟩,⟨some 3,none,.mv (.c (.bool false))⟩]) .ret) .skip)) (.seq (.reg [⟨some 11,none,.mv (.t 0)⟩,⟨some 12,none,.call 19 [(.t 11),(.c (.int .i64 0))]⟩,⟨some 10,none,.mv (.t 12)⟩,⟨some 13,none,.ext (.t 10) 0⟩,⟨some 14,none,.ext (.t 10) 1⟩,⟨(some 4),none,(.alloc 27 [(.int .i64 0),(.str ⟨#[]⟩),.nil,(.str ⟨#[]⟩),.nil])⟩,⟨none,none,(.store 5 (.t 4) (.t 13))⟩,⟨some 5,none,.mv (.t 14)⟩]) (.seq (.seq (.reg [⟨some 15,none,.mv (.t 5)⟩,⟨some 16,none,.mv (.t 0)⟩,⟨some 17,none,.len true (.t 16)⟩,⟨some 18,none,.bin .neq false (.t 15) (.t 17)⟩,⟨some 19,none,.mv (.t 18)⟩,⟨(some 20),(some (19,false)),(.load true 5 (.t 4))⟩,⟨(some 21),(some (19,false)),(.call 20 [(.t 20)])⟩,⟨(some 22),(some (19,false)),(.un .not (.t 21))⟩,⟨some 23,none,.pick (.t 19) (.c (.bool true)) (.t 22)⟩,⟨some 24,none,.mv (.t 23)⟩,⟨(some 25),(some (24,false)),(.load true 5 (.t 4))⟩,⟨(some 26),(some (24,false)),(.call 21 [(.t 25)])⟩,⟨(some 27),(some (24,false)),(.mv (.t 0))⟩,⟨(some 28),(some (24,false)),(.bin .neq false (.t 26) (.t 27))⟩,⟨some 29,none,.pick (.t 24) (.c (.bool true)) (.t 28)⟩]) (.cond (.t 29) (.seq (.reg [⟨(some 30),none,(.build [(.int .i64 0),(.str ⟨#[]⟩),.nil,(.str ⟨#[]⟩),.nil] [])⟩,⟨none,none,(.store 5 (.t 2) (.t 30))⟩,⟨some 3,none,.mv (.c (.bool false))⟩]) .ret) .skip)) (.seq (.reg [⟨some 31,none,.load true 5 (.t 4)⟩,⟨none,none,(.store 5 (.t 2) (.t 31))⟩,⟨some 3,none,.mv (.c (.bool true))⟩]) .ret)))))
theorem Cd:codeOf Try.prog 5=some ⟨32,BO,[(.cell 2 true 5),(.tmp 3)]⟩:=by kernel_rfl
theorem BP:modes 5=⟨[],.frz,none,false⟩:=by unfold modes; rfl
theorem C0 (s:ByteArray) (i:Nat) (x:ByteArray) (hs:s.size≤1048576) (hi:i≤s.size) (hx:x.size≤1000):E 46 [.str s,.int .i64 (i:Int),.str x] []=some (.bool (hasB s i x),[]):=by
 have hn:((i:Nat):Int).toNat=i:=zU i
 have hn2:((i:Int)+(x.size:Int)).toNat=i+x.size:=by omega
 by_cases h:i+x.size≤s.size
 ·have q1:((i:Int)+(x.size:Int)≤(s.size:Int))=True:=eq_true (by omega)
  by_cases he:s.extract i (i+x.size)=x
  ·have hb:hasB s i x=true:=(AO hi).2 ⟨h,by rw [←toList_extract,he]⟩
   have q2:(s.extract i (i+x.size)=x)=True:=eq_true he
   rw [hb]
   refine Aj E6 Ar (of_decide_eq_true rfl) ?_
   simp (disch:=omega) only [D2,go_sem,Ab,hn,hn2,q1,q2]
  ·have hb:hasB s i x=false:=by
    cases k:hasB s i x with
    | false=>rfl
    | true=>exact absurd (AU (by rw [toList_extract]; exact ((AO hi).1 k).2)) he
   have q2:(s.extract i (i+x.size)=x)=False:=eq_false he
   rw [hb]
   refine Aj E6 Ar (of_decide_eq_true rfl) ?_
   simp (disch:=omega) only [D2,go_sem,Ab,hn,hn2,q1,q2]
 ·have q1:((i:Int)+(x.size:Int)≤(s.size:Int))=False:=eq_false (by omega)
  have hb:hasB s i x=false:=by
   cases k:hasB s i x with
   | false=>rfl
   | true=>exact absurd ((AO hi).1 k).1 h
  rw [hb]
  refine Aj E6 Ar (of_decide_eq_true rfl) ?_
  simp (disch:=omega) only [D2,go_sem,Ab,hn,hn2,q1]
noncomputable def DP (t:Tm):Fm:=if t.args.length=0∧t.name=⟨#[116,114,117,101]⟩ then .mk 1 Tm.zero ⟨#[]⟩ [] else if t.args.length=0∧t.name=⟨#[102,97,108,115,101]⟩ then .mk 2 Tm.zero ⟨#[]⟩ [] else .mk 3 t ⟨#[]⟩ []
def VJ (s:ByteArray) (i:Nat) (out:SV × List Ob):Prop :=
 ∃ (x:Fm) (k:Int),out=(.tup [x.sv,.int .i64 k],[])∧(match Ds ⟨#[32,61,32]⟩ s (s.size+1) i with
  | some (t,e)=>x=DP t∧k=(e:Int)
  | none=>k=-1)
theorem LA (s:ByteArray) (hs:s.size≤1048576) (i:Nat) (hi:i≤s.size):∃ out,E 48 [.str s,.int .i64 (i:Int)] []=some out∧VJ s i out:=by
 obtain ⟨out1,h1,t,k,rfl,g1⟩:=Lx s hs (s.size+1) i hi (by omega)
 unfold VJ Ds
 cases hr:rd s (s.size+1) i with
 | none =>
  rw [hr] at g1
  have g1:k=-1:=g1
  subst g1
  have qn:((-1:Int)<0)=True:=eq_true (by omega)
  refine AE Ct AM (of_decide_eq_true rfl) ?_
  simp (disch:=omega) only [Cc,go_sem,Ab,h1,qn,AW,Ar]
  exact ⟨_,rfl,Fm.zero,-1,rfl,rfl⟩
 | some p =>
  obtain ⟨t0,e⟩:=p
  rw [hr] at g1
  obtain ⟨rfl,rfl⟩:=g1
  have r1:=GG _ _ _ _ hi hr
  have qn:((e:Int)<0)=False:=eq_false (by omega)
  have h2:=C0 s e ⟨#[32,61,32]⟩ hs r1.2.1 (by show 3≤1000; omega)
  cases hh:hasB s e ⟨#[32,61,32]⟩ with
  | true =>
   rw [hh] at h2
   have hz:e+3≤s.size:=((AO r1.2.1).1 hh).1
   obtain ⟨out2,h3,t2,k2,rfl,g2⟩:=Lx s hs (s.size+1) (e+3) hz (by omega)
   have hcs:((e+3:Nat):Int)=(e:Int)+3:=by omega
   rw [hcs] at h3
   have hx:(Fm.mk 3 (.mk ⟨#[61]⟩ [t,t2]) ⟨#[]⟩ []).sv=.agg [.int .i64 3,.str ⟨#[61]⟩,.arr [[D.str t.name,D.arr (t.args.map Tm.d)],[D.str t2.name,D.arr (t2.args.map Tm.d)]],.str ⟨#[]⟩,.arr []]:=by
    show SV.agg [.int .i64 3,.str ⟨#[61]⟩,.arr ([t,t2].map Tm.d),.str ⟨#[]⟩,.arr []]=_
    rw [zD,zD,zF,Tm.d_eq,Tm.d_eq]
   have hsim:DP (.mk ⟨#[61]⟩ [t,t2])=.mk 3 (.mk ⟨#[61]⟩ [t,t2]) ⟨#[]⟩ []:=by
    unfold DP
    rw [if_neg (fun h=>absurd h.1 (by show ¬ 2=0; omega)),if_neg (fun h=>absurd h.1 (by show ¬ 2=0; omega))]
   simp only [hh,cond_true]
   have e3:rd s (s.size+1) (e+(⟨#[32,61,32]⟩:ByteArray).size)=rd s (s.size+1) (e+3):=rfl
   rw [e3]
   refine AE Ct AM (of_decide_eq_true rfl) ?_
   simp (disch:=omega) only [Cc,go_sem,Ab,h1,qn,h2,h3,AW,Ar]
   refine ⟨_,rfl,.mk 3 (.mk ⟨#[61]⟩ [t,t2]) ⟨#[]⟩ [],k2,by rw [hx],?_⟩
   cases hr2:rd s (s.size+1) (e+3) with
   | none=>rw [hr2] at g2; exact g2
   | some p =>
    obtain ⟨b,e2⟩:=p
    rw [hr2] at g2
    obtain ⟨rfl,rfl⟩:=g2
    exact ⟨hsim.symm,rfl⟩
  | false =>
   rw [hh] at h2
   simp only [hh,cond_false]
   unfold DP
   by_cases hl:t.args.length=0
   ·have ql:((t.args.length:Int)=0)=True:=eq_true (by omega)
    by_cases n1:t.name=⟨#[116,114,117,101]⟩
    ·have q1:(t.name=⟨#[116,114,117,101]⟩)=True:=eq_true n1
     rw [if_pos ⟨hl,n1⟩]
     refine AE Ct AM (of_decide_eq_true rfl) ?_
     simp (disch:=omega) only [Cc,go_sem,Ab,h1,qn,h2,ql,q1,AW,Ar]
     exact ⟨_,rfl,.mk 1 Tm.zero ⟨#[]⟩ [],_,rfl,rfl,rfl⟩
    ·have q1:(t.name=⟨#[116,114,117,101]⟩)=False:=eq_false n1
     rw [if_neg (fun h=>n1 h.2)]
     by_cases n2:t.name=⟨#[102,97,108,115,101]⟩
     ·have q2:(t.name=⟨#[102,97,108,115,101]⟩)=True:=eq_true n2
      rw [if_pos ⟨hl,n2⟩]
      refine AE Ct AM (of_decide_eq_true rfl) ?_
      simp (disch:=omega) only [Cc,go_sem,Ab,h1,qn,h2,ql,q1,q2,AW,Ar]
      exact ⟨_,rfl,.mk 2 Tm.zero ⟨#[]⟩ [],_,rfl,rfl,rfl⟩
     ·have q2:(t.name=⟨#[102,97,108,115,101]⟩)=False:=eq_false n2
      rw [if_neg (fun h=>n2 h.2)]
      refine AE Ct AM (of_decide_eq_true rfl) ?_
      simp (disch:=omega) only [Cc,go_sem,Ab,h1,qn,h2,ql,q1,q2,AW,Ar]
      exact ⟨_,rfl,.mk 3 t ⟨#[]⟩ [],_,rfl,rfl,rfl⟩
   ·have ql:((t.args.length:Int)=0)=False:=eq_false (by omega)
    rw [if_neg (fun h=>hl h.1),if_neg (fun h=>hl h.1)]
    refine AE Ct AM (of_decide_eq_true rfl) ?_
    simp (disch:=omega) only [Cc,go_sem,Ab,h1,qn,h2,ql,AW,Ar]
    exact ⟨_,rfl,.mk 3 t ⟨#[]⟩ [],_,rfl,rfl,rfl⟩
def OkK (s:ByteArray) (i:Nat) (x:Fm) (k:Int):Prop:=k=-1∨∃ e:Nat,k=(e:Int)∧e≤s.size∧x.nodes+i≤e∧x.tame
def VP (s:ByteArray) (i:Nat) (x:Fm) (k:Int):Prop:=∀ (f:Fm) (e:Nat),f.forms=true→e≤s.size→i≤e→seg s i e=f.fmt→GH s e→x=f∧k=(e:Int)
def SS (s:ByteArray) (i:Nat) (out:SV × List Ob):Prop:=∃ (x:Fm) (k:Int),out=(.tup [x.sv,.int .i64 k],[])∧OkK s i x k∧VP s i x k
def VK (s:ByteArray) (a:Nat) (op:Int) (out:SV × List Ob):Prop:=∃ (x:Fm) (k:Int),out=(.tup [x.sv,.int .i64 k],[])∧OkK s a x k ∧
 ∀ (v:ByteArray) (p:Fm) (e:Nat),CU v=true→p.forms=true→e≤s.size→a≤e→seg s a e=v.toList++46 :: p.fmt→GH s e→x=.mk op Tm.zero v [p]∧k=(e:Int)
def VL (s:ByteArray) (i:Nat) (out:SV × List Ob):Prop:=∃ (x:Fm) (k:Int),out=(.tup [x.sv,.int .i64 k],[])∧OkK s i x k ∧
 ∀ (op:Int) (p q:Fm) (e:Nat),(op=5∨op=6∨op=7)→p.forms=true→q.forms=true→e≤s.size→i≤e→seg s i e=40 :: (p.fmt++(sgn op++(q.fmt++[41])))→x=.mk op Tm.zero ⟨#[]⟩ [p,q]∧k=(e:Int)
theorem I9 (op:Int) (v:ByteArray) (p:Fm):(Fm.mk op Tm.zero v [p]).sv=.agg [.int .i64 op,.str ⟨#[]⟩,.arr [],.str v,.arr [[D.int p.op,D.str p.atom.name,D.arr (p.atom.args.map Tm.d),D.str p.var,D.arr (p.parts.map Fm.d)]]]:=by
 show SV.agg [.int .i64 op,.str ⟨#[]⟩,.arr [],.str v,.arr ([p].map Fm.d)]=_
 rw [zD,zF,Fm.d_eq]
theorem PN (op:Int) (v:ByteArray) (p q:Fm):(Fm.mk op Tm.zero v [p,q]).sv=.agg [.int .i64 op,.str ⟨#[]⟩,.arr [],.str v,.arr [[D.int p.op,D.str p.atom.name,D.arr (p.atom.args.map Tm.d),D.str p.var,D.arr (p.parts.map Fm.d)],[D.int q.op,D.str q.atom.name,D.arr (q.atom.args.map Tm.d),D.str q.var,D.arr (q.parts.map Fm.d)]]]:=by
 show SV.agg [.int .i64 op,.str ⟨#[]⟩,.arr [],.str v,.arr ([p,q].map Fm.d)]=_
 rw [zD,zD,zF,Fm.d_eq,Fm.d_eq]
theorem Ek (op:Int) (a:Tm) (v:ByteArray) (p:Fm):(Fm.mk op a v [p]).nodes=1+p.nodes:=by
 rw [Fm.nodes_eq]; show 1+Fm.nodeS [p]=_; rw [Fm.nodeS,Fm.nodeS]; omega
theorem IA (op:Int) (a:Tm) (v:ByteArray) (p q:Fm):(Fm.mk op a v [p,q]).nodes=1+p.nodes+q.nodes:=by
 rw [Fm.nodes_eq]; show 1+Fm.nodeS [p,q]=_; rw [Fm.nodeS,Fm.nodeS,Fm.nodeS]; omega
theorem GA:Tm.zero.nodes≤1099511627776:=by rw [Tm.nodes_eq]; show 1+Tm.nodeS []≤_; rw [Tm.nodeS]; omega
theorem Fv {op:Int} {v:ByteArray} {p:Fm} (h:p.tame):(Fm.mk op Tm.zero v [p]).tame:=by
 rw [Fm.DL]
 refine ⟨GA,?_⟩
 show Fm.Co [p]
 rw [Fm.Co,Fm.Co]; exact ⟨h,trivial⟩
theorem LB {op:Int} {v:ByteArray} {p q:Fm} (h:p.tame) (k:q.tame):(Fm.mk op Tm.zero v [p,q]).tame:=by
 rw [Fm.DL]
 refine ⟨GA,?_⟩
 show Fm.Co [p,q]
 rw [Fm.Co,Fm.Co,Fm.Co]; exact ⟨h,k,trivial⟩
theorem Vv:Bt (46:Int)=false:=by
 unfold Bt
 rw [An (p:=(97:Int)≤46) (by omega),An (p:=(65:Int)≤46) (by omega),An (p:=(48:Int)≤46) (by omega),An (p:=(46:Int)=95) (by omega)]
 rfl
theorem Kr (s:ByteArray) (hs:s.size≤1048576) (a:Nat) (ha:a≤s.size) (op:Int) (ihR:∀ i',a<i'→i'≤s.size→∃ out,E 19 [.str s,.int .i64 (i':Int)] []=some out∧SS s i' out):∃ out,E 47 [.str s,.int .i64 (a:Int),.int .i64 op] []=some out∧VK s a op out:=by
 have w1:=En s a
 have w2:=DC s a ha
 have name:∀ (v:ByteArray) (p:Fm) (e:Nat),CU v=true→e≤s.size→a≤e→seg s a e=v.toList++46 :: p.fmt→A3 s a=a+v.toList.length∧s.extract a (A3 s a)=v∧A3 s a<e∧Ay s (A3 s a)=46∧seg s (A3 s a+1) e=p.fmt:=fun v p e hv he hae h=>by
  obtain ⟨u1,u2,u3⟩:=AV h he hae
  obtain ⟨t1,t2,t3⟩:=Ax u3 he
  have t2:Ay s (a+v.toList.length)=46:=t2
  obtain ⟨wd1,wd2⟩:=Ja hv
  have hwe:A3 s a=a+v.toList.length:=E0 v.toList _ _ u2 (by omega) (by omega) wd2 fun ⟨_,k⟩=>by
   rw [t2,Vv] at k; cases k
  rw [hwe]
  exact ⟨rfl,AU (by rw [toList_extract,u2]),t1,t2,t3⟩
 refine AE HM AT (of_decide_eq_true rfl) ?_
 simp (disch:=omega) only [ED,go_sem,Ab]
 refine go_loop (α:=Nat) (fun j=>⟨slots 51 0 [(0,.str s),(1,.int .i64 (a:Int)),(2,.int .i64 op),(6,.ptr 0 0),(8,.int .i64 (j:Int))],[.box 27 [.int .i64 0,.str ⟨#[]⟩,.nil,.str ⟨#[]⟩,.nil]]⟩) (fun j=>a≤j∧j≤s.size∧A3 s j=A3 s a) (fun j=>s.size-j) a ⟨zP _,ha,rfl⟩ (by simp (disch:=omega) only [go_sem,Ab]) ?_
 rintro j ⟨h1,h2,h3⟩
 have hj:((j:Nat):Int).toNat=j:=zU j
 have han:((a:Nat):Int).toNat=a:=zU a
 have hw:=OL (Ay s j)
 by_cases hgo:j<s.size∧Bt (Ay s j)=true
 ·have hlt:=hgo.1
  rw [hgo.2] at hw
  have:=Gr hgo.1 hgo.2
  simp (disch:=omega) only [go_sem,Ab,hj,hw,BI]
  exact ⟨j+1,⟨by omega,by omega,by omega⟩,by omega,by first | trivial | (simp only [Int.natCast_add,Int.natCast_one]) | rfl⟩
 have hst:=CM hgo
 obtain rfl:j=A3 s a:=by omega
 rcases zO (A3 s a) s.size with hlt | hge
 ·have hwf:Bt (Ay s (A3 s a))=false:=by
   cases h:Bt (Ay s (A3 s a)) with
   | false=>rfl
   | true=>exact absurd ⟨hlt,h⟩ hgo
  rw [hwf] at hw
  have h0s:((A3 s a:Int)=(s.size:Int))=False:=eq_false (by omega)
  by_cases hd:Ay s (A3 s a)=46
  ·have q1:(Ay s (A3 s a)=46)=True:=eq_true hd
   obtain ⟨out,hR,p,k,rfl,g1,g2⟩:=ihR (A3 s a+1) (by omega) (by omega)
   have hcs:((A3 s a+1:Nat):Int)=(A3 s a:Int)+1:=by omega
   rw [hcs] at hR
   have hx:=I9 op (s.extract a (A3 s a)) p
   simp (disch:=omega) only [go_sem,Ab,hj,han,hw,h0s,q1,hR,BI,Aq]
   refine ⟨_,rfl,.mk op Tm.zero (s.extract a (A3 s a)) [p],k,by rw [hx],?_,fun v p0 e hv hp he hae hsg hst=>?_⟩
   ·rcases g1 with g1 | ⟨e,g1,g3,g4,g5⟩
    ·exact .inl g1
    ·exact .inr ⟨e,g1,g3,by rw [Ek]; omega,Fv g5⟩
   ·obtain ⟨_,n2,n3,_,n5⟩:=name v p0 e hv he hae hsg
    obtain ⟨r1,r2⟩:=g2 p0 e hp he (by omega) n5 hst
    exact ⟨by rw [n2,r1],r2⟩
  ·have q1:(Ay s (A3 s a)=46)=False:=eq_false hd
   simp (disch:=omega) only [go_sem,Ab,hj,han,hw,h0s,q1,BI,Aq]
   refine ⟨_,rfl,Fm.zero,-1,rfl,.inl rfl,fun v p0 e hv hp he hae hsg hst=>?_⟩
   exact absurd (name v p0 e hv he hae hsg).2.2.2.1 hd
 ·have h0s:((A3 s a:Int)=(s.size:Int))=True:=eq_true (by omega)
  simp (disch:=omega) only [go_sem,Ab,hj,h0s]
  refine ⟨_,rfl,Fm.zero,-1,rfl,.inl rfl,fun v p0 e hv hp he hae hsg hst=>?_⟩
  have:=(name v p0 e hv he hae hsg).2.2.1
  omega
theorem Rp (s:ByteArray) (hs:s.size≤1048576) (i:Nat) (hi:i+1≤s.size) (ihR:∀ i',i<i'→i'≤s.size→∃ out,E 19 [.str s,.int .i64 (i':Int)] []=some out∧SS s i' out):∃ out,E 49 [.str s,.int .i64 (i:Int)] []=some out∧VL s i out:=by
 obtain ⟨out,h1,x,k,rfl,g1,g2⟩:=ihR (i+1) (by omega) hi
 have hcs:((i+1:Nat):Int)=(i:Int)+1:=by omega
 rw [hcs] at h1
 have lead:∀ (op:Int) (p q:Fm) (e:Nat),(op=5∨op=6∨op=7)→p.forms=true→q.forms=true→e≤s.size→i≤e→seg s i e=40 :: (p.fmt++(sgn op++(q.fmt++[41])))→∃ j:Nat,x=p∧k=(j:Int)∧hasB s j (sgB op)=true∧j+(sgB op).size≤e∧seg s (j+(sgB op).size) e=q.fmt++[41]:=fun op p q e ho hp hq he hie h=>by
  obtain ⟨t1,_,t3⟩:=Ax h he
  obtain ⟨u1,u2,u3⟩:=AV t3 he t1
  obtain ⟨r1,r2⟩:=g2 p (i+1+p.fmt.length) hp (by omega) (by omega) u2 (JA u3 he)
  obtain ⟨v1,v2,v3⟩:=AV u3 he u1
  have e1:(sgn op).length=(sgB op).size:=by rw [←AK,DA]
  rw [e1] at v1 v3
  exact ⟨_,r1,r2,D0 (r:=q.fmt++[41]) (by rw [DA]; exact u3) he u1,v1,v3⟩
 rcases g1 with rfl | ⟨j,rfl,j1,j2,ht⟩
 ·have q1:((-1:Int)<0)=True:=eq_true (by omega)
  refine AE Bo A9 (of_decide_eq_true rfl) ?_
  simp (disch:=omega) only [Bh,go_sem,Ab,h1,q1,Ar,Aq]
  refine ⟨_,rfl,Fm.zero,-1,rfl,.inl rfl,fun op p q e ho hp hq he hie h=>?_⟩
  obtain ⟨j,_,hj,_⟩:=lead op p q e ho hp hq he hie h
  omega
 ·have q1:((j:Int)<0)=False:=eq_false (by omega)
  have hk:(j:Int)=(j:Int):=rfl
  have s5:=C0 s j (sgB 5) hs j1 (by show 3≤1000; omega)
  have s6:=C0 s j (sgB 6) hs j1 (by show 3≤1000; omega)
  have s7:=C0 s j (sgB 7) hs j1 (by show 4≤1000; omega)
  rw [show (SV.str (sgB 5))=.str ⟨#[32,38,32]⟩ from rfl] at s5
  rw [show (SV.str (sgB 6))=.str ⟨#[32,124,32]⟩ from rfl] at s6
  rw [show (SV.str (sgB 7))=.str ⟨#[32,61,62,32]⟩ from rfl] at s7
  have lead:∀ (op:Int) (p q:Fm) (e:Nat),(op=5∨op=6∨op=7)→p.forms=true→q.forms=true→e≤s.size→i≤e→seg s i e=40 :: (p.fmt++(sgn op++(q.fmt++[41])))→∃ r1:Nat,x=p∧(j:Int)=(r1:Int)∧hasB s r1 (sgB op)=true∧(r1+(sgB op).size≤e∧seg s (r1+(sgB op).size) e=q.fmt++[41]∧True):=fun op p q e ho hp hq he hie h=>by
   obtain ⟨r,a1,a2,a3,a4,a5⟩:=lead op p q e ho hp hq he hie h
   exact ⟨r,a1,a2,a3,a4,a5,trivial⟩
  cases hh5:hasB s j (sgB 5) with
  | true =>
   rw [hh5] at s5
   have hh:hasB s j (sgB 5)=true:=hh5
   have hz:=((AO j1).1 hh).1
   have hz:j+3≤s.size:=hz
   obtain ⟨out,hR2,y,k2,rfl,g3,g4⟩:=ihR (j+3) (by omega) hz
   have hcs:((j+3:Nat):Int)=(j:Int)+3:=by omega
   rw [hcs] at hR2
   have hx:=PN 5 ⟨#[]⟩ x y
   have fin:∀ (op:Int) (p q:Fm) (e:Nat),(op=5∨op=6∨op=7)→p.forms=true→q.forms=true→e≤s.size→i≤e→seg s i e=40 :: (p.fmt++(sgn op++(q.fmt++[41])))→x=p∧op=5∧y=q∧k2=((e-1:Nat):Int)∧Ay s (e-1)=41∧1≤e:=fun op p q e ho hp hq he hie h=>by
    obtain ⟨r1,r2,r3,r4,r5⟩:=lead op p q e ho hp hq he hie h
    have hjj:(j:Int)=(r1:Int):=hk.symm.trans r3
    obtain rfl:j=r1:=by omega
    obtain rfl:=Hy ho (by omega) j1 r4 hh
    obtain ⟨u0,u2,u3⟩:=r5
    have u0:j+3≤e:=u0
    have u2:seg s (j+3) e=q.fmt++[41]:=u2
    obtain ⟨v1,v2,v3⟩:=AV u2 he u0
    obtain ⟨t1,t2,t3⟩:=Ax v3 he
    have hl:=congrArg zZ t3
    rw [BT he] at hl
    have hl:e-(j+3+q.fmt.length+1)=0:=hl
    obtain ⟨w1,w2⟩:=g4 q _ hq (by omega) (by omega) v2 (EV (by omega) t2)
    have e1:e-1=j+3+q.fmt.length:=by omega
    exact ⟨r2,rfl,w1,by rw [e1]; exact w2,by rw [e1]; exact t2,by omega⟩
   rcases g3 with rfl | ⟨e2,rfl,g5,g6,g7⟩
   ·have q2:((-1:Int)<0)=True:=eq_true (by omega)
    refine AE Bo A9 (of_decide_eq_true rfl) ?_
    simp (disch:=omega) only [Bh,go_sem,Ab,h1,q1,s5,s6,s7,hR2,q2,Ar,Aq]
    refine ⟨_,rfl,Fm.zero,-1,rfl,.inl rfl,fun op p q e ho hp hq he hie h=>?_⟩
    have:=(fin op p q e ho hp hq he hie h).2.2.2.1
    omega
   ·have q2:((e2:Int)<0)=False:=eq_false (by omega)
    have hen:((e2:Nat):Int).toNat=e2:=zU e2
    by_cases he2:e2=s.size
    ·have q3:((e2:Int)=(s.size:Int))=True:=eq_true (by omega)
     refine AE Bo A9 (of_decide_eq_true rfl) ?_
     simp (disch:=omega) only [Bh,go_sem,Ab,h1,q1,s5,s6,s7,hR2,q2,q3,Ar,Aq]
     refine ⟨_,rfl,Fm.zero,-1,rfl,.inl rfl,fun op p q e ho hp hq he hie h=>?_⟩
     obtain ⟨_,_,_,z1,z2,z3⟩:=fin op p q e ho hp hq he hie h
     omega
    ·have q3:((e2:Int)=(s.size:Int))=False:=eq_false (by omega)
     have hlt2:e2<s.size:=by omega
     by_cases hb:Ay s e2=41
     ·have q4:(Ay s e2=41)=True:=eq_true hb
      refine AE Bo A9 (of_decide_eq_true rfl) ?_
      simp (disch:=omega) only [Bh,go_sem,Ab,h1,q1,s5,s6,s7,hR2,q2,q3,q4,hen,Ar,Aq]
      refine ⟨_,rfl,.mk 5 Tm.zero ⟨#[]⟩ [x,y],(e2:Int)+1,by rw [hx],.inr ⟨e2+1,by omega,by omega,by rw [IA]; omega,LB ht g7⟩,fun op p q e ho hp hq he hie h=>?_⟩
      obtain ⟨z0,z1,z2,z3,_,z4⟩:=fin op p q e ho hp hq he hie h
      exact ⟨by rw [z0,z1,z2],by omega⟩
     ·have q4:(Ay s e2=41)=False:=eq_false hb
      refine AE Bo A9 (of_decide_eq_true rfl) ?_
      simp (disch:=omega) only [Bh,go_sem,Ab,h1,q1,s5,s6,s7,hR2,q2,q3,q4,hen,Ar,Aq]
      refine ⟨_,rfl,Fm.zero,-1,rfl,.inl rfl,fun op p q e ho hp hq he hie h=>?_⟩
      obtain ⟨z0,z1,z2,z3,z5,z4⟩:=fin op p q e ho hp hq he hie h
      have:e2=e-1:=by omega
      rw [this] at hb
      exact absurd z5 hb
  | false =>
   rw [hh5] at s5
   cases hh6:hasB s j (sgB 6) with
   | true =>
    rw [hh6] at s6
    have hh:hasB s j (sgB 6)=true:=hh6
    have hz:=((AO j1).1 hh).1
    have hz:j+3≤s.size:=hz
    obtain ⟨out,hR2,y,k2,rfl,g3,g4⟩:=ihR (j+3) (by omega) hz
    have hcs:((j+3:Nat):Int)=(j:Int)+3:=by omega
    rw [hcs] at hR2
    have hx:=PN 6 ⟨#[]⟩ x y
    have fin:∀ (op:Int) (p q:Fm) (e:Nat),(op=5∨op=6∨op=7)→p.forms=true→q.forms=true→e≤s.size→i≤e→seg s i e=40 :: (p.fmt++(sgn op++(q.fmt++[41])))→x=p∧op=6∧y=q∧k2=((e-1:Nat):Int)∧Ay s (e-1)=41∧1≤e:=fun op p q e ho hp hq he hie h=>by
     obtain ⟨r1,r2,r3,r4,r5⟩:=lead op p q e ho hp hq he hie h
     have hjj:(j:Int)=(r1:Int):=hk.symm.trans r3
     obtain rfl:j=r1:=by omega
     obtain rfl:=Hy ho (by omega) j1 r4 hh
     obtain ⟨u0,u2,u3⟩:=r5
     have u0:j+3≤e:=u0
     have u2:seg s (j+3) e=q.fmt++[41]:=u2
     obtain ⟨v1,v2,v3⟩:=AV u2 he u0
     obtain ⟨t1,t2,t3⟩:=Ax v3 he
     have hl:=congrArg zZ t3
     rw [BT he] at hl
     have hl:e-(j+3+q.fmt.length+1)=0:=hl
     obtain ⟨w1,w2⟩:=g4 q _ hq (by omega) (by omega) v2 (EV (by omega) t2)
     have e1:e-1=j+3+q.fmt.length:=by omega
     exact ⟨r2,rfl,w1,by rw [e1]; exact w2,by rw [e1]; exact t2,by omega⟩
    rcases g3 with rfl | ⟨e2,rfl,g5,g6,g7⟩
    ·have q2:((-1:Int)<0)=True:=eq_true (by omega)
     refine AE Bo A9 (of_decide_eq_true rfl) ?_
     simp (disch:=omega) only [Bh,go_sem,Ab,h1,q1,s5,s6,s7,hR2,q2,Ar,Aq]
     refine ⟨_,rfl,Fm.zero,-1,rfl,.inl rfl,fun op p q e ho hp hq he hie h=>?_⟩
     have:=(fin op p q e ho hp hq he hie h).2.2.2.1
     omega
    ·have q2:((e2:Int)<0)=False:=eq_false (by omega)
     have hen:((e2:Nat):Int).toNat=e2:=zU e2
     by_cases he2:e2=s.size
     ·have q3:((e2:Int)=(s.size:Int))=True:=eq_true (by omega)
      refine AE Bo A9 (of_decide_eq_true rfl) ?_
      simp (disch:=omega) only [Bh,go_sem,Ab,h1,q1,s5,s6,s7,hR2,q2,q3,Ar,Aq]
      refine ⟨_,rfl,Fm.zero,-1,rfl,.inl rfl,fun op p q e ho hp hq he hie h=>?_⟩
      obtain ⟨_,_,_,z1,z2,z3⟩:=fin op p q e ho hp hq he hie h
      omega
     ·have q3:((e2:Int)=(s.size:Int))=False:=eq_false (by omega)
      have hlt2:e2<s.size:=by omega
      by_cases hb:Ay s e2=41
      ·have q4:(Ay s e2=41)=True:=eq_true hb
       refine AE Bo A9 (of_decide_eq_true rfl) ?_
       simp (disch:=omega) only [Bh,go_sem,Ab,h1,q1,s5,s6,s7,hR2,q2,q3,q4,hen,Ar,Aq]
       refine ⟨_,rfl,.mk 6 Tm.zero ⟨#[]⟩ [x,y],(e2:Int)+1,by rw [hx],.inr ⟨e2+1,by omega,by omega,by rw [IA]; omega,LB ht g7⟩,fun op p q e ho hp hq he hie h=>?_⟩
       obtain ⟨z0,z1,z2,z3,_,z4⟩:=fin op p q e ho hp hq he hie h
       exact ⟨by rw [z0,z1,z2],by omega⟩
      ·have q4:(Ay s e2=41)=False:=eq_false hb
       refine AE Bo A9 (of_decide_eq_true rfl) ?_
       simp (disch:=omega) only [Bh,go_sem,Ab,h1,q1,s5,s6,s7,hR2,q2,q3,q4,hen,Ar,Aq]
       refine ⟨_,rfl,Fm.zero,-1,rfl,.inl rfl,fun op p q e ho hp hq he hie h=>?_⟩
       obtain ⟨z0,z1,z2,z3,z5,z4⟩:=fin op p q e ho hp hq he hie h
       have:e2=e-1:=by omega
       rw [this] at hb
       exact absurd z5 hb
   | false =>
    rw [hh6] at s6
    cases hh7:hasB s j (sgB 7) with
    | true =>
     rw [hh7] at s7
     have hh:hasB s j (sgB 7)=true:=hh7
     have hz:=((AO j1).1 hh).1
     have hz:j+4≤s.size:=hz
     obtain ⟨out,hR2,y,k2,rfl,g3,g4⟩:=ihR (j+4) (by omega) hz
     have hcs:((j+4:Nat):Int)=(j:Int)+4:=by omega
     rw [hcs] at hR2
     have hx:=PN 7 ⟨#[]⟩ x y
     have fin:∀ (op:Int) (p q:Fm) (e:Nat),(op=5∨op=6∨op=7)→p.forms=true→q.forms=true→e≤s.size→i≤e→seg s i e=40 :: (p.fmt++(sgn op++(q.fmt++[41])))→x=p∧op=7∧y=q∧k2=((e-1:Nat):Int)∧Ay s (e-1)=41∧1≤e:=fun op p q e ho hp hq he hie h=>by
      obtain ⟨r1,r2,r3,r4,r5⟩:=lead op p q e ho hp hq he hie h
      have hjj:(j:Int)=(r1:Int):=hk.symm.trans r3
      obtain rfl:j=r1:=by omega
      obtain rfl:=Hy ho (by omega) j1 r4 hh
      obtain ⟨u0,u2,u3⟩:=r5
      have u0:j+4≤e:=u0
      have u2:seg s (j+4) e=q.fmt++[41]:=u2
      obtain ⟨v1,v2,v3⟩:=AV u2 he u0
      obtain ⟨t1,t2,t3⟩:=Ax v3 he
      have hl:=congrArg zZ t3
      rw [BT he] at hl
      have hl:e-(j+4+q.fmt.length+1)=0:=hl
      obtain ⟨w1,w2⟩:=g4 q _ hq (by omega) (by omega) v2 (EV (by omega) t2)
      have e1:e-1=j+4+q.fmt.length:=by omega
      exact ⟨r2,rfl,w1,by rw [e1]; exact w2,by rw [e1]; exact t2,by omega⟩
     rcases g3 with rfl | ⟨e2,rfl,g5,g6,g7⟩
     ·have q2:((-1:Int)<0)=True:=eq_true (by omega)
      refine AE Bo A9 (of_decide_eq_true rfl) ?_
      simp (disch:=omega) only [Bh,go_sem,Ab,h1,q1,s5,s6,s7,hR2,q2,Ar,Aq]
      refine ⟨_,rfl,Fm.zero,-1,rfl,.inl rfl,fun op p q e ho hp hq he hie h=>?_⟩
      have:=(fin op p q e ho hp hq he hie h).2.2.2.1
      omega
     ·have q2:((e2:Int)<0)=False:=eq_false (by omega)
      have hen:((e2:Nat):Int).toNat=e2:=zU e2
      by_cases he2:e2=s.size
      ·have q3:((e2:Int)=(s.size:Int))=True:=eq_true (by omega)
       refine AE Bo A9 (of_decide_eq_true rfl) ?_
       simp (disch:=omega) only [Bh,go_sem,Ab,h1,q1,s5,s6,s7,hR2,q2,q3,Ar,Aq]
       refine ⟨_,rfl,Fm.zero,-1,rfl,.inl rfl,fun op p q e ho hp hq he hie h=>?_⟩
       obtain ⟨_,_,_,z1,z2,z3⟩:=fin op p q e ho hp hq he hie h
       omega
      ·have q3:((e2:Int)=(s.size:Int))=False:=eq_false (by omega)
       have hlt2:e2<s.size:=by omega
       by_cases hb:Ay s e2=41
       ·have q4:(Ay s e2=41)=True:=eq_true hb
        refine AE Bo A9 (of_decide_eq_true rfl) ?_
        simp (disch:=omega) only [Bh,go_sem,Ab,h1,q1,s5,s6,s7,hR2,q2,q3,q4,hen,Ar,Aq]
        refine ⟨_,rfl,.mk 7 Tm.zero ⟨#[]⟩ [x,y],(e2:Int)+1,by rw [hx],.inr ⟨e2+1,by omega,by omega,by rw [IA]; omega,LB ht g7⟩,fun op p q e ho hp hq he hie h=>?_⟩
        obtain ⟨z0,z1,z2,z3,_,z4⟩:=fin op p q e ho hp hq he hie h
        exact ⟨by rw [z0,z1,z2],by omega⟩
       ·have q4:(Ay s e2=41)=False:=eq_false hb
        refine AE Bo A9 (of_decide_eq_true rfl) ?_
        simp (disch:=omega) only [Bh,go_sem,Ab,h1,q1,s5,s6,s7,hR2,q2,q3,q4,hen,Ar,Aq]
        refine ⟨_,rfl,Fm.zero,-1,rfl,.inl rfl,fun op p q e ho hp hq he hie h=>?_⟩
        obtain ⟨z0,z1,z2,z3,z5,z4⟩:=fin op p q e ho hp hq he hie h
        have:e2=e-1:=by omega
        rw [this] at hb
        exact absurd z5 hb
    | false =>
     rw [hh7] at s7
     refine AE Bo A9 (of_decide_eq_true rfl) ?_
     simp (disch:=omega) only [Bh,go_sem,Ab,h1,q1,s5,s6,s7,Ar,Aq]
     refine ⟨_,rfl,Fm.zero,-1,rfl,.inl rfl,fun op p q e ho hp hq he hie h=>?_⟩
     obtain ⟨r,_,hj,hb,_⟩:=lead op p q e ho hp hq he hie h
     obtain rfl:j=r:=by omega
     rcases ho with rfl | rfl | rfl
     ·rw [hh5] at hb; cases hb
     ·rw [hh6] at hb; cases hb
     ·rw [hh7] at hb; cases hb
theorem OkK.back {s:ByteArray} {i i':Nat} {x:Fm} {k:Int} (h:OkK s i' x k) (hi:i≤i'):OkK s i x k:=by
 rcases h with h | ⟨e,h1,h2,h3,h4⟩
 ·exact .inl h
 ·exact .inr ⟨e,h1,h2,by omega,h4⟩
theorem Uj {s:ByteArray} {j e:Nat} {q:Fm} {op:Int} {r:List UInt8} (hq:q.forms=true) (he:e≤s.size) (hj:j≤e) (h:seg s j e=q.fmt++(sgn op++r)) {t:Tm} {e2:Nat} (hr:Ds ⟨#[32,61,32]⟩ s (s.size+1) j=some (t,e2)) (ht:t.name=⟨#[61]⟩):Ay s e2≠41:=by
 obtain ⟨u1,u2,u3⟩:=AV h he hj
 have hst:=JA u3 he
 obtain ⟨b,w,hsn,_⟩:=J9 op
 rw [hsn,zQ,zQ] at u3
 obtain ⟨c1,c2,_⟩:=Ax u3 he
 have hf:=Fm.AC hq
 have word:∀ (l:List UInt8) (c:UInt8) (r':List UInt8),l≠[]→l≠[61]→(∀ c∈l,Bt (c.toNat:Int)=true)→seg s j e=l++c :: r'→Bt (c.toNat:Int)=false→c≠40→hasB s (j+l.length) ⟨#[32,61,32]⟩=false→False:=fun l c r' hl hl2 hw hs hc hc2 hb=>by
  obtain ⟨v1,v2,v3⟩:=AV hs he hj
  obtain ⟨d1,d2,_⟩:=Ax v3 he
  have:=Gu hl hw v2 (by omega) (by omega) ⟨.inr ⟨by omega,by rw [d2]; exact hc,by rw [d2]; intro e; exact hc2 (UInt8.toNat_inj.1 (by exact_mod_cast e))⟩,hb⟩
  rw [hr] at this
  simp only [zG,zK] at this
  rw [this.1] at ht
  have h2:=congrArg ByteArray.toList ht
  have h3:(⟨#[61]⟩:ByteArray).toList=[61]:=Bi [61]
  rw [h3] at h2
  exact hl2 ((Bi l).symm.trans h2)
 have quant:∀ (l:List UInt8) (v:ByteArray) (p:Fm),(l=[97,108,108]∨l=[115,111,109,101])→CU v=true→q.fmt=(l++[32])++(v.toList++46 :: p.fmt)→False:=fun l v p hl hv hq=>by
  obtain ⟨wd1,wd2⟩:=Ja hv
  obtain ⟨c0,vr,hvc⟩:∃ c r,v.toList=c :: r:=by
   cases hv:v.toList with
   | nil=>exact absurd hv wd1
   | cons c r=>exact ⟨c,r,rfl⟩
  rw [hq,hvc] at h
  have h:seg s j e=l++32 :: (c0 :: vr++46 :: p.fmt++(sgn op++r)):=by rw [h]; simp
  refine word l 32 _ (by rcases hl with rfl | rfl <;> simp) (by rcases hl with rfl | rfl <;> simp) ?_ h (CK (.inr (.inr (.inr rfl)))) (by decide) ?_
  ·rcases hl with rfl | rfl
   ·intro c hc
    simp only [zV,zN,or_false] at hc
    rcases hc with rfl | rfl | rfl <;> exact Cs (by decide +kernel)
   ·intro c hc
    simp only [zV,zN,or_false] at hc
    rcases hc with rfl | rfl | rfl | rfl <;> exact Cs (by decide +kernel)
  ·obtain ⟨v1,v2,v3⟩:=AV h he hj
   obtain ⟨d1,d2,d3⟩:=Ax v3 he
   cases k:hasB s (j+l.length) ⟨#[32,61,32]⟩ with
   | false=>rfl
   | true =>
    obtain ⟨k1,k2⟩:=(AO (by omega)).1 k
    rw [ON] at k2
    have k1:j+l.length+3≤s.size:=k1
    obtain ⟨_,_,k3⟩:=Ax k2 k1
    obtain ⟨_,k4,_⟩:=Ax k3 k1
    obtain ⟨_,d4,_⟩:=Ax d3 he
    rw [d4] at k4
    have hwc:=wd2 c0 (by rw [hvc]; simp)
    rw [k4] at hwc
    have h2:Bt ((61:UInt8).toNat:Int)=false:=by
     unfold Bt
     have e:((61:UInt8).toNat:Int)=61:=rfl
     rw [e,An (p:=(97:Int)≤61) (by omega),An (p:=(65:Int)≤61) (by omega),An (p:=(61:Int)≤57) (by omega),An (p:=(61:Int)=95) (by omega)]
     simp
    rw [h2] at hwc; cases hwc
 have none:∀ (c:UInt8) (r':List UInt8),q.fmt=c :: r'→(c=126∨c=40)→False:=fun c r' hq hc=>by
  rw [hq,zQ] at h
  obtain ⟨d1,d2,_⟩:=Ax h he
  have hw:A3 s j=j:=CM fun ⟨_,k⟩=>by
   rw [d2] at k
   rcases hc with rfl | rfl
   ·have h2:Bt ((126:UInt8).toNat:Int)=false:=by
     unfold Bt
     have e:((126:UInt8).toNat:Int)=126:=rfl
     rw [e,An (p:=(126:Int)≤122) (by omega),An (p:=(126:Int)≤90) (by omega),An (p:=(126:Int)≤57) (by omega),An (p:=(126:Int)=95) (by omega)]
     simp
    rw [h2] at k; cases k
   ·have h2:Bt ((40:UInt8).toNat:Int)=false:=CK (.inl rfl)
    rw [h2] at k; cases k
  unfold Ds at hr
  rw [rd,hw,A1 rfl] at hr
  cases hr
 rcases Fm.Fs hf with ho | ho | ho | ho | ho | ho | ho | ho | ho
 ·have e0:=Fm.Ca hf (.inl ho)
  rw [ho] at e0
  have hq2:q.fmt=bTrue:=by rw [e0,MZ]
  exfalso
  rw [hq2,hsn] at h
  refine word bTrue 32 _ (by decide) (by decide) (fun c hc=>by
   simp only [bTrue,zV,zN,or_false] at hc
   rcases hc with rfl | rfl | rfl | rfl <;> exact Cs (by decide +kernel)) (by rw [h]; rfl) (CK (.inr (.inr (.inr rfl)))) (by decide) ?_
  have:=hst.2
  rwa [hq2] at this
 ·have e0:=Fm.Ca hf (.inr ho)
  rw [ho] at e0
  have hq2:q.fmt=bFalse:=by rw [e0,Na]
  exfalso
  rw [hq2,hsn] at h
  refine word bFalse 32 _ (by decide) (by decide) (fun c hc=>by
   simp only [bFalse,zV,zN,or_false] at hc
   rcases hc with rfl | rfl | rfl | rfl | rfl <;> exact Cs (by decide +kernel)) (by rw [h]; rfl) (CK (.inr (.inr (.inr rfl)))) (by decide) ?_
  have:=hst.2
  rwa [hq2] at this
 ·obtain ⟨_,hat,_⟩:=Fm.Dc hf ho
  have e0:q.fmt=q.atom.fmtA:=by
   obtain ⟨op,a,v,ps⟩:=q
   have ho:op=3:=ho
   subst ho
   exact L1 a v ps
  have h0:q.fmt.length=q.atom.fmtA.length:=by rw [e0]
  rw [e0] at u2
  obtain ⟨z,_⟩:=Hu hat u2 (by omega) (by omega) (by rw [←h0]; exact hst)
  rw [hr] at z
  simp only [zG,zK] at z
  rw [z.2,← h0,c2]
  decide
 ·obtain ⟨p,e0⟩:=Fm.E3 hf ho
  exfalso
  have hr2:∃ r,q.fmt=126 :: r:=by
   rw [e0,Kg]
   cases p.atom.eqn with
   | true=>exact ⟨_,rfl⟩
   | false=>exact ⟨_,rfl⟩
  obtain ⟨r2,hr2⟩:=hr2
  exact none 126 r2 hr2 (.inl rfl)
 iterate 3
  ·obtain ⟨p,p2,e0⟩:=Fm.CL hf (by omega)
   exfalso
   exact none 40 _ (by rw [e0,L2 (by omega)]) (.inr rfl)
 ·obtain ⟨p,e0⟩:=Fm.DM hf (.inl ho)
  have hv:=(Fm.BM hf (by unfold qB; rw [ho,A1 rfl]; rfl)).1
  rw [ho] at e0
  exfalso
  exact quant [97,108,108] q.var p (.inl rfl) hv (by rw [e0]; exact Nb _ _ _)
 ·obtain ⟨p,e0⟩:=Fm.DM hf (.inr ho)
  have hv:=(Fm.BM hf (by unfold qB; rw [ho,A1 (p:=(9:Int)=9) rfl,zS])).1
  rw [ho] at e0
  exfalso
  exact quant [115,111,109,101] q.var p (.inr rfl) hv (by rw [e0]; exact Nc _ _ _)
theorem Uy:(⟨#[126,40]⟩:ByteArray).toList=[126,40]:=Bi [126,40]
theorem ST {s:ByteArray} {i:Nat} (hi:i≤s.size) (h:hasB s i ⟨#[126,40]⟩=true):i+2≤s.size∧Ay s i=126∧Ay s (i+1)=40:=by
 obtain ⟨h1,h2⟩:=(AO hi).1 h
 rw [Uy] at h2
 have h1:i+2≤s.size:=h1
 obtain ⟨_,k1,k2⟩:=Ax h2 h1
 obtain ⟨_,k3,_⟩:=Ax k2 h1
 exact ⟨h1,k1,k3⟩
theorem Rq (s:ByteArray) (hs:s.size≤1048576) (i:Nat) (hi:i≤s.size) (ihR:∀ i',i<i'→i'≤s.size→∃ out,E 19 [.str s,.int .i64 (i':Int)] []=some out∧SS s i' out)
  (ihQ:∀ i',i<i'→i'≤s.size→∀ op,∃ out,E 47 [.str s,.int .i64 (i':Int),.int .i64 op] []=some out∧VK s i' op out)
  (ihP:∀ i',i≤i'→i'+1≤s.size→∃ out,E 49 [.str s,.int .i64 (i':Int)] []=some out∧VL s i' out):∃ out,E 19 [.str s,.int .i64 (i:Int)] []=some out∧SS s i out:=by
 have a1:=C0 s i ⟨#[97,108,108,32]⟩ hs hi (by show 4≤1000; omega)
 have a2:=C0 s i ⟨#[115,111,109,101,32]⟩ hs hi (by show 5≤1000; omega)
 have a3:=C0 s i ⟨#[126,40]⟩ hs hi (by show 2≤1000; omega)
 have a4:=C0 s i ⟨#[126]⟩ hs hi (by show 1≤1000; omega)
 have a5:=C0 s i ⟨#[40]⟩ hs hi (by show 1≤1000; omega)
 cases hA:hasB s i ⟨#[97,108,108,32]⟩ with
 | true =>
  rw [hA] at a1
  have hz:i+4≤s.size:=((AO hi).1 hA).1
  obtain ⟨out,hQ,x,k,rfl,g1,g2⟩:=ihQ (i+4) (by omega) hz 8
  have hcs:((i+4:Nat):Int)=(i:Int)+4:=by omega
  rw [hcs] at hQ
  refine AE BJ Aq (of_decide_eq_true rfl) ?_
  simp (disch:=omega) only [BA,go_sem,Ab,a1,hQ,Ar,Aq,AT,A9,AM]
  refine ⟨_,rfl,x,k,rfl,g1.back (by omega),fun f e hf he hie hsg hst=>?_⟩
  have hl:=(D1 hf hsg he hie hst).1
  rw [hA] at hl
  have ho:f.op=8:=At.1 hl.symm
  obtain ⟨p0,e0⟩:=Fm.DM (Fm.AC hf) (by omega)
  have hvv:=(Fm.BM (Fm.AC hf) (by unfold qB; rw [ho]; first | rw [A1 rfl]; rfl | rw [A1 (p:=(9:Int)=9) rfl,zS])).1
  rw [ho] at e0
  have hp0:p0.forms=true:=Fm.Bk hf (by rw [e0]; exact zM.2 rfl)
  have hfm:f.fmt=OM++(f.var.toList++46 :: p0.fmt):=by rw [e0]; exact Nb _ _ _
  rw [hfm] at hsg
  obtain ⟨s1,s2,s3⟩:=AV hsg he hie
  obtain ⟨r1,r2⟩:=g2 f.var p0 e hvv hp0 he s1 s3 hst
  exact ⟨by rw [e0]; exact r1,r2⟩
 | false =>
  rw [hA] at a1
  cases hS:hasB s i ⟨#[115,111,109,101,32]⟩ with
  | true =>
   rw [hS] at a2
   have hz:i+5≤s.size:=((AO hi).1 hS).1
   obtain ⟨out,hQ,x,k,rfl,g1,g2⟩:=ihQ (i+5) (by omega) hz 9
   have hcs:((i+5:Nat):Int)=(i:Int)+5:=by omega
   rw [hcs] at hQ
   refine AE BJ Aq (of_decide_eq_true rfl) ?_
   simp (disch:=omega) only [BA,go_sem,Ab,a1,a2,hQ,Ar,Aq,AT,A9,AM]
   refine ⟨_,rfl,x,k,rfl,g1.back (by omega),fun f e hf he hie hsg hst=>?_⟩
   have hl:=(D1 hf hsg he hie hst).2.1
   rw [hS] at hl
   have ho:f.op=9:=At.1 hl.symm
   obtain ⟨p0,e0⟩:=Fm.DM (Fm.AC hf) (by omega)
   have hvv:=(Fm.BM (Fm.AC hf) (by unfold qB; rw [ho]; first | rw [A1 rfl]; rfl | rw [A1 (p:=(9:Int)=9) rfl,zS])).1
   rw [ho] at e0
   have hp0:p0.forms=true:=Fm.Bk hf (by rw [e0]; exact zM.2 rfl)
   have hfm:f.fmt=Kf++(f.var.toList++46 :: p0.fmt):=by rw [e0]; exact Nc _ _ _
   rw [hfm] at hsg
   obtain ⟨s1,s2,s3⟩:=AV hsg he hie
   obtain ⟨r1,r2⟩:=g2 f.var p0 e hvv hp0 he s1 s3 hst
   exact ⟨by rw [e0]; exact r1,r2⟩
  | false =>
   rw [hS] at a2
   cases hNP:hasB s i ⟨#[126,40]⟩ with
   | true =>
    rw [hNP] at a3
    obtain ⟨z1,z2,z3⟩:=ST hi hNP
    have neg:∀ (f:Fm) (e:Nat),f.forms=true→e≤s.size→i≤e→seg s i e=f.fmt→GH s e→∃ p0,f=.mk 4 Tm.zero ⟨#[]⟩ [p0]∧p0.forms=true∧((p0.atom.eqn=true∧i+2≤e∧seg s (i+2) e=p0.fmt++[41])∨∃ op q1 q2,(op=5∨op=6∨op=7)∧q1.forms=true∧q2.forms=true∧p0=.mk op Tm.zero ⟨#[]⟩ [q1,q2]∧seg s (i+1) e=40 :: (q1.fmt++(sgn op++(q2.fmt++[41])))):=fun f e hf he hie hsg hst=>by
     have hl:=(D1 hf hsg he hie hst).2.2.1
     have hNt:hasB s i ⟨#[126]⟩=true:=by
      rw [E1 hi]
      exact Bp.2 ⟨by omega,z2⟩
     rw [hNt] at hl
     obtain ⟨p0,e0⟩:=Fm.E3 (Fm.AC hf) (At.1 hl.symm)
     have hp0:p0.forms=true:=Fm.Bk hf (by rw [e0]; exact zM.2 rfl)
     refine ⟨p0,e0,hp0,?_⟩
     rw [e0,Kg] at hsg
     cases hq:p0.atom.eqn with
     | true =>
      rw [hq,cond_true] at hsg
      obtain ⟨t1,_,t3⟩:=Ax hsg he
      obtain ⟨t4,_,t5⟩:=Ax t3 he
      exact .inl ⟨rfl,t4,t5⟩
     | false =>
      rw [hq,cond_false] at hsg
      obtain ⟨t1,_,t3⟩:=Ax hsg he
      right
      have hl2:=(D1 hp0 t3 he t1 hst).2.2.2
      have hPt:hasB s (i+1) ⟨#[40]⟩=true:=by
       rw [E1 (by omega)]
       exact Bp.2 ⟨by omega,z3⟩
      rw [hPt] at hl2
      have ho:=At.1 hl2.symm
      obtain ⟨q1,q2,e1⟩:=Fm.CL (Fm.AC hp0) ho
      have hq1:q1.forms=true:=Fm.Bk hp0 (by rw [e1]; simp [Fm.parts])
      have hq2:q2.forms=true:=Fm.Bk hp0 (by rw [e1]; simp [Fm.parts])
      refine ⟨p0.op,q1,q2,ho,hq1,hq2,e1,?_⟩
      rw [e1,L2 ho] at t3
      exact t3
    obtain ⟨out,hSi,x,k,rfl,g1⟩:=LA s hs (i+2) z1
    have hcs2:((i+2:Nat):Int)=(i:Int)+2:=by omega
    rw [hcs2] at hSi
    have eqr:∀ (p0:Fm) (e:Nat),p0.forms=true→p0.atom.eqn=true→e≤s.size→i+2≤e→seg s (i+2) e=p0.fmt++[41]→p0.op=3∧Ds ⟨#[32,61,32]⟩ s (s.size+1) (i+2)=some (p0.atom,e-1)∧1≤e∧Ay s (e-1)=41∧e-1<s.size∧p0=.mk 3 p0.atom ⟨#[]⟩ []∧DP p0.atom=p0:=fun p0 e hp0 hq he h2 hsg=>by
     have hpf:=Fm.AC hp0
     have hn1:p0.atom.name=⟨#[61]⟩:=by unfold Tm.eqn at hq; exact At.1 hq
     have ho3:p0.op=3:=by
      rcases Classical.em (p0.op=3) with h | h
      ·exact h
      ·rw [Fm.D9 hpf h] at hn1
       exact absurd hn1 (by simp [Tm.name])
     obtain ⟨hpp,hat,hvv⟩:=Fm.Dc hpf ho3
     have e0:p0=.mk 3 p0.atom ⟨#[]⟩ []:=by
      obtain ⟨op,a,v,ps⟩:=p0
      have ho3:op=3:=ho3
      have hpp:ps=[]:=hpp
      have hvv:v=⟨#[]⟩:=hvv
      subst ho3 hpp hvv
      rfl
     have e1:p0.fmt=p0.atom.fmtA:=by
      have:=L1 p0.atom ⟨#[]⟩ []
      rwa [←e0] at this
     obtain ⟨v1,v2,v3⟩:=AV hsg he h2
     obtain ⟨c1,c2,c3⟩:=Ax v3 he
     have hl:=congrArg zZ c3
     rw [BT he] at hl
     have hl:e-(i+2+p0.fmt.length+1)=0:=hl
     have hee:e-1=i+2+p0.fmt.length:=by omega
     have hst:=EV (s:=s) (e:=i+2+p0.fmt.length) (by omega) c2
     rw [e1] at v2
     have hrd:=(Hu hat (e:=i+2+p0.fmt.length) (by rw [←v2,e1]) (by omega) (by omega) hst).1
     refine ⟨ho3,by rw [hee]; exact hrd,by omega,by rw [hee]; exact c2,by omega,e0,?_⟩
     have ht:p0.atom.name≠⟨#[116,114,117,101]⟩:=by rw [hn1]; simp
     have hf:p0.atom.name≠⟨#[102,97,108,115,101]⟩:=by rw [hn1]; simp
     unfold DP
     rw [if_neg (fun h=>ht h.2),if_neg (fun h=>hf h.2)]
     exact e0.symm
    cases hr:Ds ⟨#[32,61,32]⟩ s (s.size+1) (i+2) with
    | none =>
     rw [hr] at g1
     have g1:k=-1:=g1
     subst g1
     have qk:((0:Int)≤-1)=False:=eq_false (by omega)
     have noeq:∀ (p0:Fm) (e:Nat),p0.forms=true→p0.atom.eqn=true→e≤s.size→i+2≤e→seg s (i+2) e=p0.fmt++[41]→False:=fun p0 e hp0 hq he h1 h2=>by
      have:=(eqr p0 e hp0 hq he h1 h2).2.1
      rw [hr] at this; cases this
     obtain ⟨out,hPr,y,k2,rfl,g3,g4⟩:=ihP (i+1) (by omega) (by omega)
     have hcs1:((i+1:Nat):Int)=(i:Int)+1:=by omega
     rw [hcs1] at hPr
     have hx1:=I9 4 ⟨#[]⟩ y
     refine AE BJ Aq (of_decide_eq_true rfl) ?_
     simp (disch:=omega) only [BA,go_sem,Ab,a1,a2,a3,hSi,qk,hPr,Ar,Aq,AT,A9,AM]
     refine ⟨_,rfl,.mk 4 Tm.zero ⟨#[]⟩ [y],k2,by rw [hx1],?_,fun f e hf he hie hsg hst=>?_⟩
     ·rcases g3 with g3 | ⟨e,g3,g5,g6,g7⟩
      ·exact .inl g3
      ·exact .inr ⟨e,g3,g5,by rw [Ek]; omega,Fv g7⟩
     ·obtain ⟨p0,e0,hp0,hpar⟩:=neg f e hf he hie hsg hst
      rcases hpar with ⟨hq,h1,h2⟩ | ⟨op,q1,q2,ho,hq1,hq2,e1,h1⟩
      ·exact (noeq p0 e hp0 hq he h1 h2).elim
      ·obtain ⟨r1,r2⟩:=g4 op q1 q2 e ho hq1 hq2 he (by have:=(Ax h1 he).1; omega) h1
       exact ⟨by rw [e0,r1,e1],r2⟩
    | some q =>
     obtain ⟨t,e1⟩:=q
     rw [hr] at g1
     obtain ⟨rfl,rfl⟩:=g1
     have hre:e1≤s.size∧i+2<e1∧t.nodes≤2*s.size+1:=by
      have hn:=Ht hr PF
      refine ⟨?_,?_,hn⟩
      ·unfold Ds at hr
       cases h1:rd s (s.size+1) (i+2) with
       | none=>rw [h1] at hr; cases hr
       | some q =>
        obtain ⟨a,e0⟩:=q
        have r1:=GG _ _ _ _ z1 h1
        rw [h1] at hr
        simp only at hr
        cases hh:hasB s e0 ⟨#[32,61,32]⟩ with
        | false=>rw [hh] at hr; simp only [cond_false,zG,zK] at hr; omega
        | true =>
         have hz:=((AO r1.2.1).1 hh).1
         rw [hh] at hr
         simp only [cond_true] at hr
         cases h2:rd s (s.size+1) (e0+(⟨#[32,61,32]⟩:ByteArray).size) with
         | none=>rw [h2] at hr; cases hr
         | some q =>
          obtain ⟨b,e2⟩:=q
          have r2:=GG _ _ _ _ hz h2
          rw [h2] at hr
          simp only [zG,zK] at hr
          omega
      ·unfold Ds at hr
       cases h1:rd s (s.size+1) (i+2) with
       | none=>rw [h1] at hr; cases hr
       | some q =>
        obtain ⟨a,e0⟩:=q
        have r1:=GG _ _ _ _ z1 h1
        rw [h1] at hr
        simp only at hr
        cases hh:hasB s e0 ⟨#[32,61,32]⟩ with
        | false=>rw [hh] at hr; simp only [cond_false,zG,zK] at hr; omega
        | true =>
         have hz:=((AO r1.2.1).1 hh).1
         rw [hh] at hr
         simp only [cond_true] at hr
         cases h2:rd s (s.size+1) (e0+(⟨#[32,61,32]⟩:ByteArray).size) with
         | none=>rw [h2] at hr; cases hr
         | some q =>
          obtain ⟨b,e2⟩:=q
          have r2:=GG _ _ _ _ hz h2
          rw [h2] at hr
          simp only [zG,zK] at hr
          omega
     have qk:((0:Int)≤(e1:Int))=True:=eq_true (by omega)
     have a6:=C0 s e1 ⟨#[41]⟩ hs hre.1 (by show 1≤1000; omega)
     by_cases hall:(DP t).op=3∧(DP t).atom.name=⟨#[61]⟩∧hasB s e1 ⟨#[41]⟩=true
     ·obtain ⟨b1,b2,b3⟩:=hall
      have q3:((DP t).op=3)=True:=eq_true b1
      have q4:((DP t).atom.name=⟨#[61]⟩)=True:=eq_true b2
      rw [b3] at a6
      have hz1:=((AO hre.1).1 b3).1
      have hz1:e1+1≤s.size:=hz1
      have htn:t.name=⟨#[61]⟩∧DP t=.mk 3 t ⟨#[]⟩ []:=by
       unfold DP at b1 b2 ⊢
       split at b1
       ·exact absurd b1 (by show ¬ (1:Int)=3; omega)
       ·split at b1
        ·exact absurd b1 (by show ¬ (2:Int)=3; omega)
        ·rename_i h1 h2
         rw [if_neg h1,if_neg h2] at b2 ⊢
         exact ⟨b2,rfl⟩
      have hx1:=I9 4 ⟨#[]⟩ (DP t)
      generalize hxx:DP t=x at *
      refine AE BJ Aq (of_decide_eq_true rfl) ?_
      simp (disch:=omega) only [BA,go_sem,Ab,a1,a2,a3,hSi,qk,q3,q4,a6,Ar,Aq,AT,A9,AM]
      refine ⟨_,rfl,.mk 4 Tm.zero ⟨#[]⟩ [x],(e1:Int)+1,by rw [hx1],.inr ⟨e1+1,by omega,hz1,?_,?_⟩,fun f e hf he hie hsg hst=>?_⟩
      ·rw [Ek,htn.2,Fm.nodes_eq]
       show 1+(1+Fm.nodeS [])+i≤_
       rw [Fm.nodeS]; omega
      ·refine Fv ?_
       rw [htn.2,Fm.DL]
       refine ⟨by show t.nodes≤_; omega,?_⟩
       show Fm.Co []
       rw [Fm.Co]; trivial
      ·obtain ⟨p0,e0,hp0,hpar⟩:=neg f e hf he hie hsg hst
       rcases hpar with ⟨hq,h1,h2⟩ | ⟨op,q1,q2,ho,hq1,hq2,e2,h1⟩
       ·obtain ⟨_,w1,w2,_,_,_,w3⟩:=eqr p0 e hp0 hq he h1 h2
        rw [hr] at w1
        simp only [zG,zK] at w1
        rw [←w1.1,hxx] at w3
        exact ⟨by rw [e0,w3],by omega⟩
       ·obtain ⟨t1,_,t3⟩:=Ax h1 he
        have:=Uj hq1 he t1 t3 hr htn.1
        exact absurd (EO NE hre.1 b3).2 this
     ·have noeq:∀ (p0:Fm) (e:Nat),p0.forms=true→p0.atom.eqn=true→e≤s.size→i+2≤e→seg s (i+2) e=p0.fmt++[41]→False:=fun p0 e hp0 hq he h1 h2=>by
       obtain ⟨w0,w1,w2,w4,w5,_,w3⟩:=eqr p0 e hp0 hq he h1 h2
       rw [hr] at w1
       simp only [zG,zK] at w1
       refine hall ⟨?_,?_,?_⟩
       ·rw [w1.1,w3]; exact w0
       ·rw [w1.1,w3]; unfold Tm.eqn at hq; exact At.1 hq
       ·rw [w1.2,E1 (by omega)]
        exact Bp.2 ⟨w5,w4⟩
      by_cases b1:(DP t).op=3
      ·have q3:((DP t).op=3)=True:=eq_true b1
       by_cases b2:(DP t).atom.name=⟨#[61]⟩
       ·have q4:((DP t).atom.name=⟨#[61]⟩)=True:=eq_true b2
        have b3:hasB s e1 ⟨#[41]⟩=false:=by
         cases h:hasB s e1 ⟨#[41]⟩ with
         | false=>rfl
         | true=>exact absurd ⟨b1,b2,h⟩ hall
        rw [b3] at a6
        generalize hxx:DP t=x at *
        obtain ⟨out,hPr,y,k2,rfl,g3,g4⟩:=ihP (i+1) (by omega) (by omega)
        have hcs1:((i+1:Nat):Int)=(i:Int)+1:=by omega
        rw [hcs1] at hPr
        have hx1:=I9 4 ⟨#[]⟩ y
        refine AE BJ Aq (of_decide_eq_true rfl) ?_
        simp (disch:=omega) only [BA,go_sem,Ab,a1,a2,a3,hSi,qk,q3,q4,a6,hPr,Ar,Aq,AT,A9,AM]
        refine ⟨_,rfl,.mk 4 Tm.zero ⟨#[]⟩ [y],k2,by rw [hx1],?_,fun f e hf he hie hsg hst=>?_⟩
        ·rcases g3 with g3 | ⟨e,g3,g5,g6,g7⟩
         ·exact .inl g3
         ·exact .inr ⟨e,g3,g5,by rw [Ek]; omega,Fv g7⟩
        ·obtain ⟨p0,e0,hp0,hpar⟩:=neg f e hf he hie hsg hst
         rcases hpar with ⟨hq,h1,h2⟩ | ⟨op,q1,q2,ho,hq1,hq2,e1,h1⟩
         ·exact (noeq p0 e hp0 hq he h1 h2).elim
         ·obtain ⟨r1,r2⟩:=g4 op q1 q2 e ho hq1 hq2 he (by have:=(Ax h1 he).1; omega) h1
          exact ⟨by rw [e0,r1,e1],r2⟩
       ·have q4:((DP t).atom.name=⟨#[61]⟩)=False:=eq_false b2
        generalize hxx:DP t=x at *
        obtain ⟨out,hPr,y,k2,rfl,g3,g4⟩:=ihP (i+1) (by omega) (by omega)
        have hcs1:((i+1:Nat):Int)=(i:Int)+1:=by omega
        rw [hcs1] at hPr
        have hx1:=I9 4 ⟨#[]⟩ y
        refine AE BJ Aq (of_decide_eq_true rfl) ?_
        simp (disch:=omega) only [BA,go_sem,Ab,a1,a2,a3,hSi,qk,q3,q4,hPr,Ar,Aq,AT,A9,AM]
        refine ⟨_,rfl,.mk 4 Tm.zero ⟨#[]⟩ [y],k2,by rw [hx1],?_,fun f e hf he hie hsg hst=>?_⟩
        ·rcases g3 with g3 | ⟨e,g3,g5,g6,g7⟩
         ·exact .inl g3
         ·exact .inr ⟨e,g3,g5,by rw [Ek]; omega,Fv g7⟩
        ·obtain ⟨p0,e0,hp0,hpar⟩:=neg f e hf he hie hsg hst
         rcases hpar with ⟨hq,h1,h2⟩ | ⟨op,q1,q2,ho,hq1,hq2,e1,h1⟩
         ·exact (noeq p0 e hp0 hq he h1 h2).elim
         ·obtain ⟨r1,r2⟩:=g4 op q1 q2 e ho hq1 hq2 he (by have:=(Ax h1 he).1; omega) h1
          exact ⟨by rw [e0,r1,e1],r2⟩
      ·have q3:((DP t).op=3)=False:=eq_false b1
       generalize hxx:DP t=x at *
       obtain ⟨out,hPr,y,k2,rfl,g3,g4⟩:=ihP (i+1) (by omega) (by omega)
       have hcs1:((i+1:Nat):Int)=(i:Int)+1:=by omega
       rw [hcs1] at hPr
       have hx1:=I9 4 ⟨#[]⟩ y
       refine AE BJ Aq (of_decide_eq_true rfl) ?_
       simp (disch:=omega) only [BA,go_sem,Ab,a1,a2,a3,hSi,qk,q3,hPr,Ar,Aq,AT,A9,AM]
       refine ⟨_,rfl,.mk 4 Tm.zero ⟨#[]⟩ [y],k2,by rw [hx1],?_,fun f e hf he hie hsg hst=>?_⟩
       ·rcases g3 with g3 | ⟨e,g3,g5,g6,g7⟩
        ·exact .inl g3
        ·exact .inr ⟨e,g3,g5,by rw [Ek]; omega,Fv g7⟩
       ·obtain ⟨p0,e0,hp0,hpar⟩:=neg f e hf he hie hsg hst
        rcases hpar with ⟨hq,h1,h2⟩ | ⟨op,q1,q2,ho,hq1,hq2,e1,h1⟩
        ·exact (noeq p0 e hp0 hq he h1 h2).elim
        ·obtain ⟨r1,r2⟩:=g4 op q1 q2 e ho hq1 hq2 he (by have:=(Ax h1 he).1; omega) h1
         exact ⟨by rw [e0,r1,e1],r2⟩
   | false =>
    rw [hNP] at a3
    cases hN:hasB s i ⟨#[126]⟩ with
    | true =>
     rw [hN] at a4
     have hz:i+1≤s.size:=((AO hi).1 hN).1
     obtain ⟨out,hR,y,k2,rfl,g3,g4⟩:=ihR (i+1) (by omega) hz
     have hcs1:((i+1:Nat):Int)=(i:Int)+1:=by omega
     rw [hcs1] at hR
     have hx1:=I9 4 ⟨#[]⟩ y
     refine AE BJ Aq (of_decide_eq_true rfl) ?_
     simp (disch:=omega) only [BA,go_sem,Ab,a1,a2,a3,a4,hR,Ar,Aq,AT,A9,AM]
     refine ⟨_,rfl,.mk 4 Tm.zero ⟨#[]⟩ [y],k2,by rw [hx1],?_,fun f e hf he hie hsg hst=>?_⟩
     ·rcases g3 with g3 | ⟨e,g3,g5,g6,g7⟩
      ·exact .inl g3
      ·exact .inr ⟨e,g3,g5,by rw [Ek]; omega,Fv g7⟩
     ·have hl:=(D1 hf hsg he hie hst).2.2.1
      rw [hN] at hl
      obtain ⟨p0,e0⟩:=Fm.E3 (Fm.AC hf) (At.1 hl.symm)
      have hp0:p0.forms=true:=Fm.Bk hf (by rw [e0]; exact zM.2 rfl)
      rw [e0,Kg] at hsg
      cases hq:p0.atom.eqn with
      | true =>
       rw [hq,cond_true] at hsg
       have:hasB s i ⟨#[126,40]⟩=true:=D0 (r:=p0.fmt++[41]) (by rw [hsg,Uy]; rfl) he hie
       rw [hNP] at this; cases this
      | false =>
       rw [hq,cond_false] at hsg
       obtain ⟨t1,_,t3⟩:=Ax hsg he
       obtain ⟨r1,r2⟩:=g4 p0 e hp0 he t1 t3 hst
       exact ⟨by rw [e0,r1],r2⟩
    | false =>
     rw [hN] at a4
     cases hP:hasB s i ⟨#[40]⟩ with
     | true =>
      rw [hP] at a5
      have hz:i+1≤s.size:=((AO hi).1 hP).1
      obtain ⟨out,hPr,y,k2,rfl,g3,g4⟩:=ihP i (zP _) hz
      refine AE BJ Aq (of_decide_eq_true rfl) ?_
      simp (disch:=omega) only [BA,go_sem,Ab,a1,a2,a3,a4,a5,hPr,Ar,Aq,AT,A9,AM]
      refine ⟨_,rfl,y,k2,rfl,g3,fun f e hf he hie hsg hst=>?_⟩
      have hl:=(D1 hf hsg he hie hst).2.2.2
      rw [hP] at hl
      have ho:=At.1 hl.symm
      obtain ⟨p0,q0,e0⟩:=Fm.CL (Fm.AC hf) ho
      have hp0:p0.forms=true:=Fm.Bk hf (by rw [e0]; simp [Fm.parts])
      have hq0:q0.forms=true:=Fm.Bk hf (by rw [e0]; simp [Fm.parts])
      rw [e0,L2 ho] at hsg
      obtain ⟨r1,r2⟩:=g4 f.op p0 q0 e ho hp0 hq0 he hie hsg
      exact ⟨by rw [e0]; exact r1,r2⟩
     | false =>
      rw [hP] at a5
      obtain ⟨out,hSi,x,k,rfl,g1⟩:=LA s hs i hi
      refine AE BJ Aq (of_decide_eq_true rfl) ?_
      simp (disch:=omega) only [BA,go_sem,Ab,a1,a2,a3,a4,a5,hSi,Ar,Aq,AT,A9,AM]
      refine ⟨_,rfl,x,k,rfl,?_,fun f e hf he hie hsg hst=>?_⟩
      ·cases hr:Ds ⟨#[32,61,32]⟩ s (s.size+1) i with
       | none=>rw [hr] at g1; exact .inl g1
       | some q =>
        obtain ⟨t,e1⟩:=q
        have hn:=Ht hr PF
        rw [hr] at g1
        obtain ⟨rfl,rfl⟩:=g1
        have hre:e1≤s.size∧i<e1:=by
         unfold Ds at hr
         cases h1:rd s (s.size+1) i with
         | none=>rw [h1] at hr; cases hr
         | some q =>
          obtain ⟨a,e0⟩:=q
          have r1:=GG _ _ _ _ hi h1
          rw [h1] at hr
          simp only at hr
          cases hh:hasB s e0 ⟨#[32,61,32]⟩ with
          | false=>rw [hh] at hr; simp only [cond_false,zG,zK] at hr; omega
          | true =>
           have hz:=((AO r1.2.1).1 hh).1
           rw [hh] at hr
           simp only [cond_true] at hr
           cases h2:rd s (s.size+1) (e0+(⟨#[32,61,32]⟩:ByteArray).size) with
           | none=>rw [h2] at hr; cases hr
           | some q =>
            obtain ⟨b,e2⟩:=q
            have r2:=GG _ _ _ _ hz h2
            rw [h2] at hr
            simp only [zG,zK] at hr
            omega
        have hsn:(DP t).nodes=1∧(DP t).tame:=by
         have key:∀ (op:Int) (a:Tm),a.nodes≤1099511627776→(Fm.mk op a ⟨#[]⟩ []).nodes=1∧(Fm.mk op a ⟨#[]⟩ []).tame:=fun op a ha=>by
          refine ⟨by rw [Fm.nodes_eq]; show 1+Fm.nodeS []=1; rw [Fm.nodeS],?_⟩
          rw [Fm.DL]
          refine ⟨ha,?_⟩
          show Fm.Co []
          rw [Fm.Co]; trivial
         unfold DP
         split
         ·exact key _ _ GA
         ·split
          ·exact key _ _ GA
          ·exact key _ _ (by omega)
        exact .inr ⟨e1,rfl,hre.1,by rw [hsn.1]; omega,hsn.2⟩
      ·obtain ⟨l1,l2,l3,l4⟩:=D1 hf hsg he hie hst
       rw [hA] at l1
       rw [hS] at l2
       rw [hN] at l3
       rw [hP] at l4
       have d1:=Cf.1 l1.symm
       have d2:=Cf.1 l2.symm
       have d3:=Cf.1 l3.symm
       have d4:=Cf.1 l4.symm
       rcases Fm.Fs (Fm.AC hf) with ho | ho | ho | ho | ho | ho | ho | ho | ho
       ·have e0:=Fm.Ca (Fm.AC hf) (.inl ho)
        rw [ho] at e0
        rw [e0,MZ] at hsg
        have hr:=Gu (l:=bTrue) (by decide) (fun c hc=>by
         simp only [bTrue,zV,zN,or_false] at hc
         rcases hc with rfl | rfl | rfl | rfl <;> exact Cs (by decide +kernel)) hsg he hie hst
        rw [hr] at g1
        refine ⟨?_,g1.2⟩
        rw [g1.1,e0]
        unfold DP
        rw [if_pos ⟨rfl,rfl⟩]
       ·have e0:=Fm.Ca (Fm.AC hf) (.inr ho)
        rw [ho] at e0
        rw [e0,Na] at hsg
        have hr:=Gu (l:=bFalse) (by decide) (fun c hc=>by
         simp only [bFalse,zV,zN,or_false] at hc
         rcases hc with rfl | rfl | rfl | rfl | rfl <;> exact Cs (by decide +kernel)) hsg he hie hst
        rw [hr] at g1
        refine ⟨?_,g1.2⟩
        rw [g1.1,e0]
        unfold DP
        rw [if_neg (fun h=>absurd h.2 (by simp [Tm.name,bFalse])),if_pos ⟨rfl,rfl⟩]
       ·obtain ⟨hpp,hat,hvv⟩:=Fm.Dc (Fm.AC hf) ho
        have e0:f=.mk 3 f.atom ⟨#[]⟩ []:=by
         obtain ⟨op,a,v,ps⟩:=f
         have ho:op=3:=ho
         have hpp:ps=[]:=hpp
         have hvv:v=⟨#[]⟩:=hvv
         subst ho hpp hvv
         rfl
        rw [e0,L1] at hsg
        have hr:=(Hu hat hsg he hie hst).1
        rw [hr] at g1
        refine ⟨?_,g1.2⟩
        rw [g1.1]
        unfold DP
        rw [if_neg (fun h=>Jj hat (by decide +kernel) (by simp) h.2),if_neg (fun h=>Jj hat (by decide +kernel) (by simp) h.2)]
        exact e0.symm
       all_goals (exfalso; omega)
theorem GB (s:ByteArray) (hs:s.size≤1048576):∀ (n i:Nat),i≤s.size→s.size-i<n→∃ out,E 19 [.str s,.int .i64 (i:Int)] []=some out∧SS s i out
 | 0,i,_,h=>absurd h (by omega)
 | n+1,i,hi,hn=>Rq s hs i hi (fun i' h1 h2=>GB s hs n i' h2 (by omega)) (fun i' h1 h2 op=>Kr s hs i' h2 op fun i2 h3 h4=>GB s hs n i2 h4 (by omega)) fun i' h1 h2=>Rp s hs i' h2 fun i2 h3 h4=>GB s hs n i2 h4 (by omega)
theorem IB (s:ByteArray) (hs:s.size≤1048576):E 5 [.str s] []=some (.tup [(Kq s).sv,.bool (PL s)],[]):=by
 have hz3:Fm.zero.sv=.agg [.int .i64 0,.str ⟨#[]⟩,.arr [],.str ⟨#[]⟩,.arr []]:=rfl
 rcases zO 4000 s.size with h4 | h4
 ·have hq:((4000:Int)<(s.size:Int))=True:=eq_true (by omega)
  obtain ⟨q1,q2⟩:=Jl (s:=s) fun h=>absurd h (by omega)
  rw [q1,q2,hz3]
  refine Aj Cd BP (of_decide_eq_true rfl) ?_
  simp (disch:=omega) only [BO,go_sem,Ab,hq]
 ·have hq:((4000:Int)<(s.size:Int))=False:=eq_false (by omega)
  obtain ⟨out,h1,x,k,rfl,hb,hc⟩:=GB s hs (s.size+1) 0 (zT _) (by omega)
  have h1:E 19 [.str s,.int .i64 0] []=some (.tup [x.sv,.int .i64 k],[]):=h1
  have full:∀ f,LZ s f→x=f∧k=(s.size:Int):=fun f hf=>hc f s.size (FA hf.1).2 (zP _) (zT _) (by rw [Qt,← hf.2,Fm.txt_toList]) (Nd s)
  by_cases h0:k=(s.size:Int)
  ·have q0:(k=(s.size:Int))=True:=eq_true h0
   rcases hb with hb | ⟨e,hb,he,hn,htm⟩
   ·omega
   ·have hv1:=SM x htm (by omega)
    cases hv:x.valid with
    | true =>
     rw [hv] at hv1
     obtain ⟨v1,v2⟩:=FA hv
     have hf:=OV x v2 (by omega)
     by_cases hx:x.txt=s
     ·obtain ⟨q1,q2⟩:=PM h4 (f:=x) ⟨hv,hx⟩
      rw [q1,q2]
      have hx':(x.txt=s)=True:=eq_true hx
      refine Aj Cd BP (of_decide_eq_true rfl) ?_
      simp (disch:=omega) only [BO,go_sem,Ab,hq,h1,q0,hv1,hf,hx',Aq,CP,A8]
     ·obtain ⟨q1,q2⟩:=Jl (s:=s) fun _ u hu=>by
       obtain ⟨h2,_⟩:=full u hu
       exact hx (by rw [h2]; exact hu.2)
      rw [q1,q2,hz3]
      have hx':(x.txt=s)=False:=eq_false hx
      refine Aj Cd BP (of_decide_eq_true rfl) ?_
      simp (disch:=omega) only [BO,go_sem,Ab,hq,h1,q0,hv1,hf,hx',Aq,CP,A8]
    | false =>
     rw [hv] at hv1
     obtain ⟨q1,q2⟩:=Jl (s:=s) fun _ u hu=>by
      obtain ⟨h2,_⟩:=full u hu
      rw [h2,hu.1] at hv; cases hv
     rw [q1,q2,hz3]
     refine Aj Cd BP (of_decide_eq_true rfl) ?_
     simp (disch:=omega) only [BO,go_sem,Ab,hq,h1,q0,hv1,Aq,CP,A8]
  ·have q0:(k=(s.size:Int))=False:=eq_false h0
   obtain ⟨q1,q2⟩:=Jl (s:=s) fun _ u hu=>h0 (full u hu).2
   rw [q1,q2,hz3]
   refine Aj Cd BP (of_decide_eq_true rfl) ?_
   simp (disch:=omega) only [BO,go_sem,Ab,hq,h1,q0,Aq,CP,A8]
theorem Tm.Rr {x:Tm} (h:x.atom=true):(CU x.name=true→x.args=[])∧∀ y∈x.args,y.names=true:=by
 unfold Tm.atom at h
 cases he:x.eqn with
 | true =>
  rw [he,if_pos rfl,zI,zI] at h
  have h2:=h.2
  rw [Tm.EU,List.all_eq_true] at h2
  refine ⟨fun hv=>?_,h2⟩
  have hn:=At.1 he
  have hnv0:CU ⟨#[61]⟩=false:=by kernel_rfl
  rw [hn,hnv0] at hv
  cases hv
 | false =>
  rw [he,if_neg (by simp),zI] at h
  have hnm:x.names=true:=by have h3:=h.2; unfold Tm.valid at h3; rw [zI] at h3; exact h3.2
  exact ⟨fun hv=>Tm.QX hnm hv,fun y hy=>Tm.Ei hnm hy⟩
theorem Tm.Rs {x:Tm} (h:x.atom=true):x.bulk≤300:=by
 have hn:=Tm.PG h
 have h1:=Tm.I5 x.args fun y hy=>Tm.Lv y ((Tm.Rr h).2 y hy)
 have h2:x.name.size≤6:=by
  unfold Tm.atom at h
  split at h
  ·rename_i he
   unfold Tm.eqn at he
   rw [At.1 he]; decide
  ·rw [zI] at h; exact HI h.1
 rw [Tm.nodes_eq] at hn
 rw [Tm.bulk_eq]
 omega
theorem Fm.LC (x:Fm) (h:x.forms=true):x.bulk+1≤320*x.nodes:=by
 have hf:=Fm.AC h
 have key:∀ xs:List Fm,(∀ y∈xs,y.bulk+1≤320*y.nodes)→xs.length+Fm.sumB xs≤320*Fm.nodeS xs:=by
  intro xs
  induction xs with
  | nil=>intro _; simp [Fm.sumB]
  | cons y ys ih =>
   intro hh
   have h1:=hh y (by simp)
   have h2:=ih fun z hz=>hh z (by simp [hz])
   rw [Fm.nodeS,Fm.sumB,zH]; omega
 have hk:=key x.parts fun y hy=>Fm.LC y (Fm.Bk h hy)
 have ha:x.atom.bulk≤300:=by
  by_cases ho:x.op=3
  ·exact Tm.Rs (Fm.Dc hf ho).2.1
  ·rw [Fm.D9 hf ho,Tm.bulk_eq]
   show 0+_≤_
   simp [Tm.args,Tm.sumB]
 have hv:x.var.size≤6:=by
  by_cases hq:qB x.op=true
  ·exact CO (Fm.BM hf hq).1
  ·have hq2:qB x.op=false:=by simpa using hq
   have e:x.var=⟨#[]⟩:=by
    unfold qB at hq2
    rw [Bool.or_eq_false_iff] at hq2
    have o8:=Cf.1 hq2.1
    have o9:=Cf.1 hq2.2
    unfold Fm.form at hf
    split at hf
    ·rw [zI] at hf; exact At.1 hf.2
    ·split at hf
     ·rw [zI] at hf; exact At.1 hf.2
     ·split at hf
      ·rw [zI] at hf; exact At.1 hf.2
      ·split at hf
       ·rw [zI] at hf; exact At.1 hf.2
       ·rw [if_neg (by omega)] at hf; cases hf
   rw [e]
   decide
 rw [Fm.bulk_eq,Fm.nodes_eq]
 omega
termination_by SizeOf.sizeOf x
decreasing_by exact Fm.lt_of_mem hy
mutual
def Tm.wt:Tm→Nat
 | .mk name args=>1+Tm.wtS args
def Tm.wtS:List Tm→Nat
 | []=>0
 | x :: xs=>Tm.wt x+Tm.wtS xs
end
theorem Tm.wt_eq (x:Tm):x.wt=1+Tm.wtS x.args:=by
 obtain ⟨name,args⟩:=x
 rw [Tm.wt]; rfl
mutual
noncomputable def Tm.mk1:Tm→Int→Tm × Int
 | .mk name args,k=>((Tm.mk (DT k) ((Tm.mkS args (k+1)).1)),(Tm.mkS args (k+1)).2)
noncomputable def Tm.mkS:List Tm→Int→List Tm × Int
 | [],k=>([],k)
 | x :: xs,k=>((Tm.mk1 x k).1 :: (Tm.mkS xs (Tm.mk1 x k).2).1,(Tm.mkS xs (Tm.mk1 x k).2).2)
end
theorem Tm.mk1_eq (x:Tm) (k:Int):x.mk1 k=((Tm.mk (DT k) ((Tm.mkS x.args (k+1)).1)),(Tm.mkS x.args (k+1)).2):=by
 obtain ⟨name,args⟩:=x
 rw [Tm.mk1]; rfl
theorem Tm.mk1_d (x:Tm) (k:Int):Tm.d (x.mk1 k).1=[.str (DT k),.arr ((Tm.mkS x.args (k+1)).1.map Tm.d)]:=by
 rw [Tm.mk1_eq,Tm.d_eq]
 try rfl
theorem Tm.mk1_o (x:Tm) (k:Int):Tm.o (x.mk1 k).1=[.str (DT k),.ow ((Tm.mkS x.args (k+1)).1.map Tm.o)]:=by
 rw [Tm.mk1_eq,Tm.o_eq]
 try rfl
theorem Tm.mkS_end_of:∀ (xs:List Tm) (k:Int),(∀ x∈xs,∀ k,(x.mk1 k).2=k+x.wt)→(Tm.mkS xs k).2=k+Tm.wtS xs
 | [],k,_=>by simp [Tm.mkS,Tm.wtS]
 | x :: xs,k,h=>by
  rw [Tm.mkS,Tm.wtS]
  have h1:=h x (by simp) k
  have h2:=Tm.mkS_end_of xs (x.mk1 k).2 fun y hy=>h y (by simp [hy])
  dsimp only
  omega
theorem Tm.mk1_end (x:Tm) (k:Int):(x.mk1 k).2=k+x.wt:=by
 rw [Tm.mk1_eq,Tm.wt_eq]
 have h:=fun k=>Tm.mkS_end_of x.args k fun y hy k=>Tm.mk1_end y k
 simp only [h]
 omega
termination_by SizeOf.sizeOf x
decreasing_by exact Tm.lt_of_mem hy
theorem Tm.mkS_end (xs:List Tm) (k:Int):(Tm.mkS xs k).2=k+Tm.wtS xs:=Tm.mkS_end_of xs k fun x _ k=>Tm.mk1_end x k
theorem Tm.wtS_of:∀ xs:List Tm,(∀ x∈xs,x.wt≤5*(1+x.bulk))→Tm.wtS xs≤5*(xs.length+Tm.sumB xs)
 | [],_=>by simp [Tm.wtS]
 | x :: xs,h=>by
  have h1:=h x (by simp)
  have h2:=Tm.wtS_of xs fun y hy=>h y (by simp [hy])
  rw [Tm.wtS,Tm.sumB]; simp only [zH]; omega
theorem Tm.wt_bulk (x:Tm):x.wt≤5*(1+x.bulk):=by
 rw [Tm.wt_eq,Tm.bulk_eq]
 have h:=Tm.wtS_of x.args fun y hy=>Tm.wt_bulk y
 omega
termination_by SizeOf.sizeOf x
decreasing_by exact Tm.lt_of_mem hy
theorem Tm.wtS_bulk (xs:List Tm):Tm.wtS xs≤5*(xs.length+Tm.sumB xs):=Tm.wtS_of xs fun x _=>Tm.wt_bulk x
theorem Tm.length_wt:∀ xs:List Tm,xs.length≤Tm.wtS xs
 | []=>zP _
 | x :: xs=>by
  have:=Tm.length_wt xs
  have:=Tm.wt_eq x
  rw [Tm.wtS]; simp only [zH]; omega
def Gv:SC:=(.seq (.reg [⟨some 4,none,.mv (.c (.int .i64 0))⟩]) (.seq (.seq (.reg [⟨some 5,none,.mv (.c (.int .i64 0))⟩]) (.block 0 (.loop [1,1,0,0,0,1,0,0,0,0,0,0,0,0,0,0,0,0,0,0,0,0,0,0,0,0,0,0] (.seq (.seq (.reg [⟨some 6,none,.mv (.t 5)⟩,⟨some 7,none,.mv (.t 0)⟩,⟨some 8,none,.len false (.t 7)⟩,⟨some 9,none,.bin .lss false (.t 6) (.t 8)⟩]) (.cond (.t 9) .skip (.exit 0))) (.seq (.block 1 (.seq (.reg [⟨some 12,none,.mv (.t 0)⟩,⟨some 13,none,.mv (.t 5)⟩,⟨some 14,none,.mv (.t 1)⟩,⟨some 15,none,.call 43 [(.t 14)]⟩,⟨some 16,none,.iaddr 2 (.t 12) (.t 13)⟩,⟨some 17,none,.faddr 0 (.t 16)⟩,⟨none,none,(.store 1 (.t 17) (.t 15))⟩]) (.seq (.reg [⟨some 18,none,.mv (.t 1)⟩,⟨some 19,none,.bin .add false (.t 18) (.c (.int .i64 1))⟩,⟨some 1,none,.mv (.t 19)⟩]) (.reg [⟨some 20,none,.mv (.t 0)⟩,⟨some 21,none,.mv (.t 5)⟩,⟨some 22,none,.iaddr 2 (.t 20) (.t 21)⟩,⟨some 23,none,.faddr 1 (.t 22)⟩,⟨some 24,none,.load false 1 (.t 23)⟩,⟨some 25,none,.mv (.t 1)⟩,⟨some 26,none,.call 67 [(.t 24),(.t 25)]⟩,⟨some 1,none,.mv (.t 26)⟩])))) (.reg [⟨some 10,none,.mv (.t 5)⟩,⟨some 11,none,.bin .add false (.t 10) (.c (.int .i64 1))⟩,⟨some 5,none,.mv (.t 11)⟩])))))) (.seq (.reg [⟨some 27,none,.mv (.t 1)⟩,⟨some 4,none,.mv (.t 27)⟩]) .ret)))
theorem JG:codeOf Try.prog 67=some ⟨28,Gv,[(.tmp 4)]⟩:=by kernel_rfl
theorem Dd:modes 67=⟨[true],.asis,none,true⟩:=by unfold modes; rfl
abbrev FF (xs:List Tm):Prop:=∀ (k:Int) (ob:List Ob),1≤k→k+Tm.wtS xs≤1099511627776→toTree ob=[.tree (xs.map Tm.o) []]→E 67 [.ref 0,.int .i64 k] ob=some (.int .i64 (Tm.mkS xs k).2,[.tree ((Tm.mkS xs k).1.map Tm.o) []])
theorem Hz (xs:List Tm) (ih:∀ x∈xs,FF x.args):FF xs:=by
 intro k0 ob h1 h2 hob
 have hlen:ob.length=1:=by rw [←G1,hob]; rfl
 have hL:=Tm.length_wt xs
 refine Aj JG Dd (of_decide_eq_true rfl) ?_
 simp (disch:=omega) only [Gv,go_sem,Ab,hob,hlen]
 refine go_loop (α:=Int × (Int) × (List Tm)) (fun a=>⟨slots 28 0 [(0,.ref 0),(1,.int .i64 (a.2.1)),(5,.int .i64 (a.1))],[.tree (((a.2.2)++xs.drop (a.1).toNat).map Tm.o) []]⟩) (fun a=>∃ k:Nat,a.1=k∧k≤(xs).length∧(a.2.2).length=k∧1≤(a.2.1)∧(a.2.1)+Tm.wtS (xs.drop k)=k0+Tm.wtS xs∧Tm.mkS xs k0=((a.2.2)++(Tm.mkS (xs.drop k) (a.2.1)).1,(Tm.mkS (xs.drop k) (a.2.1)).2)) (fun a=>(xs).length-(a.1).toNat) (0,k0,[]) ⟨0,rfl,zT _,rfl,h1,by rw [zL],by simp⟩ (by simp (disch:=omega) only [go_sem,Ab,zE]) ?_
 rintro ⟨i,kk,dn⟩ ⟨k,hi,hk,hR⟩
 dsimp only at hi hR
 have hni:i.toNat=k:=by omega
 have hni1:(i+1).toNat=k+1:=by omega
 rcases zO k (xs).length with hlt | hge
 ·obtain ⟨hd,hk1,hkn,hm⟩:=hR
  have hdr:xs.drop k=xs[k] :: xs.drop (k+1):=zJ hlt
  have hel:(dn++xs.drop k).length=xs.length:=by simp; omega
  have hg:(List.map Tm.o (dn++xs.drop k))[k]?=some [.str xs[k].name,.ow (xs[k].args.map Tm.o)]:=by
   rw [←Tm.o_eq,hdr,List.getElem?_map,yE (by omega),hd,Nat.sub_self]; rfl
  rw [hdr,Tm.wtS] at hkn
  rw [hdr,Tm.mkS] at hm
  have hn1:=Tm.wt_eq xs[k]
  have e1:=Tm.mkS_end xs[k].args ((kk+1))
  have t0:=Eh (k:=kk) (by omega) (by omega)
  have c58:=ih xs[k] (zR hlt) ((kk+1)) [.tree (xs[k].args.map Tm.o) []] (by omega) (by omega) rfl
  have hs:=Kd Tm.o dn (xs.drop (k+1)) xs[k] (xs[k].mk1 kk).1 hd
  rw [Tm.mk1_o,← hdr] at hs
  have hgs:∀ a,((List.map Tm.o (dn++xs.drop k)).set k a)[k]?=some a:=fun a=>List.getElem?_set_self (by rw [yI,hel]; exact hlt)
  have he:=Tm.mk1_end xs[k] kk
  have three:∀ z:Int,dec ((3:Int)=0)=false:=fun _=>An (by omega)
  simp (disch:=omega) only [go_sem,Ab,hni,hel,hg,t0,c58,Dd,Dy,hgs,List.length_set,List.set_set,hs,three 0]
  refine ⟨(i+1,(xs[k].mk1 kk).2,dn++[(xs[k].mk1 kk).1]),⟨k+1,by dsimp only; omega,hlt,by dsimp only; simp [hd],by dsimp only; omega,by dsimp only; omega,by rw [hm]; simp⟩,by dsimp only; omega,?_⟩
  dsimp only
  rw [hni1,Tm.mk1_eq]
  refine ⟨⟨?_,rfl⟩,rfl⟩
  first | rfl | omega
 ·obtain ⟨hd,hk1,hkn,hm⟩:=hR
  have hdr:xs.drop k=[]:=zW hge
  rw [hdr,Tm.mkS] at hm
  rw [hm]
  simp (disch:=omega) only [go_sem,Ab,hni,hdr,yJ]
theorem Jn (x:Tm):FF x.args:=Hz x.args fun y hy=>Jn y
termination_by SizeOf.sizeOf x
decreasing_by exact Tm.lt_of_mem hy
theorem Kh (xs:List Tm):FF xs:=Hz xs fun y _=>Jn y
mutual
def Fm.wt:Fm→Nat
 | .mk op atom var parts=>3+Tm.wtS atom.args+Fm.wtS parts
def Fm.wtS:List Fm→Nat
 | []=>0
 | x :: xs=>Fm.wt x+Fm.wtS xs
end
theorem Fm.wt_eq (x:Fm):x.wt=3+Tm.wtS x.atom.args+Fm.wtS x.parts:=by
 obtain ⟨op,atom,var,parts⟩:=x
 rw [Fm.wt]; rfl
mutual
noncomputable def Fm.mk1:Fm→Int→Fm × Int
 | .mk op atom var parts,k=>((Fm.mk (k) (Tm.mk (DT (k+1)) ((Tm.mkS atom.args (k+1+1)).1)) (DT (Tm.mkS atom.args (k+1+1)).2) ((Fm.mkS parts ((Tm.mkS atom.args (k+1+1)).2+1)).1)),(Fm.mkS parts ((Tm.mkS atom.args (k+1+1)).2+1)).2)
noncomputable def Fm.mkS:List Fm→Int→List Fm × Int
 | [],k=>([],k)
 | x :: xs,k=>((Fm.mk1 x k).1 :: (Fm.mkS xs (Fm.mk1 x k).2).1,(Fm.mkS xs (Fm.mk1 x k).2).2)
end
theorem Fm.mk1_eq (x:Fm) (k:Int):x.mk1 k=((Fm.mk (k) (Tm.mk (DT (k+1)) ((Tm.mkS x.atom.args (k+1+1)).1)) (DT (Tm.mkS x.atom.args (k+1+1)).2) ((Fm.mkS x.parts ((Tm.mkS x.atom.args (k+1+1)).2+1)).1)),(Fm.mkS x.parts ((Tm.mkS x.atom.args (k+1+1)).2+1)).2):=by
 obtain ⟨op,atom,var,parts⟩:=x
 rw [Fm.mk1]; rfl
theorem Fm.mk1_d (x:Fm) (k:Int):Fm.d (x.mk1 k).1=[.int k,.str (DT (k+1)),.arr ((Tm.mkS x.atom.args (k+1+1)).1.map Tm.d),.str (DT (Tm.mkS x.atom.args (k+1+1)).2),.arr ((Fm.mkS x.parts ((Tm.mkS x.atom.args (k+1+1)).2+1)).1.map Fm.d)]:=by
 rw [Fm.mk1_eq,Fm.d_eq]
 try rfl
theorem Fm.mk1_o (x:Fm) (k:Int):Fm.o (x.mk1 k).1=[.int k,.str (DT (k+1)),.ow ((Tm.mkS x.atom.args (k+1+1)).1.map Tm.o),.str (DT (Tm.mkS x.atom.args (k+1+1)).2),.ow ((Fm.mkS x.parts ((Tm.mkS x.atom.args (k+1+1)).2+1)).1.map Fm.o)]:=by
 rw [Fm.mk1_eq,Fm.o_eq]
 try rfl
theorem Fm.mkS_end_of:∀ (xs:List Fm) (k:Int),(∀ x∈xs,∀ k,(x.mk1 k).2=k+x.wt)→(Fm.mkS xs k).2=k+Fm.wtS xs
 | [],k,_=>by simp [Fm.mkS,Fm.wtS]
 | x :: xs,k,h=>by
  rw [Fm.mkS,Fm.wtS]
  have h1:=h x (by simp) k
  have h2:=Fm.mkS_end_of xs (x.mk1 k).2 fun y hy=>h y (by simp [hy])
  dsimp only
  omega
theorem Fm.mk1_end (x:Fm) (k:Int):(x.mk1 k).2=k+x.wt:=by
 rw [Fm.mk1_eq,Fm.wt_eq]
 have h:=fun k=>Fm.mkS_end_of x.parts k fun y hy k=>Fm.mk1_end y k
 simp only [h,Tm.mkS_end]
 omega
termination_by SizeOf.sizeOf x
decreasing_by exact Fm.lt_of_mem hy
theorem Fm.mkS_end (xs:List Fm) (k:Int):(Fm.mkS xs k).2=k+Fm.wtS xs:=Fm.mkS_end_of xs k fun x _ k=>Fm.mk1_end x k
theorem Fm.wtS_of:∀ xs:List Fm,(∀ x∈xs,x.wt≤5*(1+x.bulk))→Fm.wtS xs≤5*(xs.length+Fm.sumB xs)
 | [],_=>by simp [Fm.wtS]
 | x :: xs,h=>by
  have h1:=h x (by simp)
  have h2:=Fm.wtS_of xs fun y hy=>h y (by simp [hy])
  rw [Fm.wtS,Fm.sumB]; simp only [zH]; omega
theorem Fm.wt_bulk (x:Fm):x.wt≤5*(1+x.bulk):=by
 rw [Fm.wt_eq,Fm.bulk_eq]
 have h:=Fm.wtS_of x.parts fun y hy=>Fm.wt_bulk y
 have h0:=Tm.wtS_bulk x.atom.args
 have q1:=Tm.bulk_eq x.atom
 omega
termination_by SizeOf.sizeOf x
decreasing_by exact Fm.lt_of_mem hy
theorem Fm.wtS_bulk (xs:List Fm):Fm.wtS xs≤5*(xs.length+Fm.sumB xs):=Fm.wtS_of xs fun x _=>Fm.wt_bulk x
theorem Fm.length_wt:∀ xs:List Fm,xs.length≤Fm.wtS xs
 | []=>zP _
 | x :: xs=>by
  have:=Fm.length_wt xs
  have:=Fm.wt_eq x
  rw [Fm.wtS]; simp only [zH]; omega
def EE:SC:=(.seq (.reg [⟨some 4,none,.mv (.c (.int .i64 0))⟩]) (.seq (.seq (.reg [⟨some 5,none,.mv (.c (.int .i64 0))⟩]) (.block 0 (.loop [1,1,0,0,0,1,0,0,0,0,0,0,0,0,0,0,0,0,0,0,0,0,0,0,0,0,0,0,0,0,0,0,0,0,0,0,0,0,0,0,0,0,0,0,0,0,0,0,0,0,0,0] (.seq (.seq (.reg [⟨some 6,none,.mv (.t 5)⟩,⟨some 7,none,.mv (.t 0)⟩,⟨some 8,none,.len false (.t 7)⟩,⟨some 9,none,.bin .lss false (.t 6) (.t 8)⟩]) (.cond (.t 9) .skip (.exit 0))) (.seq (.block 1 (.seq (.reg [⟨some 12,none,.mv (.t 0)⟩,⟨some 13,none,.mv (.t 5)⟩,⟨some 14,none,.mv (.t 1)⟩,⟨some 15,none,.iaddr 5 (.t 12) (.t 13)⟩,⟨some 16,none,.faddr 0 (.t 15)⟩,⟨none,none,(.store 1 (.t 16) (.t 14))⟩]) (.seq (.reg [⟨some 17,none,.mv (.t 1)⟩,⟨some 18,none,.bin .add false (.t 17) (.c (.int .i64 1))⟩,⟨some 1,none,.mv (.t 18)⟩]) (.seq (.reg [⟨some 19,none,.mv (.t 0)⟩,⟨some 20,none,.mv (.t 5)⟩,⟨some 21,none,.mv (.t 1)⟩,⟨some 22,none,.call 43 [(.t 21)]⟩,⟨some 23,none,.iaddr 5 (.t 19) (.t 20)⟩,⟨some 24,none,.faddr 1 (.t 23)⟩,⟨some 25,none,.faddr 0 (.t 24)⟩,⟨none,none,(.store 1 (.t 25) (.t 22))⟩]) (.seq (.reg [⟨some 26,none,.mv (.t 1)⟩,⟨some 27,none,.bin .add false (.t 26) (.c (.int .i64 1))⟩,⟨some 1,none,.mv (.t 27)⟩]) (.seq (.reg [⟨some 28,none,.mv (.t 0)⟩,⟨some 29,none,.mv (.t 5)⟩,⟨some 30,none,.iaddr 5 (.t 28) (.t 29)⟩,⟨some 31,none,.faddr 1 (.t 30)⟩,⟨some 32,none,.faddr 1 (.t 31)⟩,⟨some 33,none,.load false 1 (.t 32)⟩,⟨some 34,none,.mv (.t 1)⟩,⟨some 35,none,.call 67 [(.t 33),(.t 34)]⟩,⟨some 1,none,.mv (.t 35)⟩]) (.seq (.reg [⟨some 36,none,.mv (.t 0)⟩,⟨some 37,none,.mv (.t 5)⟩,⟨some 38,none,.mv (.t 1)⟩,⟨some 39,none,.call 43 [(.t 38)]⟩,⟨some 40,none,.iaddr 5 (.t 36) (.t 37)⟩,⟨some 41,none,.faddr 3 (.t 40)⟩,⟨none,none,(.store 1 (.t 41) (.t 39))⟩]) (.seq (.reg [⟨some 42,none,.mv (.t 1)⟩,⟨some 43,none,.bin .add false (.t 42) (.c (.int .i64 1))⟩,⟨some 1,none,.mv (.t 43)⟩]) (.reg [⟨some 44,none,.mv (.t 0)⟩,⟨some 45,none,.mv (.t 5)⟩,⟨some 46,none,.iaddr 5 (.t 44) (.t 45)⟩,⟨some 47,none,.faddr 4 (.t 46)⟩,⟨some 48,none,.load false 1 (.t 47)⟩,⟨some 49,none,.mv (.t 1)⟩,⟨some 50,none,.call 29 [(.t 48),(.t 49)]⟩,⟨some 1,none,.mv (.t 50)⟩]))))))))) (.reg [⟨some 10,none,.mv (.t 5)⟩,⟨some 11,none,.bin .add false (.t 10) (.c (.int .i64 1))⟩,⟨some 5,none,.mv (.t 11)⟩])))))) (.seq (.reg [⟨some 51,none,.mv (.t 1)⟩,⟨some 4,none,.mv (.t 51)⟩]) .ret)))
theorem HN:codeOf Try.prog 29=some ⟨52,EE,[(.tmp 4)]⟩:=by kernel_rfl
theorem Dl:modes 29=⟨[true],.asis,none,true⟩:=by unfold modes; rfl
abbrev DQ (xs:List Fm):Prop:=∀ (k:Int) (ob:List Ob),1≤k→k+Fm.wtS xs≤1099511627776→toTree ob=[.tree (xs.map Fm.o) []]→E 29 [.ref 0,.int .i64 k] ob=some (.int .i64 (Fm.mkS xs k).2,[.tree ((Fm.mkS xs k).1.map Fm.o) []])
theorem FG (xs:List Fm) (ih:∀ x∈xs,DQ x.parts):DQ xs:=by
 intro k0 ob h1 h2 hob
 have hlen:ob.length=1:=by rw [←G1,hob]; rfl
 have hL:=Fm.length_wt xs
 refine Aj HN Dl (of_decide_eq_true rfl) ?_
 simp (disch:=omega) only [EE,go_sem,Ab,hob,hlen]
 refine go_loop (α:=Int × (Int) × (List Fm)) (fun a=>⟨slots 52 0 [(0,.ref 0),(1,.int .i64 (a.2.1)),(5,.int .i64 (a.1))],[.tree (((a.2.2)++xs.drop (a.1).toNat).map Fm.o) []]⟩) (fun a=>∃ k:Nat,a.1=k∧k≤(xs).length∧(a.2.2).length=k∧1≤(a.2.1)∧(a.2.1)+Fm.wtS (xs.drop k)=k0+Fm.wtS xs∧Fm.mkS xs k0=((a.2.2)++(Fm.mkS (xs.drop k) (a.2.1)).1,(Fm.mkS (xs.drop k) (a.2.1)).2)) (fun a=>(xs).length-(a.1).toNat) (0,k0,[]) ⟨0,rfl,zT _,rfl,h1,by rw [zL],by simp⟩ (by simp (disch:=omega) only [go_sem,Ab,zE]) ?_
 rintro ⟨i,kk,dn⟩ ⟨k,hi,hk,hR⟩
 dsimp only at hi hR
 have hni:i.toNat=k:=by omega
 have hni1:(i+1).toNat=k+1:=by omega
 rcases zO k (xs).length with hlt | hge
 ·obtain ⟨hd,hk1,hkn,hm⟩:=hR
  have hdr:xs.drop k=xs[k] :: xs.drop (k+1):=zJ hlt
  have hel:(dn++xs.drop k).length=xs.length:=by simp; omega
  have hg:(List.map Fm.o (dn++xs.drop k))[k]?=some [.int xs[k].op,.str xs[k].atom.name,.ow (xs[k].atom.args.map Tm.o),.str xs[k].var,.ow (xs[k].parts.map Fm.o)]:=by
   rw [←Fm.o_eq,hdr,List.getElem?_map,yE (by omega),hd,Nat.sub_self]; rfl
  rw [hdr,Fm.wtS] at hkn
  rw [hdr,Fm.mkS] at hm
  have hn1:=Fm.wt_eq xs[k]
  have e2:=Tm.mkS_end xs[k].atom.args ((kk+1+1))
  have e4:=Fm.mkS_end xs[k].parts (((Tm.mkS xs[k].atom.args (kk+1+1)).2+1))
  have t0:=Eh (k:=(kk+1)) (by omega) (by omega)
  have c64:=Kh xs[k].atom.args ((kk+1+1)) [.tree (xs[k].atom.args.map Tm.o) []] (by omega) (by omega) rfl
  have t187:=Eh (k:=(Tm.mkS xs[k].atom.args (kk+1+1)).2) (by omega) (by omega)
  have c284:=ih xs[k] (zR hlt) (((Tm.mkS xs[k].atom.args (kk+1+1)).2+1)) [.tree (xs[k].parts.map Fm.o) []] (by omega) (by omega) rfl
  have hs:=Kd Fm.o dn (xs.drop (k+1)) xs[k] (xs[k].mk1 kk).1 hd
  rw [Fm.mk1_o,← hdr] at hs
  have hgs:∀ a,((List.map Fm.o (dn++xs.drop k)).set k a)[k]?=some a:=fun a=>List.getElem?_set_self (by rw [yI,hel]; exact hlt)
  have he:=Fm.mk1_end xs[k] kk
  have three:∀ z:Int,dec ((3:Int)=0)=false:=fun _=>An (by omega)
  simp (disch:=omega) only [go_sem,Ab,hni,hel,hg,t0,c64,Dd,t187,c284,Dl,Dy,hgs,List.length_set,List.set_set,hs,three 0]
  refine ⟨(i+1,(xs[k].mk1 kk).2,dn++[(xs[k].mk1 kk).1]),⟨k+1,by dsimp only; omega,hlt,by dsimp only; simp [hd],by dsimp only; omega,by dsimp only; omega,by rw [hm]; simp⟩,by dsimp only; omega,?_⟩
  dsimp only
  rw [hni1,Fm.mk1_eq]
  refine ⟨⟨?_,rfl⟩,rfl⟩
  first | rfl | omega
 ·obtain ⟨hd,hk1,hkn,hm⟩:=hR
  have hdr:xs.drop k=[]:=zW hge
  rw [hdr,Fm.mkS] at hm
  rw [hm]
  simp (disch:=omega) only [go_sem,Ab,hni,hdr,yJ]
theorem GK (x:Fm):DQ x.parts:=FG x.parts fun y hy=>GK y
termination_by SizeOf.sizeOf x
decreasing_by exact Fm.lt_of_mem hy
theorem LD (xs:List Fm):DQ xs:=FG xs fun y _=>GK y
def Gw:SC:=(.seq (.reg [⟨some 4,none,.mv (.c (.int .i64 0))⟩]) (.seq (.seq (.reg [⟨some 5,none,.mv (.c (.int .i64 0))⟩]) (.block 0 (.loop [1,1,0,0,0,1,0,0,0,0,0,0,0,0,0,0,0,0,0,0,0,0,0,0,0,0,0,0,0,0,0,0] (.seq (.seq (.reg [⟨some 6,none,.mv (.t 5)⟩,⟨some 7,none,.mv (.t 0)⟩,⟨some 8,none,.len false (.t 7)⟩,⟨some 9,none,.bin .lss false (.t 6) (.t 8)⟩]) (.cond (.t 9) .skip (.exit 0))) (.seq (.block 1 (.seq (.seq (.dreg [[],[],[0,1],[2,0,1],[3,2,0,1],[],[5],[4,3,2,0,1,6,5]] [⟨some 12,none,.mv (.t 0)⟩,⟨some 13,none,.mv (.t 5)⟩,⟨some 14,none,.iaddr 2 (.t 12) (.t 13)⟩,⟨some 15,none,.faddr 0 (.t 14)⟩,⟨some 16,none,.load false 1 (.t 15)⟩,⟨some 17,none,.mv (.t 1)⟩,⟨some 18,none,.call 43 [(.t 17)]⟩,⟨some 19,none,.bin .neq false (.t 16) (.t 18)⟩]) (.cond (.t 19) (.seq (.reg [⟨some 4,none,.mv (.c (.int .i64 (-(0+1))))⟩]) .ret) .skip)) (.seq (.reg [⟨some 20,none,.mv (.t 1)⟩,⟨some 21,none,.bin .add false (.t 20) (.c (.int .i64 1))⟩,⟨some 1,none,.mv (.t 21)⟩]) (.seq (.reg [⟨some 22,none,.mv (.t 0)⟩,⟨some 23,none,.mv (.t 5)⟩,⟨some 24,none,.iaddr 2 (.t 22) (.t 23)⟩,⟨some 25,none,.faddr 1 (.t 24)⟩,⟨some 26,none,.load false 1 (.t 25)⟩,⟨some 27,none,.mv (.t 1)⟩,⟨some 28,none,.call 68 [(.t 26),(.t 27)]⟩,⟨some 1,none,.mv (.t 28)⟩]) (.seq (.reg [⟨some 29,none,.mv (.t 1)⟩,⟨some 30,none,.bin .lss false (.t 29) (.c (.int .i64 0))⟩]) (.cond (.t 30) (.seq (.reg [⟨some 4,none,.mv (.c (.int .i64 (-(0+1))))⟩]) .ret) .skip)))))) (.reg [⟨some 10,none,.mv (.t 5)⟩,⟨some 11,none,.bin .add false (.t 10) (.c (.int .i64 1))⟩,⟨some 5,none,.mv (.t 11)⟩])))))) (.seq (.reg [⟨some 31,none,.mv (.t 1)⟩,⟨some 4,none,.mv (.t 31)⟩]) .ret)))
theorem JH:codeOf Try.prog 68=some ⟨32,Gw,[(.tmp 4)]⟩:=by kernel_rfl
theorem De:modes 68=⟨[],.asis,none,false⟩:=by unfold modes; rfl
theorem Tm.mkS_len:∀ (xs:List Tm) (k:Int),(Tm.mkS xs k).1.length=xs.length
 | [],k=>by rw [Tm.mkS]
 | x :: xs,k=>by rw [Tm.mkS]; simp only [zH]; rw [Tm.mkS_len xs]
abbrev FH (xs:List Tm):Prop:=∀ k:Int,1≤k→k+Tm.wtS xs≤1099511627776→E 68 [.arr ((Tm.mkS xs k).1.map Tm.d),.int .i64 k] []=some (.int .i64 (Tm.mkS xs k).2,[])
theorem H0 (xs:List Tm) (ih:∀ x∈xs,FH x.args):FH xs:=by
 intro k0 h1 h2
 obtain ⟨ys,hys⟩:∃ ys,ys=(Tm.mkS xs k0).1:=⟨_,rfl⟩
 have hyl:ys.length=xs.length:=by rw [hys,Tm.mkS_len]
 rw [←hys]
 have hL:=Tm.length_wt xs
 refine Aj JH De (of_decide_eq_true rfl) ?_
 simp (disch:=omega) only [Gw,go_sem,Ab]
 refine go_loop (α:=Int × (Int)) (fun a=>⟨slots 32 0 [(0,.arr (ys.map Tm.d)),(1,.int .i64 (a.2)),(5,.int .i64 (a.1))],[]⟩) (fun a=>∃ k:Nat,a.1=k∧k≤(ys).length∧1≤(a.2)∧(a.2)+Tm.wtS (xs.drop k)=k0+Tm.wtS xs∧ys.drop k=(Tm.mkS (xs.drop k) (a.2)).1∧(Tm.mkS xs k0).2=(Tm.mkS (xs.drop k) (a.2)).2) (fun a=>(ys).length-(a.1).toNat) (0,k0) ⟨0,rfl,zT _,h1,by rw [zL],by rw [zL,zL,hys],by rw [zL]⟩ (by simp (disch:=omega) only [go_sem,Ab]) ?_
 rintro ⟨i,kk⟩ ⟨k,hi,hk,hR⟩
 dsimp only at hi hR
 have hni:i.toNat=k:=by omega
 have hni1:(i+1).toNat=k+1:=by omega
 rcases zO k (ys).length with hlt | hge
 ·obtain ⟨hk1,hkn,hy,hm⟩:=hR
  have hlx:k<xs.length:=by omega
  have hdr:xs.drop k=xs[k] :: xs.drop (k+1):=zJ hlx
  have hdy:=zJ hlt
  rw [hdr,Tm.wtS] at hkn
  rw [hdr,Tm.mkS] at hm
  rw [hdr,Tm.mkS,hdy] at hy
  dsimp only at hy hm
  obtain ⟨hy1,hy2⟩:=yF hy
  have hg:=get_at Tm.d hlt
  rw [hy1,Tm.mk1_d] at hg
  have hn1:=Tm.wt_eq xs[k]
  have e1:=Tm.mkS_end xs[k].args ((kk+1))
  have t0:=Eh (k:=kk) (by omega) (by omega)
  have c58:=ih xs[k] (zR hlx) ((kk+1)) (by omega) (by omega)
  have he:=Tm.mk1_end xs[k] kk
  simp (disch:=omega) only [go_sem,Ab,hni,hg,Dy,DE,t0,c58,De]
  refine ⟨(i+1,(xs[k].mk1 kk).2),⟨k+1,by dsimp only; omega,hlt,by dsimp only; omega,by dsimp only; omega,hy2,hm⟩,by dsimp only; omega,?_⟩
  dsimp only
  rw [Tm.mk1_eq]
  simp only [and_self,and_true,true_and]
  try omega
 ·obtain ⟨hk1,hkn,hy,hm⟩:=hR
  have hdr:xs.drop k=[]:=zW (by omega)
  rw [hdr,Tm.mkS] at hm
  rw [hm]
  simp (disch:=omega) only [go_sem,Ab,hni]
theorem Jo (x:Tm):FH x.args:=H0 x.args fun y hy=>Jo y
termination_by SizeOf.sizeOf x
decreasing_by exact Tm.lt_of_mem hy
theorem Ki (xs:List Tm):FH xs:=H0 xs fun y _=>Jo y
def EF:SC:=(.seq (.reg [⟨some 4,none,.mv (.c (.int .i64 0))⟩]) (.seq (.seq (.reg [⟨some 5,none,.mv (.c (.int .i64 0))⟩]) (.block 0 (.loop [1,1,0,0,0,1,0,0,0,0,0,0,0,0,0,0,0,0,0,0,0,0,0,0,0,0,0,0,0,0,0,0,0,0,0,0,0,0,0,0,0,0,0,0,0,0,0,0,0,0,0,0,0,0,0,0,0,0,0,0,0,0] (.seq (.seq (.reg [⟨some 6,none,.mv (.t 5)⟩,⟨some 7,none,.mv (.t 0)⟩,⟨some 8,none,.len false (.t 7)⟩,⟨some 9,none,.bin .lss false (.t 6) (.t 8)⟩]) (.cond (.t 9) .skip (.exit 0))) (.seq (.block 1 (.seq (.seq (.reg [⟨some 12,none,.mv (.t 0)⟩,⟨some 13,none,.mv (.t 5)⟩,⟨some 14,none,.iaddr 5 (.t 12) (.t 13)⟩,⟨some 15,none,.faddr 0 (.t 14)⟩,⟨some 16,none,.load false 1 (.t 15)⟩,⟨some 17,none,.mv (.t 1)⟩,⟨some 18,none,.bin .neq false (.t 16) (.t 17)⟩]) (.cond (.t 18) (.seq (.reg [⟨some 4,none,.mv (.c (.int .i64 (-(0+1))))⟩]) .ret) .skip)) (.seq (.reg [⟨some 19,none,.mv (.t 1)⟩,⟨some 20,none,.bin .add false (.t 19) (.c (.int .i64 1))⟩,⟨some 1,none,.mv (.t 20)⟩]) (.seq (.seq (.dreg [[],[],[0,1],[2,0,1],[3,2,0,1],[4,3,2,0,1],[],[6],[5,4,3,2,0,1,7,6]] [⟨some 21,none,.mv (.t 0)⟩,⟨some 22,none,.mv (.t 5)⟩,⟨some 23,none,.iaddr 5 (.t 21) (.t 22)⟩,⟨some 24,none,.faddr 1 (.t 23)⟩,⟨some 25,none,.faddr 0 (.t 24)⟩,⟨some 26,none,.load false 1 (.t 25)⟩,⟨some 27,none,.mv (.t 1)⟩,⟨some 28,none,.call 43 [(.t 27)]⟩,⟨some 29,none,.bin .neq false (.t 26) (.t 28)⟩]) (.cond (.t 29) (.seq (.reg [⟨some 4,none,.mv (.c (.int .i64 (-(0+1))))⟩]) .ret) .skip)) (.seq (.reg [⟨some 30,none,.mv (.t 1)⟩,⟨some 31,none,.bin .add false (.t 30) (.c (.int .i64 1))⟩,⟨some 1,none,.mv (.t 31)⟩]) (.seq (.reg [⟨some 32,none,.mv (.t 0)⟩,⟨some 33,none,.mv (.t 5)⟩,⟨some 34,none,.iaddr 5 (.t 32) (.t 33)⟩,⟨some 35,none,.faddr 1 (.t 34)⟩,⟨some 36,none,.faddr 1 (.t 35)⟩,⟨some 37,none,.load false 1 (.t 36)⟩,⟨some 38,none,.mv (.t 1)⟩,⟨some 39,none,.call 68 [(.t 37),(.t 38)]⟩,⟨some 1,none,.mv (.t 39)⟩]) (.seq (.seq (.reg [⟨some 40,none,.mv (.t 1)⟩,⟨some 41,none,.bin .lss false (.t 40) (.c (.int .i64 0))⟩]) (.cond (.t 41) (.seq (.reg [⟨some 4,none,.mv (.c (.int .i64 (-(0+1))))⟩]) .ret) .skip)) (.seq (.seq (.dreg [[],[],[0,1],[2,0,1],[3,2,0,1],[],[5],[4,3,2,0,1,6,5]] [⟨some 42,none,.mv (.t 0)⟩,⟨some 43,none,.mv (.t 5)⟩,⟨some 44,none,.iaddr 5 (.t 42) (.t 43)⟩,⟨some 45,none,.faddr 3 (.t 44)⟩,⟨some 46,none,.load false 1 (.t 45)⟩,⟨some 47,none,.mv (.t 1)⟩,⟨some 48,none,.call 43 [(.t 47)]⟩,⟨some 49,none,.bin .neq false (.t 46) (.t 48)⟩]) (.cond (.t 49) (.seq (.reg [⟨some 4,none,.mv (.c (.int .i64 (-(0+1))))⟩]) .ret) .skip)) (.seq (.reg [⟨some 50,none,.mv (.t 1)⟩,⟨some 51,none,.bin .add false (.t 50) (.c (.int .i64 1))⟩,⟨some 1,none,.mv (.t 51)⟩]) (.seq (.reg [⟨some 52,none,.mv (.t 0)⟩,⟨some 53,none,.mv (.t 5)⟩,⟨some 54,none,.iaddr 5 (.t 52) (.t 53)⟩,⟨some 55,none,.faddr 4 (.t 54)⟩,⟨some 56,none,.load false 1 (.t 55)⟩,⟨some 57,none,.mv (.t 1)⟩,⟨some 58,none,.call 31 [(.t 56),(.t 57)]⟩,⟨some 1,none,.mv (.t 58)⟩]) (.seq (.reg [⟨some 59,none,.mv (.t 1)⟩,⟨some 60,none,.bin .lss false (.t 59) (.c (.int .i64 0))⟩]) (.cond (.t 60) (.seq (.reg [⟨some 4,none,.mv (.c (.int .i64 (-(0+1))))⟩]) .ret) .skip)))))))))))) (.reg [⟨some 10,none,.mv (.t 5)⟩,⟨some 11,none,.bin .add false (.t 10) (.c (.int .i64 1))⟩,⟨some 5,none,.mv (.t 11)⟩])))))) (.seq (.reg [⟨some 61,none,.mv (.t 1)⟩,⟨some 4,none,.mv (.t 61)⟩]) .ret)))
theorem HO:codeOf Try.prog 31=some ⟨62,EF,[(.tmp 4)]⟩:=by kernel_rfl
theorem Dm:modes 31=⟨[],.asis,none,false⟩:=by unfold modes; rfl
theorem Fm.mkS_len:∀ (xs:List Fm) (k:Int),(Fm.mkS xs k).1.length=xs.length
 | [],k=>by rw [Fm.mkS]
 | x :: xs,k=>by rw [Fm.mkS]; simp only [zH]; rw [Fm.mkS_len xs]
abbrev DR (xs:List Fm):Prop:=∀ k:Int,1≤k→k+Fm.wtS xs≤1099511627776→E 31 [.arr ((Fm.mkS xs k).1.map Fm.d),.int .i64 k] []=some (.int .i64 (Fm.mkS xs k).2,[])
theorem FI (xs:List Fm) (ih:∀ x∈xs,DR x.parts):DR xs:=by
 intro k0 h1 h2
 obtain ⟨ys,hys⟩:∃ ys,ys=(Fm.mkS xs k0).1:=⟨_,rfl⟩
 have hyl:ys.length=xs.length:=by rw [hys,Fm.mkS_len]
 rw [←hys]
 have hL:=Fm.length_wt xs
 refine Aj HO Dm (of_decide_eq_true rfl) ?_
 simp (disch:=omega) only [EF,go_sem,Ab]
 refine go_loop (α:=Int × (Int)) (fun a=>⟨slots 62 0 [(0,.arr (ys.map Fm.d)),(1,.int .i64 (a.2)),(5,.int .i64 (a.1))],[]⟩) (fun a=>∃ k:Nat,a.1=k∧k≤(ys).length∧1≤(a.2)∧(a.2)+Fm.wtS (xs.drop k)=k0+Fm.wtS xs∧ys.drop k=(Fm.mkS (xs.drop k) (a.2)).1∧(Fm.mkS xs k0).2=(Fm.mkS (xs.drop k) (a.2)).2) (fun a=>(ys).length-(a.1).toNat) (0,k0) ⟨0,rfl,zT _,h1,by rw [zL],by rw [zL,zL,hys],by rw [zL]⟩ (by simp (disch:=omega) only [go_sem,Ab]) ?_
 rintro ⟨i,kk⟩ ⟨k,hi,hk,hR⟩
 dsimp only at hi hR
 have hni:i.toNat=k:=by omega
 have hni1:(i+1).toNat=k+1:=by omega
 rcases zO k (ys).length with hlt | hge
 ·obtain ⟨hk1,hkn,hy,hm⟩:=hR
  have hlx:k<xs.length:=by omega
  have hdr:xs.drop k=xs[k] :: xs.drop (k+1):=zJ hlx
  have hdy:=zJ hlt
  rw [hdr,Fm.wtS] at hkn
  rw [hdr,Fm.mkS] at hm
  rw [hdr,Fm.mkS,hdy] at hy
  dsimp only at hy hm
  obtain ⟨hy1,hy2⟩:=yF hy
  have hg:=get_at Fm.d hlt
  rw [hy1,Fm.mk1_d] at hg
  have hn1:=Fm.wt_eq xs[k]
  have e2:=Tm.mkS_end xs[k].atom.args ((kk+1+1))
  have e4:=Fm.mkS_end xs[k].parts (((Tm.mkS xs[k].atom.args (kk+1+1)).2+1))
  have t0:=Eh (k:=(kk+1)) (by omega) (by omega)
  have c64:=Ki xs[k].atom.args ((kk+1+1)) (by omega) (by omega)
  have t145:=Eh (k:=(Tm.mkS xs[k].atom.args (kk+1+1)).2) (by omega) (by omega)
  have c242:=ih xs[k] (zR hlx) (((Tm.mkS xs[k].atom.args (kk+1+1)).2+1)) (by omega) (by omega)
  have he:=Fm.mk1_end xs[k] kk
  simp (disch:=omega) only [go_sem,Ab,hni,hg,Dy,DE,t0,c64,De,t145,c242,Dm]
  refine ⟨(i+1,(xs[k].mk1 kk).2),⟨k+1,by dsimp only; omega,hlt,by dsimp only; omega,by dsimp only; omega,hy2,hm⟩,by dsimp only; omega,?_⟩
  dsimp only
  rw [Fm.mk1_eq]
  simp only [and_self,and_true,true_and]
  try omega
 ·obtain ⟨hk1,hkn,hy,hm⟩:=hR
  have hdr:xs.drop k=[]:=zW (by omega)
  rw [hdr,Fm.mkS] at hm
  rw [hm]
  simp (disch:=omega) only [go_sem,Ab,hni]
theorem GM (x:Fm):DR x.parts:=FI x.parts fun y hy=>GM y
termination_by SizeOf.sizeOf x
decreasing_by exact Fm.lt_of_mem hy
theorem LE (xs:List Fm):DR xs:=FI xs fun y _=>GM y
theorem NJ {o:Ob} {es:List (List OT)} (h:toTree [o]=[.tree es []]):(∃ a b,o=.row a b es)∨o=.tree es []:=by
 cases o with
 | row a b e=>obtain ⟨h1,h2⟩:=yF h; cases h1; exact .inl ⟨a,b,rfl⟩
 | tree e hs=>obtain ⟨h1,h2⟩:=yF h; cases h1; exact .inr rfl
 | _=>simp [toTree] at h
noncomputable def Tm.mkr (x:Tm) (k:Int):Tm × Int:=((Tm.mk (x.name) ((Tm.mkS x.args k).1)),(Tm.mkS x.args k).2)
def GN:SC:=(.seq (.reg [⟨some 2,none,.boxv 24 2 (.t 0)⟩,⟨some 4,none,.mv (.c (.int .i64 0))⟩]) (.seq (.reg [⟨some 5,none,.faddr 1 (.t 2)⟩,⟨some 6,none,.load false 1 (.t 5)⟩,⟨some 7,none,.mv (.t 1)⟩,⟨some 8,none,.call 67 [(.t 6),(.t 7)]⟩,⟨some 1,none,.mv (.t 8)⟩]) (.seq (.reg [⟨some 9,none,.mv (.t 1)⟩,⟨some 4,none,.mv (.t 9)⟩]) .ret)))
theorem Ks:codeOf Try.prog 28=some ⟨10,GN,[(.tmp 4)]⟩:=by kernel_rfl
theorem GO:modes 28=⟨[true],.asis,none,false⟩:=by unfold modes; rfl
theorem PO (x:Tm) (k:Int) (o0:Ob) (h1:1≤k) (h2:k+(Tm.wtS x.args:Nat)≤1099511627776) (t0:toTree [o0]=[.tree (x.args.map Tm.o) []]):E 28 [.agg [.str x.name,.ref 0],.int .i64 k] [o0]=some (.int .i64 (x.mkr k).2,[.tree ((Tm.mkS x.args k).1.map Tm.o) []]):=by
 have e0:=Tm.mkS_end x.args k
 rw [Tm.mkr]
 dsimp only
 have c0:=Kh x.args k [o0] (by omega) (by omega) t0
 rcases NJ t0 with ⟨a0,b0,rfl⟩ | rfl <;>
  (
  refine Aj Ks GO (of_decide_eq_true rfl) ?_
  simp (disch:=omega) only [GN,go_sem,Ab,c0,Dd])
def GP:SC:=(.seq (.reg [⟨some 2,none,.boxv 24 2 (.t 0)⟩,⟨some 4,none,.mv (.c (.int .i64 0))⟩]) (.seq (.reg [⟨some 5,none,.faddr 1 (.t 2)⟩,⟨some 6,none,.load false 1 (.t 5)⟩,⟨some 7,none,.mv (.t 1)⟩,⟨some 8,none,.call 68 [(.t 6),(.t 7)]⟩,⟨some 1,none,.mv (.t 8)⟩]) (.seq (.seq (.reg [⟨some 9,none,.mv (.t 1)⟩,⟨some 10,none,.bin .lss false (.t 9) (.c (.int .i64 0))⟩]) (.cond (.t 10) (.seq (.reg [⟨some 4,none,.mv (.c (.int .i64 (-(0+1))))⟩]) .ret) .skip)) (.seq (.reg [⟨some 11,none,.mv (.t 1)⟩,⟨some 4,none,.mv (.t 11)⟩]) .ret))))
theorem Kt:codeOf Try.prog 30=some ⟨12,GP,[(.tmp 4)]⟩:=by kernel_rfl
theorem GQ:modes 30=⟨[],.asis,none,false⟩:=by unfold modes; rfl
theorem PP (x:Tm) (k:Int) (h1:1≤k) (h2:k+(Tm.wtS x.args:Nat)≤1099511627776):E 30 [.agg [.str x.name,.arr ((Tm.mkS x.args k).1.map Tm.d)],.int .i64 k] []=some (.int .i64 (x.mkr k).2,[]):=by
 have e0:=Tm.mkS_end x.args k
 rw [Tm.mkr]
 dsimp only
 have p0:(Tm.mk (x.name) ((Tm.mkS x.args k).1)).name=x.name:=rfl
 have p1:(Tm.mk (x.name) ((Tm.mkS x.args k).1)).args=(Tm.mkS x.args k).1:=rfl
 have c0:=Ki x.args k (by omega) (by omega)
 refine Aj Kt GQ (of_decide_eq_true rfl) ?_
 simp (disch:=omega) only [GP,go_sem,Ab,c0,De,p0,p1]
noncomputable def Fm.mkr (x:Fm) (k:Int):Fm × Int:=((Fm.mk (x.op) (Tm.mk (x.atom.name) ((Tm.mkS x.atom.args k).1)) (x.var) ((Fm.mkS x.parts (Tm.mkS x.atom.args k).2).1)),(Fm.mkS x.parts (Tm.mkS x.atom.args k).2).2)
def Fw:SC:=(.seq (.reg [⟨some 2,none,.boxv 27 5 (.t 0)⟩,⟨some 4,none,.mv (.c (.int .i64 0))⟩]) (.seq (.reg [⟨some 5,none,.faddr 1 (.t 2)⟩,⟨some 6,none,.load true 2 (.t 5)⟩,⟨some 7,none,.mv (.t 1)⟩,⟨some 8,none,.call 28 [(.t 6),(.t 7)]⟩,⟨some 1,none,.mv (.t 8)⟩]) (.seq (.reg [⟨some 9,none,.faddr 4 (.t 2)⟩,⟨some 10,none,.load false 1 (.t 9)⟩,⟨some 11,none,.mv (.t 1)⟩,⟨some 12,none,.call 29 [(.t 10),(.t 11)]⟩,⟨some 1,none,.mv (.t 12)⟩]) (.seq (.reg [⟨some 13,none,.mv (.t 1)⟩,⟨some 4,none,.mv (.t 13)⟩]) .ret))))
theorem IC:codeOf Try.prog 8=some ⟨14,Fw,[(.tmp 4)]⟩:=by kernel_rfl
theorem Fx:modes 8=⟨[true],.asis,none,false⟩:=by unfold modes; rfl
theorem Ma (x:Fm) (k:Int) (o0 o1:Ob) (h1:1≤k) (h2:k+(Tm.wtS x.atom.args+Fm.wtS x.parts:Nat)≤1099511627776) (t0:toTree [o0]=[.tree (x.atom.args.map Tm.o) []]) (t1:toTree [o1]=[.tree (x.parts.map Fm.o) []]):E 8 [.agg [.int .i64 x.op,.str x.atom.name,.ref 0,.str x.var,.ref 1],.int .i64 k] [o0,o1]=some (.int .i64 (x.mkr k).2,[.tree ((Tm.mkS x.atom.args k).1.map Tm.o) [],.tree ((Fm.mkS x.parts (Tm.mkS x.atom.args k).2).1.map Fm.o) []]):=by
 have e0:=Tm.mkS_end x.atom.args k
 have e1:=Fm.mkS_end x.parts (Tm.mkS x.atom.args k).2
 rw [Fm.mkr]
 dsimp only
 have c0:=PO x.atom k o0 (by omega) (by omega) t0
 rw [Tm.mkr] at c0
 dsimp only at c0
 have c1:=LD x.parts (Tm.mkS x.atom.args k).2 [o1] (by omega) (by omega) t1
 rcases NJ t0 with ⟨a0,b0,rfl⟩ | rfl <;>
 rcases NJ t1 with ⟨a1,b1,rfl⟩ | rfl <;>
  (
  refine Aj IC Fx (of_decide_eq_true rfl) ?_
  simp (disch:=omega) only [Fw,go_sem,Ab,c0,GO,c1,Dl])
def Fy:SC:=(.seq (.reg [⟨some 2,none,.boxv 27 5 (.t 0)⟩,⟨some 4,none,.mv (.c (.int .i64 0))⟩]) (.seq (.reg [⟨some 5,none,.faddr 1 (.t 2)⟩,⟨some 6,none,.load true 2 (.t 5)⟩,⟨some 7,none,.mv (.t 1)⟩,⟨some 8,none,.call 30 [(.t 6),(.t 7)]⟩,⟨some 1,none,.mv (.t 8)⟩]) (.seq (.seq (.reg [⟨some 9,none,.mv (.t 1)⟩,⟨some 10,none,.bin .lss false (.t 9) (.c (.int .i64 0))⟩]) (.cond (.t 10) (.seq (.reg [⟨some 4,none,.mv (.c (.int .i64 (-(0+1))))⟩]) .ret) .skip)) (.seq (.reg [⟨some 11,none,.faddr 4 (.t 2)⟩,⟨some 12,none,.load false 1 (.t 11)⟩,⟨some 13,none,.mv (.t 1)⟩,⟨some 14,none,.call 31 [(.t 12),(.t 13)]⟩,⟨some 1,none,.mv (.t 14)⟩]) (.seq (.seq (.reg [⟨some 15,none,.mv (.t 1)⟩,⟨some 16,none,.bin .lss false (.t 15) (.c (.int .i64 0))⟩]) (.cond (.t 16) (.seq (.reg [⟨some 4,none,.mv (.c (.int .i64 (-(0+1))))⟩]) .ret) .skip)) (.seq (.reg [⟨some 17,none,.mv (.t 1)⟩,⟨some 4,none,.mv (.t 17)⟩]) .ret))))))
theorem ID:codeOf Try.prog 9=some ⟨18,Fy,[(.tmp 4)]⟩:=by kernel_rfl
theorem Fz:modes 9=⟨[],.asis,none,false⟩:=by unfold modes; rfl
theorem Mb (x:Fm) (k:Int) (h1:1≤k) (h2:k+(Tm.wtS x.atom.args+Fm.wtS x.parts:Nat)≤1099511627776):E 9 [.agg [.int .i64 x.op,.str x.atom.name,.arr ((Tm.mkS x.atom.args k).1.map Tm.d),.str x.var,.arr ((Fm.mkS x.parts (Tm.mkS x.atom.args k).2).1.map Fm.d)],.int .i64 k] []=some (.int .i64 (x.mkr k).2,[]):=by
 have e0:=Tm.mkS_end x.atom.args k
 have e1:=Fm.mkS_end x.parts (Tm.mkS x.atom.args k).2
 rw [Fm.mkr]
 dsimp only
 have p0:(Fm.mk (x.op) (Tm.mk (x.atom.name) ((Tm.mkS x.atom.args k).1)) (x.var) ((Fm.mkS x.parts (Tm.mkS x.atom.args k).2).1)).op=x.op:=rfl
 have p1:(Fm.mk (x.op) (Tm.mk (x.atom.name) ((Tm.mkS x.atom.args k).1)) (x.var) ((Fm.mkS x.parts (Tm.mkS x.atom.args k).2).1)).atom=(Tm.mk (x.atom.name) ((Tm.mkS x.atom.args k).1)):=rfl
 have p2:(Tm.mk (x.atom.name) ((Tm.mkS x.atom.args k).1)).name=x.atom.name:=rfl
 have p3:(Tm.mk (x.atom.name) ((Tm.mkS x.atom.args k).1)).args=(Tm.mkS x.atom.args k).1:=rfl
 have p4:(Fm.mk (x.op) (Tm.mk (x.atom.name) ((Tm.mkS x.atom.args k).1)) (x.var) ((Fm.mkS x.parts (Tm.mkS x.atom.args k).2).1)).var=x.var:=rfl
 have p5:(Fm.mk (x.op) (Tm.mk (x.atom.name) ((Tm.mkS x.atom.args k).1)) (x.var) ((Fm.mkS x.parts (Tm.mkS x.atom.args k).2).1)).parts=(Fm.mkS x.parts (Tm.mkS x.atom.args k).2).1:=rfl
 have c0:=PP x.atom k (by omega) (by omega)
 rw [Tm.mkr] at c0
 dsimp only at c0
 have c1:=LE x.parts (Tm.mkS x.atom.args k).2 (by omega) (by omega)
 refine Aj ID Fz (of_decide_eq_true rfl) ?_
 simp (disch:=omega) only [Fy,go_sem,Ab,c0,GQ,c1,Dm,p0,p1,p2,p3,p4,p5]
def Im:SC:=(.seq (.reg [⟨some 2,none,.boxv 24 2 (.t 0)⟩,⟨some 3,none,.boxv 24 2 (.t 1)⟩,⟨some 4,none,.mv (.c (.bool false))⟩]) (.seq (.seq (.reg [⟨some 5,none,.faddr 0 (.t 2)⟩,⟨some 6,none,.load false 1 (.t 5)⟩,⟨some 7,none,.faddr 0 (.t 3)⟩,⟨some 8,none,.load false 1 (.t 7)⟩,⟨some 9,none,.bin .neq false (.t 6) (.t 8)⟩]) (.cond (.t 9) (.seq (.reg [⟨some 4,none,.mv (.c (.bool false))⟩]) .ret) .skip)) (.seq (.seq (.reg [⟨some 10,none,.faddr 1 (.t 2)⟩,⟨some 11,none,.load false 1 (.t 10)⟩,⟨some 12,none,.faddr 1 (.t 3)⟩,⟨some 13,none,.load false 1 (.t 12)⟩,⟨some 14,none,.call 66 [(.t 11),(.t 13)]⟩,⟨some 15,none,.un .not (.t 14)⟩]) (.cond (.t 15) (.seq (.reg [⟨some 4,none,.mv (.c (.bool false))⟩]) .ret) .skip)) (.seq (.reg [⟨some 4,none,.mv (.c (.bool true))⟩]) .ret))))
theorem Mc:codeOf Try.prog 26=some ⟨16,Im,[(.tmp 4)]⟩:=by kernel_rfl
theorem FW:modes 26=⟨[],.asis,none,false⟩:=by unfold modes; rfl
def H1:SC:=(.seq (.reg [⟨some 4,none,.mv (.c (.bool false))⟩]) (.seq (.seq (.reg [⟨some 6,none,.mv (.t 0)⟩,⟨some 7,none,.len false (.t 6)⟩,⟨some 8,none,.mv (.t 1)⟩,⟨some 9,none,.len false (.t 8)⟩,⟨some 10,none,.bin .neq false (.t 7) (.t 9)⟩]) (.cond (.t 10) (.seq (.reg [⟨some 4,none,.mv (.c (.bool false))⟩]) .ret) .skip)) (.seq (.seq (.reg [⟨some 5,none,.mv (.c (.int .i64 0))⟩]) (.block 0 (.loop [1,1,0,0,0,1,0,0,0,0,0,0,0,0,0,0,0,0,0,0,0,0,0,0,0,0,0] (.seq (.seq (.reg [⟨some 11,none,.mv (.t 5)⟩,⟨some 12,none,.mv (.t 0)⟩,⟨some 13,none,.len false (.t 12)⟩,⟨some 14,none,.bin .lss false (.t 11) (.t 13)⟩]) (.cond (.t 14) .skip (.exit 0))) (.seq (.block 1 (.seq (.dreg [[],[],[0,1],[2,0,1],[],[],[4,5],[6,4,5],[3,2,0,1,7,6,4,5],[8,3,2,0,1,7,6,4,5]] [⟨some 17,none,.mv (.t 0)⟩,⟨some 18,none,.mv (.t 5)⟩,⟨some 19,none,.iaddr 2 (.t 17) (.t 18)⟩,⟨some 20,none,.load true 2 (.t 19)⟩,⟨some 21,none,.mv (.t 1)⟩,⟨some 22,none,.mv (.t 5)⟩,⟨some 23,none,.iaddr 2 (.t 21) (.t 22)⟩,⟨some 24,none,.load true 2 (.t 23)⟩,⟨some 25,none,.call 26 [(.t 20),(.t 24)]⟩,⟨some 26,none,.un .not (.t 25)⟩]) (.cond (.t 26) (.seq (.reg [⟨some 4,none,.mv (.c (.bool false))⟩]) .ret) .skip))) (.reg [⟨some 15,none,.mv (.t 5)⟩,⟨some 16,none,.bin .add false (.t 15) (.c (.int .i64 1))⟩,⟨some 5,none,.mv (.t 16)⟩])))))) (.seq (.reg [⟨some 4,none,.mv (.c (.bool true))⟩]) .ret))))
theorem LF:codeOf Try.prog 66=some ⟨27,H1,[(.tmp 4)]⟩:=by kernel_rfl
theorem H2:modes 66=⟨[],.asis,none,false⟩:=by unfold modes; rfl
abbrev Jp (x:Tm):Prop:=x.bulk≤1048576→E 26 [x.sv,x.sv] []=some (.bool true,[])
abbrev Nl (xs:List Tm):Prop:=xs.length+Tm.sumB xs≤1048576→E 66 [.arr (xs.map Tm.d),.arr (xs.map Tm.d)] []=some (.bool true,[])
theorem NK (xs:List Tm) (h:∀ x∈xs,Jp x):Nl xs:=by
 intro hb
 refine Aj LF H2 (of_decide_eq_true rfl) ?_
 simp (disch:=omega) only [H1,go_sem,Ab]
 refine go_loop (α:=Int) (fun i=>⟨slots 27 0 [(0,.arr (xs.map Tm.d)),(1,.arr (xs.map Tm.d)),(5,.int .i64 i)],[]⟩) (fun i=>∃ k:Nat,i=k∧k≤xs.length) (fun i=>xs.length-i.toNat) 0 ⟨0,rfl,zT _⟩ (by simp (disch:=omega) only [go_sem,Ab]) ?_
 ·rintro i ⟨k,rfl,hk⟩
  obtain ⟨i,hi⟩:∃ i:Int,i=(k:Int):=⟨_,rfl⟩
  rw [←hi]
  have hn:i.toNat=k:=by omega
  rcases zO k xs.length with hlt | hge
  ·have hg:=get_at Tm.d hlt
   rw [Tm.d_eq] at hg
   have hle:=Tm.bulk_le xs k hlt
   have hc:=h xs[k] (zR hlt) (by omega)
   simp (disch:=omega) only [go_sem,Ab,hn,hg,hc,FW]
   refine ⟨i+1,⟨k+1,by omega,hlt⟩,by omega,?_⟩
   trivial
  ·obtain rfl:k=xs.length:=by omega
   simp (disch:=omega) only [go_sem,Ab,hn]
theorem OW (x:Tm) (h_args:Nl x.args):Jp x:=by
 intro hb
 have qb:=Tm.bulk_eq x
 replace h_args:=h_args (by omega)
 refine Aj Mc FW (of_decide_eq_true rfl) ?_
 simp (disch:=omega) only [Im,go_sem,Ab,h_args,H2,DE]
theorem OX (x:Tm):Jp x:=OW x (NK x.args fun y hy=>OX y)
termination_by SizeOf.sizeOf x
decreasing_by exact Tm.lt_of_mem hy
def Gx:SC:=(.seq (.reg [⟨some 2,none,.boxv 27 5 (.t 0)⟩,⟨some 3,none,.boxv 27 5 (.t 1)⟩,⟨some 4,none,.mv (.c (.bool false))⟩]) (.seq (.seq (.reg [⟨some 5,none,.faddr 0 (.t 2)⟩,⟨some 6,none,.load false 1 (.t 5)⟩,⟨some 7,none,.faddr 0 (.t 3)⟩,⟨some 8,none,.load false 1 (.t 7)⟩,⟨some 9,none,.bin .neq false (.t 6) (.t 8)⟩]) (.cond (.t 9) (.seq (.reg [⟨some 4,none,.mv (.c (.bool false))⟩]) .ret) .skip)) (.seq (.seq (.reg [⟨some 10,none,.faddr 1 (.t 2)⟩,⟨some 11,none,.load true 2 (.t 10)⟩,⟨some 12,none,.faddr 1 (.t 3)⟩,⟨some 13,none,.load true 2 (.t 12)⟩,⟨some 14,none,.call 26 [(.t 11),(.t 13)]⟩,⟨some 15,none,.un .not (.t 14)⟩]) (.cond (.t 15) (.seq (.reg [⟨some 4,none,.mv (.c (.bool false))⟩]) .ret) .skip)) (.seq (.seq (.reg [⟨some 16,none,.faddr 3 (.t 2)⟩,⟨some 17,none,.load false 1 (.t 16)⟩,⟨some 18,none,.faddr 3 (.t 3)⟩,⟨some 19,none,.load false 1 (.t 18)⟩,⟨some 20,none,.bin .neq false (.t 17) (.t 19)⟩]) (.cond (.t 20) (.seq (.reg [⟨some 4,none,.mv (.c (.bool false))⟩]) .ret) .skip)) (.seq (.seq (.reg [⟨some 21,none,.faddr 4 (.t 2)⟩,⟨some 22,none,.load false 1 (.t 21)⟩,⟨some 23,none,.faddr 4 (.t 3)⟩,⟨some 24,none,.load false 1 (.t 23)⟩,⟨some 25,none,.call 27 [(.t 22),(.t 24)]⟩,⟨some 26,none,.un .not (.t 25)⟩]) (.cond (.t 26) (.seq (.reg [⟨some 4,none,.mv (.c (.bool false))⟩]) .ret) .skip)) (.seq (.reg [⟨some 4,none,.mv (.c (.bool true))⟩]) .ret))))))
theorem JI:codeOf Try.prog 7=some ⟨27,Gx,[(.tmp 4)]⟩:=by kernel_rfl
theorem El:modes 7=⟨[],.asis,none,false⟩:=by unfold modes; rfl
def FJ:SC:=(.seq (.reg [⟨some 4,none,.mv (.c (.bool false))⟩]) (.seq (.seq (.reg [⟨some 6,none,.mv (.t 0)⟩,⟨some 7,none,.len false (.t 6)⟩,⟨some 8,none,.mv (.t 1)⟩,⟨some 9,none,.len false (.t 8)⟩,⟨some 10,none,.bin .neq false (.t 7) (.t 9)⟩]) (.cond (.t 10) (.seq (.reg [⟨some 4,none,.mv (.c (.bool false))⟩]) .ret) .skip)) (.seq (.seq (.reg [⟨some 5,none,.mv (.c (.int .i64 0))⟩]) (.block 0 (.loop [1,1,0,0,0,1,0,0,0,0,0,0,0,0,0,0,0,0,0,0,0,0,0,0,0,0,0] (.seq (.seq (.reg [⟨some 11,none,.mv (.t 5)⟩,⟨some 12,none,.mv (.t 0)⟩,⟨some 13,none,.len false (.t 12)⟩,⟨some 14,none,.bin .lss false (.t 11) (.t 13)⟩]) (.cond (.t 14) .skip (.exit 0))) (.seq (.block 1 (.seq (.dreg [[],[],[0,1],[2,0,1],[],[],[4,5],[6,4,5],[3,2,0,1,7,6,4,5],[8,3,2,0,1,7,6,4,5]] [⟨some 17,none,.mv (.t 0)⟩,⟨some 18,none,.mv (.t 5)⟩,⟨some 19,none,.iaddr 5 (.t 17) (.t 18)⟩,⟨some 20,none,.load true 5 (.t 19)⟩,⟨some 21,none,.mv (.t 1)⟩,⟨some 22,none,.mv (.t 5)⟩,⟨some 23,none,.iaddr 5 (.t 21) (.t 22)⟩,⟨some 24,none,.load true 5 (.t 23)⟩,⟨some 25,none,.call 7 [(.t 20),(.t 24)]⟩,⟨some 26,none,.un .not (.t 25)⟩]) (.cond (.t 26) (.seq (.reg [⟨some 4,none,.mv (.c (.bool false))⟩]) .ret) .skip))) (.reg [⟨some 15,none,.mv (.t 5)⟩,⟨some 16,none,.bin .add false (.t 15) (.c (.int .i64 1))⟩,⟨some 5,none,.mv (.t 16)⟩])))))) (.seq (.reg [⟨some 4,none,.mv (.c (.bool true))⟩]) .ret))))
theorem Jq:codeOf Try.prog 27=some ⟨27,FJ,[(.tmp 4)]⟩:=by kernel_rfl
theorem FK:modes 27=⟨[],.asis,none,false⟩:=by unfold modes; rfl
abbrev H3 (x:Fm):Prop:=x.bulk≤1048576→E 7 [x.sv,x.sv] []=some (.bool true,[])
abbrev Jr (xs:List Fm):Prop:=xs.length+Fm.sumB xs≤1048576→E 27 [.arr (xs.map Fm.d),.arr (xs.map Fm.d)] []=some (.bool true,[])
theorem Ku (xs:List Fm) (h:∀ x∈xs,H3 x):Jr xs:=by
 intro hb
 refine Aj Jq FK (of_decide_eq_true rfl) ?_
 simp (disch:=omega) only [FJ,go_sem,Ab]
 refine go_loop (α:=Int) (fun i=>⟨slots 27 0 [(0,.arr (xs.map Fm.d)),(1,.arr (xs.map Fm.d)),(5,.int .i64 i)],[]⟩) (fun i=>∃ k:Nat,i=k∧k≤xs.length) (fun i=>xs.length-i.toNat) 0 ⟨0,rfl,zT _⟩ (by simp (disch:=omega) only [go_sem,Ab]) ?_
 ·rintro i ⟨k,rfl,hk⟩
  obtain ⟨i,hi⟩:∃ i:Int,i=(k:Int):=⟨_,rfl⟩
  rw [←hi]
  have hn:i.toNat=k:=by omega
  rcases zO k xs.length with hlt | hge
  ·have hg:=get_at Fm.d hlt
   rw [Fm.d_eq] at hg
   have hle:=Fm.bulk_le xs k hlt
   have hc:=h xs[k] (zR hlt) (by omega)
   simp (disch:=omega) only [go_sem,Ab,hn,hg,hc,El]
   refine ⟨i+1,⟨k+1,by omega,hlt⟩,by omega,?_⟩
   trivial
  ·obtain rfl:k=xs.length:=by omega
   simp (disch:=omega) only [go_sem,Ab,hn]
theorem LG (x:Fm) (h_atom:Jp x.atom) (h_parts:Jr x.parts):H3 x:=by
 intro hb
 have qb:=Fm.bulk_eq x
 replace h_atom:=h_atom (by omega)
 replace h_parts:=h_parts (by omega)
 refine Aj JI El (of_decide_eq_true rfl) ?_
 simp (disch:=omega) only [Gx,go_sem,Ab,h_atom,FW,h_parts,FK,DE]
theorem Kj (x:Fm):H3 x:=LG x (OX x.atom) (Ku x.parts fun y hy=>Kj y)
termination_by SizeOf.sizeOf x
decreasing_by exact Fm.lt_of_mem hy
def Cq:SC:=(.seq (.reg [⟨some 2,none,.mv (.c (.bool false))⟩]) (.seq (.seq (.reg [⟨some 11,none,.mv (.t 0)⟩,⟨some 12,none,.len true (.t 11)⟩,⟨some 13,none,.bin .gtr false (.t 12) (.c (.int .i64 1048576))⟩]) (.cond (.t 13) (.seq (.reg [⟨some 2,none,.mv (.c (.bool true))⟩]) .ret) .skip)) (.seq (.reg [⟨some 15,none,.mv (.t 0)⟩,⟨some 16,none,.call 5 [(.t 15)]⟩,⟨some 14,none,.mv (.t 16)⟩,⟨some 17,none,.ext (.t 14) 0⟩,⟨some 18,none,.ext (.t 14) 1⟩,⟨(some 3),none,(.alloc 27 [(.int .i64 0),(.str ⟨#[]⟩),.nil,(.str ⟨#[]⟩),.nil])⟩,⟨none,none,(.store 5 (.t 3) (.t 17))⟩,⟨some 4,none,.mv (.t 18)⟩]) (.seq (.reg [⟨some 20,none,.mv (.t 0)⟩,⟨some 21,none,.call 6 [(.t 20)]⟩,⟨some 19,none,.mv (.t 21)⟩,⟨some 22,none,.ext (.t 19) 0⟩,⟨some 23,none,.ext (.t 19) 1⟩,⟨(some 5),none,(.alloc 27 [(.int .i64 0),(.str ⟨#[]⟩),.nil,(.str ⟨#[]⟩),.nil])⟩,⟨none,none,(.store 5 (.t 5) (.t 22))⟩,⟨some 6,none,.mv (.t 23)⟩]) (.seq (.seq (.reg [⟨some 24,none,.load true 5 (.t 5)⟩,⟨some 25,none,.load true 5 (.t 3)⟩,⟨some 26,none,.call 7 [(.t 24),(.t 25)]⟩,⟨some 27,none,.un .not (.t 26)⟩,⟨some 28,none,.mv (.t 27)⟩,⟨(some 29),(some (28,false)),(.mv (.t 6))⟩,⟨(some 30),(some (28,false)),(.mv (.t 4))⟩,⟨(some 31),(some (28,false)),(.bin .neq true (.t 29) (.t 30))⟩,⟨some 32,none,.pick (.t 28) (.c (.bool true)) (.t 31)⟩]) (.cond (.t 32) (.seq (.reg [⟨some 2,none,.mv (.c (.bool false))⟩]) .ret) .skip)) (.seq (.reg [⟨some 7,none,.mv (.c (.int .i64 1))⟩]) (.seq (.reg [⟨some 33,none,.load true 5 (.t 5)⟩,⟨some 34,none,.mv (.t 7)⟩,⟨some 35,none,.call 8 [(.t 33),(.t 34)]⟩,⟨some 7,none,.mv (.t 35)⟩]) (.seq (.reg [⟨some 8,none,.mv (.c (.int .i64 1))⟩]) (.seq (.reg [⟨some 36,none,.load true 5 (.t 5)⟩,⟨some 37,none,.mv (.t 8)⟩,⟨some 38,none,.call 9 [(.t 36),(.t 37)]⟩,⟨some 8,none,.mv (.t 38)⟩]) (.seq (.seq (.reg [⟨some 39,none,.mv (.t 8)⟩,⟨some 40,none,.bin .lss false (.t 39) (.c (.int .i64 0))⟩]) (.cond (.t 40) (.seq (.reg [⟨some 2,none,.mv (.c (.bool false))⟩]) .ret) .skip)) (.seq (.seq (.reg [⟨some 41,none,.mv (.t 8)⟩,⟨some 42,none,.mv (.t 7)⟩,⟨some 43,none,.bin .neq false (.t 41) (.t 42)⟩]) (.cond (.t 43) (.seq (.reg [⟨some 2,none,.mv (.c (.bool false))⟩]) .ret) .skip)) (.seq (.reg [⟨some 45,none,.mv (.t 0)⟩,⟨some 46,none,.call 6 [(.t 45)]⟩,⟨some 44,none,.mv (.t 46)⟩,⟨some 47,none,.ext (.t 44) 0⟩,⟨some 48,none,.ext (.t 44) 1⟩,⟨(some 9),none,(.alloc 27 [(.int .i64 0),(.str ⟨#[]⟩),.nil,(.str ⟨#[]⟩),.nil])⟩,⟨none,none,(.store 5 (.t 9) (.t 47))⟩,⟨some 10,none,.mv (.t 48)⟩]) (.seq (.seq (.reg [⟨some 49,none,.load true 5 (.t 9)⟩,⟨some 50,none,.load true 5 (.t 3)⟩,⟨some 51,none,.call 7 [(.t 49),(.t 50)]⟩,⟨some 52,none,.un .not (.t 51)⟩,⟨some 53,none,.mv (.t 52)⟩,⟨(some 54),(some (53,false)),(.mv (.t 10))⟩,⟨(some 55),(some (53,false)),(.mv (.t 4))⟩,⟨(some 56),(some (53,false)),(.bin .neq true (.t 54) (.t 55))⟩,⟨some 57,none,.pick (.t 53) (.c (.bool true)) (.t 56)⟩]) (.cond (.t 57) (.seq (.reg [⟨some 2,none,.mv (.c (.bool false))⟩]) .ret) .skip)) (.seq (.reg [⟨some 8,none,.mv (.c (.int .i64 1))⟩]) (.seq (.reg [⟨some 58,none,.load true 5 (.t 5)⟩,⟨some 59,none,.mv (.t 8)⟩,⟨some 60,none,.call 9 [(.t 58),(.t 59)]⟩,⟨some 8,none,.mv (.t 60)⟩]) (.seq (.seq (.reg [⟨some 61,none,.mv (.t 8)⟩,⟨some 62,none,.bin .lss false (.t 61) (.c (.int .i64 0))⟩]) (.cond (.t 62) (.seq (.reg [⟨some 2,none,.mv (.c (.bool false))⟩]) .ret) .skip)) (.seq (.seq (.reg [⟨some 63,none,.mv (.t 8)⟩,⟨some 64,none,.mv (.t 7)⟩,⟨some 65,none,.bin .neq false (.t 63) (.t 64)⟩]) (.cond (.t 65) (.seq (.reg [⟨some 2,none,.mv (.c (.bool false))⟩]) .ret) .skip)) (.seq (.reg [⟨some 2,none,.mv (.c (.bool true))⟩]) .ret))))))))))))))))))
theorem CZ:codeOf Try.prog 3=some ⟨66,Cq,[(.tmp 2)]⟩:=by kernel_rfl
theorem Da:modes 3=⟨[],.asis,none,false⟩:=by unfold modes; rfl
theorem Fm.Rt:Fm.zero.bulk=0:=by
 rw [Fm.bulk_eq]
 show Tm.zero.bulk+0+(0+Fm.sumB [])=_
 rw [Tm.bulk_eq,Fm.sumB]
 show (0+(0+Tm.sumB []))+0+0=_
 rw [Tm.sumB]
theorem Ru (s:ByteArray):(Kq s).bulk≤1048576:=by
 cases h:PL s with
 | false =>
  have h2:Kq s=Fm.zero:=by
   unfold Kq
   rw [dif_neg (Cf.1 h)]
  rw [h2,Fm.Rt]; omega
 | true =>
  have h2:=SQ h
  unfold Fm.valid at h2
  rw [zI,decide_eq_true_eq] at h2
  have:=Fm.LC _ h2.2
  omega
theorem Uk (s:ByteArray) (hf:s.size≤9223372036854775807):E 3 [.str s] []=some (.bool true,[]):=by
 rcases zO 1048576 s.size with h0 | h0
 ·have hq:((1048576:Int)<(s.size:Int))=True:=eq_true (by omega)
  refine Aj CZ Da (of_decide_eq_true rfl) ?_
  simp (disch:=omega) only [Cq,go_sem,Ab,hq]
 have hq:((1048576:Int)<(s.size:Int))=False:=eq_false (by omega)
 have a1:=IB s (by omega)
 have a2:=I8 s (by omega)
 have hbr:=Ru s
 obtain ⟨r,hr⟩:∃ r,r=Kq s:=⟨_,rfl⟩
 obtain ⟨o,ho⟩:∃ o,o=PL s:=⟨_,rfl⟩
 rw [←hr] at a1 a2 hbr
 rw [←ho] at a1 a2
 have e3:=Kj r hbr
 have br:=Fm.bulk_eq r
 have bra:=Tm.bulk_eq r.atom
 have wr1:=Tm.wtS_bulk r.atom.args
 have wr2:=Fm.wtS_bulk r.parts
 have k3:=Tm.mkS_end r.atom.args 1
 have k4:=Fm.mkS_end r.parts (Tm.mkS r.atom.args 1).2
 have m3:=Ma r 1 (.row 24 2 (r.atom.args.map Tm.o)) (.row 27 5 (r.parts.map Fm.o)) (by omega) (by omega) rfl rfl
 have h3:=Mb r 1 (by omega) (by omega)
 obtain ⟨n3,hn3⟩:∃ n3,n3=(r.mkr 1).2:=⟨_,rfl⟩
 have hn3':n3=(Fm.mkS r.parts (Tm.mkS r.atom.args 1).2).2:=hn3
 rw [←hn3] at m3 h3
 refine Aj CZ Da (of_decide_eq_true rfl) ?_
 simp (disch:=omega) only [Cq,go_sem,Ab,hq,a1,a2,e3,m3,h3,DE,BP,B6,El,Fx,Fz,Fm.osv,Fm.obs,Tm.erss,Tm.noss,Fm.erss,Fm.noss]
end Go.Proofs.Ytkjpmfmjebkkiaa
set_option maxRecDepth 100000
set_option linter.unusedSimpArgs false
set_option linter.unusedVariables false
set_option linter.unusedSectionVars false
namespace Go.Proofs.Ytkjpmfmjebkkiaa
open Go.RowKit Go.ChangeShapes Go.WideShapes Go.ChangeAt Go.Deep
section
variable {H:Type} {enc:TypeId × Value→H} {P:Program} {w:World} {base:Nat} {spare:Nat→Bool} {held:Bool}
end
inductive Lvs (w:World):List D→List Value→Prop
 |nil:Lvs w [] []
 |cons {d:D} {v:Value} {ds:List D} {vs:List Value} (h:DAt w d v) (hs:Lvs w ds vs):Lvs w (d :: ds) (v :: vs)
instance:Inhabited Tm:=⟨Tm.zero⟩
instance:Inhabited Fm:=⟨Fm.zero⟩
section
variable {H:Type} {enc:TypeId × Value→H} {w:World} {base:Nat} {spare:Nat→Bool} {held:Bool}
end
end Go.Proofs.Ytkjpmfmjebkkiaa
set_option maxRecDepth 100000
set_option linter.unusedSimpArgs false
set_option linter.unusedVariables false
set_option linter.unusedSectionVars false
namespace Go.Proofs.Ytkjpmfmjebkkiaa
open Go.RowKit
theorem Fun.yes {f:FuncId} {args:List SV} (h:Fun Try.prog f args [] (.bool true) []) {w:World} {vs:List Value} (hgl:GL w fun b=>b<w.heap.size) (hvs:RepVs w (fun b=>b<w.heap.size) (fun _=>none) args vs):Calls Try.prog f vs.toArray w (Ret w (.bool true)):=by
 have nl:∀ g,¬ (Au [] g).live:=fun g hg=>by simp [Au,Ob.live] at hg
 refine (h w (fun b=>b<w.heap.size) (fun _=>none) (fun _ _=>False) vs ⟨fun b hb=>hb,fun g hg=>absurd hg (nl g),fun g b hg=>absurd hg (nl g),fun g b hg=>absurd hg (nl g),fun g g' b hg=>absurd hg (nl g),fun g _=>rfl,hgl⟩ hvs).mono ?_
 rintro e w' ⟨v,I',V',B',rfl,hr,hp⟩
 simp only [RepV] at hr
 subst hr
 exact ⟨rfl,hp.fr.os,hp.fr.tape.1,hp.fr.output,hp.fr.size,fun b hb=>hp.fr.block b hb fun ⟨g,hg,_⟩=>absurd hg (nl g)⟩
theorem SU {w:World} {I:Nat→Prop} {V:Nat→Option Value}:RepVs w I V [] []:=by simp [RepVs]
theorem Rv {w:World} {I:Nat→Prop} {V:Nat→Option Value} {x:SV} {xs:List SV} {v:Value} {vs:List Value} (h:RepV w I V x v) (hs:RepVs w I V xs vs):RepVs w I V (x :: xs) (v :: vs):=by
 simp only [RepVs]; exact ⟨v,vs,rfl,h,hs⟩
instance:Inhabited Lt:=⟨Lt.zero⟩
instance:Inhabited Cl:=⟨Cl.zero⟩
section
variable {H:Type} {enc:TypeId × Value→H} {w:World} {base:Nat} {spare:Nat→Bool} {held:Bool}
end
end Go.Proofs.Ytkjpmfmjebkkiaa
