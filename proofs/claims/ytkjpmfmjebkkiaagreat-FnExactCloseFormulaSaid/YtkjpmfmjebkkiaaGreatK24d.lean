/-
  Texts of this claim, one behind the other, each built on those ahead of it. No condition.
-/
import Derived.Test.YtkjpmfmjebkkiaaGreatK24b
import Derived.Test.YtkjpmfmjebkkiaaGreatK24c
import Derived.ProofKit
import Derived.Deep.Slices
import Derived.Deep.Fields
import Derived.ChangeSame
import Derived.OpenShut
import Derived.ShutString
import Derived.ChangeOld
set_option maxHeartbeats 16000000
open List renaming drop_eq_getElem_cons → zB, getElem_mem → zD, drop_eq_nil_of_le → zE, drop_zero → zF, getElem?_eq_getElem → zH, length_map → zJ, length_cons → zL, eq_nil_of_length_eq_zero → zM, length_nil → zN, map_nil → zO, getElem?_map → zP, map_cons → zQ, range → zT, nil_append → zU, getD_eq_getElem?_getD → zV, getElem?_append_right → zW, length_take → zZ, take_length → z6, take_zero → z7
open Nat renaming lt_or_ge → zC, zero_le → zG, eq_zero_or_pos → zI, le_refl → zR
open Bool renaming and_eq_true → zK, and_self → z8
open Int renaming toNat_zero → zS
open Array renaming getElem?_eq_some_iff → zX
open List.cons renaming inj → zY
set_option maxRecDepth 100000
set_option linter.unusedSimpArgs false
set_option linter.unusedVariables false
set_option linter.unusedSectionVars false
namespace Go.Proofs.YtkjpmfmjebkkiaaGreat
open Go.RowKit
theorem Tt (xs:List ByteArray) (h:xs.length≤1048576):E 203 [.arr (xs.map fun s=>[D.str s])] []=some (.ref 0,[.row 9 1 (xs.map fun s=>[OT.str s])]):=by
 rw [N0 (g:=IN) (by unfold modes; rfl)]
 unfold IN
 simp only
 rw [A3 ⟨fun e he=>by obtain ⟨s,_,rfl⟩:=List.mem_map.1 he; exact ⟨s,rfl⟩,by simpa using h⟩,cond_true,List.map_map]
 rfl
theorem Dw:modes 203=⟨[],.asis,some IN,false⟩:=by unfold modes; rfl
theorem NB {x:Fm} (h:x.form=true) (ho:x.op=3):E 202 [x.atom.sv] []=some (.ref 0,[.row 9 1 ((BL [] x.atom.vs).map fun s=>[OT.str s])]):=by
 have ha:=(Fm.GB h ho).2.1
 have hn:=Tm.H9 ha
 have h1:=N8 x.atom (Qc x.atom ha) (by omega)
 have e:x.atom.vars=BL [] x.atom.vs:=MU _
 rw [e] at h1
 exact h1
theorem OQ (b acc:List ByteArray) (n:ByteArray) (ns:List ByteArray):Bm acc ((n :: ns).filter fun m=>!dec (m∈b))=Bm (bif dec (n∈b) then acc else Fx acc n) (ns.filter fun m=>!dec (m∈b)):=by
 rw [List.filter_cons]
 cases dec (n∈b) with
 | true=>rfl
 | false=>rfl
def Di:SC:=(.seq (.reg [⟨some 4,none,.boxv 34 5 (.t 1)⟩,⟨some 6,none,.mv (.c .nil)⟩]) (.seq (.seq (.reg [⟨some 11,none,.faddr 0 (.t 4)⟩,⟨some 12,none,.load false 1 (.t 11)⟩,⟨some 13,none,.bin .eql false (.t 12) (.c (.int .i64 3))⟩]) (.cond (.t 13) (.seq (.seq (.reg [⟨some 14,none,.faddr 1 (.t 4)⟩,⟨some 15,none,.load true 2 (.t 14)⟩,⟨some 16,none,.call 202 [(.t 15)]⟩,⟨some 17,none,.len false (.t 16)⟩,⟨some 18,none,.mv (.c (.int .i64 0))⟩]) (.block 0 (.loop [1,0,1,0,0,0,0,0,0,0,0,0,0,0,0,0,1,1,1,0,0,0,0,0,0,0,0,0,0,0,0,0,0,0,0,0,0,0,0,0,0,0,0,0,0,0,0,0,0,0,0,0,0,0,0,0,0,0,0,0] (.seq (.reg [⟨some 19,none,.bin .lss false (.t 18) (.t 17)⟩]) (.seq (.cond (.t 19) .skip (.exit 0)) (.seq (.block 1 (.seq (.reg [⟨some 20,none,.iaddr 1 (.t 16) (.t 18)⟩,⟨some 21,none,.load false 1 (.t 20)⟩,⟨some 8,none,.mv (.t 21)⟩]) (.seq (.reg [⟨some 22,none,.mv (.t 2)⟩,⟨some 23,none,.mv (.t 8)⟩,⟨some 24,none,.call 180 [(.t 22),(.t 23)]⟩,⟨some 25,none,.un .not (.t 24)⟩,⟨some 26,none,.mv (.t 25)⟩,⟨(some 27),(some (26,true)),(.mv (.t 0))⟩,⟨(some 28),(some (26,true)),(.mv (.t 8))⟩,⟨(some 29),(some (26,true)),(.call 180 [(.t 27),(.t 28)])⟩,⟨(some 30),(some (26,true)),(.un .not (.t 29))⟩,⟨some 31,none,.pick (.t 26) (.t 30) (.c (.bool false))⟩]) (.cond (.t 31) (.reg [⟨some 32,none,.mv (.t 0)⟩,⟨some 33,none,.mv (.t 8)⟩,⟨(some 34),none,(.mkrow 9 1 [(.str ⟨#[]⟩)] 1 [(0,(.t 33))])⟩,⟨(some 35),none,(.append 9 1 16 [(.str ⟨#[]⟩)] (.t 32) (.t 34))⟩,⟨some 0,none,.mv (.t 35)⟩]) .skip)))) (.reg [⟨some 36,none,.bin .add false (.t 18) (.c (.int .i64 1))⟩,⟨some 18,none,.mv (.t 36)⟩]))))))) (.seq (.reg [⟨some 37,none,.mv (.t 0)⟩,⟨some 6,none,.mv (.t 37)⟩]) .ret)) .skip)) (.seq (.seq (.reg [⟨some 38,none,.faddr 0 (.t 4)⟩,⟨some 39,none,.load false 1 (.t 38)⟩,⟨some 40,none,.call 153 [(.t 39)]⟩]) (.cond (.t 40) (.dreg [[],[0],[],[2],[3,2],[1,0,4,3,2],[5,1,0,4,3,2]] [⟨some 41,none,.mv (.t 2)⟩,⟨some 42,none,.call 203 [(.t 41)]⟩,⟨some 43,none,.faddr 3 (.t 4)⟩,⟨some 44,none,.load false 1 (.t 43)⟩,⟨(some 45),none,(.mkrow 9 1 [(.str ⟨#[]⟩)] 1 [(0,(.t 44))])⟩,⟨(some 46),none,(.append 9 1 16 [(.str ⟨#[]⟩)] (.t 42) (.t 45))⟩,⟨some 2,none,.mv (.t 46)⟩]) .skip)) (.seq (.seq (.reg [⟨some 47,none,.faddr 4 (.t 4)⟩,⟨some 48,none,.load false 1 (.t 47)⟩,⟨some 49,none,.len false (.t 48)⟩,⟨some 50,none,.mv (.c (.int .i64 0))⟩]) (.block 2 (.loop [1,0,1,0,0,0,0,0,0,0,0,0,0,0,0,0,0,0,0,0,0,0,0,0,0,0,0,0,0,0,0,0,0,0,0,0,0,0,0,0,0,0,0,0,0,0,0,0,1,1,1,0,0,0,0,0,0,0,0,0] (.seq (.reg [⟨some 51,none,.bin .lss false (.t 50) (.t 49)⟩]) (.seq (.cond (.t 51) .skip (.exit 2)) (.seq (.block 3 (.seq (.reg [⟨some 52,none,.iaddr 5 (.t 48) (.t 50)⟩,⟨some 53,none,.load true 5 (.t 52)⟩,⟨(some 10),none,(.alloc 34 [(.int .i64 0),(.str ⟨#[]⟩),.nil,(.str ⟨#[]⟩),.nil])⟩,⟨none,none,(.store 5 (.t 10) (.t 53))⟩]) (.reg [⟨some 54,none,.mv (.t 0)⟩,⟨some 55,none,.load true 5 (.t 10)⟩,⟨some 56,none,.mv (.t 2)⟩,⟨some 57,none,.call 159 [(.t 54),(.t 55),(.t 56)]⟩,⟨some 0,none,.mv (.t 57)⟩]))) (.reg [⟨some 58,none,.bin .add false (.t 50) (.c (.int .i64 1))⟩,⟨some 50,none,.mv (.t 58)⟩]))))))) (.seq (.reg [⟨some 59,none,.mv (.t 0)⟩,⟨some 6,none,.mv (.t 59)⟩]) .ret)))))
theorem EB:codeOf Tryz.prog 159=some ⟨60,Di,[(.tmp 6)]⟩:=by kernel_rfl
theorem B6:modes 159=⟨[true],.asis,none,false⟩:=by unfold modes; rfl
def Gf:SC:=(.seq (.reg [⟨some 1,none,.boxv 34 5 (.t 0)⟩,⟨some 2,none,.mv (.c .nil)⟩]) (.seq (.reg [⟨(some 4),none,(.mkrow 9 1 [(.str ⟨#[]⟩)] 0 [])⟩,⟨some 5,none,.load true 5 (.t 1)⟩,⟨some 6,none,.call 159 [(.t 4),(.t 5),(.c .nil)]⟩,⟨some 3,none,.mv (.t 6)⟩]) (.seq (.reg [⟨some 7,none,.mv (.t 3)⟩,⟨some 8,none,.call 160 [(.t 7)]⟩]) (.seq (.reg [⟨some 9,none,.mv (.t 3)⟩,⟨some 2,none,.mv (.t 9)⟩]) .ret))))
theorem J9:codeOf Tryz.prog 101=some ⟨10,Gf,[(.tmp 2)]⟩:=by kernel_rfl
theorem JA:modes 101=⟨[],.frz,none,false⟩:=by unfold modes; rfl
abbrev V8 (x:Fm):Prop:=∀ l b:List ByteArray,l.length+x.vn≤1048576→b.length+x.nodes≤1048576→E 159 [.ref 0,x.sv,.arr (b.map fun s=>[D.str s])] [.row 9 1 (l.map fun s=>[OT.str s])]=some ((bif dec (l.length<(Bm l (x.fv b)).length) then .ref 1 else .ref 0),(bif dec (l.length<(Bm l (x.fv b)).length) then [.gone,.row 9 1 ((Bm l (x.fv b)).map fun s=>[OT.str s])] else [.row 9 1 ((Bm l (x.fv b)).map fun s=>[OT.str s])]))
theorem RH (x:Fm) (hx:x.forms=true) (ih:∀ y∈x.parts,V8 y):V8 x:=by
 intro l b hn hb
 have hfo:=Fm.DU hx
 have hvn:=Fm.QP x
 have hnd:=Fm.nodes_eq x
 have hpl:=Fm.length_le x.parts
 have hfv:=Fm.QN x b
 have hat:=Fm.Kd hfo
 have hgl:dec (l.length<l.length)=false:=An (by omega)
 have hxs:x.sv=.agg [.int .i64 x.op,.str x.atom.name,.arr (x.atom.args.map Tm.d),.str x.var,.arr (x.parts.map Fm.d)]:=rfl
 have has:x.atom.sv=.agg [.str x.atom.name,.arr (x.atom.args.map Tm.d)]:=rfl
 cases ho:dec (x.op=3) with
 | true =>
  rw [ho] at hfv
  simp only [cond_true] at hfv
  have hv:=NB hfo (Ap.1 ho)
  have hil:=Ds x.atom.vs []
  have hvl:=Tm.HE x.atom
  simp only [zN] at hil
  obtain ⟨ns,hns⟩:∃ ns,ns=BL [] x.atom.vs:=⟨_,rfl⟩
  rw [←hns] at hv hfv hil
  rw [hfv]
  refine Al EB B6 (of_decide_eq_true rfl) ?_
  simp (disch:=omega) only [Di,go_sem,Ac,ho,hv,Dc]
  refine go_loop (α:=Int × (List ByteArray)) (fun a=>⟨slots 60 0 [(0,(bif dec (l.length<(a.2).length) then .ref 1 else .ref 0)),(2,.arr (b.map fun s=>[D.str s])),(16,(bif dec (l.length<(a.2).length) then .ref 2 else .ref 1)),(17,.int .i64 ns.length),(18,.int .i64 (a.1))],(bif dec (l.length<(a.2).length) then [.gone,.row 9 1 ((a.2).map fun s=>[OT.str s]),.row 9 1 (ns.map fun s=>[OT.str s])] else [.row 9 1 ((a.2).map fun s=>[OT.str s]),.row 9 1 (ns.map fun s=>[OT.str s])])⟩) (fun a=>∃ k:Nat,a.1=k∧k≤(ns).length∧Bm (a.2) ((ns.drop k).filter fun m=>!dec (m∈b))=Bm l (ns.filter fun m=>!dec (m∈b))∧(a.2).length+(ns.length-k)≤1048576∧l.length≤(a.2).length) (fun a=>(ns).length-(a.1).toNat) (0,l) ⟨0,rfl,zG _,by rw [zF],by dsimp only; omega,zR _⟩ (by simp (disch:=omega) only [go_sem,Ac,hgl]) ?_
  rintro ⟨i,acc⟩ ⟨k,hi,hk,hR⟩
  dsimp only at hi hR
  have hni:i.toNat=k:=by omega
  have hni1:(i+1).toNat=k+1:=by omega
  rcases zC k (ns).length with hlt | hge
  ·have hg:(ns.map fun s=>[OT.str s])[k]?=some [OT.str ns[k]]:=by rw [zP,zH hlt]; rfl
   obtain ⟨hR1,hR2,hR3⟩:=hR
   rw [zB hlt,OQ] at hR1
   have c1:=Ge b ns[k] (by omega)
   have c2:=Ge acc ns[k] (by omega)
   rcases zC l.length acc.length with q1 | q1
   all_goals
    cases hq:dec (ns[k]∈b) with
    | true =>
     rw [hq] at c1 hR1
     simp only [cond_true] at hR1
     simp (disch:=omega) only [go_sem,Ac,hni,hg,c1,c2,A5]
     refine ⟨(i+1,acc),⟨k+1,by dsimp only; omega,hlt,hR1,by dsimp only; omega,by dsimp only; omega⟩,by dsimp only; omega,?_⟩
     first | done | simp (disch:=omega) only [go_sem,Ac]
    | false =>
     rw [hq] at c1 hR1
     simp only [cond_false] at hR1
     cases hm:dec (ns[k]∈acc) with
     | true =>
      have e2:Fx acc ns[k]=acc:=by unfold Fx; rw [hm]; rfl
      rw [hm] at c2
      rw [e2] at hR1
      simp (disch:=omega) only [go_sem,Ac,hni,hg,c1,c2,A5]
      refine ⟨(i+1,acc),⟨k+1,by dsimp only; omega,hlt,hR1,by dsimp only; omega,by dsimp only; omega⟩,by dsimp only; omega,?_⟩
      first | done | simp (disch:=omega) only [go_sem,Ac]
     | false =>
      have e2:Fx acc ns[k]=acc++[ns[k]]:=by unfold Fx; rw [hm]; rfl
      have hl1:(acc.map fun s=>[OT.str s])++[[OT.str ns[k]]]=(acc++[ns[k]]).map fun s=>[OT.str s]:=by simp
      have q2:dec (l.length<(acc++[ns[k]]).length)=true:=A3 (by simp; omega)
      rw [hm] at c2
      rw [e2] at hR1
      simp (disch:=omega) only [go_sem,Ac,hni,hg,c1,c2,hl1,A5]
      refine ⟨(i+1,acc++[ns[k]]),⟨k+1,by dsimp only; omega,hlt,hR1,by simp; omega,by simp; omega⟩,by dsimp only; omega,?_⟩
      first | done | simp (disch:=omega) only [go_sem,Ac,q2,hl1]
  ·rw [zE hge] at hR
   obtain ⟨hR1,hR2,hR3⟩:=hR
   have hR1:acc=_:=hR1
   rw [←hR1]
   rcases zC l.length acc.length with q1 | q1
   ·simp (disch:=omega) only [go_sem,Ac,hni]
   ·simp (disch:=omega) only [go_sem,Ac,hni]
 | false =>
  rw [ho] at hfv
  simp only [cond_false] at hfv
  have hu:=Br x.op
  cases hq:qB x.op with
  | false =>
   rw [hq] at hfv
   simp only [cond_false] at hfv
   rw [hfv]
   unfold qB at hq
   rw [hq] at hu
   obtain ⟨b',hb'⟩:∃ b',b'=b:=⟨_,rfl⟩
   have hbl:b'.length≤b.length+1:=by rw [hb']; omega
   rw [←hb']
   refine Al EB B6 (of_decide_eq_true rfl) ?_
   simp (disch:=omega) only [Di,go_sem,Ac,ho,hu,Ab]
   refine go_loop (α:=Int × (List ByteArray)) (fun a=>⟨slots 60 0 [(0,(bif dec (l.length<(a.2).length) then .ref 1 else .ref 0)),(2,.arr (b'.map fun s=>[D.str s])),(48,.arr (x.parts.map Fm.d)),(49,.int .i64 x.parts.length),(50,.int .i64 (a.1))],(bif dec (l.length<(a.2).length) then [.gone,.row 9 1 ((a.2).map fun s=>[OT.str s])] else [.row 9 1 ((a.2).map fun s=>[OT.str s])])⟩) (fun a=>∃ k:Nat,a.1=k∧k≤(x.parts).length∧Bm (a.2) (Fm.fvL (x.parts.drop k) b')=Bm l (Fm.fvL x.parts b')∧(a.2).length+Fm.vnS (x.parts.drop k)≤1048576∧l.length≤(a.2).length) (fun a=>(x.parts).length-(a.1).toNat) (0,l) ⟨0,rfl,zG _,by rw [zF],by rw [zF]; dsimp only; omega,zR _⟩ (by simp (disch:=omega) only [go_sem,Ac,hgl]) ?_
   rintro ⟨i,acc⟩ ⟨k,hi,hk,hR⟩
   dsimp only at hi hR
   have hni:i.toNat=k:=by omega
   have hni1:(i+1).toNat=k+1:=by omega
   rcases zC k (x.parts).length with hlt | hge
   ·have hg:=get_at Fm.d hlt
    rw [Fm.d_eq] at hg
    obtain ⟨hR1,hR2,hR3⟩:=hR
    rw [zB hlt,Fm.fvL,Lf] at hR1
    rw [zB hlt,Fm.vnS] at hR2
    have hnm:=Fm.nodes_le x.parts k hlt
    have hc:=ih x.parts[k] (zD hlt) acc b' (by omega) (by omega)
    have hlen:=Fa (x.parts[k].fv b') acc
    have hgr:=GD (x.parts[k].fv b') acc
    have hvl:=Fm.HF x.parts[k] b'
    obtain ⟨acc2,ha2⟩:∃ a,a=Bm acc (x.parts[k].fv b'):=⟨_,rfl⟩
    rw [←ha2] at hc hlen hgr hR1
    rcases zC l.length acc.length with q1 | q1 <;> rcases zC acc.length acc2.length with q2 | q2
    all_goals
     first
      |rw [A3 q2] at hc
      |rw [An (Nat.not_lt.2 q2)] at hc
     simp only [cond_true,cond_false] at hc
     simp (disch:=omega) only [go_sem,Ac,hni,hg,hc,B6]
     refine ⟨(i+1,acc2),⟨k+1,by dsimp only; omega,hlt,hR1,by dsimp only; omega,by dsimp only; omega⟩,by dsimp only; omega,?_⟩
     first | done | simp (disch:=omega) only [go_sem,Ac]
   ·rw [zE hge,Fm.fvL] at hR
    obtain ⟨hR1,hR2,hR3⟩:=hR
    have hR1:acc=_:=hR1
    rw [←hR1]
    rcases zC l.length acc.length with q1 | q1
    ·simp (disch:=omega) only [go_sem,Ac,hni]
    ·simp (disch:=omega) only [go_sem,Ac,hni]
  | true =>
   rw [hq] at hfv
   simp only [cond_true] at hfv
   rw [hfv]
   unfold qB at hq
   rw [hq] at hu
   have hcl:=Tt b (by omega)
   have hl1:(b.map fun s=>[OT.str s])++[[OT.str x.var]]=(b++[x.var]).map fun s=>[OT.str s]:=by simp
   obtain ⟨b',hb'⟩:∃ b',b'=b++[x.var]:=⟨_,rfl⟩
   have hbl:b'.length≤b.length+1:=by rw [hb']; simp
   rw [←hb'] at hl1
   rw [←hb']
   refine Al EB B6 (of_decide_eq_true rfl) ?_
   simp (disch:=omega) only [Di,go_sem,Ac,ho,hu,hcl,hl1,Ab,Dw]
   refine go_loop (α:=Int × (List ByteArray)) (fun a=>⟨slots 60 0 [(0,(bif dec (l.length<(a.2).length) then .ref 1 else .ref 0)),(2,(bif dec (l.length<(a.2).length) then .ref 2 else .ref 1)),(48,.arr (x.parts.map Fm.d)),(49,.int .i64 x.parts.length),(50,.int .i64 (a.1))],(bif dec (l.length<(a.2).length) then [.gone,.row 9 1 ((a.2).map fun s=>[OT.str s]),.row 9 1 (b'.map fun s=>[OT.str s])] else [.row 9 1 ((a.2).map fun s=>[OT.str s]),.row 9 1 (b'.map fun s=>[OT.str s])])⟩) (fun a=>∃ k:Nat,a.1=k∧k≤(x.parts).length∧Bm (a.2) (Fm.fvL (x.parts.drop k) b')=Bm l (Fm.fvL x.parts b')∧(a.2).length+Fm.vnS (x.parts.drop k)≤1048576∧l.length≤(a.2).length) (fun a=>(x.parts).length-(a.1).toNat) (0,l) ⟨0,rfl,zG _,by rw [zF],by rw [zF]; dsimp only; omega,zR _⟩ (by simp (disch:=omega) only [go_sem,Ac,hgl]) ?_
   rintro ⟨i,acc⟩ ⟨k,hi,hk,hR⟩
   dsimp only at hi hR
   have hni:i.toNat=k:=by omega
   have hni1:(i+1).toNat=k+1:=by omega
   rcases zC k (x.parts).length with hlt | hge
   ·have hg:=get_at Fm.d hlt
    rw [Fm.d_eq] at hg
    obtain ⟨hR1,hR2,hR3⟩:=hR
    rw [zB hlt,Fm.fvL,Lf] at hR1
    rw [zB hlt,Fm.vnS] at hR2
    have hnm:=Fm.nodes_le x.parts k hlt
    have hc:=ih x.parts[k] (zD hlt) acc b' (by omega) (by omega)
    have hlen:=Fa (x.parts[k].fv b') acc
    have hgr:=GD (x.parts[k].fv b') acc
    have hvl:=Fm.HF x.parts[k] b'
    obtain ⟨acc2,ha2⟩:∃ a,a=Bm acc (x.parts[k].fv b'):=⟨_,rfl⟩
    rw [←ha2] at hc hlen hgr hR1
    rcases zC l.length acc.length with q1 | q1 <;> rcases zC acc.length acc2.length with q2 | q2
    all_goals
     first
      |rw [A3 q2] at hc
      |rw [An (Nat.not_lt.2 q2)] at hc
     simp only [cond_true,cond_false] at hc
     simp (disch:=omega) only [go_sem,Ac,hni,hg,hc,B6]
     refine ⟨(i+1,acc2),⟨k+1,by dsimp only; omega,hlt,hR1,by dsimp only; omega,by dsimp only; omega⟩,by dsimp only; omega,?_⟩
     first | done | simp (disch:=omega) only [go_sem,Ac]
   ·rw [zE hge,Fm.fvL] at hR
    obtain ⟨hR1,hR2,hR3⟩:=hR
    have hR1:acc=_:=hR1
    rw [←hR1]
    rcases zC l.length acc.length with q1 | q1
    ·simp (disch:=omega) only [go_sem,Ac,hni]
    ·simp (disch:=omega) only [go_sem,Ac,hni]
theorem OR (x:Fm) (hx:x.forms=true):V8 x :=
 RH x hx fun y hy=>OR y (Fm.DT hx hy)
termination_by SizeOf.sizeOf x
decreasing_by exact Fm.lt_of_mem hy
theorem V9 (x:Fm) (hx:x.forms=true) (hv:x.vn≤1048576) (hn:x.nodes≤1048576):E 101 [x.sv] []=some (.arr (x.free.map fun s=>[D.str s]),[]):=by
 have h1:=OR x hx [] [] (by simpa using hv) (by simpa using hn)
 have hl:=Fa (x.fv []) []
 have hfl:=Fm.HF x []
 rw [zN,Nat.zero_add] at hl
 have h2:=QJ (Bm [] (x.fv [])) (by omega)
 rw [MU] at h2
 rw [zO,zO,zN] at h1
 unfold Fm.free
 have hxs:x.sv=.agg [.int .i64 x.op,.str x.atom.name,.arr (x.atom.args.map Tm.d),.str x.var,.arr (x.parts.map Fm.d)]:=rfl
 rcases zC 0 (Bm [] (x.fv [])).length with q | q
 ·rw [A3 q] at h1
  simp only [cond_true] at h1
  refine Al J9 JA (of_decide_eq_true rfl) ?_
  simp (disch:=omega) only [Gf,go_sem,Ac,h1,h2,B6,AG,Kb,Ib,OT.erss,OT.A1]
 ·rw [An (by omega)] at h1
  simp only [cond_false] at h1
  refine Al J9 JA (of_decide_eq_true rfl) ?_
  simp (disch:=omega) only [Gf,go_sem,Ac,h1,h2,B6,AG,Kb,Ib,OT.erss,OT.A1]
def JB:SC:=(.seq (.reg [⟨some 4,none,.mv (.c (.bool false))⟩]) (.seq (.seq (.reg [⟨some 5,none,.mv (.c (.int .i64 0))⟩]) (.block 0 (.loop [1,1,0,0,0,1,0,0,0,0,0,0,0,0,0,0,0,0] (.seq (.seq (.reg [⟨some 6,none,.mv (.t 5)⟩,⟨some 7,none,.mv (.t 0)⟩,⟨some 8,none,.len false (.t 7)⟩,⟨some 9,none,.bin .lss false (.t 6) (.t 8)⟩]) (.cond (.t 9) .skip (.exit 0))) (.seq (.block 1 (.seq (.reg [⟨some 12,none,.mv (.t 0)⟩,⟨some 13,none,.mv (.t 5)⟩,⟨some 14,none,.iaddr 1 (.t 12) (.t 13)⟩,⟨some 15,none,.load false 1 (.t 14)⟩,⟨some 16,none,.mv (.t 1)⟩,⟨some 17,none,.bin .eql false (.t 15) (.t 16)⟩]) (.cond (.t 17) (.seq (.reg [⟨some 4,none,.mv (.c (.bool true))⟩]) .ret) .skip))) (.reg [⟨some 10,none,.mv (.t 5)⟩,⟨some 11,none,.bin .add false (.t 10) (.c (.int .i64 1))⟩,⟨some 5,none,.mv (.t 11)⟩])))))) (.seq (.reg [⟨some 4,none,.mv (.c (.bool false))⟩]) .ret)))
theorem OS:codeOf Tryz.prog 197=some ⟨18,JB,[(.tmp 4)]⟩:=by kernel_rfl
theorem Gg:modes 197=⟨[],.asis,none,false⟩:=by unfold modes; rfl
theorem VA (xs:List ByteArray) (n:ByteArray) (hl:xs.length≤1099511627776):E 197 [.arr (xs.map fun s=>[D.str s]),.str n] []=some (.bool (dec (n∈xs)),[]):=by
 refine Al OS Gg (of_decide_eq_true rfl) ?_
 simp (disch:=omega) only [JB,go_sem,Ac]
 refine go_loop (α:=Int) (fun a=>⟨slots 18 0 [(0,.arr (xs.map fun s=>[D.str s])),(1,.str n),(5,.int .i64 a)],[]⟩) (fun a=>∃ k:Nat,a=k∧k≤(xs).length∧dec (n∈xs.drop k)=dec (n∈xs)) (fun a=>(xs).length-(a).toNat) 0 ⟨0,rfl,zG _,by rw [zF]⟩ (by simp (disch:=omega) only [go_sem,Ac]) ?_
 rintro i ⟨k,hi,hk,hR⟩
 have hni:i.toNat=k:=by omega
 have hni1:(i+1).toNat=k+1:=by omega
 rcases zC k (xs).length with hlt | hge
 ·have hg:=get_at (fun s=>[D.str s]) hlt
  rw [zB hlt] at hR
  by_cases hp:xs[k]=n
  ·have hq:=eq_true hp
   have ht:dec (n∈xs)=true:=A3 (hp▸zD hlt)
   simp (disch:=omega) only [go_sem,Ac,hni,hg,hq]
   exact ht.symm
  ·have hq:=eq_false hp
   have hR:dec (n∈xs.drop (k+1))=dec (n∈xs):=by
    rw [←hR]
    exact V7 (by simp only [List.mem_cons]; exact ⟨.inr,fun h=>h.elim (fun e=>absurd e.symm hp) id⟩)
   simp (disch:=omega) only [go_sem,Ac,hni,hg,hq]
   exact ⟨i+1,⟨k+1,by omega,hlt,hR⟩,by omega,by first | trivial | rfl⟩
 ·rw [zE hge,An (by simp)] at hR
  simp (disch:=omega) only [go_sem,Ac,hni]
  exact hR
def Dj:SC:=(.seq (.reg [⟨some 4,none,.boxv 34 5 (.t 1)⟩,⟨some 6,none,.mv (.c .nil)⟩]) (.seq (.seq (.reg [⟨some 10,none,.faddr 0 (.t 4)⟩,⟨some 11,none,.load false 1 (.t 10)⟩,⟨some 12,none,.bin .eql false (.t 11) (.c (.int .i64 3))⟩]) (.cond (.t 12) (.seq (.reg [⟨some 13,none,.faddr 1 (.t 4)⟩,⟨some 14,none,.load true 2 (.t 13)⟩,⟨some 15,none,.call 196 [(.t 14)]⟩,⟨some 7,none,.mv (.t 15)⟩]) (.seq (.reg [⟨some 8,none,.mv (.c (.int .i64 0))⟩]) (.block 0 (.loop [1,0,1,0,1,0,0,1,1,0,0,0,0,0,0,0,0,0,0,0,0,0,0,0,0,0,0,0,0,0,0,0,0,0,0,0,0,0,0,0,0,0,0,0,0,0,0,0,0,0,0,0,0,0,0,0,0,0,0,0,0,0,0,0,0,0] (.seq (.seq (.reg [⟨some 16,none,.mv (.t 8)⟩,⟨some 17,none,.mv (.t 7)⟩,⟨some 18,none,.len false (.t 17)⟩,⟨some 19,none,.bin .lss false (.t 16) (.t 18)⟩]) (.cond (.t 19) .skip (.exit 0))) (.seq (.block 1 (.seq (.reg [⟨some 22,none,.mv (.t 2)⟩,⟨some 23,none,.mv (.t 7)⟩,⟨some 24,none,.mv (.t 8)⟩,⟨some 25,none,.iaddr 1 (.t 23) (.t 24)⟩,⟨some 26,none,.load false 1 (.t 25)⟩,⟨some 27,none,.call 197 [(.t 22),(.t 26)]⟩,⟨some 28,none,.un .not (.t 27)⟩]) (.cond (.t 28) (.reg [⟨some 29,none,.mv (.t 0)⟩,⟨some 30,none,.mv (.t 7)⟩,⟨some 31,none,.mv (.t 8)⟩,⟨some 32,none,.iaddr 1 (.t 30) (.t 31)⟩,⟨some 33,none,.load false 1 (.t 32)⟩,⟨some 34,none,.call 198 [(.t 29),(.t 33)]⟩,⟨some 0,none,.mv (.t 34)⟩]) .skip))) (.reg [⟨some 20,none,.mv (.t 8)⟩,⟨some 21,none,.bin .add false (.t 20) (.c (.int .i64 1))⟩,⟨some 8,none,.mv (.t 21)⟩]))))))) .skip)) (.seq (.seq (.reg [⟨some 35,none,.faddr 0 (.t 4)⟩,⟨some 36,none,.load false 1 (.t 35)⟩,⟨some 37,none,.bin .eql false (.t 36) (.c (.int .i64 8))⟩,⟨some 38,none,.mv (.t 37)⟩,⟨(some 39),(some (38,false)),(.faddr 0 (.t 4))⟩,⟨(some 40),(some (38,false)),(.load false 1 (.t 39))⟩,⟨(some 41),(some (38,false)),(.bin .eql false (.t 40) (.c (.int .i64 9)))⟩,⟨some 42,none,.pick (.t 38) (.c (.bool true)) (.t 41)⟩]) (.cond (.t 42) (.dreg [[],[],[0,1],[],[3],[4,3],[2,0,1,5,4,3],[6,2,0,1,5,4,3]] [⟨(some 43),none,(.mkrow 9 1 [(.str ⟨#[]⟩)] 0 [])⟩,⟨some 44,none,.mv (.t 2)⟩,⟨(some 45),none,(.append 9 1 16 [(.str ⟨#[]⟩)] (.t 43) (.t 44))⟩,⟨some 46,none,.faddr 3 (.t 4)⟩,⟨some 47,none,.load false 1 (.t 46)⟩,⟨(some 48),none,(.mkrow 9 1 [(.str ⟨#[]⟩)] 1 [(0,(.t 47))])⟩,⟨(some 49),none,(.append 9 1 16 [(.str ⟨#[]⟩)] (.t 45) (.t 48))⟩,⟨some 2,none,.mv (.t 49)⟩]) .skip)) (.seq (.seq (.reg [⟨some 9,none,.mv (.c (.int .i64 0))⟩]) (.block 2 (.loop [1,0,1,0,1,0,0,0,0,1,0,0,0,0,0,0,0,0,0,0,0,0,0,0,0,0,0,0,0,0,0,0,0,0,0,0,0,0,0,0,0,0,0,0,0,0,0,0,0,0,0,0,0,0,0,0,0,0,0,0,0,0,0,0,0,0] (.seq (.seq (.reg [⟨some 50,none,.mv (.t 9)⟩,⟨some 51,none,.faddr 4 (.t 4)⟩,⟨some 52,none,.load false 1 (.t 51)⟩,⟨some 53,none,.len false (.t 52)⟩,⟨some 54,none,.bin .lss false (.t 50) (.t 53)⟩]) (.cond (.t 54) .skip (.exit 2))) (.seq (.block 3 (.reg [⟨some 57,none,.mv (.t 0)⟩,⟨some 58,none,.faddr 4 (.t 4)⟩,⟨some 59,none,.load false 1 (.t 58)⟩,⟨some 60,none,.mv (.t 9)⟩,⟨some 61,none,.iaddr 5 (.t 59) (.t 60)⟩,⟨some 62,none,.load true 5 (.t 61)⟩,⟨some 63,none,.mv (.t 2)⟩,⟨some 64,none,.call 152 [(.t 57),(.t 62),(.t 63)]⟩,⟨some 0,none,.mv (.t 64)⟩])) (.reg [⟨some 55,none,.mv (.t 9)⟩,⟨some 56,none,.bin .add false (.t 55) (.c (.int .i64 1))⟩,⟨some 9,none,.mv (.t 56)⟩])))))) (.seq (.reg [⟨some 65,none,.mv (.t 0)⟩,⟨some 6,none,.mv (.t 65)⟩]) .ret)))))
theorem EC:codeOf Tryz.prog 152=some ⟨66,Dj,[(.tmp 6)]⟩:=by kernel_rfl
theorem BV:modes 152=⟨[],.asis,none,false⟩:=by unfold modes; rfl
def Hg:SC:=(.seq (.reg [⟨some 1,none,.boxv 34 5 (.t 0)⟩,⟨some 2,none,.mv (.c .nil)⟩]) (.seq (.reg [⟨(some 3),none,(.mkrow 9 1 [(.str ⟨#[]⟩)] 0 [])⟩,⟨some 4,none,.load true 5 (.t 1)⟩,⟨(some 5),none,(.mkrow 9 1 [(.str ⟨#[]⟩)] 0 [])⟩,⟨some 6,none,.call 152 [(.t 3),(.t 4),(.t 5)]⟩,⟨some 2,none,.mv (.t 6)⟩]) .ret))
theorem LN:codeOf Tryz.prog 96=some ⟨7,Hg,[(.tmp 2)]⟩:=by kernel_rfl
theorem Hh:modes 96=⟨[],.asis,none,false⟩:=by unfold modes; rfl
theorem OU (b acc:List ByteArray) (n:ByteArray) (ns:List ByteArray):BL acc ((n :: ns).filter fun m=>!dec (m∈b))=BL (bif dec (n∈b) then acc else CH acc n) (ns.filter fun m=>!dec (m∈b)):=by
 rw [List.filter_cons]
 cases dec (n∈b) with
 | true=>rfl
 | false=>rfl
abbrev VB (x:Fm):Prop:=∀ l b:List ByteArray,l.length+x.vn≤1048576→b.length+x.nodes≤1048576→E 152 [.arr (l.map fun s=>[D.str s]),x.sv,.arr (b.map fun s=>[D.str s])] []=some (.arr ((BL l (x.fv b)).map fun s=>[D.str s]),[])
theorem RI (x:Fm) (hx:x.forms=true) (ih:∀ y∈x.parts,VB y):VB x:=by
 intro l b hn hb
 have hfo:=Fm.DU hx
 have hvn:=Fm.QP x
 have hnd:=Fm.nodes_eq x
 have hpl:=Fm.length_le x.parts
 have hfv:=Fm.QN x b
 have hat:=Fm.Kd hfo
 have hxs:x.sv=.agg [.int .i64 x.op,.str x.atom.name,.arr (x.atom.args.map Tm.d),.str x.var,.arr (x.parts.map Fm.d)]:=rfl
 cases ho:dec (x.op=3) with
 | true =>
  rw [ho] at hfv
  simp only [cond_true] at hfv
  have ho3:=Ap.1 ho
  have hp0:=(Fm.GB hfo ho3).1
  have o8:dec (x.op=8)=false:=An (by omega)
  have o9:dec (x.op=9)=false:=An (by omega)
  have hv:=To x.atom (by omega)
  have hil:=Ds x.atom.vs []
  have hvl:=Tm.HE x.atom
  simp only [zN] at hil
  obtain ⟨ns,hns⟩:∃ ns,ns=BL [] x.atom.vs:=⟨_,rfl⟩
  rw [←hns] at hv hfv hil
  rw [hfv]
  refine Al EC BV (of_decide_eq_true rfl) ?_
  simp (disch:=omega) only [Dj,go_sem,Ac,ho,hv,Hf]
  refine go_loop (α:=Int × (List ByteArray)) (fun a=>⟨slots 66 0 [(0,.arr ((a.2).map fun s=>[D.str s])),(2,.arr (b.map fun s=>[D.str s])),(4,.ptr 0 0),(7,.arr (ns.map fun s=>[D.str s])),(8,.int .i64 (a.1))],[.box 34 [.int .i64 x.op,.str x.atom.name,.arr (x.atom.args.map Tm.d),.str x.var,.arr (x.parts.map Fm.d)]]⟩) (fun a=>∃ k:Nat,a.1=k∧k≤(ns).length∧BL (a.2) ((ns.drop k).filter fun m=>!dec (m∈b))=BL l (ns.filter fun m=>!dec (m∈b))∧(a.2).length+(ns.length-k)≤1048576) (fun a=>(ns).length-(a.1).toNat) (0,l) ⟨0,rfl,zG _,by rw [zF],by dsimp only; omega⟩ (by simp (disch:=omega) only [go_sem,Ac]) ?_
  rintro ⟨i,acc⟩ ⟨k,hi,hk,hR⟩
  dsimp only at hi hR
  have hni:i.toNat=k:=by omega
  have hni1:(i+1).toNat=k+1:=by omega
  rcases zC k (ns).length with hlt | hge
  ·have hg:=get_at (fun s=>[D.str s]) hlt
   obtain ⟨hR1,hR2⟩:=hR
   rw [zB hlt,OU] at hR1
   have c1:=VA b ns[k] (by omega)
   have c2:=QL acc ns[k] (by omega)
   have hul:=Li acc ns[k]
   cases hq:dec (ns[k]∈b) with
   | true =>
    rw [hq] at c1 hR1
    simp only [cond_true] at hR1
    simp (disch:=omega) only [go_sem,Ac,hni,hg,c1,c2,Gg,D8]
    exact ⟨(i+1,acc),⟨k+1,by dsimp only; omega,hlt,hR1,by dsimp only; omega⟩,by dsimp only; omega,by first | trivial | rfl⟩
   | false =>
    rw [hq] at c1 hR1
    simp only [cond_false] at hR1
    simp (disch:=omega) only [go_sem,Ac,hni,hg,c1,c2,Gg,D8]
    exact ⟨(i+1,CH acc ns[k]),⟨k+1,by dsimp only; omega,hlt,hR1,by dsimp only; omega⟩,by dsimp only; omega,by first | trivial | rfl⟩
  ·rw [zE hge] at hR
   obtain ⟨hR1,hR2⟩:=hR
   have hR1:acc=_:=hR1
   rw [←hR1]
   simp (disch:=omega) only [go_sem,Ac,hni,o8,o9]
   refine go_loop (α:=Int) (fun a=>⟨slots 66 0 [(0,.arr (acc.map fun s=>[D.str s])),(2,.arr (b.map fun s=>[D.str s])),(4,.ptr 0 0),(9,.int .i64 a)],[.box 34 [.int .i64 x.op,.str x.atom.name,.arr (x.atom.args.map Tm.d),.str x.var,.arr (x.parts.map Fm.d)]]⟩) (fun a=>∃ k:Nat,a=k∧k≤(x.parts).length) (fun a=>(x.parts).length-(a).toNat) 0 ⟨0,rfl,zG _⟩ (by simp (disch:=omega) only [go_sem,Ac]) ?_
   rintro i ⟨k,hi,hk⟩
   have hni:i.toNat=k:=by omega
   have hni1:(i+1).toNat=k+1:=by omega
   rcases zC k (x.parts).length with hlt | hge
   ·rw [hp0] at hlt
    simp at hlt
   ·simp (disch:=omega) only [go_sem,Ac,hni]
 | false =>
  rw [ho] at hfv
  simp only [cond_false] at hfv
  cases o8:dec (x.op=8) <;> cases o9:dec (x.op=9)
  all_goals
   have hq:qB x.op=(dec (x.op=8) || dec (x.op=9)):=rfl
   rw [o8,o9] at hq
   simp only [Bool.or_self,Bool.or_true,Bool.or_false,Bool.true_or,Bool.false_or] at hq
   rw [hq] at hfv
   simp only [cond_true,cond_false] at hfv
   rw [hfv]
  ·obtain ⟨b',hb'⟩:∃ b',b'=b:=⟨_,rfl⟩
   have hbl:b'.length≤b.length+1:=by rw [hb']; omega
   rw [←hb']
   refine Al EC BV (of_decide_eq_true rfl) ?_
   simp (disch:=omega) only [Dj,go_sem,Ac,ho,o8,o9]
   refine go_loop (α:=Int × (List ByteArray)) (fun a=>⟨slots 66 0 [(0,.arr ((a.2).map fun s=>[D.str s])),(2,.arr (b'.map fun s=>[D.str s])),(4,.ptr 0 0),(9,.int .i64 (a.1))],[.box 34 [.int .i64 x.op,.str x.atom.name,.arr (x.atom.args.map Tm.d),.str x.var,.arr (x.parts.map Fm.d)]]⟩) (fun a=>∃ k:Nat,a.1=k∧k≤(x.parts).length∧BL (a.2) (Fm.fvL (x.parts.drop k) b')=BL l (Fm.fvL x.parts b')∧(a.2).length+Fm.vnS (x.parts.drop k)≤1048576) (fun a=>(x.parts).length-(a.1).toNat) (0,l) ⟨0,rfl,zG _,by rw [zF],by rw [zF]; dsimp only; omega⟩ (by simp (disch:=omega) only [go_sem,Ac]) ?_
   rintro ⟨i,acc⟩ ⟨k,hi,hk,hR⟩
   dsimp only at hi hR
   have hni:i.toNat=k:=by omega
   have hni1:(i+1).toNat=k+1:=by omega
   rcases zC k (x.parts).length with hlt | hge
   ·have hg:=get_at Fm.d hlt
    rw [Fm.d_eq] at hg
    obtain ⟨hR1,hR2⟩:=hR
    rw [zB hlt,Fm.fvL,Ll] at hR1
    rw [zB hlt,Fm.vnS] at hR2
    have hnm:=Fm.nodes_le x.parts k hlt
    have hc:=ih x.parts[k] (zD hlt) acc b' (by omega) (by omega)
    have hlen:=Ds (x.parts[k].fv b') acc
    have hvl:=Fm.HF x.parts[k] b'
    simp (disch:=omega) only [go_sem,Ac,hni,hg,hc,BV]
    exact ⟨(i+1,BL acc (x.parts[k].fv b')),⟨k+1,by dsimp only; omega,hlt,hR1,by dsimp only; omega⟩,by dsimp only; omega,by first | trivial | rfl⟩
   ·rw [zE hge,Fm.fvL] at hR
    obtain ⟨hR1,hR2⟩:=hR
    have hR1:acc=_:=hR1
    rw [←hR1]
    simp (disch:=omega) only [go_sem,Ac,hni]
  all_goals
   have hbm:((b.map fun s=>[D.str s]).map fun x=>x.map D.ot)=b.map fun s=>[OT.str s]:=by rw [List.map_map]; rfl
   have hal:=OM b
   have hal2:=N9 b
   have hl1:(b.map fun s=>[OT.str s])++[[OT.str x.var]]=(b++[x.var]).map fun s=>[OT.str s]:=by simp
   obtain ⟨b',hb'⟩:∃ b',b'=b++[x.var]:=⟨_,rfl⟩
   have hbl:b'.length≤b.length+1:=by rw [hb']; simp
   rw [←hb'] at hl1
   rw [←hb']
   have hp1:x.parts.length=1:=by
    obtain ⟨_,p,hp⟩:=Fm.Lc hfo hq
    rw [hp]; rfl
   have h10:((1:Int)=0)=False:=by simp
   refine Al EC BV (of_decide_eq_true rfl) ?_
   simp (disch:=omega) only [Dj,go_sem,Ac,ho,o8,o9,hbm,hal,hal2,hl1,zU]
   refine go_loop (α:=Int × (List ByteArray)) (fun a=>⟨slots 66 0 [(0,.arr ((a.2).map fun s=>[D.str s])),(2,(if (a.1)=0 then .ref 0 else .any)),(4,(if (a.1)=0 then .ptr 1 0 else .ptr 0 0)),(9,.int .i64 (a.1))],(if (a.1)=0 then [.row 9 1 (b'.map fun s=>[OT.str s]),.box 34 [.int .i64 x.op,.str x.atom.name,.arr (x.atom.args.map Tm.d),.str x.var,.arr (x.parts.map Fm.d)]] else [.box 34 [.int .i64 x.op,.str x.atom.name,.arr (x.atom.args.map Tm.d),.str x.var,.arr (x.parts.map Fm.d)]])⟩) (fun a=>∃ k:Nat,a.1=k∧k≤(x.parts).length∧BL (a.2) (Fm.fvL (x.parts.drop k) b')=BL l (Fm.fvL x.parts b')∧(a.2).length+Fm.vnS (x.parts.drop k)≤1048576) (fun a=>(x.parts).length-(a.1).toNat) (0,l) ⟨0,rfl,zG _,by rw [zF],by rw [zF]; dsimp only; omega⟩ (by simp (disch:=omega) only [go_sem,Ac,eq_self,if_true]) ?_
   rintro ⟨i,acc⟩ ⟨k,hi,hk,hR⟩
   dsimp only at hi hR
   have hni:i.toNat=k:=by omega
   have hni1:(i+1).toNat=k+1:=by omega
   rcases zC k (x.parts).length with hlt | hge
   ·have hg:=get_at Fm.d hlt
    rw [Fm.d_eq] at hg
    obtain rfl:k=0:=by omega
    obtain rfl:i=0:=by omega
    obtain ⟨hR1,hR2⟩:=hR
    rw [zB hlt,Fm.fvL,Ll] at hR1
    rw [zB hlt,Fm.vnS] at hR2
    rw [Nat.zero_add] at hR1 hR2
    have hnm:=Fm.nodes_le x.parts 0 hlt
    have hc:=ih x.parts[0] (zD hlt) acc b' (by omega) (by omega)
    have hlen:=Ds (x.parts[0].fv b') acc
    have hvl:=Fm.HF x.parts[0] b'
    simp (disch:=omega) only [go_sem,Ac,hni,hg,hc,BV,eq_self,if_true]
    refine ⟨(1,BL acc (x.parts[0].fv b')),⟨1,rfl,hlt,hR1,by dsimp only; omega⟩,by dsimp only; omega,?_⟩
    simp (disch:=omega) only [go_sem,Ac,h10,if_false]
   ·rw [zE hge,Fm.fvL] at hR
    obtain ⟨hR1,hR2⟩:=hR
    have hR1:acc=_:=hR1
    rw [←hR1]
    have hi0:(i=0)=False:=by simp; omega
    simp (disch:=omega) only [go_sem,Ac,hni,hi0,if_false]
theorem OV (x:Fm) (hx:x.forms=true):VB x :=
 RI x hx fun y hy=>OV y (Fm.DT hx hy)
termination_by SizeOf.sizeOf x
decreasing_by exact Fm.lt_of_mem hy
theorem Tu (x:Fm) (hx:x.forms=true) (hv:x.vn≤1048576) (hn:x.nodes≤1048576):E 96 [x.sv] []=some (.arr (x.free.map fun s=>[D.str s]),[]):=by
 have h1:=OV x hx [] [] (by simpa using hv) (by simpa using hn)
 rw [zO] at h1
 unfold Fm.free
 have hxs:x.sv=.agg [.int .i64 x.op,.str x.atom.name,.arr (x.atom.args.map Tm.d),.str x.var,.arr (x.parts.map Fm.d)]:=rfl
 refine Al LN Hh (of_decide_eq_true rfl) ?_
 simp (disch:=omega) only [Hg,go_sem,Ac,h1,BV]
def Dd:SC:=(.seq (.reg [⟨some 2,none,.mv (.c .nil)⟩]) (.seq (.seq (.reg [⟨some 6,none,.mv (.t 0)⟩,⟨some 7,none,.len false (.t 6)⟩,⟨some 8,none,.bin .eql false (.t 7) (.c (.int .i64 0))⟩]) (.cond (.t 8) (.seq (.reg [⟨some 2,none,.mv (.c .nil)⟩]) .ret) .skip)) (.seq (.reg [⟨some 9,none,.mv (.t 0)⟩,⟨some 10,none,.len false (.t 9)⟩,⟨(some 11),none,(.mkslice 31 2 40 [(.str ⟨#[]⟩),.nil] (.t 10))⟩,⟨some 3,none,.mv (.t 11)⟩]) (.seq (.seq (.reg [⟨some 12,none,.mv (.t 0)⟩,⟨some 13,none,.len false (.t 12)⟩,⟨some 14,none,.mv (.c (.int .i64 0))⟩]) (.block 0 (.loop [0,0,0,1,0,0,0,0,0,0,0,0,1,1,1,0,0,0,0,0,0,0,0,0,0,0] (.seq (.reg [⟨some 15,none,.bin .lss false (.t 14) (.t 13)⟩]) (.seq (.cond (.t 15) .skip (.exit 0)) (.seq (.block 1 (.seq (.reg [⟨some 16,none,.mv (.t 14)⟩,⟨some 17,none,.iaddr 2 (.t 12) (.t 14)⟩,⟨some 18,none,.load true 2 (.t 17)⟩,⟨(some 5),none,(.alloc 31 [(.str ⟨#[]⟩),.nil])⟩,⟨some 4,none,.mv (.t 16)⟩,⟨none,none,(.store 2 (.t 5) (.t 18))⟩]) (.reg [⟨some 19,none,.mv (.t 3)⟩,⟨some 20,none,.mv (.t 4)⟩,⟨some 21,none,.load true 2 (.t 5)⟩,⟨some 22,none,.call 170 [(.t 21)]⟩,⟨some 23,none,.iaddr 2 (.t 19) (.t 20)⟩,⟨none,none,(.store 2 (.t 23) (.t 22))⟩]))) (.reg [⟨some 24,none,.bin .add false (.t 14) (.c (.int .i64 1))⟩,⟨some 14,none,.mv (.t 24)⟩]))))))) (.seq (.reg [⟨some 25,none,.mv (.t 3)⟩,⟨some 2,none,.mv (.t 25)⟩]) .ret)))))
theorem Fc:codeOf Tryz.prog 212=some ⟨26,Dd,[(.tmp 2)]⟩:=by kernel_rfl
theorem De:modes 212=⟨[],.own [some (31,2)],none,false⟩:=by unfold modes; rfl
def F2:SC:=(.seq (.reg [⟨some 1,none,.boxv 31 2 (.t 0)⟩,⟨(some 2),none,(.alloc 31 [(.str ⟨#[]⟩),.nil])⟩]) (.seq (.dreg [[],[0],[],[2],[3,2],[1,0,4,3,2],[5,1,0,4,3,2]] [⟨some 3,none,.faddr 0 (.t 1)⟩,⟨some 4,none,.load false 1 (.t 3)⟩,⟨some 5,none,.faddr 1 (.t 1)⟩,⟨some 6,none,.load false 1 (.t 5)⟩,⟨some 7,none,.call 212 [(.t 6)]⟩,⟨(some 8),none,(.build [(.str ⟨#[]⟩),.nil] [(0,(1,(.t 4))),(1,(1,(.t 7)))])⟩,⟨none,none,(.store 2 (.t 2) (.t 8))⟩]) .ret))
theorem JO:codeOf Tryz.prog 170=some ⟨9,F2,[(.cell 2 true 2)]⟩:=by kernel_rfl
theorem Dx:modes 170=⟨[],.asis,none,false⟩:=by unfold modes; rfl
def Im:SC:=(.seq (.reg [⟨some 1,none,.boxv 31 2 (.t 0)⟩,⟨(some 2),none,(.alloc 31 [(.str ⟨#[]⟩),.nil])⟩]) (.seq (.reg [⟨some 5,none,.faddr 0 (.t 1)⟩,⟨some 6,none,.load false 1 (.t 5)⟩,⟨(some 7),none,(.build [(.str ⟨#[]⟩),.nil] [(0,(1,(.t 6)))])⟩,⟨(some 3),none,(.alloc 31 [(.str ⟨#[]⟩),.nil])⟩,⟨none,none,(.store 2 (.t 3) (.t 7))⟩]) (.seq (.seq (.reg [⟨some 4,none,.mv (.c (.int .i64 0))⟩]) (.block 0 (.loop [0,1,1,1,1,0,0,0,0,0,0,0,0,0,0,0,0,0,0,0,0,0,0,0,0,0,0] (.seq (.seq (.reg [⟨some 8,none,.mv (.t 4)⟩,⟨some 9,none,.faddr 1 (.t 1)⟩,⟨some 10,none,.load false 1 (.t 9)⟩,⟨some 11,none,.len false (.t 10)⟩,⟨some 12,none,.bin .lss false (.t 8) (.t 11)⟩]) (.cond (.t 12) .skip (.exit 0))) (.seq (.block 1 (.dreg [[],[0],[],[2],[],[3,2,4],[5,3,2,4],[6,5,3,2,4],[7,6,5,3,2,4],[1,0,8,7,6,5,3,2,4],[0,1,2,3,4,5,6,7,8,9],[10,0,1,2,3,4,5,6,7,8,9]] [⟨some 15,none,.faddr 1 (.t 3)⟩,⟨some 16,none,.load false 1 (.t 15)⟩,⟨some 17,none,.faddr 1 (.t 1)⟩,⟨some 18,none,.load false 1 (.t 17)⟩,⟨some 19,none,.mv (.t 4)⟩,⟨some 20,none,.iaddr 2 (.t 18) (.t 19)⟩,⟨some 21,none,.load true 2 (.t 20)⟩,⟨some 22,none,.call 108 [(.t 21)]⟩,⟨(some 23),none,(.mkrow 31 2 [(.str ⟨#[]⟩),.nil] 1 [(0,(.t 22))])⟩,⟨(some 24),none,(.append 31 2 40 [(.str ⟨#[]⟩),.nil] (.t 16) (.t 23))⟩,⟨some 25,none,.faddr 1 (.t 3)⟩,⟨none,none,(.store 1 (.t 25) (.t 24))⟩])) (.reg [⟨some 13,none,.mv (.t 4)⟩,⟨some 14,none,.bin .add false (.t 13) (.c (.int .i64 1))⟩,⟨some 4,none,.mv (.t 14)⟩])))))) (.seq (.reg [⟨some 26,none,.load true 2 (.t 3)⟩,⟨none,none,(.store 2 (.t 2) (.t 26))⟩]) .ret))))
theorem NC:codeOf Tryz.prog 108=some ⟨27,Im,[(.cell 2 true 2)]⟩:=by kernel_rfl
theorem D9:modes 108=⟨[],.frz,none,false⟩:=by unfold modes; rfl
theorem ND (xs:List Tm) (hl:xs.length≤1099511627776) (h:∀ x∈xs,E 170 [x.sv] []=some (x.osv,x.obs)):E 212 [.arr (xs.map Tm.d)] []=some (.ref 0,[.row 31 2 (xs.map Tm.o)]):=by
 cases xs with
 | nil =>
  refine Al Fc De (of_decide_eq_true rfl) ?_
  simp (disch:=omega) only [Dd,go_sem,Ac]
 | cons x0 xs0 =>
 generalize hxs:x0 :: xs0=xs at *
 have hpos:0<xs.length:=by rw [←hxs]; simp
 refine Al Fc De (of_decide_eq_true rfl) ?_
 simp (disch:=omega) only [Dd,go_sem,Ac]
 refine go_loop (α:=Int) (fun a=>⟨slots 26 0 [(3,.ref 0),(12,.arr (xs.map Tm.d)),(13,.int .i64 xs.length),(14,.int .i64 a)],[.row 31 2 (Ei Tm.o [.str ⟨#[]⟩,.ow []] xs a.toNat)]⟩) (fun a=>∃ k:Nat,a=k∧k≤(xs).length) (fun a=>(xs).length-(a).toNat) 0 ⟨0,rfl,zG _⟩ (by simp (disch:=omega) only [go_sem,Ac,H5,zS]) ?_
 rintro i ⟨k,hi,hk⟩
 have hni:i.toNat=k:=by omega
 have hni1:(i+1).toNat=k+1:=by omega
 rcases zC k (xs).length with hlt | hge
 ·have hg:=get_at Tm.d hlt
  rw [Tm.d_eq] at hg
  have hz:=IS Tm.o [.str ⟨#[]⟩,.ow []] hlt
  have hc:=h xs[k] (zD hlt)
  have hs:=IT Tm.o [.str ⟨#[]⟩,.ow []] hlt
  rw [Tm.o_eq] at hs
  simp (disch:=omega) only [go_sem,Ac,hni,hg,hc,hz,IQ,Dx,Tm.osv,Tm.obs]
  refine ⟨i+1,⟨k+1,by omega,hlt⟩,by omega,?_⟩
  simp (disch:=omega) only [go_sem,Ac,hni1,hs]
 ·obtain rfl:k=xs.length:=by omega
  simp (disch:=omega) only [go_sem,Ac,hni,IR]
theorem OW (x:Tm) (h:E 212 [.arr (x.args.map Tm.d)] []=some (.ref 0,[.row 31 2 (x.args.map Tm.o)])):E 170 [x.sv] []=some (x.osv,x.obs):=by
 refine Al JO Dx (of_decide_eq_true rfl) ?_
 simp (disch:=omega) only [F2,go_sem,Ac,h,De]
theorem Lp (x:Tm) (hn:x.nodes≤1099511627776):E 170 [x.sv] []=some (x.osv,x.obs) :=
 OW x (ND x.args (by have:=Tm.nodes_eq x; have:=Tm.length_le x.args; omega) fun y hy=>Lp y (by have:=Tm.nodes_mem hy; have:=Tm.nodes_eq x; omega))
termination_by SizeOf.sizeOf x
decreasing_by exact Tm.lt_of_mem hy
def VU (res:RM) (n0:Nat) (rs:List RX) (Q:SV × List Ob→Prop) (x:X) (st:St):Prop:=∃ out,U1 res n0 rs out x st∧Q out
theorem exq {α:Type} {a:α} {Q:α→Prop}:(∃ out,some a=some out∧Q out)=Q a:=propext ⟨fun ⟨o,h,q⟩=>by obtain rfl:=Option.some.inj h; exact q,fun q=>⟨a,rfl,q⟩⟩
theorem VC {res:RM} {n0:Nat} {rs:List RX} {Q:SV × List Ob→Prop} {sl:List SV} {ob:List Ob}:VU res n0 rs Q .ret ⟨sl,ob⟩=∃ out,OA res n0 ob (LA ⟨sl,ob⟩ rs)=some out∧Q out:=rfl
theorem VD {res:RM} {n0:Nat} {rs:List RX} {Q:SV × List Ob→Prop} {sl:List SV} {ob:List Ob}:VU res n0 rs Q .normal ⟨sl,ob⟩=∃ out,OA res n0 ob (LA ⟨sl,ob⟩ rs)=some out∧Q out:=rfl
attribute [go_sem] VC VD exq
def Tm.osh (x:Tm):List OT:=[.str x.name,.sh (x.args.map Tm.d)]
theorem Tm.osh_eq (x:Tm):x.osh=[.str x.name,.sh (x.args.map Tm.d)]:=rfl
theorem Tm.osh_full:∀ xs:List Tm,OT.A1 (xs.map Tm.osh)=true
 | []=>rfl
 | x :: xs=>by rw [zQ,Tm.osh_eq]; simp [OT.A1,OT.Bf,OT.full,Tm.osh_full xs]
theorem Tm.osh_er:∀ xs:List Tm,OT.erss (xs.map Tm.osh)=xs.map Tm.d
 | []=>rfl
 | x :: xs=>by rw [zQ,zQ,Tm.osh_eq,Tm.d_eq]; simp [OT.erss,OT.ers,OT.er,Tm.osh_er xs]
theorem Lq {α β:Type} (f:α→β) {xs:List α} {k:Nat} (h:k<xs.length):(xs.take k).map f++[f xs[k]]=(xs.take (k+1)).map f:=by
 rw [List.take_succ_eq_append_getElem h,List.map_append]; rfl
theorem Tv (x:Tm) (hn:x.nodes≤1099511627776) (ih:∀ y∈x.args,E 108 [y.sv] []=some (y.sv,[])):E 108 [x.sv] []=some (x.sv,[]):=by
 have hl:=Tm.length_le x.args
 have hne:=Tm.nodes_eq x
 have h10:((1:Int)=0)=False:=by simp
 have hfu:=Tm.osh_full x.args
 have her:=Tm.osh_er x.args
 refine Al NC D9 (of_decide_eq_true rfl) ?_
 simp (disch:=omega) only [Im,go_sem,Ac]
 refine go_loop (α:=Int) (fun a=>⟨slots 27 0 [(1,.ptr 0 0),(2,.ptr 1 0),(3,.ptr 2 0),(4,.int .i64 a)],(if a=0 then [.box 31 [.str x.name,.arr (x.args.map Tm.d)],.box 31 [.str ⟨#[]⟩,.nil],.box 31 [.str x.name,.nil]] else [.box 31 [.str x.name,.arr (x.args.map Tm.d)],.box 31 [.str ⟨#[]⟩,.nil],.box 31 [.str x.name,.ref 3],.row 31 2 ((x.args.take a.toNat).map Tm.osh)])⟩) (fun a=>∃ k:Nat,a=k∧k≤(x.args).length) (fun a=>(x.args).length-(a).toNat) 0 ⟨0,rfl,zG _⟩ (by simp (disch:=omega) only [go_sem,Ac,eq_self,if_true]) ?_
 rintro i ⟨k,hi,hk⟩
 have hni:i.toNat=k:=by omega
 have hni1:(i+1).toNat=k+1:=by omega
 rcases zC k (x.args).length with hlt | hge
 ·have hg:=get_at Tm.d hlt
  rw [Tm.d_eq] at hg
  have hc:=ih x.args[k] (zD hlt)
  have hs:=Lq Tm.osh hlt
  rw [Tm.osh_eq] at hs
  rcases zI k with h0 | h0
  ·subst h0
   obtain rfl:i=0:=hi
   rw [z7,zO,zU] at hs
   simp (disch:=omega) only [go_sem,Ac,hni,hg,hc,D9,eq_self,if_true]
   refine ⟨1,⟨1,rfl,hlt⟩,by omega,?_⟩
   simp (disch:=omega) only [go_sem,Ac,h10,if_false,hs]
  ·have hi0:(i=0)=False:=by simp; omega
   have hi1:(i+1=0)=False:=by simp; omega
   have htl:(x.args.take k).length=k:=by rw [zZ]; omega
   simp (disch:=omega) only [go_sem,Ac,hni,hg,hc,D9,hi0,if_false,htl]
   refine ⟨i+1,⟨k+1,by omega,hlt⟩,by omega,?_⟩
   simp (disch:=omega) only [go_sem,Ac,hni1,hi1,if_false,hs]
 ·obtain rfl:k=x.args.length:=by omega
  have ht:x.args.take x.args.length=x.args:=z6
  rcases zI x.args.length with h0 | h0
  ·have hx:x.args=[]:=zM h0
   obtain rfl:i=0:=by omega
   simp (disch:=omega) only [go_sem,Ac,hni,hx,eq_self,if_true,zO,zN]
  ·have hi0:(i=0)=False:=by simp; omega
   simp (disch:=omega) only [go_sem,Ac,hni,hi0,if_false,ht,hfu,her]
theorem QS (x:Tm) (hn:x.nodes≤1099511627776):E 108 [x.sv] []=some (x.sv,[]) :=
 Tv x hn fun y hy=>QS y (by have:=Tm.nodes_mem hy; have:=Tm.nodes_eq x; omega)
termination_by SizeOf.sizeOf x
decreasing_by exact Tm.lt_of_mem hy
def Fm.osh (x:Fm):List OT:=[.int x.op,.str x.atom.name,.sh (x.atom.args.map Tm.d),.str x.var,.sh (x.parts.map Fm.d)]
theorem Fm.osh_eq (x:Fm):x.osh=[.int x.op,.str x.atom.name,.sh (x.atom.args.map Tm.d),.str x.var,.sh (x.parts.map Fm.d)]:=rfl
theorem Fm.osh_full:∀ xs:List Fm,OT.A1 (xs.map Fm.osh)=true
 | []=>rfl
 | x :: xs=>by simp only [zQ,OT.A1,Fm.osh,OT.Bf,OT.full,Fm.osh_full xs,z8]
theorem Fm.osh_er:∀ xs:List Fm,OT.erss (xs.map Fm.osh)=xs.map Fm.d
 | []=>rfl
 | x :: xs=>by simp only [zQ,OT.erss,Fm.osh,OT.ers,OT.er,Fm.osh_er xs,Fm.d_eq]
theorem Fm.eta (x:Fm):Fm.mk x.op x.atom x.var x.parts=x:=by
 obtain ⟨a,b,c,d⟩:=x
 rfl
def F3:SC:=(.seq (.reg [⟨some 2,none,.boxv 34 5 (.t 0)⟩,⟨(some 4),none,(.alloc 34 [(.int .i64 0),(.str ⟨#[]⟩),.nil,(.str ⟨#[]⟩),.nil])⟩]) (.seq (.dreg [[],[0],[],[2],[3,2],[],[5],[1,0,4,3,2,6,5],[],[8,7,1,0,4,3,2,6,5]] [⟨some 8,none,.faddr 0 (.t 2)⟩,⟨some 9,none,.load false 1 (.t 8)⟩,⟨some 10,none,.faddr 1 (.t 2)⟩,⟨some 11,none,.load true 2 (.t 10)⟩,⟨some 12,none,.call 170 [(.t 11)]⟩,⟨some 13,none,.faddr 3 (.t 2)⟩,⟨some 14,none,.load false 1 (.t 13)⟩,⟨(some 15),none,(.build [(.int .i64 0),(.str ⟨#[]⟩),.nil,(.str ⟨#[]⟩),.nil] [(0,(1,(.t 9))),(1,(2,(.t 12))),(3,(1,(.t 14)))])⟩,⟨(some 5),none,(.alloc 34 [(.int .i64 0),(.str ⟨#[]⟩),.nil,(.str ⟨#[]⟩),.nil])⟩,⟨none,none,(.store 5 (.t 5) (.t 15))⟩]) (.seq (.seq (.reg [⟨some 16,none,.faddr 4 (.t 2)⟩,⟨some 17,none,.load false 1 (.t 16)⟩,⟨some 18,none,.len false (.t 17)⟩,⟨some 19,none,.mv (.c (.int .i64 0))⟩]) (.block 0 (.loop [0,1,0,0,1,1,0,0,0,0,0,0,0,0,0,0,0,1,1,1,0,0,0,0,0,0,0,0,0,0,0,0,0] (.seq (.reg [⟨some 20,none,.bin .lss false (.t 19) (.t 18)⟩]) (.seq (.cond (.t 20) .skip (.exit 0)) (.seq (.block 1 (.seq (.reg [⟨some 21,none,.iaddr 5 (.t 17) (.t 19)⟩,⟨some 22,none,.load true 5 (.t 21)⟩,⟨(some 7),none,(.alloc 34 [(.int .i64 0),(.str ⟨#[]⟩),.nil,(.str ⟨#[]⟩),.nil])⟩,⟨none,none,(.store 5 (.t 7) (.t 22))⟩]) (.dreg [[],[0],[],[],[2,3],[4,2,3],[1,0,5,4,2,3],[0,1,2,3,4,5,6],[7,0,1,2,3,4,5,6]] [⟨some 23,none,.faddr 4 (.t 5)⟩,⟨some 24,none,.load false 1 (.t 23)⟩,⟨some 25,none,.mv (.t 1)⟩,⟨some 26,none,.load true 5 (.t 7)⟩,⟨some 27,none,.callv (.t 25) [(.t 26)]⟩,⟨(some 28),none,(.mkrow 34 5 [(.int .i64 0),(.str ⟨#[]⟩),.nil,(.str ⟨#[]⟩),.nil] 1 [(0,(.t 27))])⟩,⟨(some 29),none,(.append 34 5 88 [(.int .i64 0),(.str ⟨#[]⟩),.nil,(.str ⟨#[]⟩),.nil] (.t 24) (.t 28))⟩,⟨some 30,none,.faddr 4 (.t 5)⟩,⟨none,none,(.store 1 (.t 30) (.t 29))⟩]))) (.reg [⟨some 31,none,.bin .add false (.t 19) (.c (.int .i64 1))⟩,⟨some 19,none,.mv (.t 31)⟩]))))))) (.seq (.reg [⟨some 32,none,.load true 5 (.t 5)⟩,⟨none,none,(.store 5 (.t 4) (.t 32))⟩]) .ret))))
theorem JP:codeOf Tryz.prog 129=some ⟨33,F3,[(.cell 4 true 5)]⟩:=by kernel_rfl
theorem F4:modes 129=⟨[],.own [none,none,some (31,2),none,some (34,5)],none,false⟩:=by unfold modes; rfl
def DX:SC:=(.seq (.reg [⟨some 1,none,.boxv 34 5 (.t 0)⟩,⟨(some 2),none,(.alloc 34 [(.int .i64 0),(.str ⟨#[]⟩),.nil,(.str ⟨#[]⟩),.nil])⟩]) (.seq (.reg [⟨some 3,none,.load true 5 (.t 1)⟩,⟨some 4,none,.call 129 [(.t 3),(.c (.fn 68 []))]⟩,⟨none,none,(.store 5 (.t 2) (.t 4))⟩]) .ret))
theorem HG:codeOf Tryz.prog 68=some ⟨5,DX,[(.cell 2 true 5)]⟩:=by kernel_rfl
theorem C5:modes 68=⟨[],.own [none,none,some (31,2),none,some (34,5)],none,false⟩:=by unfold modes; rfl
theorem HH:HO Tryz.prog 68=true:=by kernel_rfl
def Io:SC:=(.seq (.reg [⟨some 1,none,.boxv 34 5 (.t 0)⟩,⟨(some 2),none,(.alloc 34 [(.int .i64 0),(.str ⟨#[]⟩),.nil,(.str ⟨#[]⟩),.nil])⟩]) (.seq (.dreg [[],[0],[],[2],[3,2],[],[5],[1,0,4,3,2,6,5],[],[8,7,1,0,4,3,2,6,5]] [⟨some 5,none,.faddr 0 (.t 1)⟩,⟨some 6,none,.load false 1 (.t 5)⟩,⟨some 7,none,.faddr 1 (.t 1)⟩,⟨some 8,none,.load true 2 (.t 7)⟩,⟨some 9,none,.call 108 [(.t 8)]⟩,⟨some 10,none,.faddr 3 (.t 1)⟩,⟨some 11,none,.load false 1 (.t 10)⟩,⟨(some 12),none,(.build [(.int .i64 0),(.str ⟨#[]⟩),.nil,(.str ⟨#[]⟩),.nil] [(0,(1,(.t 6))),(1,(2,(.t 9))),(3,(1,(.t 11)))])⟩,⟨(some 3),none,(.alloc 34 [(.int .i64 0),(.str ⟨#[]⟩),.nil,(.str ⟨#[]⟩),.nil])⟩,⟨none,none,(.store 5 (.t 3) (.t 12))⟩]) (.seq (.seq (.reg [⟨some 4,none,.mv (.c (.int .i64 0))⟩]) (.block 0 (.loop [0,1,1,1,1,0,0,0,0,0,0,0,0,0,0,0,0,0,0,0,0,0,0,0,0,0,0,0,0,0,0,0] (.seq (.seq (.reg [⟨some 13,none,.mv (.t 4)⟩,⟨some 14,none,.faddr 4 (.t 1)⟩,⟨some 15,none,.load false 1 (.t 14)⟩,⟨some 16,none,.len false (.t 15)⟩,⟨some 17,none,.bin .lss false (.t 13) (.t 16)⟩]) (.cond (.t 17) .skip (.exit 0))) (.seq (.block 1 (.dreg [[],[0],[],[2],[],[3,2,4],[5,3,2,4],[6,5,3,2,4],[7,6,5,3,2,4],[1,0,8,7,6,5,3,2,4],[0,1,2,3,4,5,6,7,8,9],[10,0,1,2,3,4,5,6,7,8,9]] [⟨some 20,none,.faddr 4 (.t 3)⟩,⟨some 21,none,.load false 1 (.t 20)⟩,⟨some 22,none,.faddr 4 (.t 1)⟩,⟨some 23,none,.load false 1 (.t 22)⟩,⟨some 24,none,.mv (.t 4)⟩,⟨some 25,none,.iaddr 5 (.t 23) (.t 24)⟩,⟨some 26,none,.load true 5 (.t 25)⟩,⟨some 27,none,.call 61 [(.t 26)]⟩,⟨(some 28),none,(.mkrow 34 5 [(.int .i64 0),(.str ⟨#[]⟩),.nil,(.str ⟨#[]⟩),.nil] 1 [(0,(.t 27))])⟩,⟨(some 29),none,(.append 34 5 88 [(.int .i64 0),(.str ⟨#[]⟩),.nil,(.str ⟨#[]⟩),.nil] (.t 21) (.t 28))⟩,⟨some 30,none,.faddr 4 (.t 3)⟩,⟨none,none,(.store 1 (.t 30) (.t 29))⟩])) (.reg [⟨some 18,none,.mv (.t 4)⟩,⟨some 19,none,.bin .add false (.t 18) (.c (.int .i64 1))⟩,⟨some 4,none,.mv (.t 19)⟩])))))) (.seq (.reg [⟨some 31,none,.load true 5 (.t 3)⟩,⟨none,none,(.store 5 (.t 2) (.t 31))⟩]) .ret))))
theorem NE:codeOf Tryz.prog 61=some ⟨32,Io,[(.cell 2 true 5)]⟩:=by kernel_rfl
theorem DA:modes 61=⟨[],.frz,none,false⟩:=by unfold modes; rfl
theorem OX (fid:Nat) (g:Fm→Fm) (x:Fm) (hl:x.parts.length≤1099511627776) (hat:x.atom.nodes≤1099511627776) (hg:HO Tryz.prog fid=true) (hm:(modes fid).hand=[]) (hr:∀ r,Ef (modes fid).res r=r) (hE:∀ y∈x.parts,E fid [y.sv] []=some ((g y).osv,(g y).obs)):E 129 [x.sv,.fn fid []] []=some ((Fm.mk x.op x.atom x.var (x.parts.map g)).osv,(Fm.mk x.op x.atom x.var (x.parts.map g)).obs):=by
 have hct:=Lp x.atom hat
 have h10:((1:Int)=0)=False:=by simp
 have hmm:∀ ys:List Fm,(ys.map g).map Fm.o=ys.map fun y=>Fm.o (g y):=fun ys=>by rw [List.map_map]; rfl
 show _=some (SV.agg [.int .i64 x.op,.str x.atom.name,.ref 0,.str x.var,.ref 1],[Ob.row 31 2 (x.atom.args.map Tm.o),.row 34 5 ((x.parts.map g).map Fm.o)])
 rw [hmm]
 refine Al JP F4 (of_decide_eq_true rfl) ?_
 simp (disch:=omega) only [F3,go_sem,Ac,hct,Dx,Tm.osv,Tm.obs]
 refine go_loop (α:=Int) (fun a=>⟨slots 33 0 [(1,.fn fid []),(4,.ptr 0 0),(5,.ptr 1 0),(17,.arr (x.parts.map Fm.d)),(18,.int .i64 x.parts.length),(19,.int .i64 a)],(if a=0 then [.box 34 [.int .i64 0,.str ⟨#[]⟩,.nil,.str ⟨#[]⟩,.nil],.box 34 [.int .i64 x.op,.str x.atom.name,.ref 2,.str x.var,.nil],.row 31 2 (x.atom.args.map Tm.o)] else [.box 34 [.int .i64 0,.str ⟨#[]⟩,.nil,.str ⟨#[]⟩,.nil],.box 34 [.int .i64 x.op,.str x.atom.name,.ref 2,.str x.var,.ref 3],.row 31 2 (x.atom.args.map Tm.o),.row 34 5 ((x.parts.take a.toNat).map fun y=>Fm.o (g y))])⟩) (fun a=>∃ k:Nat,a=k∧k≤(x.parts).length) (fun a=>(x.parts).length-(a).toNat) 0 ⟨0,rfl,zG _⟩ (by simp (disch:=omega) only [go_sem,Ac,eq_self,if_true]) ?_
 rintro i ⟨k,hi,hk⟩
 have hni:i.toNat=k:=by omega
 have hni1:(i+1).toNat=k+1:=by omega
 rcases zC k (x.parts).length with hlt | hge
 ·have hgt:=get_at Fm.d hlt
  rw [Fm.d_eq] at hgt
  have hc:=hE x.parts[k] (zD hlt)
  have hs:=Lq (fun y=>Fm.o (g y)) hlt
  rw [Fm.o_eq] at hs
  rcases zI k with h0 | h0
  ·subst h0
   obtain rfl:i=0:=hi
   rw [z7,zO,zU] at hs
   simp (disch:=omega) only [go_sem,Ac,hni,hgt,hc,hg,hm,hr,Fm.osv,Fm.obs,eq_self,if_true]
   refine ⟨1,⟨1,rfl,hlt⟩,by omega,?_⟩
   simp (disch:=omega) only [go_sem,Ac,h10,if_false,hs]
  ·have hi0:(i=0)=False:=by simp; omega
   have hi1:(i+1=0)=False:=by simp; omega
   have htl:(x.parts.take k).length=k:=by rw [zZ]; omega
   simp (disch:=omega) only [go_sem,Ac,hni,hgt,hc,hg,hm,hr,Fm.osv,Fm.obs,hi0,if_false,htl]
   refine ⟨i+1,⟨k+1,by omega,hlt⟩,by omega,?_⟩
   simp (disch:=omega) only [go_sem,Ac,hni1,hi1,if_false,hs]
 ·obtain rfl:k=x.parts.length:=by omega
  have ht:x.parts.take x.parts.length=x.parts:=z6
  rcases zI x.parts.length with h0 | h0
  ·have hx:x.parts=[]:=zM h0
   obtain rfl:i=0:=by omega
   simp (disch:=omega) only [go_sem,Ac,hni,hx,eq_self,if_true,zO,zN]
  ·have hi0:(i=0)=False:=by simp; omega
   simp (disch:=omega) only [go_sem,Ac,hni,hi0,if_false,ht]
theorem Lr (x:Fm) (ht:x.tame) (hn:x.nodes≤1099511627776) (ih:∀ y∈x.parts,E 68 [y.sv] []=some (y.osv,y.obs)):E 68 [x.sv] []=some (x.osv,x.obs):=by
 have hx:=Fm.nodes_eq x
 have hl:=Fm.length_le x.parts
 have hat:=Fm.Kc ht
 have h:=OX 68 (fun y=>y) x (by omega) (by omega) HH (by rw [C5]) (fun r=>by rw [C5]; rfl) ih
 rw [List.map_id',Fm.eta] at h
 refine Al HG C5 (of_decide_eq_true rfl) ?_
 simp (disch:=omega) only [DX,go_sem,Ac,h,F4,Fm.osv,Fm.obs]
theorem Hi (x:Fm) (ht:x.tame) (hn:x.nodes≤1099511627776):E 68 [x.sv] []=some (x.osv,x.obs) :=
 Lr x ht hn fun y hy=>Hi y (Fm.GA ht hy) (by have:=Fm.nodes_mem hy; have:=Fm.nodes_eq x; omega)
termination_by SizeOf.sizeOf x
decreasing_by exact Fm.lt_of_mem hy
theorem Tw (x:Fm) (ht:x.tame) (hn:x.nodes≤1099511627776) (ih:∀ y∈x.parts,E 61 [y.sv] []=some (y.sv,[])):E 61 [x.sv] []=some (x.sv,[]):=by
 have hx0:=Fm.nodes_eq x
 have hl:=Fm.length_le x.parts
 have hat:=Fm.Kc ht
 have hct:=QS x.atom (by omega)
 have h10:((1:Int)=0)=False:=by simp
 have hfu:=Fm.osh_full x.parts
 have her:=Fm.osh_er x.parts
 refine Al NE DA (of_decide_eq_true rfl) ?_
 simp (disch:=omega) only [Io,go_sem,Ac,hct,D9]
 refine go_loop (α:=Int) (fun a=>⟨slots 32 0 [(1,.ptr 0 0),(2,.ptr 1 0),(3,.ptr 2 0),(4,.int .i64 a)],(if a=0 then [.box 34 [.int .i64 x.op,.str x.atom.name,.arr (x.atom.args.map Tm.d),.str x.var,.arr (x.parts.map Fm.d)],.box 34 [.int .i64 0,.str ⟨#[]⟩,.nil,.str ⟨#[]⟩,.nil],.box 34 [.int .i64 x.op,.str x.atom.name,.arr (x.atom.args.map Tm.d),.str x.var,.nil]] else [.box 34 [.int .i64 x.op,.str x.atom.name,.arr (x.atom.args.map Tm.d),.str x.var,.arr (x.parts.map Fm.d)],.box 34 [.int .i64 0,.str ⟨#[]⟩,.nil,.str ⟨#[]⟩,.nil],.box 34 [.int .i64 x.op,.str x.atom.name,.arr (x.atom.args.map Tm.d),.str x.var,.ref 3],.row 34 5 ((x.parts.take a.toNat).map Fm.osh)])⟩) (fun a=>∃ k:Nat,a=k∧k≤(x.parts).length) (fun a=>(x.parts).length-(a).toNat) 0 ⟨0,rfl,zG _⟩ (by simp (disch:=omega) only [go_sem,Ac,eq_self,if_true]) ?_
 rintro i ⟨k,hi,hk⟩
 have hni:i.toNat=k:=by omega
 have hni1:(i+1).toNat=k+1:=by omega
 rcases zC k (x.parts).length with hlt | hge
 ·have hg:=get_at Fm.d hlt
  rw [Fm.d_eq] at hg
  have hc:=ih x.parts[k] (zD hlt)
  have hs:=Lq Fm.osh hlt
  rw [Fm.osh_eq] at hs
  rcases zI k with h0 | h0
  ·subst h0
   obtain rfl:i=0:=hi
   rw [z7,zO,zU] at hs
   simp (disch:=omega) only [go_sem,Ac,hni,hg,hc,DA,eq_self,if_true]
   refine ⟨1,⟨1,rfl,hlt⟩,by omega,?_⟩
   simp (disch:=omega) only [go_sem,Ac,h10,if_false,hs]
  ·have hi0:(i=0)=False:=by simp; omega
   have hi1:(i+1=0)=False:=by simp; omega
   have htl:(x.parts.take k).length=k:=by rw [zZ]; omega
   simp (disch:=omega) only [go_sem,Ac,hni,hg,hc,DA,hi0,if_false,htl]
   refine ⟨i+1,⟨k+1,by omega,hlt⟩,by omega,?_⟩
   simp (disch:=omega) only [go_sem,Ac,hni1,hi1,if_false,hs]
 ·obtain rfl:k=x.parts.length:=by omega
  have ht2:x.parts.take x.parts.length=x.parts:=z6
  rcases zI x.parts.length with h0 | h0
  ·have hx:x.parts=[]:=zM h0
   obtain rfl:i=0:=by omega
   simp (disch:=omega) only [go_sem,Ac,hni,hx,eq_self,if_true,zO,zN]
  ·have hi0:(i=0)=False:=by simp; omega
   simp (disch:=omega) only [go_sem,Ac,hni,hi0,if_false,ht2,hfu,her]
theorem QT (x:Fm) (ht:x.tame) (hn:x.nodes≤1099511627776):E 61 [x.sv] []=some (x.sv,[]) :=
 Tw x ht hn fun y hy=>QT y (Fm.GA ht hy) (by have:=Fm.nodes_mem hy; have:=Fm.nodes_eq x; omega)
termination_by SizeOf.sizeOf x
decreasing_by exact Fm.lt_of_mem hy
def Ep:SC:=(.seq (.reg [⟨some 5,none,.boxv 34 5 (.t 2)⟩,⟨(some 6),none,(.alloc 34 [(.int .i64 0),(.str ⟨#[]⟩),.nil,(.str ⟨#[]⟩),.nil])⟩]) (.seq (.reg [⟨some 7,none,.mv (.t 0)⟩,⟨some 8,none,.mv (.t 1)⟩,⟨some 9,none,.load true 5 (.t 5)⟩,⟨(some 10),none,(.mkrow 34 5 [(.int .i64 0),(.str ⟨#[]⟩),.nil,(.str ⟨#[]⟩),.nil] 1 [(0,(.t 9))])⟩,⟨(some 11),none,(.build [(.int .i64 0),(.str ⟨#[]⟩),.nil,(.str ⟨#[]⟩),.nil] [(0,(1,(.t 7))),(3,(1,(.t 8))),(4,(1,(.t 10)))])⟩,⟨none,none,(.store 5 (.t 6) (.t 11))⟩]) .ret))
theorem Iq:codeOf Tryz.prog 102=some ⟨12,Ep,[(.cell 6 true 5)]⟩:=by kernel_rfl
theorem Ir:modes 102=⟨[false,false,true],.own [none,none,some (31,2),none,some (34,5)],none,false⟩:=by unfold modes; rfl
theorem NF (op:Int) (v:ByteArray) (y:Fm):E 102 [.int .i64 op,.str v,y.osv] y.obs=some (.agg [.int .i64 op,.str ⟨#[]⟩,.ref 2,.str v,.ref 3],[.gone,.gone,.row 31 2 [],.row 34 5 [y.o]]):=by
 have ho:[[OT.int y.op,OT.str y.atom.name,OT.ow (y.atom.args.map Tm.o),OT.str y.var,OT.ow (y.parts.map Fm.o)]]=[y.o]:=by rw [Fm.o_eq]
 refine Al Iq Ir (of_decide_eq_true rfl) ?_
 simp (disch:=omega) only [Ep,go_sem,Ac,Fm.osv,Fm.obs,ho]
theorem Tm.QU (x:Tm):∀ m∈x.vs,Bk m=true:=by
 have ih:∀ y∈x.args,∀ m∈y.vs,Bk m=true:=fun y hy=>Tm.QU y
 intro m hm
 rw [Tm.QG] at hm
 cases hv:Bk x.name with
 | true =>
  rw [hv,cond_true,List.mem_singleton] at hm
  rw [hm]; exact hv
 | false =>
  rw [hv,cond_false] at hm
  obtain ⟨y,hy,h⟩:=Tm.QH.1 hm
  exact ih y hy m h
termination_by SizeOf.sizeOf x
decreasing_by exact Tm.lt_of_mem hy
theorem Fm.Tx (x:Fm):∀ b,∀ m∈x.fv b,Bk m=true:=by
 have ih:∀ y∈x.parts,∀ b,∀ m∈y.fv b,Bk m=true:=fun y hy=>Fm.Tx y
 intro b m hm
 rw [Fm.QN] at hm
 cases h3:dec (x.op=3) with
 | true =>
  rw [h3,cond_true,List.mem_filter] at hm
  exact Tm.QU _ m ((Il.1 hm.1).elim (fun h=>by cases h) id)
 | false =>
  rw [h3,cond_false] at hm
  obtain ⟨y,hy,h⟩:=Fm.QO.1 hm
  exact ih y hy _ m h
termination_by SizeOf.sizeOf x
decreasing_by exact Fm.lt_of_mem hy
theorem Fm.Ty (x:Fm):∀ m∈x.free,Bk m=true:=fun m hm=>Fm.Tx x [] m ((Fm.Ts x m).1 hm)
theorem Qe {m:ByteArray} (h:Bk m=true):m.size≤4:=by
 unfold Bk inB at h
 rw [zK,zK,decide_eq_true_eq,decide_eq_true_eq] at h
 omega
theorem Fm.Is (x:Fm):x.free.length≤x.vn:=by
 have h2:=Ds (x.fv []) []
 have h3:=Fm.HF x []
 simp only [zN] at h2
 show (BL [] (x.fv [])).length≤_
 omega
theorem Fm.Ls (n:ByteArray) (ns:List ByteArray) (x:Fm):Fm.cls (n :: ns) x=.all n (Fm.cls ns x):=rfl
theorem Fm.Jb (x:Fm):∀ ns,(Fm.cls ns x).nodes=ns.length+x.nodes
 | []=>by show x.nodes=0+x.nodes; omega
 | n :: ns=>by
  rw [Fm.Ls,Fm.nodes_eq]
  show 1+Fm.nodeS [Fm.cls ns x]=_
  rw [Fm.nodeS,Fm.nodeS,Fm.Jb x ns,zL]; omega
theorem Fm.Lu {x:Fm} (h:x.tame):∀ ns,(Fm.cls ns x).tame
 | []=>h
 | n :: ns=>by
  rw [Fm.Ls,Fm.Ih]
  refine ⟨?_,?_⟩
  ·show (Tm.mk ⟨#[]⟩ []).nodes≤_
   rw [Tm.nodes_eq]; show 1+Tm.nodeS []≤_; rw [Tm.nodeS]; omega
  ·show Fm.En [Fm.cls ns x]
   rw [Fm.En,Fm.En]; exact ⟨Fm.Lu h ns,trivial⟩
noncomputable def LO (x:Fm):Fm:=Fm.cls x.free x
noncomputable def JC (x:Fm):Bool:=x.valid&&(LO x).valid
noncomputable def JD (x:Fm):Fm:=bif JC x then LO x else Fm.zero
theorem Dk:modes 43=⟨[],.asis,some Fv,false⟩:=by unfold modes; rfl
theorem Tz (x:Fm) (hx:x.forms=true) (hn:x.nodes≤1048576) (hv:x.vn≤1048576):E 43 [x.sv] []=some ((LO x).osv,(LO x).obs):=by
 rw [N0 (g:=Fv) (congrArg FM.ext Dk)]
 refine PN x ⟨?_,fun s hs=>Uk ?_,Nx (Hi x (Fm.HA x hx) (by omega)),Nx (V9 x hx hv hn),fun n y=>Nx (NF 8 n y)⟩
 ·have:=Fm.Is x; omega
 ·have:=Qe (Fm.Ty x s hs); omega
def BA:SC:=(.seq (.reg [⟨some 1,none,.boxv 34 5 (.t 0)⟩,⟨(some 2),none,(.alloc 34 [(.int .i64 0),(.str ⟨#[]⟩),.nil,(.str ⟨#[]⟩),.nil])⟩,⟨some 3,none,.mv (.c (.bool false))⟩]) (.seq (.seq (.reg [⟨some 4,none,.load true 5 (.t 1)⟩,⟨some 5,none,.call 41 [(.t 4)]⟩,⟨some 6,none,.un .not (.t 5)⟩]) (.cond (.t 6) (.seq (.reg [⟨(some 7),none,(.build [(.int .i64 0),(.str ⟨#[]⟩),.nil,(.str ⟨#[]⟩),.nil] [])⟩,⟨none,none,(.store 5 (.t 2) (.t 7))⟩,⟨some 3,none,.mv (.c (.bool false))⟩]) .ret) .skip)) (.seq (.reg [⟨some 8,none,.load true 5 (.t 1)⟩,⟨some 9,none,.call 43 [(.t 8)]⟩,⟨some 10,none,.call 42 [(.t 9)]⟩,⟨some 11,none,.ext (.t 10) 0⟩,⟨some 12,none,.ext (.t 10) 1⟩,⟨none,none,(.store 5 (.t 2) (.t 11))⟩,⟨some 3,none,.mv (.t 12)⟩]) .ret)))
theorem Co:codeOf Tryz.prog 10=some ⟨13,BA,[(.cell 2 true 5),(.tmp 3)]⟩:=by kernel_rfl
theorem AM:modes 10=⟨[],.own [none,none,some (31,2),none,some (34,5),none],none,false⟩:=by unfold modes; rfl
theorem Lv (x:Fm) (hta:x.tame) (hn:x.nodes≤1099511627776):E 10 [x.sv] []=some (.tup [(JD x).osv,.bool (JC x)],(JD x).obs):=by
 have h1:=CZ x hta hn
 have hz1:Fm.zero.osv=.agg [.int .i64 0,.str ⟨#[]⟩,.ref 0,.str ⟨#[]⟩,.ref 1]:=rfl
 have hz2:Fm.zero.obs=[.row 31 2 [],.row 34 5 []]:=rfl
 unfold JD JC
 cases hv:x.valid with
 | false =>
  rw [hv] at h1
  rw [Bool.false_and,cond_false,hz1,hz2]
  refine Al Co AM (of_decide_eq_true rfl) ?_
  simp (disch:=omega) only [BA,go_sem,Ac,h1,AF,Dk,BF]
 | true =>
  rw [hv] at h1
  rw [Bool.true_and]
  obtain ⟨hva1,hva2⟩:=J7 hv
  have hvn:=Fm.Tr x hva2
  have hs:=Tz x hva2 (by omega) (by omega)
  have hp1:=Fm.Lu hta x.free
  have hp2:=Fm.Jb x x.free
  have hp3:=Fm.Is x
  have e0:Fm.cls x.free x=LO x:=rfl
  rw [e0] at hp1 hp2
  generalize LO x=y at *
  cases hq:y.valid with
  | true =>
   have hi:=LL y hp1 (by omega) hq
   rw [cond_true]
   refine Al Co AM (of_decide_eq_true rfl) ?_
   simp (disch:=omega) only [BA,go_sem,Ac,h1,hs,hi,AF,Dk,BF,Fm.osv,Fm.obs]
  | false =>
   have hi:=N4 y hp1 (by omega) hq
   rw [cond_false,hz1,hz2]
   refine Al Co AM (of_decide_eq_true rfl) ?_
   simp (disch:=omega) only [BA,go_sem,Ac,h1,hs,hi,AF,Dk,BF,Fm.osv,Fm.obs]
def Gh:SC:=(.seq (.reg [⟨some 1,none,.boxv 34 5 (.t 0)⟩,⟨(some 2),none,(.alloc 34 [(.int .i64 0),(.str ⟨#[]⟩),.nil,(.str ⟨#[]⟩),.nil])⟩]) (.seq (.reg [⟨some 6,none,.load true 5 (.t 1)⟩,⟨some 7,none,.call 61 [(.t 6)]⟩,⟨(some 3),none,(.alloc 34 [(.int .i64 0),(.str ⟨#[]⟩),.nil,(.str ⟨#[]⟩),.nil])⟩,⟨none,none,(.store 5 (.t 3) (.t 7))⟩]) (.seq (.reg [⟨some 8,none,.load true 5 (.t 1)⟩,⟨some 9,none,.call 96 [(.t 8)]⟩,⟨some 4,none,.mv (.t 9)⟩]) (.seq (.seq (.reg [⟨some 10,none,.mv (.t 4)⟩,⟨some 11,none,.len false (.t 10)⟩,⟨some 12,none,.bin .sub false (.t 11) (.c (.int .i64 1))⟩,⟨some 5,none,.mv (.t 12)⟩]) (.block 0 (.loop [0,0,1,1,1,1,0,0,0,0,0,0,0,0,0,0,0,0,0,0,0,0,0,0,0] (.seq (.seq (.reg [⟨some 13,none,.mv (.t 5)⟩,⟨some 14,none,.bin .geq false (.t 13) (.c (.int .i64 0))⟩]) (.cond (.t 14) .skip (.exit 0))) (.seq (.block 1 (.dreg [[],[],[0,1],[2,0,1],[],[4],[3,2,0,1,5,4],[6,3,2,0,1,5,4]] [⟨some 17,none,.mv (.t 4)⟩,⟨some 18,none,.mv (.t 5)⟩,⟨some 19,none,.iaddr 1 (.t 17) (.t 18)⟩,⟨some 20,none,.load false 1 (.t 19)⟩,⟨some 21,none,.load true 5 (.t 3)⟩,⟨(some 22),none,(.mkrow 34 5 [(.int .i64 0),(.str ⟨#[]⟩),.nil,(.str ⟨#[]⟩),.nil] 1 [(0,(.t 21))])⟩,⟨(some 23),none,(.build [(.int .i64 0),(.str ⟨#[]⟩),.nil,(.str ⟨#[]⟩),.nil] [(0,(1,(.c (.int .i64 8)))),(3,(1,(.t 20))),(4,(1,(.t 22)))])⟩,⟨none,none,(.store 5 (.t 3) (.t 23))⟩])) (.reg [⟨some 15,none,.mv (.t 5)⟩,⟨some 16,none,.bin .sub false (.t 15) (.c (.int .i64 1))⟩,⟨some 5,none,.mv (.t 16)⟩])))))) (.seq (.reg [⟨some 24,none,.load true 5 (.t 3)⟩,⟨none,none,(.store 5 (.t 2) (.t 24))⟩]) .ret)))))
theorem Lw:codeOf Tryz.prog 38=some ⟨25,Gh,[(.cell 2 true 5)]⟩:=by kernel_rfl
theorem DY:modes 38=⟨[],.frz,none,false⟩:=by unfold modes; rfl
def clo:List ByteArray→Fm→List OT
 | [],x=>x.osh
 | n :: ns,x=>[.int 8,.str ⟨#[]⟩,.ow [],.str n,.ow [clo ns x]]
theorem OY (x:Fm):∀ ns,OT.Bf (clo ns x)=true
 | []=>by simp only [clo,Fm.osh,OT.Bf,OT.full,z8]
 | n :: ns=>by simp only [clo,OT.Bf,OT.full,OT.A1,OY x ns,z8]
theorem T0 (x:Fm):∀ ns,OT.ers (clo ns x)=(Fm.cls ns x).d
 | []=>by
  show OT.ers x.osh=x.d
  rw [Fm.d_eq,Fm.osh_eq]
  simp only [OT.ers,OT.er]
 | n :: ns=>by
  rw [Fm.Ls,Fm.d_eq,clo]
  simp only [OT.ers,OT.er,OT.erss,T0 x ns]
  rfl
theorem UA {ns:List ByteArray} {k:Nat} (h:k<ns.length) (x:Fm):[.int 8,.str ⟨#[]⟩,.ow [],.str (ns.getD k ⟨#[]⟩),.ow [clo (ns.drop (k+1)) x]]=clo (ns.drop k) x:=by
 rw [zB h,clo,zV,zH h]
 rfl
theorem RJ (x:Fm) (hx:x.forms=true) (hn:x.nodes≤1048576) (hv:x.vn≤1048576):E 38 [x.sv] []=some ((LO x).sv,[]):=by
 have h1:=QT x (Fm.HA x hx) (by omega)
 have h2:=Tu x hx hv hn
 have hfl:=Fm.Is x
 have hxs:x.sv=.agg [.int .i64 x.op,.str x.atom.name,.arr (x.atom.args.map Tm.d),.str x.var,.arr (x.parts.map Fm.d)]:=rfl
 unfold LO
 obtain ⟨ns,hns⟩:∃ ns,ns=x.free:=⟨_,rfl⟩
 rw [←hns] at h2 hfl ⊢
 refine Al Lw DY (of_decide_eq_true rfl) ?_
 simp (disch:=omega) only [Gh,go_sem,Ac,h1,h2,DA,Hh]
 refine go_loop (α:=Nat) (fun k=>⟨slots 25 0 [(2,.ptr 0 0),(3,.ptr 1 0),(4,.arr (ns.map fun s=>[D.str s])),(5,.int .i64 ((k:Int)-1))],(if k=ns.length then [.box 34 [.int .i64 0,.str ⟨#[]⟩,.nil,.str ⟨#[]⟩,.nil],.box 34 [.int .i64 x.op,.str x.atom.name,.arr (x.atom.args.map Tm.d),.str x.var,.arr (x.parts.map Fm.d)]] else [.box 34 [.int .i64 0,.str ⟨#[]⟩,.nil,.str ⟨#[]⟩,.nil],.box 34 [.int .i64 8,.str ⟨#[]⟩,.nil,.str (ns.getD k ⟨#[]⟩),.ref 2],.row 34 5 [clo (ns.drop (k+1)) x]])⟩) (fun k=>k≤ns.length) (fun k=>k) ns.length (zR _) (by simp (disch:=omega) only [go_sem,Ac,eq_self,if_true]) ?_
 intro k hk
 rcases zI k with h0 | h0
 ·subst h0
  have q1:(((0:Nat):Int)-1<0)=True:=eq_true (by omega)
  have q2:(0≤((0:Nat):Int)-1)=False:=eq_false (by omega)
  rcases zI ns.length with hl | hl
  ·have hnil:ns=[]:=zM hl
   have hl':(0=ns.length)=True:=eq_true hl.symm
   have e1:(Fm.cls ns x).sv=x.sv:=by rw [hnil]; rfl
   rw [e1]
   simp (disch:=omega) only [go_sem,Ac,q1,q2,hl',if_true]
  ·have hl':(0=ns.length)=False:=eq_false (by omega)
   have e1:(Fm.cls ns x).sv=.agg [.int .i64 8,.str ⟨#[]⟩,.arr [],.str (ns.getD 0 ⟨#[]⟩),.arr [OT.ers (clo (ns.drop 1) x)]]:=by
    rw [T0]
    obtain ⟨n,r,rfl⟩:∃ n r,ns=n :: r:=by
     cases ns with
     | nil=>simp at hl
     | cons n r=>exact ⟨n,r,rfl⟩
    rfl
   have e2:=OY x (ns.drop 1)
   rw [e1]
   simp (disch:=omega) only [go_sem,Ac,q1,q2,hl',if_false,e2]
 ·obtain ⟨k,rfl⟩:∃ k',k=k'+1:=⟨k-1,by omega⟩
  have hlt:k<ns.length:=by omega
  have hni:(((k+1:Nat):Int)-1).toNat=k:=by omega
  have q2:(0≤((k+1:Nat):Int)-1)=True:=eq_true (by omega)
  have hg:(ns.map fun s=>[D.str s])[k]?=some [D.str (ns.getD k ⟨#[]⟩)]:=by
   rw [zP,zH hlt,zV,zH hlt]; rfl
  have hk':(k=ns.length)=False:=eq_false (by omega)
  have hb:((k+1:Nat):Int)-1<((ns.map fun s=>[D.str s]).length:Int):=by rw [zJ]; omega
  have hii:((k+1:Nat):Int)-1-1=(k:Int)-1:=by omega
  by_cases hl:k+1=ns.length
  ·have hl':(k+1=ns.length)=True:=eq_true hl
   have hd:clo (ns.drop (k+1)) x=[.int x.op,.str x.atom.name,.sh (x.atom.args.map Tm.d),.str x.var,.sh (x.parts.map Fm.d)]:=by rw [zE (by omega)]; rfl
   simp (disch:=omega) only [go_sem,Ac,q2,hl',if_true,if_false,hni,hg]
   refine ⟨k,by omega,by omega,?_⟩
   simp (disch:=omega) only [go_sem,Ac,hk',if_false,hd,hii]
  ·have hl':(k+1=ns.length)=False:=eq_false hl
   have hd:=UA (show k+1<ns.length by omega) x
   simp (disch:=omega) only [go_sem,Ac,q2,hl',if_true,if_false,hni,hg]
   refine ⟨k,by omega,by omega,?_⟩
   simp (disch:=omega) only [go_sem,Ac,hk',if_false,hd,hii]
def BB:SC:=(.seq (.reg [⟨some 1,none,.boxv 34 5 (.t 0)⟩,⟨(some 2),none,(.alloc 34 [(.int .i64 0),(.str ⟨#[]⟩),.nil,(.str ⟨#[]⟩),.nil])⟩,⟨some 3,none,.mv (.c (.bool false))⟩]) (.seq (.seq (.reg [⟨some 5,none,.load true 5 (.t 1)⟩,⟨some 6,none,.call 37 [(.t 5)]⟩,⟨some 7,none,.un .not (.t 6)⟩]) (.cond (.t 7) (.seq (.reg [⟨(some 8),none,(.build [(.int .i64 0),(.str ⟨#[]⟩),.nil,(.str ⟨#[]⟩),.nil] [])⟩,⟨none,none,(.store 5 (.t 2) (.t 8))⟩,⟨some 3,none,.mv (.c (.bool false))⟩]) .ret) .skip)) (.seq (.reg [⟨some 9,none,.load true 5 (.t 1)⟩,⟨some 10,none,.call 38 [(.t 9)]⟩,⟨(some 4),none,(.alloc 34 [(.int .i64 0),(.str ⟨#[]⟩),.nil,(.str ⟨#[]⟩),.nil])⟩,⟨none,none,(.store 5 (.t 4) (.t 10))⟩]) (.seq (.seq (.reg [⟨some 11,none,.load true 5 (.t 4)⟩,⟨some 12,none,.call 37 [(.t 11)]⟩,⟨some 13,none,.un .not (.t 12)⟩]) (.cond (.t 13) (.seq (.reg [⟨(some 14),none,(.build [(.int .i64 0),(.str ⟨#[]⟩),.nil,(.str ⟨#[]⟩),.nil] [])⟩,⟨none,none,(.store 5 (.t 2) (.t 14))⟩,⟨some 3,none,.mv (.c (.bool false))⟩]) .ret) .skip)) (.seq (.reg [⟨some 15,none,.load true 5 (.t 4)⟩,⟨none,none,(.store 5 (.t 2) (.t 15))⟩,⟨some 3,none,.mv (.c (.bool true))⟩]) .ret)))))
theorem Cp:codeOf Tryz.prog 8=some ⟨16,BB,[(.cell 2 true 5),(.tmp 3)]⟩:=by kernel_rfl
theorem AN:modes 8=⟨[],.frz,none,false⟩:=by unfold modes; rfl
theorem Jc (x:Fm) (hta:x.tame) (hn:x.nodes≤1099511627776):E 8 [x.sv] []=some (.tup [(JD x).sv,.bool (JC x)],[]):=by
 have h1:=OK x hta hn
 have hz3:Fm.zero.sv=.agg [.int .i64 0,.str ⟨#[]⟩,.arr [],.str ⟨#[]⟩,.arr []]:=rfl
 unfold JD JC
 cases hv:x.valid with
 | false =>
  rw [hv] at h1
  rw [Bool.false_and,cond_false,hz3]
  refine Al Cp AN (of_decide_eq_true rfl) ?_
  simp (disch:=omega) only [BB,go_sem,Ac,h1,Cx]
 | true =>
  rw [hv] at h1
  rw [Bool.true_and]
  obtain ⟨hva1,hva2⟩:=J7 hv
  have hvn:=Fm.Tr x hva2
  have hs:=RJ x hva2 (by omega) (by omega)
  have hp1:=Fm.Lu hta x.free
  have hp2:=Fm.Jb x x.free
  have hp3:=Fm.Is x
  have e0:Fm.cls x.free x=LO x:=rfl
  rw [e0] at hp1 hp2
  generalize LO x=y at *
  have h3:=OK y hp1 (by omega)
  have hys:y.sv=.agg [.int .i64 y.op,.str y.atom.name,.arr (y.atom.args.map Tm.d),.str y.var,.arr (y.parts.map Fm.d)]:=rfl
  cases hq:y.valid with
  | true =>
   rw [hq] at h3
   rw [cond_true]
   refine Al Cp AN (of_decide_eq_true rfl) ?_
   simp (disch:=omega) only [BB,go_sem,Ac,h1,hs,h3,Cx,DY]
  | false =>
   rw [hq] at h3
   rw [cond_false,hz3]
   refine Al Cp AN (of_decide_eq_true rfl) ?_
   simp (disch:=omega) only [BB,go_sem,Ac,h1,hs,h3,Cx,DY]
theorem Fm.MW (x:Fm) (h:x.bulk≤1048576):x.tame∧x.nodes≤1+x.bulk:=by
 have hb:=Fm.bulk_eq x
 have ha:=Tm.KY x.atom
 have key:∀ xs:List Fm,(∀ y∈xs,y.bulk≤1048576→y.tame∧y.nodes≤1+y.bulk)→Fm.sumB xs≤1048576→Fm.En xs∧Fm.nodeS xs≤xs.length+Fm.sumB xs:=by
  intro xs
  induction xs with
  | nil=>intro _ _; rw [Fm.En,Fm.nodeS]; exact ⟨trivial,by simp⟩
  | cons y ys ih =>
   intro hh hs
   rw [Fm.sumB] at hs
   have h1:=hh y (by simp) (by omega)
   have h2:=ih (fun z hz=>hh z (by simp [hz])) (by omega)
   rw [Fm.En,Fm.nodeS,Fm.sumB,zL]
   exact ⟨⟨h1.1,h2.1⟩,by omega⟩
 have hk:=key x.parts (fun y hy hby=>Fm.MW y hby) (by omega)
 rw [Fm.Ih,Fm.nodes_eq]
 exact ⟨⟨by omega,hk.1⟩,by omega⟩
termination_by SizeOf.sizeOf x
decreasing_by exact Fm.lt_of_mem hy
theorem Tm.RK {x:Tm} (h:x.atom=true):x.bulk≤300:=by
 have hn:=Tm.H9 h
 have h1:=Tm.H7 x.args fun y hy=>Tm.KZ y ((Tm.GC h).2 y hy)
 have h2:x.name.size≤6:=by
  unfold Tm.atom at h
  split at h
  ·rename_i he
   unfold Tm.eqn at he
   rw [Ap.1 he]; decide
  ·rw [zK] at h; exact MJ h.1
 rw [Tm.nodes_eq] at hn
 rw [Tm.bulk_eq]
 omega
theorem Fm.Lx (x:Fm) (h:x.forms=true):x.bulk+1≤320*x.nodes:=by
 have hf:=Fm.DU h
 have key:∀ xs:List Fm,(∀ y∈xs,y.bulk+1≤320*y.nodes)→xs.length+Fm.sumB xs≤320*Fm.nodeS xs:=by
  intro xs
  induction xs with
  | nil=>intro _; simp [Fm.sumB]
  | cons y ys ih =>
   intro hh
   have h1:=hh y (by simp)
   have h2:=ih fun z hz=>hh z (by simp [hz])
   rw [Fm.nodeS,Fm.sumB,zL]; omega
 have hk:=key x.parts fun y hy=>Fm.Lx y (Fm.DT h hy)
 have ha:x.atom.bulk≤300:=by
  by_cases ho:x.op=3
  ·exact Tm.RK (Fm.GB hf ho).2.1
  ·rw [Fm.Lb hf ho,Tm.bulk_eq]
   show 0+_≤_
   simp [Tm.args,Tm.sumB]
 have hv:x.var.size≤6:=by
  by_cases hq:qB x.op=true
  ·exact MH (Fm.Lc hf hq).1
  ·have hq2:qB x.op=false:=by simpa using hq
   have e:x.var=⟨#[]⟩:=by
    unfold qB at hq2
    rw [Bool.or_eq_false_iff] at hq2
    have o8:=B9.1 hq2.1
    have o9:=B9.1 hq2.2
    unfold Fm.form at hf
    split at hf
    ·rw [zK] at hf; exact Ap.1 hf.2
    ·split at hf
     ·rw [zK] at hf; exact Ap.1 hf.2
     ·split at hf
      ·rw [zK] at hf; exact Ap.1 hf.2
      ·split at hf
       ·rw [zK] at hf; exact Ap.1 hf.2
       ·rw [if_neg (by omega)] at hf; cases hf
   rw [e]
   decide
 rw [Fm.bulk_eq,Fm.nodes_eq]
 omega
termination_by SizeOf.sizeOf x
decreasing_by exact Fm.lt_of_mem hy
mutual
def Tm.wt:Tm→Nat
 | .mk name args=>1+Tm.wtS args
def Tm.wtS:List Tm→Nat
 | []=>0
 | x :: xs=>Tm.wt x+Tm.wtS xs
end
theorem Tm.wt_eq (x:Tm):x.wt=1+Tm.wtS x.args:=by
 obtain ⟨name,args⟩:=x
 rw [Tm.wt]; rfl
mutual
noncomputable def Tm.mk1:Tm→Int→Tm × Int
 | .mk name args,k=>((Tm.mk (CK k) ((Tm.mkS args (k+1)).1)),(Tm.mkS args (k+1)).2)
noncomputable def Tm.mkS:List Tm→Int→List Tm × Int
 | [],k=>([],k)
 | x :: xs,k=>((Tm.mk1 x k).1 :: (Tm.mkS xs (Tm.mk1 x k).2).1,(Tm.mkS xs (Tm.mk1 x k).2).2)
end
theorem Tm.mk1_eq (x:Tm) (k:Int):x.mk1 k=((Tm.mk (CK k) ((Tm.mkS x.args (k+1)).1)),(Tm.mkS x.args (k+1)).2):=by
 obtain ⟨name,args⟩:=x
 rw [Tm.mk1]; rfl
theorem Tm.mk1_d (x:Tm) (k:Int):Tm.d (x.mk1 k).1=[.str (CK k),.arr ((Tm.mkS x.args (k+1)).1.map Tm.d)]:=by
 rw [Tm.mk1_eq,Tm.d_eq]
 try rfl
theorem Tm.mk1_o (x:Tm) (k:Int):Tm.o (x.mk1 k).1=[.str (CK k),.ow ((Tm.mkS x.args (k+1)).1.map Tm.o)]:=by
 rw [Tm.mk1_eq,Tm.o_eq]
 try rfl
theorem Tm.mkS_end_of:∀ (xs:List Tm) (k:Int),(∀ x∈xs,∀ k,(x.mk1 k).2=k+x.wt)→(Tm.mkS xs k).2=k+Tm.wtS xs
 | [],k,_=>by simp [Tm.mkS,Tm.wtS]
 | x :: xs,k,h=>by
  rw [Tm.mkS,Tm.wtS]
  have h1:=h x (by simp) k
  have h2:=Tm.mkS_end_of xs (x.mk1 k).2 fun y hy=>h y (by simp [hy])
  dsimp only
  omega
theorem Tm.mk1_end (x:Tm) (k:Int):(x.mk1 k).2=k+x.wt:=by
 rw [Tm.mk1_eq,Tm.wt_eq]
 have h:=fun k=>Tm.mkS_end_of x.args k fun y hy k=>Tm.mk1_end y k
 simp only [h]
 omega
termination_by SizeOf.sizeOf x
decreasing_by exact Tm.lt_of_mem hy
theorem Tm.mkS_end (xs:List Tm) (k:Int):(Tm.mkS xs k).2=k+Tm.wtS xs:=Tm.mkS_end_of xs k fun x _ k=>Tm.mk1_end x k
theorem Tm.wtS_of:∀ xs:List Tm,(∀ x∈xs,x.wt≤5*(1+x.bulk))→Tm.wtS xs≤5*(xs.length+Tm.sumB xs)
 | [],_=>by simp [Tm.wtS]
 | x :: xs,h=>by
  have h1:=h x (by simp)
  have h2:=Tm.wtS_of xs fun y hy=>h y (by simp [hy])
  rw [Tm.wtS,Tm.sumB]; simp only [zL]; omega
theorem Tm.wt_bulk (x:Tm):x.wt≤5*(1+x.bulk):=by
 rw [Tm.wt_eq,Tm.bulk_eq]
 have h:=Tm.wtS_of x.args fun y hy=>Tm.wt_bulk y
 omega
termination_by SizeOf.sizeOf x
decreasing_by exact Tm.lt_of_mem hy
theorem Tm.wtS_bulk (xs:List Tm):Tm.wtS xs≤5*(xs.length+Tm.sumB xs):=Tm.wtS_of xs fun x _=>Tm.wt_bulk x
theorem Tm.length_wt:∀ xs:List Tm,xs.length≤Tm.wtS xs
 | []=>zR _
 | x :: xs=>by
  have:=Tm.length_wt xs
  have:=Tm.wt_eq x
  rw [Tm.wtS]; simp only [zL]; omega
def Fd:SC:=(.seq (.reg [⟨some 4,none,.mv (.c (.int .i64 0))⟩]) (.seq (.seq (.reg [⟨some 5,none,.mv (.c (.int .i64 0))⟩]) (.block 0 (.loop [1,1,0,0,0,1,0,0,0,0,0,0,0,0,0,0,0,0,0,0,0,0,0,0,0,0,0,0] (.seq (.seq (.reg [⟨some 6,none,.mv (.t 5)⟩,⟨some 7,none,.mv (.t 0)⟩,⟨some 8,none,.len false (.t 7)⟩,⟨some 9,none,.bin .lss false (.t 6) (.t 8)⟩]) (.cond (.t 9) .skip (.exit 0))) (.seq (.block 1 (.seq (.reg [⟨some 12,none,.mv (.t 0)⟩,⟨some 13,none,.mv (.t 5)⟩,⟨some 14,none,.mv (.t 1)⟩,⟨some 15,none,.call 72 [(.t 14)]⟩,⟨some 16,none,.iaddr 2 (.t 12) (.t 13)⟩,⟨some 17,none,.faddr 0 (.t 16)⟩,⟨none,none,(.store 1 (.t 17) (.t 15))⟩]) (.seq (.reg [⟨some 18,none,.mv (.t 1)⟩,⟨some 19,none,.bin .add false (.t 18) (.c (.int .i64 1))⟩,⟨some 1,none,.mv (.t 19)⟩]) (.reg [⟨some 20,none,.mv (.t 0)⟩,⟨some 21,none,.mv (.t 5)⟩,⟨some 22,none,.iaddr 2 (.t 20) (.t 21)⟩,⟨some 23,none,.faddr 1 (.t 22)⟩,⟨some 24,none,.load false 1 (.t 23)⟩,⟨some 25,none,.mv (.t 1)⟩,⟨some 26,none,.call 74 [(.t 24),(.t 25)]⟩,⟨some 1,none,.mv (.t 26)⟩])))) (.reg [⟨some 10,none,.mv (.t 5)⟩,⟨some 11,none,.bin .add false (.t 10) (.c (.int .i64 1))⟩,⟨some 5,none,.mv (.t 11)⟩])))))) (.seq (.reg [⟨some 27,none,.mv (.t 1)⟩,⟨some 4,none,.mv (.t 27)⟩]) .ret)))
theorem Jd:codeOf Tryz.prog 74=some ⟨28,Fd,[(.tmp 4)]⟩:=by kernel_rfl
theorem Ci:modes 74=⟨[true],.asis,none,true⟩:=by unfold modes; rfl
abbrev Er (xs:List Tm):Prop:=∀ (k:Int) (ob:List Ob),1≤k→k+Tm.wtS xs≤1099511627776→toTree ob=[.tree (xs.map Tm.o) []]→E 74 [.ref 0,.int .i64 k] ob=some (.int .i64 (Tm.mkS xs k).2,[.tree ((Tm.mkS xs k).1.map Tm.o) []])
theorem Gi (xs:List Tm) (ih:∀ x∈xs,Er x.args):Er xs:=by
 intro k0 ob h1 h2 hob
 have hlen:ob.length=1:=by rw [←Fl,hob]; rfl
 have hL:=Tm.length_wt xs
 refine Al Jd Ci (of_decide_eq_true rfl) ?_
 simp (disch:=omega) only [Fd,go_sem,Ac,hob,hlen]
 refine go_loop (α:=Int × (Int) × (List Tm)) (fun a=>⟨slots 28 0 [(0,.ref 0),(1,.int .i64 (a.2.1)),(5,.int .i64 (a.1))],[.tree (((a.2.2)++xs.drop (a.1).toNat).map Tm.o) []]⟩) (fun a=>∃ k:Nat,a.1=k∧k≤(xs).length∧(a.2.2).length=k∧1≤(a.2.1)∧(a.2.1)+Tm.wtS (xs.drop k)=k0+Tm.wtS xs∧Tm.mkS xs k0=((a.2.2)++(Tm.mkS (xs.drop k) (a.2.1)).1,(Tm.mkS (xs.drop k) (a.2.1)).2)) (fun a=>(xs).length-(a.1).toNat) (0,k0,[]) ⟨0,rfl,zG _,rfl,h1,by rw [zF],by simp⟩ (by simp (disch:=omega) only [go_sem,Ac,zS]) ?_
 rintro ⟨i,kk,dn⟩ ⟨k,hi,hk,hR⟩
 dsimp only at hi hR
 have hni:i.toNat=k:=by omega
 have hni1:(i+1).toNat=k+1:=by omega
 rcases zC k (xs).length with hlt | hge
 ·obtain ⟨hd,hk1,hkn,hm⟩:=hR
  have hdr:xs.drop k=xs[k] :: xs.drop (k+1):=zB hlt
  have hel:(dn++xs.drop k).length=xs.length:=by simp; omega
  have hg:(List.map Tm.o (dn++xs.drop k))[k]?=some [.str xs[k].name,.ow (xs[k].args.map Tm.o)]:=by
   rw [←Tm.o_eq,hdr,zP,zW (by omega),hd,Nat.sub_self]; rfl
  rw [hdr,Tm.wtS] at hkn
  rw [hdr,Tm.mkS] at hm
  have hn1:=Tm.wt_eq xs[k]
  have e1:=Tm.mkS_end xs[k].args ((kk+1))
  have t0:=CX (k:=kk) (by omega) (by omega)
  have c58:=ih xs[k] (zD hlt) ((kk+1)) [.tree (xs[k].args.map Tm.o) []] (by omega) (by omega) rfl
  have hs:=J5 Tm.o dn (xs.drop (k+1)) xs[k] (xs[k].mk1 kk).1 hd
  rw [Tm.mk1_o,← hdr] at hs
  have hgs:∀ a,((List.map Tm.o (dn++xs.drop k)).set k a)[k]?=some a:=fun a=>List.getElem?_set_self (by rw [zJ,hel]; exact hlt)
  have he:=Tm.mk1_end xs[k] kk
  have three:∀ z:Int,dec ((3:Int)=0)=false:=fun _=>An (by omega)
  simp (disch:=omega) only [go_sem,Ac,hni,hel,hg,t0,c58,Ci,C1,hgs,List.length_set,List.set_set,hs,three 0]
  refine ⟨(i+1,(xs[k].mk1 kk).2,dn++[(xs[k].mk1 kk).1]),⟨k+1,by dsimp only; omega,hlt,by dsimp only; simp [hd],by dsimp only; omega,by dsimp only; omega,by rw [hm]; simp⟩,by dsimp only; omega,?_⟩
  dsimp only
  rw [hni1,Tm.mk1_eq]
  refine ⟨⟨?_,rfl⟩,rfl⟩
  first | rfl | omega
 ·obtain ⟨hd,hk1,hkn,hm⟩:=hR
  have hdr:xs.drop k=[]:=zE hge
  rw [hdr,Tm.mkS] at hm
  rw [hm]
  simp (disch:=omega) only [go_sem,Ac,hni,hdr,List.append_nil]
theorem It (x:Tm):Er x.args:=Gi x.args fun y hy=>It y
termination_by SizeOf.sizeOf x
decreasing_by exact Tm.lt_of_mem hy
theorem JE (xs:List Tm):Er xs:=Gi xs fun y _=>It y
mutual
def Fm.wt:Fm→Nat
 | .mk op atom var parts=>3+Tm.wtS atom.args+Fm.wtS parts
def Fm.wtS:List Fm→Nat
 | []=>0
 | x :: xs=>Fm.wt x+Fm.wtS xs
end
theorem Fm.wt_eq (x:Fm):x.wt=3+Tm.wtS x.atom.args+Fm.wtS x.parts:=by
 obtain ⟨op,atom,var,parts⟩:=x
 rw [Fm.wt]; rfl
mutual
noncomputable def Fm.mk1:Fm→Int→Fm × Int
 | .mk op atom var parts,k=>((Fm.mk (k) (Tm.mk (CK (k+1)) ((Tm.mkS atom.args (k+1+1)).1)) (CK (Tm.mkS atom.args (k+1+1)).2) ((Fm.mkS parts ((Tm.mkS atom.args (k+1+1)).2+1)).1)),(Fm.mkS parts ((Tm.mkS atom.args (k+1+1)).2+1)).2)
noncomputable def Fm.mkS:List Fm→Int→List Fm × Int
 | [],k=>([],k)
 | x :: xs,k=>((Fm.mk1 x k).1 :: (Fm.mkS xs (Fm.mk1 x k).2).1,(Fm.mkS xs (Fm.mk1 x k).2).2)
end
theorem Fm.mk1_eq (x:Fm) (k:Int):x.mk1 k=((Fm.mk (k) (Tm.mk (CK (k+1)) ((Tm.mkS x.atom.args (k+1+1)).1)) (CK (Tm.mkS x.atom.args (k+1+1)).2) ((Fm.mkS x.parts ((Tm.mkS x.atom.args (k+1+1)).2+1)).1)),(Fm.mkS x.parts ((Tm.mkS x.atom.args (k+1+1)).2+1)).2):=by
 obtain ⟨op,atom,var,parts⟩:=x
 rw [Fm.mk1]; rfl
theorem Fm.mk1_d (x:Fm) (k:Int):Fm.d (x.mk1 k).1=[.int k,.str (CK (k+1)),.arr ((Tm.mkS x.atom.args (k+1+1)).1.map Tm.d),.str (CK (Tm.mkS x.atom.args (k+1+1)).2),.arr ((Fm.mkS x.parts ((Tm.mkS x.atom.args (k+1+1)).2+1)).1.map Fm.d)]:=by
 rw [Fm.mk1_eq,Fm.d_eq]
 try rfl
theorem Fm.mk1_o (x:Fm) (k:Int):Fm.o (x.mk1 k).1=[.int k,.str (CK (k+1)),.ow ((Tm.mkS x.atom.args (k+1+1)).1.map Tm.o),.str (CK (Tm.mkS x.atom.args (k+1+1)).2),.ow ((Fm.mkS x.parts ((Tm.mkS x.atom.args (k+1+1)).2+1)).1.map Fm.o)]:=by
 rw [Fm.mk1_eq,Fm.o_eq]
 try rfl
theorem Fm.mkS_end_of:∀ (xs:List Fm) (k:Int),(∀ x∈xs,∀ k,(x.mk1 k).2=k+x.wt)→(Fm.mkS xs k).2=k+Fm.wtS xs
 | [],k,_=>by simp [Fm.mkS,Fm.wtS]
 | x :: xs,k,h=>by
  rw [Fm.mkS,Fm.wtS]
  have h1:=h x (by simp) k
  have h2:=Fm.mkS_end_of xs (x.mk1 k).2 fun y hy=>h y (by simp [hy])
  dsimp only
  omega
theorem Fm.mk1_end (x:Fm) (k:Int):(x.mk1 k).2=k+x.wt:=by
 rw [Fm.mk1_eq,Fm.wt_eq]
 have h:=fun k=>Fm.mkS_end_of x.parts k fun y hy k=>Fm.mk1_end y k
 simp only [h,Tm.mkS_end]
 omega
termination_by SizeOf.sizeOf x
decreasing_by exact Fm.lt_of_mem hy
theorem Fm.mkS_end (xs:List Fm) (k:Int):(Fm.mkS xs k).2=k+Fm.wtS xs:=Fm.mkS_end_of xs k fun x _ k=>Fm.mk1_end x k
theorem Fm.wtS_of:∀ xs:List Fm,(∀ x∈xs,x.wt≤5*(1+x.bulk))→Fm.wtS xs≤5*(xs.length+Fm.sumB xs)
 | [],_=>by simp [Fm.wtS]
 | x :: xs,h=>by
  have h1:=h x (by simp)
  have h2:=Fm.wtS_of xs fun y hy=>h y (by simp [hy])
  rw [Fm.wtS,Fm.sumB]; simp only [zL]; omega
theorem Fm.wt_bulk (x:Fm):x.wt≤5*(1+x.bulk):=by
 rw [Fm.wt_eq,Fm.bulk_eq]
 have h:=Fm.wtS_of x.parts fun y hy=>Fm.wt_bulk y
 have h0:=Tm.wtS_bulk x.atom.args
 have q1:=Tm.bulk_eq x.atom
 omega
termination_by SizeOf.sizeOf x
decreasing_by exact Fm.lt_of_mem hy
theorem Fm.wtS_bulk (xs:List Fm):Fm.wtS xs≤5*(xs.length+Fm.sumB xs):=Fm.wtS_of xs fun x _=>Fm.wt_bulk x
theorem Fm.length_wt:∀ xs:List Fm,xs.length≤Fm.wtS xs
 | []=>zR _
 | x :: xs=>by
  have:=Fm.length_wt xs
  have:=Fm.wt_eq x
  rw [Fm.wtS]; simp only [zL]; omega
def D0:SC:=(.seq (.reg [⟨some 4,none,.mv (.c (.int .i64 0))⟩]) (.seq (.seq (.reg [⟨some 5,none,.mv (.c (.int .i64 0))⟩]) (.block 0 (.loop [1,1,0,0,0,1,0,0,0,0,0,0,0,0,0,0,0,0,0,0,0,0,0,0,0,0,0,0,0,0,0,0,0,0,0,0,0,0,0,0,0,0,0,0,0,0,0,0,0,0,0,0] (.seq (.seq (.reg [⟨some 6,none,.mv (.t 5)⟩,⟨some 7,none,.mv (.t 0)⟩,⟨some 8,none,.len false (.t 7)⟩,⟨some 9,none,.bin .lss false (.t 6) (.t 8)⟩]) (.cond (.t 9) .skip (.exit 0))) (.seq (.block 1 (.seq (.reg [⟨some 12,none,.mv (.t 0)⟩,⟨some 13,none,.mv (.t 5)⟩,⟨some 14,none,.mv (.t 1)⟩,⟨some 15,none,.iaddr 5 (.t 12) (.t 13)⟩,⟨some 16,none,.faddr 0 (.t 15)⟩,⟨none,none,(.store 1 (.t 16) (.t 14))⟩]) (.seq (.reg [⟨some 17,none,.mv (.t 1)⟩,⟨some 18,none,.bin .add false (.t 17) (.c (.int .i64 1))⟩,⟨some 1,none,.mv (.t 18)⟩]) (.seq (.reg [⟨some 19,none,.mv (.t 0)⟩,⟨some 20,none,.mv (.t 5)⟩,⟨some 21,none,.mv (.t 1)⟩,⟨some 22,none,.call 72 [(.t 21)]⟩,⟨some 23,none,.iaddr 5 (.t 19) (.t 20)⟩,⟨some 24,none,.faddr 1 (.t 23)⟩,⟨some 25,none,.faddr 0 (.t 24)⟩,⟨none,none,(.store 1 (.t 25) (.t 22))⟩]) (.seq (.reg [⟨some 26,none,.mv (.t 1)⟩,⟨some 27,none,.bin .add false (.t 26) (.c (.int .i64 1))⟩,⟨some 1,none,.mv (.t 27)⟩]) (.seq (.reg [⟨some 28,none,.mv (.t 0)⟩,⟨some 29,none,.mv (.t 5)⟩,⟨some 30,none,.iaddr 5 (.t 28) (.t 29)⟩,⟨some 31,none,.faddr 1 (.t 30)⟩,⟨some 32,none,.faddr 1 (.t 31)⟩,⟨some 33,none,.load false 1 (.t 32)⟩,⟨some 34,none,.mv (.t 1)⟩,⟨some 35,none,.call 74 [(.t 33),(.t 34)]⟩,⟨some 1,none,.mv (.t 35)⟩]) (.seq (.reg [⟨some 36,none,.mv (.t 0)⟩,⟨some 37,none,.mv (.t 5)⟩,⟨some 38,none,.mv (.t 1)⟩,⟨some 39,none,.call 72 [(.t 38)]⟩,⟨some 40,none,.iaddr 5 (.t 36) (.t 37)⟩,⟨some 41,none,.faddr 3 (.t 40)⟩,⟨none,none,(.store 1 (.t 41) (.t 39))⟩]) (.seq (.reg [⟨some 42,none,.mv (.t 1)⟩,⟨some 43,none,.bin .add false (.t 42) (.c (.int .i64 1))⟩,⟨some 1,none,.mv (.t 43)⟩]) (.reg [⟨some 44,none,.mv (.t 0)⟩,⟨some 45,none,.mv (.t 5)⟩,⟨some 46,none,.iaddr 5 (.t 44) (.t 45)⟩,⟨some 47,none,.faddr 4 (.t 46)⟩,⟨some 48,none,.load false 1 (.t 47)⟩,⟨some 49,none,.mv (.t 1)⟩,⟨some 50,none,.call 47 [(.t 48),(.t 49)]⟩,⟨some 1,none,.mv (.t 50)⟩]))))))))) (.reg [⟨some 10,none,.mv (.t 5)⟩,⟨some 11,none,.bin .add false (.t 10) (.c (.int .i64 1))⟩,⟨some 5,none,.mv (.t 11)⟩])))))) (.seq (.reg [⟨some 51,none,.mv (.t 1)⟩,⟨some 4,none,.mv (.t 51)⟩]) .ret)))
theorem GG:codeOf Tryz.prog 47=some ⟨52,D0,[(.tmp 4)]⟩:=by kernel_rfl
theorem Cq:modes 47=⟨[true],.asis,none,true⟩:=by unfold modes; rfl
abbrev CE (xs:List Fm):Prop:=∀ (k:Int) (ob:List Ob),1≤k→k+Fm.wtS xs≤1099511627776→toTree ob=[.tree (xs.map Fm.o) []]→E 47 [.ref 0,.int .i64 k] ob=some (.int .i64 (Fm.mkS xs k).2,[.tree ((Fm.mkS xs k).1.map Fm.o) []])
theorem Es (xs:List Fm) (ih:∀ x∈xs,CE x.parts):CE xs:=by
 intro k0 ob h1 h2 hob
 have hlen:ob.length=1:=by rw [←Fl,hob]; rfl
 have hL:=Fm.length_wt xs
 refine Al GG Cq (of_decide_eq_true rfl) ?_
 simp (disch:=omega) only [D0,go_sem,Ac,hob,hlen]
 refine go_loop (α:=Int × (Int) × (List Fm)) (fun a=>⟨slots 52 0 [(0,.ref 0),(1,.int .i64 (a.2.1)),(5,.int .i64 (a.1))],[.tree (((a.2.2)++xs.drop (a.1).toNat).map Fm.o) []]⟩) (fun a=>∃ k:Nat,a.1=k∧k≤(xs).length∧(a.2.2).length=k∧1≤(a.2.1)∧(a.2.1)+Fm.wtS (xs.drop k)=k0+Fm.wtS xs∧Fm.mkS xs k0=((a.2.2)++(Fm.mkS (xs.drop k) (a.2.1)).1,(Fm.mkS (xs.drop k) (a.2.1)).2)) (fun a=>(xs).length-(a.1).toNat) (0,k0,[]) ⟨0,rfl,zG _,rfl,h1,by rw [zF],by simp⟩ (by simp (disch:=omega) only [go_sem,Ac,zS]) ?_
 rintro ⟨i,kk,dn⟩ ⟨k,hi,hk,hR⟩
 dsimp only at hi hR
 have hni:i.toNat=k:=by omega
 have hni1:(i+1).toNat=k+1:=by omega
 rcases zC k (xs).length with hlt | hge
 ·obtain ⟨hd,hk1,hkn,hm⟩:=hR
  have hdr:xs.drop k=xs[k] :: xs.drop (k+1):=zB hlt
  have hel:(dn++xs.drop k).length=xs.length:=by simp; omega
  have hg:(List.map Fm.o (dn++xs.drop k))[k]?=some [.int xs[k].op,.str xs[k].atom.name,.ow (xs[k].atom.args.map Tm.o),.str xs[k].var,.ow (xs[k].parts.map Fm.o)]:=by
   rw [←Fm.o_eq,hdr,zP,zW (by omega),hd,Nat.sub_self]; rfl
  rw [hdr,Fm.wtS] at hkn
  rw [hdr,Fm.mkS] at hm
  have hn1:=Fm.wt_eq xs[k]
  have e2:=Tm.mkS_end xs[k].atom.args ((kk+1+1))
  have e4:=Fm.mkS_end xs[k].parts (((Tm.mkS xs[k].atom.args (kk+1+1)).2+1))
  have t0:=CX (k:=(kk+1)) (by omega) (by omega)
  have c64:=JE xs[k].atom.args ((kk+1+1)) [.tree (xs[k].atom.args.map Tm.o) []] (by omega) (by omega) rfl
  have t187:=CX (k:=(Tm.mkS xs[k].atom.args (kk+1+1)).2) (by omega) (by omega)
  have c284:=ih xs[k] (zD hlt) (((Tm.mkS xs[k].atom.args (kk+1+1)).2+1)) [.tree (xs[k].parts.map Fm.o) []] (by omega) (by omega) rfl
  have hs:=J5 Fm.o dn (xs.drop (k+1)) xs[k] (xs[k].mk1 kk).1 hd
  rw [Fm.mk1_o,← hdr] at hs
  have hgs:∀ a,((List.map Fm.o (dn++xs.drop k)).set k a)[k]?=some a:=fun a=>List.getElem?_set_self (by rw [zJ,hel]; exact hlt)
  have he:=Fm.mk1_end xs[k] kk
  have three:∀ z:Int,dec ((3:Int)=0)=false:=fun _=>An (by omega)
  simp (disch:=omega) only [go_sem,Ac,hni,hel,hg,t0,c64,Ci,t187,c284,Cq,C1,hgs,List.length_set,List.set_set,hs,three 0]
  refine ⟨(i+1,(xs[k].mk1 kk).2,dn++[(xs[k].mk1 kk).1]),⟨k+1,by dsimp only; omega,hlt,by dsimp only; simp [hd],by dsimp only; omega,by dsimp only; omega,by rw [hm]; simp⟩,by dsimp only; omega,?_⟩
  dsimp only
  rw [hni1,Fm.mk1_eq]
  refine ⟨⟨?_,rfl⟩,rfl⟩
  first | rfl | omega
 ·obtain ⟨hd,hk1,hkn,hm⟩:=hR
  have hdr:xs.drop k=[]:=zE hge
  rw [hdr,Fm.mkS] at hm
  rw [hm]
  simp (disch:=omega) only [go_sem,Ac,hni,hdr,List.append_nil]
theorem F5 (x:Fm):CE x.parts:=Es x.parts fun y hy=>F5 y
termination_by SizeOf.sizeOf x
decreasing_by exact Fm.lt_of_mem hy
theorem Ly (xs:List Fm):CE xs:=Es xs fun y _=>F5 y
def Fe:SC:=(.seq (.reg [⟨some 4,none,.mv (.c (.int .i64 0))⟩]) (.seq (.seq (.reg [⟨some 5,none,.mv (.c (.int .i64 0))⟩]) (.block 0 (.loop [1,1,0,0,0,1,0,0,0,0,0,0,0,0,0,0,0,0,0,0,0,0,0,0,0,0,0,0,0,0,0,0] (.seq (.seq (.reg [⟨some 6,none,.mv (.t 5)⟩,⟨some 7,none,.mv (.t 0)⟩,⟨some 8,none,.len false (.t 7)⟩,⟨some 9,none,.bin .lss false (.t 6) (.t 8)⟩]) (.cond (.t 9) .skip (.exit 0))) (.seq (.block 1 (.seq (.seq (.dreg [[],[],[0,1],[2,0,1],[3,2,0,1],[],[5],[4,3,2,0,1,6,5]] [⟨some 12,none,.mv (.t 0)⟩,⟨some 13,none,.mv (.t 5)⟩,⟨some 14,none,.iaddr 2 (.t 12) (.t 13)⟩,⟨some 15,none,.faddr 0 (.t 14)⟩,⟨some 16,none,.load false 1 (.t 15)⟩,⟨some 17,none,.mv (.t 1)⟩,⟨some 18,none,.call 72 [(.t 17)]⟩,⟨some 19,none,.bin .neq false (.t 16) (.t 18)⟩]) (.cond (.t 19) (.seq (.reg [⟨some 4,none,.mv (.c (.int .i64 (-(0+1))))⟩]) .ret) .skip)) (.seq (.reg [⟨some 20,none,.mv (.t 1)⟩,⟨some 21,none,.bin .add false (.t 20) (.c (.int .i64 1))⟩,⟨some 1,none,.mv (.t 21)⟩]) (.seq (.reg [⟨some 22,none,.mv (.t 0)⟩,⟨some 23,none,.mv (.t 5)⟩,⟨some 24,none,.iaddr 2 (.t 22) (.t 23)⟩,⟨some 25,none,.faddr 1 (.t 24)⟩,⟨some 26,none,.load false 1 (.t 25)⟩,⟨some 27,none,.mv (.t 1)⟩,⟨some 28,none,.call 104 [(.t 26),(.t 27)]⟩,⟨some 1,none,.mv (.t 28)⟩]) (.seq (.reg [⟨some 29,none,.mv (.t 1)⟩,⟨some 30,none,.bin .lss false (.t 29) (.c (.int .i64 0))⟩]) (.cond (.t 30) (.seq (.reg [⟨some 4,none,.mv (.c (.int .i64 (-(0+1))))⟩]) .ret) .skip)))))) (.reg [⟨some 10,none,.mv (.t 5)⟩,⟨some 11,none,.bin .add false (.t 10) (.c (.int .i64 1))⟩,⟨some 5,none,.mv (.t 11)⟩])))))) (.seq (.reg [⟨some 31,none,.mv (.t 1)⟩,⟨some 4,none,.mv (.t 31)⟩]) .ret)))
theorem Je:codeOf Tryz.prog 104=some ⟨32,Fe,[(.tmp 4)]⟩:=by kernel_rfl
theorem Cj:modes 104=⟨[],.asis,none,false⟩:=by unfold modes; rfl
theorem Tm.mkS_len:∀ (xs:List Tm) (k:Int),(Tm.mkS xs k).1.length=xs.length
 | [],k=>by rw [Tm.mkS]
 | x :: xs,k=>by rw [Tm.mkS]; simp only [zL]; rw [Tm.mkS_len xs]
abbrev Et (xs:List Tm):Prop:=∀ k:Int,1≤k→k+Tm.wtS xs≤1099511627776→E 104 [.arr ((Tm.mkS xs k).1.map Tm.d),.int .i64 k] []=some (.int .i64 (Tm.mkS xs k).2,[])
theorem Gj (xs:List Tm) (ih:∀ x∈xs,Et x.args):Et xs:=by
 intro k0 h1 h2
 obtain ⟨ys,hys⟩:∃ ys,ys=(Tm.mkS xs k0).1:=⟨_,rfl⟩
 have hyl:ys.length=xs.length:=by rw [hys,Tm.mkS_len]
 rw [←hys]
 have hL:=Tm.length_wt xs
 refine Al Je Cj (of_decide_eq_true rfl) ?_
 simp (disch:=omega) only [Fe,go_sem,Ac]
 refine go_loop (α:=Int × (Int)) (fun a=>⟨slots 32 0 [(0,.arr (ys.map Tm.d)),(1,.int .i64 (a.2)),(5,.int .i64 (a.1))],[]⟩) (fun a=>∃ k:Nat,a.1=k∧k≤(ys).length∧1≤(a.2)∧(a.2)+Tm.wtS (xs.drop k)=k0+Tm.wtS xs∧ys.drop k=(Tm.mkS (xs.drop k) (a.2)).1∧(Tm.mkS xs k0).2=(Tm.mkS (xs.drop k) (a.2)).2) (fun a=>(ys).length-(a.1).toNat) (0,k0) ⟨0,rfl,zG _,h1,by rw [zF],by rw [zF,zF,hys],by rw [zF]⟩ (by simp (disch:=omega) only [go_sem,Ac]) ?_
 rintro ⟨i,kk⟩ ⟨k,hi,hk,hR⟩
 dsimp only at hi hR
 have hni:i.toNat=k:=by omega
 have hni1:(i+1).toNat=k+1:=by omega
 rcases zC k (ys).length with hlt | hge
 ·obtain ⟨hk1,hkn,hy,hm⟩:=hR
  have hlx:k<xs.length:=by omega
  have hdr:xs.drop k=xs[k] :: xs.drop (k+1):=zB hlx
  have hdy:=zB hlt
  rw [hdr,Tm.wtS] at hkn
  rw [hdr,Tm.mkS] at hm
  rw [hdr,Tm.mkS,hdy] at hy
  dsimp only at hy hm
  obtain ⟨hy1,hy2⟩:=zY hy
  have hg:=get_at Tm.d hlt
  rw [hy1,Tm.mk1_d] at hg
  have hn1:=Tm.wt_eq xs[k]
  have e1:=Tm.mkS_end xs[k].args ((kk+1))
  have t0:=CX (k:=kk) (by omega) (by omega)
  have c58:=ih xs[k] (zD hlx) ((kk+1)) (by omega) (by omega)
  have he:=Tm.mk1_end xs[k] kk
  simp (disch:=omega) only [go_sem,Ac,hni,hg,C1,C8,t0,c58,Cj]
  refine ⟨(i+1,(xs[k].mk1 kk).2),⟨k+1,by dsimp only; omega,hlt,by dsimp only; omega,by dsimp only; omega,hy2,hm⟩,by dsimp only; omega,?_⟩
  dsimp only
  rw [Tm.mk1_eq]
  simp only [and_self,and_true,true_and]
  try omega
 ·obtain ⟨hk1,hkn,hy,hm⟩:=hR
  have hdr:xs.drop k=[]:=zE (by omega)
  rw [hdr,Tm.mkS] at hm
  rw [hm]
  simp (disch:=omega) only [go_sem,Ac,hni]
theorem Iu (x:Tm):Et x.args:=Gj x.args fun y hy=>Iu y
termination_by SizeOf.sizeOf x
decreasing_by exact Tm.lt_of_mem hy
theorem JF (xs:List Tm):Et xs:=Gj xs fun y _=>Iu y
def D1:SC:=(.seq (.reg [⟨some 4,none,.mv (.c (.int .i64 0))⟩]) (.seq (.seq (.reg [⟨some 5,none,.mv (.c (.int .i64 0))⟩]) (.block 0 (.loop [1,1,0,0,0,1,0,0,0,0,0,0,0,0,0,0,0,0,0,0,0,0,0,0,0,0,0,0,0,0,0,0,0,0,0,0,0,0,0,0,0,0,0,0,0,0,0,0,0,0,0,0,0,0,0,0,0,0,0,0,0,0] (.seq (.seq (.reg [⟨some 6,none,.mv (.t 5)⟩,⟨some 7,none,.mv (.t 0)⟩,⟨some 8,none,.len false (.t 7)⟩,⟨some 9,none,.bin .lss false (.t 6) (.t 8)⟩]) (.cond (.t 9) .skip (.exit 0))) (.seq (.block 1 (.seq (.seq (.reg [⟨some 12,none,.mv (.t 0)⟩,⟨some 13,none,.mv (.t 5)⟩,⟨some 14,none,.iaddr 5 (.t 12) (.t 13)⟩,⟨some 15,none,.faddr 0 (.t 14)⟩,⟨some 16,none,.load false 1 (.t 15)⟩,⟨some 17,none,.mv (.t 1)⟩,⟨some 18,none,.bin .neq false (.t 16) (.t 17)⟩]) (.cond (.t 18) (.seq (.reg [⟨some 4,none,.mv (.c (.int .i64 (-(0+1))))⟩]) .ret) .skip)) (.seq (.reg [⟨some 19,none,.mv (.t 1)⟩,⟨some 20,none,.bin .add false (.t 19) (.c (.int .i64 1))⟩,⟨some 1,none,.mv (.t 20)⟩]) (.seq (.seq (.dreg [[],[],[0,1],[2,0,1],[3,2,0,1],[4,3,2,0,1],[],[6],[5,4,3,2,0,1,7,6]] [⟨some 21,none,.mv (.t 0)⟩,⟨some 22,none,.mv (.t 5)⟩,⟨some 23,none,.iaddr 5 (.t 21) (.t 22)⟩,⟨some 24,none,.faddr 1 (.t 23)⟩,⟨some 25,none,.faddr 0 (.t 24)⟩,⟨some 26,none,.load false 1 (.t 25)⟩,⟨some 27,none,.mv (.t 1)⟩,⟨some 28,none,.call 72 [(.t 27)]⟩,⟨some 29,none,.bin .neq false (.t 26) (.t 28)⟩]) (.cond (.t 29) (.seq (.reg [⟨some 4,none,.mv (.c (.int .i64 (-(0+1))))⟩]) .ret) .skip)) (.seq (.reg [⟨some 30,none,.mv (.t 1)⟩,⟨some 31,none,.bin .add false (.t 30) (.c (.int .i64 1))⟩,⟨some 1,none,.mv (.t 31)⟩]) (.seq (.reg [⟨some 32,none,.mv (.t 0)⟩,⟨some 33,none,.mv (.t 5)⟩,⟨some 34,none,.iaddr 5 (.t 32) (.t 33)⟩,⟨some 35,none,.faddr 1 (.t 34)⟩,⟨some 36,none,.faddr 1 (.t 35)⟩,⟨some 37,none,.load false 1 (.t 36)⟩,⟨some 38,none,.mv (.t 1)⟩,⟨some 39,none,.call 104 [(.t 37),(.t 38)]⟩,⟨some 1,none,.mv (.t 39)⟩]) (.seq (.seq (.reg [⟨some 40,none,.mv (.t 1)⟩,⟨some 41,none,.bin .lss false (.t 40) (.c (.int .i64 0))⟩]) (.cond (.t 41) (.seq (.reg [⟨some 4,none,.mv (.c (.int .i64 (-(0+1))))⟩]) .ret) .skip)) (.seq (.seq (.dreg [[],[],[0,1],[2,0,1],[3,2,0,1],[],[5],[4,3,2,0,1,6,5]] [⟨some 42,none,.mv (.t 0)⟩,⟨some 43,none,.mv (.t 5)⟩,⟨some 44,none,.iaddr 5 (.t 42) (.t 43)⟩,⟨some 45,none,.faddr 3 (.t 44)⟩,⟨some 46,none,.load false 1 (.t 45)⟩,⟨some 47,none,.mv (.t 1)⟩,⟨some 48,none,.call 72 [(.t 47)]⟩,⟨some 49,none,.bin .neq false (.t 46) (.t 48)⟩]) (.cond (.t 49) (.seq (.reg [⟨some 4,none,.mv (.c (.int .i64 (-(0+1))))⟩]) .ret) .skip)) (.seq (.reg [⟨some 50,none,.mv (.t 1)⟩,⟨some 51,none,.bin .add false (.t 50) (.c (.int .i64 1))⟩,⟨some 1,none,.mv (.t 51)⟩]) (.seq (.reg [⟨some 52,none,.mv (.t 0)⟩,⟨some 53,none,.mv (.t 5)⟩,⟨some 54,none,.iaddr 5 (.t 52) (.t 53)⟩,⟨some 55,none,.faddr 4 (.t 54)⟩,⟨some 56,none,.load false 1 (.t 55)⟩,⟨some 57,none,.mv (.t 1)⟩,⟨some 58,none,.call 49 [(.t 56),(.t 57)]⟩,⟨some 1,none,.mv (.t 58)⟩]) (.seq (.reg [⟨some 59,none,.mv (.t 1)⟩,⟨some 60,none,.bin .lss false (.t 59) (.c (.int .i64 0))⟩]) (.cond (.t 60) (.seq (.reg [⟨some 4,none,.mv (.c (.int .i64 (-(0+1))))⟩]) .ret) .skip)))))))))))) (.reg [⟨some 10,none,.mv (.t 5)⟩,⟨some 11,none,.bin .add false (.t 10) (.c (.int .i64 1))⟩,⟨some 5,none,.mv (.t 11)⟩])))))) (.seq (.reg [⟨some 61,none,.mv (.t 1)⟩,⟨some 4,none,.mv (.t 61)⟩]) .ret)))
theorem GH:codeOf Tryz.prog 49=some ⟨62,D1,[(.tmp 4)]⟩:=by kernel_rfl
theorem Cr:modes 49=⟨[],.asis,none,false⟩:=by unfold modes; rfl
theorem Fm.mkS_len:∀ (xs:List Fm) (k:Int),(Fm.mkS xs k).1.length=xs.length
 | [],k=>by rw [Fm.mkS]
 | x :: xs,k=>by rw [Fm.mkS]; simp only [zL]; rw [Fm.mkS_len xs]
abbrev CF (xs:List Fm):Prop:=∀ k:Int,1≤k→k+Fm.wtS xs≤1099511627776→E 49 [.arr ((Fm.mkS xs k).1.map Fm.d),.int .i64 k] []=some (.int .i64 (Fm.mkS xs k).2,[])
theorem Eu (xs:List Fm) (ih:∀ x∈xs,CF x.parts):CF xs:=by
 intro k0 h1 h2
 obtain ⟨ys,hys⟩:∃ ys,ys=(Fm.mkS xs k0).1:=⟨_,rfl⟩
 have hyl:ys.length=xs.length:=by rw [hys,Fm.mkS_len]
 rw [←hys]
 have hL:=Fm.length_wt xs
 refine Al GH Cr (of_decide_eq_true rfl) ?_
 simp (disch:=omega) only [D1,go_sem,Ac]
 refine go_loop (α:=Int × (Int)) (fun a=>⟨slots 62 0 [(0,.arr (ys.map Fm.d)),(1,.int .i64 (a.2)),(5,.int .i64 (a.1))],[]⟩) (fun a=>∃ k:Nat,a.1=k∧k≤(ys).length∧1≤(a.2)∧(a.2)+Fm.wtS (xs.drop k)=k0+Fm.wtS xs∧ys.drop k=(Fm.mkS (xs.drop k) (a.2)).1∧(Fm.mkS xs k0).2=(Fm.mkS (xs.drop k) (a.2)).2) (fun a=>(ys).length-(a.1).toNat) (0,k0) ⟨0,rfl,zG _,h1,by rw [zF],by rw [zF,zF,hys],by rw [zF]⟩ (by simp (disch:=omega) only [go_sem,Ac]) ?_
 rintro ⟨i,kk⟩ ⟨k,hi,hk,hR⟩
 dsimp only at hi hR
 have hni:i.toNat=k:=by omega
 have hni1:(i+1).toNat=k+1:=by omega
 rcases zC k (ys).length with hlt | hge
 ·obtain ⟨hk1,hkn,hy,hm⟩:=hR
  have hlx:k<xs.length:=by omega
  have hdr:xs.drop k=xs[k] :: xs.drop (k+1):=zB hlx
  have hdy:=zB hlt
  rw [hdr,Fm.wtS] at hkn
  rw [hdr,Fm.mkS] at hm
  rw [hdr,Fm.mkS,hdy] at hy
  dsimp only at hy hm
  obtain ⟨hy1,hy2⟩:=zY hy
  have hg:=get_at Fm.d hlt
  rw [hy1,Fm.mk1_d] at hg
  have hn1:=Fm.wt_eq xs[k]
  have e2:=Tm.mkS_end xs[k].atom.args ((kk+1+1))
  have e4:=Fm.mkS_end xs[k].parts (((Tm.mkS xs[k].atom.args (kk+1+1)).2+1))
  have t0:=CX (k:=(kk+1)) (by omega) (by omega)
  have c64:=JF xs[k].atom.args ((kk+1+1)) (by omega) (by omega)
  have t145:=CX (k:=(Tm.mkS xs[k].atom.args (kk+1+1)).2) (by omega) (by omega)
  have c242:=ih xs[k] (zD hlx) (((Tm.mkS xs[k].atom.args (kk+1+1)).2+1)) (by omega) (by omega)
  have he:=Fm.mk1_end xs[k] kk
  simp (disch:=omega) only [go_sem,Ac,hni,hg,C1,C8,t0,c64,Cj,t145,c242,Cr]
  refine ⟨(i+1,(xs[k].mk1 kk).2),⟨k+1,by dsimp only; omega,hlt,by dsimp only; omega,by dsimp only; omega,hy2,hm⟩,by dsimp only; omega,?_⟩
  dsimp only
  rw [Fm.mk1_eq]
  simp only [and_self,and_true,true_and]
  try omega
 ·obtain ⟨hk1,hkn,hy,hm⟩:=hR
  have hdr:xs.drop k=[]:=zE (by omega)
  rw [hdr,Fm.mkS] at hm
  rw [hm]
  simp (disch:=omega) only [go_sem,Ac,hni]
theorem F6 (x:Fm):CF x.parts:=Eu x.parts fun y hy=>F6 y
termination_by SizeOf.sizeOf x
decreasing_by exact Fm.lt_of_mem hy
theorem Lz (xs:List Fm):CF xs:=Eu xs fun y _=>F6 y
theorem NG {o:Ob} {es:List (List OT)} (h:toTree [o]=[.tree es []]):(∃ a b,o=.row a b es)∨o=.tree es []:=by
 cases o with
 | row a b e=>obtain ⟨h1,h2⟩:=zY h; cases h1; exact .inl ⟨a,b,rfl⟩
 | tree e hs=>obtain ⟨h1,h2⟩:=zY h; cases h1; exact .inr rfl
 | _=>simp [toTree] at h
noncomputable def Tm.mkr (x:Tm) (k:Int):Tm × Int:=((Tm.mk (x.name) ((Tm.mkS x.args k).1)),(Tm.mkS x.args k).2)
def F7:SC:=(.seq (.reg [⟨some 2,none,.boxv 31 2 (.t 0)⟩,⟨some 4,none,.mv (.c (.int .i64 0))⟩]) (.seq (.reg [⟨some 5,none,.faddr 1 (.t 2)⟩,⟨some 6,none,.load false 1 (.t 5)⟩,⟨some 7,none,.mv (.t 1)⟩,⟨some 8,none,.call 74 [(.t 6),(.t 7)]⟩,⟨some 1,none,.mv (.t 8)⟩]) (.seq (.reg [⟨some 9,none,.mv (.t 1)⟩,⟨some 4,none,.mv (.t 9)⟩]) .ret)))
theorem JQ:codeOf Tryz.prog 46=some ⟨10,F7,[(.tmp 4)]⟩:=by kernel_rfl
theorem F8:modes 46=⟨[true],.asis,none,false⟩:=by unfold modes; rfl
theorem Qf (x:Tm) (k:Int) (o0:Ob) (h1:1≤k) (h2:k+(Tm.wtS x.args:Nat)≤1099511627776) (t0:toTree [o0]=[.tree (x.args.map Tm.o) []]):E 46 [.agg [.str x.name,.ref 0],.int .i64 k] [o0]=some (.int .i64 (x.mkr k).2,[.tree ((Tm.mkS x.args k).1.map Tm.o) []]):=by
 have e0:=Tm.mkS_end x.args k
 rw [Tm.mkr]
 dsimp only
 have c0:=JE x.args k [o0] (by omega) (by omega) t0
 rcases NG t0 with ⟨a0,b0,rfl⟩ | rfl <;>
  (
  refine Al JQ F8 (of_decide_eq_true rfl) ?_
  simp (disch:=omega) only [F7,go_sem,Ac,c0,Ci])
def F9:SC:=(.seq (.reg [⟨some 2,none,.boxv 31 2 (.t 0)⟩,⟨some 4,none,.mv (.c (.int .i64 0))⟩]) (.seq (.reg [⟨some 5,none,.faddr 1 (.t 2)⟩,⟨some 6,none,.load false 1 (.t 5)⟩,⟨some 7,none,.mv (.t 1)⟩,⟨some 8,none,.call 104 [(.t 6),(.t 7)]⟩,⟨some 1,none,.mv (.t 8)⟩]) (.seq (.seq (.reg [⟨some 9,none,.mv (.t 1)⟩,⟨some 10,none,.bin .lss false (.t 9) (.c (.int .i64 0))⟩]) (.cond (.t 10) (.seq (.reg [⟨some 4,none,.mv (.c (.int .i64 (-(0+1))))⟩]) .ret) .skip)) (.seq (.reg [⟨some 11,none,.mv (.t 1)⟩,⟨some 4,none,.mv (.t 11)⟩]) .ret))))
theorem JR:codeOf Tryz.prog 48=some ⟨12,F9,[(.tmp 4)]⟩:=by kernel_rfl
theorem FA:modes 48=⟨[],.asis,none,false⟩:=by unfold modes; rfl
theorem Qg (x:Tm) (k:Int) (h1:1≤k) (h2:k+(Tm.wtS x.args:Nat)≤1099511627776):E 48 [.agg [.str x.name,.arr ((Tm.mkS x.args k).1.map Tm.d)],.int .i64 k] []=some (.int .i64 (x.mkr k).2,[]):=by
 have e0:=Tm.mkS_end x.args k
 rw [Tm.mkr]
 dsimp only
 have p0:(Tm.mk (x.name) ((Tm.mkS x.args k).1)).name=x.name:=rfl
 have p1:(Tm.mk (x.name) ((Tm.mkS x.args k).1)).args=(Tm.mkS x.args k).1:=rfl
 have c0:=JF x.args k (by omega) (by omega)
 refine Al JR FA (of_decide_eq_true rfl) ?_
 simp (disch:=omega) only [F9,go_sem,Ac,c0,Cj,p0,p1]
noncomputable def Fm.mkr (x:Fm) (k:Int):Fm × Int:=((Fm.mk (x.op) (Tm.mk (x.atom.name) ((Tm.mkS x.atom.args k).1)) (x.var) ((Fm.mkS x.parts (Tm.mkS x.atom.args k).2).1)),(Fm.mkS x.parts (Tm.mkS x.atom.args k).2).2)
def DZ:SC:=(.seq (.reg [⟨some 2,none,.boxv 34 5 (.t 0)⟩,⟨some 4,none,.mv (.c (.int .i64 0))⟩]) (.seq (.reg [⟨some 5,none,.faddr 1 (.t 2)⟩,⟨some 6,none,.load true 2 (.t 5)⟩,⟨some 7,none,.mv (.t 1)⟩,⟨some 8,none,.call 46 [(.t 6),(.t 7)]⟩,⟨some 1,none,.mv (.t 8)⟩]) (.seq (.reg [⟨some 9,none,.faddr 4 (.t 2)⟩,⟨some 10,none,.load false 1 (.t 9)⟩,⟨some 11,none,.mv (.t 1)⟩,⟨some 12,none,.call 47 [(.t 10),(.t 11)]⟩,⟨some 1,none,.mv (.t 12)⟩]) (.seq (.reg [⟨some 13,none,.mv (.t 1)⟩,⟨some 4,none,.mv (.t 13)⟩]) .ret))))
theorem HI:codeOf Tryz.prog 12=some ⟨14,DZ,[(.tmp 4)]⟩:=by kernel_rfl
theorem Bu:modes 12=⟨[true],.asis,none,false⟩:=by unfold modes; rfl
theorem Hj (x:Fm) (k:Int) (o0 o1:Ob) (h1:1≤k) (h2:k+(Tm.wtS x.atom.args+Fm.wtS x.parts:Nat)≤1099511627776) (t0:toTree [o0]=[.tree (x.atom.args.map Tm.o) []]) (t1:toTree [o1]=[.tree (x.parts.map Fm.o) []]):E 12 [.agg [.int .i64 x.op,.str x.atom.name,.ref 0,.str x.var,.ref 1],.int .i64 k] [o0,o1]=some (.int .i64 (x.mkr k).2,[.tree ((Tm.mkS x.atom.args k).1.map Tm.o) [],.tree ((Fm.mkS x.parts (Tm.mkS x.atom.args k).2).1.map Fm.o) []]):=by
 have e0:=Tm.mkS_end x.atom.args k
 have e1:=Fm.mkS_end x.parts (Tm.mkS x.atom.args k).2
 rw [Fm.mkr]
 dsimp only
 have c0:=Qf x.atom k o0 (by omega) (by omega) t0
 rw [Tm.mkr] at c0
 dsimp only at c0
 have c1:=Ly x.parts (Tm.mkS x.atom.args k).2 [o1] (by omega) (by omega) t1
 rcases NG t0 with ⟨a0,b0,rfl⟩ | rfl <;>
 rcases NG t1 with ⟨a1,b1,rfl⟩ | rfl <;>
  (
  refine Al HI Bu (of_decide_eq_true rfl) ?_
  simp (disch:=omega) only [DZ,go_sem,Ac,c0,F8,c1,Cq])
def Ea:SC:=(.seq (.reg [⟨some 2,none,.boxv 34 5 (.t 0)⟩,⟨some 4,none,.mv (.c (.int .i64 0))⟩]) (.seq (.reg [⟨some 5,none,.faddr 1 (.t 2)⟩,⟨some 6,none,.load true 2 (.t 5)⟩,⟨some 7,none,.mv (.t 1)⟩,⟨some 8,none,.call 48 [(.t 6),(.t 7)]⟩,⟨some 1,none,.mv (.t 8)⟩]) (.seq (.seq (.reg [⟨some 9,none,.mv (.t 1)⟩,⟨some 10,none,.bin .lss false (.t 9) (.c (.int .i64 0))⟩]) (.cond (.t 10) (.seq (.reg [⟨some 4,none,.mv (.c (.int .i64 (-(0+1))))⟩]) .ret) .skip)) (.seq (.reg [⟨some 11,none,.faddr 4 (.t 2)⟩,⟨some 12,none,.load false 1 (.t 11)⟩,⟨some 13,none,.mv (.t 1)⟩,⟨some 14,none,.call 49 [(.t 12),(.t 13)]⟩,⟨some 1,none,.mv (.t 14)⟩]) (.seq (.seq (.reg [⟨some 15,none,.mv (.t 1)⟩,⟨some 16,none,.bin .lss false (.t 15) (.c (.int .i64 0))⟩]) (.cond (.t 16) (.seq (.reg [⟨some 4,none,.mv (.c (.int .i64 (-(0+1))))⟩]) .ret) .skip)) (.seq (.reg [⟨some 17,none,.mv (.t 1)⟩,⟨some 4,none,.mv (.t 17)⟩]) .ret))))))
theorem HJ:codeOf Tryz.prog 13=some ⟨18,Ea,[(.tmp 4)]⟩:=by kernel_rfl
theorem Bv:modes 13=⟨[],.asis,none,false⟩:=by unfold modes; rfl
theorem LP (x:Fm) (k:Int) (h1:1≤k) (h2:k+(Tm.wtS x.atom.args+Fm.wtS x.parts:Nat)≤1099511627776):E 13 [.agg [.int .i64 x.op,.str x.atom.name,.arr ((Tm.mkS x.atom.args k).1.map Tm.d),.str x.var,.arr ((Fm.mkS x.parts (Tm.mkS x.atom.args k).2).1.map Fm.d)],.int .i64 k] []=some (.int .i64 (x.mkr k).2,[]):=by
 have e0:=Tm.mkS_end x.atom.args k
 have e1:=Fm.mkS_end x.parts (Tm.mkS x.atom.args k).2
 rw [Fm.mkr]
 dsimp only
 have p0:(Fm.mk (x.op) (Tm.mk (x.atom.name) ((Tm.mkS x.atom.args k).1)) (x.var) ((Fm.mkS x.parts (Tm.mkS x.atom.args k).2).1)).op=x.op:=rfl
 have p1:(Fm.mk (x.op) (Tm.mk (x.atom.name) ((Tm.mkS x.atom.args k).1)) (x.var) ((Fm.mkS x.parts (Tm.mkS x.atom.args k).2).1)).atom=(Tm.mk (x.atom.name) ((Tm.mkS x.atom.args k).1)):=rfl
 have p2:(Tm.mk (x.atom.name) ((Tm.mkS x.atom.args k).1)).name=x.atom.name:=rfl
 have p3:(Tm.mk (x.atom.name) ((Tm.mkS x.atom.args k).1)).args=(Tm.mkS x.atom.args k).1:=rfl
 have p4:(Fm.mk (x.op) (Tm.mk (x.atom.name) ((Tm.mkS x.atom.args k).1)) (x.var) ((Fm.mkS x.parts (Tm.mkS x.atom.args k).2).1)).var=x.var:=rfl
 have p5:(Fm.mk (x.op) (Tm.mk (x.atom.name) ((Tm.mkS x.atom.args k).1)) (x.var) ((Fm.mkS x.parts (Tm.mkS x.atom.args k).2).1)).parts=(Fm.mkS x.parts (Tm.mkS x.atom.args k).2).1:=rfl
 have c0:=Qg x.atom k (by omega) (by omega)
 rw [Tm.mkr] at c0
 dsimp only at c0
 have c1:=Lz x.parts (Tm.mkS x.atom.args k).2 (by omega) (by omega)
 refine Al HJ Bv (of_decide_eq_true rfl) ?_
 simp (disch:=omega) only [Ea,go_sem,Ac,c0,FA,c1,Cr,p0,p1,p2,p3,p4,p5]
def Hk:SC:=(.seq (.reg [⟨some 2,none,.boxv 24 2 (.t 0)⟩,⟨some 4,none,.mv (.c (.int .i64 0))⟩]) (.seq (.reg [⟨some 5,none,.mv (.t 1)⟩,⟨some 6,none,.faddr 0 (.t 2)⟩,⟨some 7,none,.load false 1 (.t 6)⟩,⟨some 8,none,.len true (.t 7)⟩,⟨some 9,none,.bin .sub false (.t 5) (.t 8)⟩,⟨some 1,none,.mv (.t 9)⟩]) (.seq (.seq (.reg [⟨some 10,none,.mv (.t 1)⟩,⟨some 11,none,.bin .lss false (.t 10) (.c (.int .i64 0))⟩]) (.cond (.t 11) (.seq (.reg [⟨some 4,none,.mv (.c (.int .i64 (-(0+1))))⟩]) .ret) .skip)) (.seq (.reg [⟨some 12,none,.faddr 1 (.t 2)⟩,⟨some 13,none,.load false 1 (.t 12)⟩,⟨some 14,none,.mv (.t 1)⟩,⟨some 15,none,.call 93 [(.t 13),(.t 14)]⟩,⟨some 1,none,.mv (.t 15)⟩]) (.seq (.seq (.reg [⟨some 16,none,.mv (.t 1)⟩,⟨some 17,none,.bin .lss false (.t 16) (.c (.int .i64 0))⟩]) (.cond (.t 17) (.seq (.reg [⟨some 4,none,.mv (.c (.int .i64 (-(0+1))))⟩]) .ret) .skip)) (.seq (.reg [⟨some 18,none,.mv (.t 1)⟩,⟨some 4,none,.mv (.t 18)⟩]) .ret))))))
theorem LQ:codeOf Tryz.prog 35=some ⟨19,Hk,[(.tmp 4)]⟩:=by kernel_rfl
theorem Dl:modes 35=⟨[],.asis,none,false⟩:=by unfold modes; rfl
def Gk:SC:=(.seq (.reg [⟨some 4,none,.mv (.c (.int .i64 0))⟩]) (.seq (.reg [⟨some 6,none,.mv (.t 1)⟩,⟨some 7,none,.mv (.t 0)⟩,⟨some 8,none,.len false (.t 7)⟩,⟨some 9,none,.bin .sub false (.t 6) (.t 8)⟩,⟨some 1,none,.mv (.t 9)⟩]) (.seq (.seq (.reg [⟨some 10,none,.mv (.t 1)⟩,⟨some 11,none,.bin .lss false (.t 10) (.c (.int .i64 0))⟩]) (.cond (.t 11) (.seq (.reg [⟨some 4,none,.mv (.c (.int .i64 (-(0+1))))⟩]) .ret) .skip)) (.seq (.seq (.reg [⟨some 5,none,.mv (.c (.int .i64 0))⟩]) (.block 0 (.loop [1,1,0,0,0,1,0,0,0,0,0,0,0,0,0,0,0,0,0,0,0,0,0,0,0,0,0] (.seq (.seq (.reg [⟨some 12,none,.mv (.t 5)⟩,⟨some 13,none,.mv (.t 0)⟩,⟨some 14,none,.len false (.t 13)⟩,⟨some 15,none,.bin .lss false (.t 12) (.t 14)⟩]) (.cond (.t 15) .skip (.exit 0))) (.seq (.block 1 (.seq (.reg [⟨some 18,none,.mv (.t 0)⟩,⟨some 19,none,.mv (.t 5)⟩,⟨some 20,none,.iaddr 2 (.t 18) (.t 19)⟩,⟨some 21,none,.load true 2 (.t 20)⟩,⟨some 22,none,.mv (.t 1)⟩,⟨some 23,none,.call 35 [(.t 21),(.t 22)]⟩,⟨some 1,none,.mv (.t 23)⟩]) (.seq (.reg [⟨some 24,none,.mv (.t 1)⟩,⟨some 25,none,.bin .lss false (.t 24) (.c (.int .i64 0))⟩]) (.cond (.t 25) (.seq (.reg [⟨some 4,none,.mv (.c (.int .i64 (-(0+1))))⟩]) .ret) .skip)))) (.reg [⟨some 16,none,.mv (.t 5)⟩,⟨some 17,none,.bin .add false (.t 16) (.c (.int .i64 1))⟩,⟨some 5,none,.mv (.t 17)⟩])))))) (.seq (.reg [⟨some 26,none,.mv (.t 1)⟩,⟨some 4,none,.mv (.t 26)⟩]) .ret)))))
theorem L1:codeOf Tryz.prog 93=some ⟨27,Gk,[(.tmp 4)]⟩:=by kernel_rfl
theorem Eb:modes 93=⟨[],.asis,none,false⟩:=by unfold modes; rfl
abbrev Iv (x:Tm):Prop:=D.fits x.d→∀ left:Int,0≤left→left≤1048576→E 35 [x.sv,.int .i64 left] []=some (.int .i64 (szR left x.bulk),[])
abbrev MX (xs:List Tm):Prop:=D.fit (.arr (xs.map Tm.d))→∀ left:Int,0≤left→left≤1048576→E 93 [.arr (xs.map Tm.d),.int .i64 left] []=some (.int .i64 (szR left (xs.length+Tm.sumB xs:Nat)),[])
theorem NH (xs:List Tm) (h:∀ x∈xs,Iv x):MX xs:=by
 intro hfit left h0 h1
 simp only [D.fit,zJ] at hfit
 have q0:=Ba left (xs.length+Tm.sumB xs)
 refine Al L1 Eb (of_decide_eq_true rfl) ?_
 simp (disch:=omega) only [Gk,go_sem,Ac]
 repeat' (refine Cb (fun hq=>?_) (fun hq=>?_) <;> (first | replace hq:=Ap.1 hq | replace hq:=B9.1 hq) <;> (try simp (disch:=omega) only [go_sem,Ac]))
 ·omega
 refine go_loop (α:=Int × Int) (fun a=>⟨slots 27 0 [(0,.arr (xs.map Tm.d)),(1,.int .i64 a.2),(5,.int .i64 a.1)],[]⟩) (fun a=>∃ k:Nat,a.1=k∧k≤xs.length∧0≤a.2∧a.2≤1048576∧szR a.2 (Tm.sumB (xs.drop k))=szR left (xs.length+Tm.sumB xs:Nat)) (fun a=>xs.length-a.1.toNat) (0,left-xs.length) ⟨0,rfl,zG _,by omega,by omega,?_⟩ (by simp (disch:=omega) only [go_sem,Ac]) ?_
 ·have q1:=Ba (left-xs.length) (Tm.sumB xs)
  rw [zF]
  dsimp only
  omega
 ·rintro ⟨i,l⟩ ⟨k,hi,hk,hl0,hl1,hs⟩
  dsimp only at hi hl0 hl1 hs
  rcases zC k xs.length with hlt | hge
  ·have hg:=get_at Tm.d hlt
   rw [Tm.d_eq] at hg
   have hd:Tm.sumB (xs.drop k)=xs[k].bulk+Tm.sumB (xs.drop (k+1)):=by rw [zB hlt,Tm.sumB]
   rw [hd] at hs
   have hc:=h xs[k] (zD hlt) (D.IP hfit.2 _ (zD hlt)) l hl0 hl1
   have q1:=Ba l xs[k].bulk
   have q2:=Ba l (xs[k].bulk+Tm.sumB (xs.drop (k+1)))
   have q3:=Ba (l-xs[k].bulk) (Tm.sumB (xs.drop (k+1)))
   have hn:i.toNat=k:=by omega
   simp (disch:=omega) only [go_sem,Ac,hn,hg,hc,Dl]
   repeat' (refine Cb (fun hq=>?_) (fun hq=>?_) <;> (first | replace hq:=Ap.1 hq | replace hq:=B9.1 hq) <;> (try simp (disch:=omega) only [go_sem,Ac]))
   ·omega
   ·refine ⟨(i+1,l-xs[k].bulk),⟨k+1,by dsimp only; omega,hlt,by dsimp only; omega,by dsimp only; omega,by dsimp only; omega⟩,by dsimp only; omega,?_⟩
    have e:szR l xs[k].bulk=l-xs[k].bulk:=by omega
    simp only [e,and_self]
  ·have hd:xs.drop k=[]:=zE hge
   rw [hd] at hs
   have q1:=Ba l (Tm.sumB [])
   simp only [Tm.sumB] at hs q1
   simp (disch:=omega) only [go_sem,Ac]
   omega
theorem OZ (x:Tm) (h_args:MX x.args):Iv x:=by
 intro hfit left h0 h1
 rw [Tm.d_eq] at hfit
 simp only [D.fits,D.fit] at hfit
 replace h_args:=h_args (by simp only [D.fit,zJ]; simp only [zJ] at hfit; simp only [hfit,and_self])
 have q:=Ba left x.bulk
 have qb:=Tm.bulk_eq x
 have q0:=Ba (left-(x.name.size:Int)) ((x.args.length+Tm.sumB x.args))
 refine Al LQ Dl (of_decide_eq_true rfl) ?_
 simp (disch:=omega) only [Hk,go_sem,Ac,h_args,Eb]
 repeat' (refine Cb (fun hq=>?_) (fun hq=>?_) <;> (first | replace hq:=Ap.1 hq | replace hq:=B9.1 hq) <;> (try simp (disch:=omega) only [go_sem,Ac,h_args,Eb]))
 all_goals omega
theorem Pa (x:Tm):Iv x:=OZ x (NH x.args fun y hy=>Pa y)
termination_by SizeOf.sizeOf x
decreasing_by exact Tm.lt_of_mem hy
def Ff:SC:=(.seq (.reg [⟨some 2,none,.boxv 27 5 (.t 0)⟩,⟨some 4,none,.mv (.c (.int .i64 0))⟩]) (.seq (.reg [⟨some 5,none,.faddr 1 (.t 2)⟩,⟨some 6,none,.load true 2 (.t 5)⟩,⟨some 7,none,.mv (.t 1)⟩,⟨some 8,none,.call 35 [(.t 6),(.t 7)]⟩,⟨some 1,none,.mv (.t 8)⟩]) (.seq (.seq (.reg [⟨some 9,none,.mv (.t 1)⟩,⟨some 10,none,.bin .lss false (.t 9) (.c (.int .i64 0))⟩]) (.cond (.t 10) (.seq (.reg [⟨some 4,none,.mv (.c (.int .i64 (-(0+1))))⟩]) .ret) .skip)) (.seq (.reg [⟨some 11,none,.mv (.t 1)⟩,⟨some 12,none,.faddr 3 (.t 2)⟩,⟨some 13,none,.load false 1 (.t 12)⟩,⟨some 14,none,.len true (.t 13)⟩,⟨some 15,none,.bin .sub false (.t 11) (.t 14)⟩,⟨some 1,none,.mv (.t 15)⟩]) (.seq (.seq (.reg [⟨some 16,none,.mv (.t 1)⟩,⟨some 17,none,.bin .lss false (.t 16) (.c (.int .i64 0))⟩]) (.cond (.t 17) (.seq (.reg [⟨some 4,none,.mv (.c (.int .i64 (-(0+1))))⟩]) .ret) .skip)) (.seq (.reg [⟨some 18,none,.faddr 4 (.t 2)⟩,⟨some 19,none,.load false 1 (.t 18)⟩,⟨some 20,none,.mv (.t 1)⟩,⟨some 21,none,.call 36 [(.t 19),(.t 20)]⟩,⟨some 1,none,.mv (.t 21)⟩]) (.seq (.seq (.reg [⟨some 22,none,.mv (.t 1)⟩,⟨some 23,none,.bin .lss false (.t 22) (.c (.int .i64 0))⟩]) (.cond (.t 23) (.seq (.reg [⟨some 4,none,.mv (.c (.int .i64 (-(0+1))))⟩]) .ret) .skip)) (.seq (.reg [⟨some 24,none,.mv (.t 1)⟩,⟨some 4,none,.mv (.t 24)⟩]) .ret))))))))
theorem Jf:codeOf Tryz.prog 7=some ⟨25,Ff,[(.tmp 4)]⟩:=by kernel_rfl
theorem Be:modes 7=⟨[],.asis,none,false⟩:=by unfold modes; rfl
def Ev:SC:=(.seq (.reg [⟨some 4,none,.mv (.c (.int .i64 0))⟩]) (.seq (.reg [⟨some 6,none,.mv (.t 1)⟩,⟨some 7,none,.mv (.t 0)⟩,⟨some 8,none,.len false (.t 7)⟩,⟨some 9,none,.bin .sub false (.t 6) (.t 8)⟩,⟨some 1,none,.mv (.t 9)⟩]) (.seq (.seq (.reg [⟨some 10,none,.mv (.t 1)⟩,⟨some 11,none,.bin .lss false (.t 10) (.c (.int .i64 0))⟩]) (.cond (.t 11) (.seq (.reg [⟨some 4,none,.mv (.c (.int .i64 (-(0+1))))⟩]) .ret) .skip)) (.seq (.seq (.reg [⟨some 5,none,.mv (.c (.int .i64 0))⟩]) (.block 0 (.loop [1,1,0,0,0,1,0,0,0,0,0,0,0,0,0,0,0,0,0,0,0,0,0,0,0,0,0] (.seq (.seq (.reg [⟨some 12,none,.mv (.t 5)⟩,⟨some 13,none,.mv (.t 0)⟩,⟨some 14,none,.len false (.t 13)⟩,⟨some 15,none,.bin .lss false (.t 12) (.t 14)⟩]) (.cond (.t 15) .skip (.exit 0))) (.seq (.block 1 (.seq (.reg [⟨some 18,none,.mv (.t 0)⟩,⟨some 19,none,.mv (.t 5)⟩,⟨some 20,none,.iaddr 5 (.t 18) (.t 19)⟩,⟨some 21,none,.load true 5 (.t 20)⟩,⟨some 22,none,.mv (.t 1)⟩,⟨some 23,none,.call 7 [(.t 21),(.t 22)]⟩,⟨some 1,none,.mv (.t 23)⟩]) (.seq (.reg [⟨some 24,none,.mv (.t 1)⟩,⟨some 25,none,.bin .lss false (.t 24) (.c (.int .i64 0))⟩]) (.cond (.t 25) (.seq (.reg [⟨some 4,none,.mv (.c (.int .i64 (-(0+1))))⟩]) .ret) .skip)))) (.reg [⟨some 16,none,.mv (.t 5)⟩,⟨some 17,none,.bin .add false (.t 16) (.c (.int .i64 1))⟩,⟨some 5,none,.mv (.t 17)⟩])))))) (.seq (.reg [⟨some 26,none,.mv (.t 1)⟩,⟨some 4,none,.mv (.t 26)⟩]) .ret)))))
theorem Iw:codeOf Tryz.prog 36=some ⟨27,Ev,[(.tmp 4)]⟩:=by kernel_rfl
theorem CG:modes 36=⟨[],.asis,none,false⟩:=by unfold modes; rfl
abbrev Gl (x:Fm):Prop:=D.fits x.d→∀ left:Int,0≤left→left≤1048576→E 7 [x.sv,.int .i64 left] []=some (.int .i64 (szR left x.bulk),[])
abbrev Ix (xs:List Fm):Prop:=D.fit (.arr (xs.map Fm.d))→∀ left:Int,0≤left→left≤1048576→E 36 [.arr (xs.map Fm.d),.int .i64 left] []=some (.int .i64 (szR left (xs.length+Fm.sumB xs:Nat)),[])
theorem JS (xs:List Fm) (h:∀ x∈xs,Gl x):Ix xs:=by
 intro hfit left h0 h1
 simp only [D.fit,zJ] at hfit
 have q0:=Ba left (xs.length+Fm.sumB xs)
 refine Al Iw CG (of_decide_eq_true rfl) ?_
 simp (disch:=omega) only [Ev,go_sem,Ac]
 repeat' (refine Cb (fun hq=>?_) (fun hq=>?_) <;> (first | replace hq:=Ap.1 hq | replace hq:=B9.1 hq) <;> (try simp (disch:=omega) only [go_sem,Ac]))
 ·omega
 refine go_loop (α:=Int × Int) (fun a=>⟨slots 27 0 [(0,.arr (xs.map Fm.d)),(1,.int .i64 a.2),(5,.int .i64 a.1)],[]⟩) (fun a=>∃ k:Nat,a.1=k∧k≤xs.length∧0≤a.2∧a.2≤1048576∧szR a.2 (Fm.sumB (xs.drop k))=szR left (xs.length+Fm.sumB xs:Nat)) (fun a=>xs.length-a.1.toNat) (0,left-xs.length) ⟨0,rfl,zG _,by omega,by omega,?_⟩ (by simp (disch:=omega) only [go_sem,Ac]) ?_
 ·have q1:=Ba (left-xs.length) (Fm.sumB xs)
  rw [zF]
  dsimp only
  omega
 ·rintro ⟨i,l⟩ ⟨k,hi,hk,hl0,hl1,hs⟩
  dsimp only at hi hl0 hl1 hs
  rcases zC k xs.length with hlt | hge
  ·have hg:=get_at Fm.d hlt
   rw [Fm.d_eq] at hg
   have hd:Fm.sumB (xs.drop k)=xs[k].bulk+Fm.sumB (xs.drop (k+1)):=by rw [zB hlt,Fm.sumB]
   rw [hd] at hs
   have hc:=h xs[k] (zD hlt) (D.IP hfit.2 _ (zD hlt)) l hl0 hl1
   have q1:=Ba l xs[k].bulk
   have q2:=Ba l (xs[k].bulk+Fm.sumB (xs.drop (k+1)))
   have q3:=Ba (l-xs[k].bulk) (Fm.sumB (xs.drop (k+1)))
   have hn:i.toNat=k:=by omega
   simp (disch:=omega) only [go_sem,Ac,hn,hg,hc,Be]
   repeat' (refine Cb (fun hq=>?_) (fun hq=>?_) <;> (first | replace hq:=Ap.1 hq | replace hq:=B9.1 hq) <;> (try simp (disch:=omega) only [go_sem,Ac]))
   ·omega
   ·refine ⟨(i+1,l-xs[k].bulk),⟨k+1,by dsimp only; omega,hlt,by dsimp only; omega,by dsimp only; omega,by dsimp only; omega⟩,by dsimp only; omega,?_⟩
    have e:szR l xs[k].bulk=l-xs[k].bulk:=by omega
    simp only [e,and_self]
  ·have hd:xs.drop k=[]:=zE hge
   rw [hd] at hs
   have q1:=Ba l (Fm.sumB [])
   simp only [Fm.sumB] at hs q1
   simp (disch:=omega) only [go_sem,Ac]
   omega
theorem L2 (x:Fm) (h_atom:Iv x.atom) (h_parts:Ix x.parts):Gl x:=by
 intro hfit left h0 h1
 rw [Fm.d_eq] at hfit
 simp only [D.fits,D.fit] at hfit
 replace h_atom:=h_atom (by rw [Tm.d_eq]; simp only [D.fits,D.fit,hfit,and_self])
 replace h_parts:=h_parts (by simp only [D.fit,zJ]; simp only [zJ] at hfit; simp only [hfit,and_self])
 have q:=Ba left x.bulk
 have qb:=Fm.bulk_eq x
 have q0:=Ba left (x.atom.bulk)
 have q41:=Ba ((szR left (x.atom.bulk:Nat))-(x.var.size:Int)) ((x.parts.length+Fm.sumB x.parts))
 refine Al Jf Be (of_decide_eq_true rfl) ?_
 simp (disch:=omega) only [Ff,go_sem,Ac,h_atom,Dl,h_parts,CG]
 repeat' (refine Cb (fun hq=>?_) (fun hq=>?_) <;> (first | replace hq:=Ap.1 hq | replace hq:=B9.1 hq) <;> (try simp (disch:=omega) only [go_sem,Ac,h_atom,Dl,h_parts,CG]))
 all_goals omega
theorem JG (x:Fm):Gl x:=L2 x (Pa x.atom) (JS x.parts fun y hy=>JG y)
termination_by SizeOf.sizeOf x
decreasing_by exact Fm.lt_of_mem hy
def Hm:SC:=(.seq (.reg [⟨some 1,none,.boxv 24 2 (.t 0)⟩,⟨(some 2),none,(.alloc 31 [(.str ⟨#[]⟩),.nil])⟩]) (.seq (.reg [⟨(some 3),none,(.alloc 31 [(.str ⟨#[]⟩),.nil])⟩]) (.seq (.reg [⟨some 4,none,.faddr 0 (.t 1)⟩,⟨some 5,none,.load false 1 (.t 4)⟩,⟨some 6,none,.faddr 0 (.t 3)⟩,⟨none,none,(.store 1 (.t 6) (.t 5))⟩]) (.seq (.reg [⟨some 7,none,.faddr 1 (.t 1)⟩,⟨some 8,none,.load false 1 (.t 7)⟩,⟨some 9,none,.call 97 [(.t 8)]⟩,⟨some 10,none,.faddr 1 (.t 3)⟩,⟨none,none,(.store 1 (.t 10) (.t 9))⟩]) (.seq (.reg [⟨some 11,none,.load true 2 (.t 3)⟩,⟨none,none,(.store 2 (.t 2) (.t 11))⟩]) .ret)))))
theorem LR:codeOf Tryz.prog 39=some ⟨12,Hm,[(.cell 2 true 2)]⟩:=by kernel_rfl
theorem ED:modes 39=⟨[],.asis,none,false⟩:=by unfold modes; rfl
def Gm:SC:=(.seq (.reg [⟨some 2,none,.mv (.c .nil)⟩]) (.seq (.reg [⟨some 5,none,.mv (.t 0)⟩,⟨some 6,none,.len false (.t 5)⟩,⟨(some 7),none,(.mkslice 31 2 40 [(.str ⟨#[]⟩),.nil] (.t 6))⟩,⟨some 3,none,.mv (.t 7)⟩]) (.seq (.seq (.reg [⟨some 4,none,.mv (.c (.int .i64 0))⟩]) (.block 0 (.loop [1,0,0,1,1,0,0,0,0,0,0,0,0,0,0,0,0,0,0,0,0,0,0] (.seq (.seq (.reg [⟨some 8,none,.mv (.t 4)⟩,⟨some 9,none,.mv (.t 0)⟩,⟨some 10,none,.len false (.t 9)⟩,⟨some 11,none,.bin .lss false (.t 8) (.t 10)⟩]) (.cond (.t 11) .skip (.exit 0))) (.seq (.block 1 (.reg [⟨some 14,none,.mv (.t 3)⟩,⟨some 15,none,.mv (.t 4)⟩,⟨some 16,none,.mv (.t 0)⟩,⟨some 17,none,.mv (.t 4)⟩,⟨some 18,none,.iaddr 2 (.t 16) (.t 17)⟩,⟨some 19,none,.load true 2 (.t 18)⟩,⟨some 20,none,.call 39 [(.t 19)]⟩,⟨some 21,none,.iaddr 2 (.t 14) (.t 15)⟩,⟨none,none,(.store 2 (.t 21) (.t 20))⟩])) (.reg [⟨some 12,none,.mv (.t 4)⟩,⟨some 13,none,.bin .add false (.t 12) (.c (.int .i64 1))⟩,⟨some 4,none,.mv (.t 13)⟩])))))) (.seq (.reg [⟨some 22,none,.mv (.t 3)⟩,⟨some 2,none,.mv (.t 22)⟩]) .ret))))
theorem L3:codeOf Tryz.prog 97=some ⟨23,Gm,[(.tmp 2)]⟩:=by kernel_rfl
theorem Gn:modes 97=⟨[],.asis,none,false⟩:=by unfold modes; rfl
abbrev Iy (x:Tm):Prop:=x.bulk≤1048576→E 39 [x.sv] []=some (x.osv,x.obs)
abbrev MY (xs:List Tm):Prop:=xs.length+Tm.sumB xs≤1048576→E 97 [.arr (xs.map Tm.d)] []=some (.ref 0,[.row 31 2 (xs.map Tm.o)])
theorem NI (xs:List Tm) (h:∀ x∈xs,Iy x):MY xs:=by
 intro hb
 refine Al L3 Gn (of_decide_eq_true rfl) ?_
 simp (disch:=omega) only [Gm,go_sem,Ac]
 refine go_loop (α:=Int) (fun i=>⟨slots 23 0 [(0,.arr (xs.map Tm.d)),(3,.ref 0),(4,.int .i64 i)],[.row 31 2 (Ei Tm.o [.str ⟨#[]⟩,.ow []] xs i.toNat)]⟩) (fun i=>∃ k:Nat,i=k∧k≤xs.length) (fun i=>xs.length-i.toNat) 0 ⟨0,rfl,zG _⟩ (by simp (disch:=omega) only [go_sem,Ac,H5,zS]) ?_
 ·rintro i ⟨k,rfl,hk⟩
  obtain ⟨i,hi⟩:∃ i:Int,i=(k:Int):=⟨_,rfl⟩
  rw [←hi]
  have hn:i.toNat=k:=by omega
  have hn1:(i+1).toNat=k+1:=by omega
  rcases zC k xs.length with hlt | hge
  ·have hg:=get_at Tm.d hlt
   rw [Tm.d_eq] at hg
   have hz:=IS Tm.o [.str ⟨#[]⟩,.ow []] hlt
   have hle:=Tm.bulk_le xs k hlt
   have hc:=h xs[k] (zD hlt) (by omega)
   have hs:=IT Tm.o [.str ⟨#[]⟩,.ow []] hlt
   rw [Tm.o_eq] at hs
   simp (disch:=omega) only [go_sem,Ac,hn,hg,hc,hz,IQ,ED,Tm.osv,Tm.obs]
   refine ⟨i+1,⟨k+1,by omega,hlt⟩,by omega,?_⟩
   simp (disch:=omega) only [go_sem,Ac,hn1,hs]
  ·obtain rfl:k=xs.length:=by omega
   simp (disch:=omega) only [go_sem,Ac,hn,IR]
theorem Pb (x:Tm) (h_args:MY x.args):Iy x:=by
 intro hb
 have qb:=Tm.bulk_eq x
 replace h_args:=h_args (by omega)
 refine Al LR ED (of_decide_eq_true rfl) ?_
 simp (disch:=omega) only [Hm,go_sem,Ac,h_args,Gn]
theorem Pc (x:Tm):Iy x:=Pb x (NI x.args fun y hy=>Pc y)
termination_by SizeOf.sizeOf x
decreasing_by exact Tm.lt_of_mem hy
def Fg:SC:=(.seq (.reg [⟨some 1,none,.boxv 27 5 (.t 0)⟩,⟨(some 2),none,(.alloc 34 [(.int .i64 0),(.str ⟨#[]⟩),.nil,(.str ⟨#[]⟩),.nil])⟩]) (.seq (.reg [⟨(some 3),none,(.alloc 34 [(.int .i64 0),(.str ⟨#[]⟩),.nil,(.str ⟨#[]⟩),.nil])⟩]) (.seq (.reg [⟨some 4,none,.faddr 0 (.t 1)⟩,⟨some 5,none,.load false 1 (.t 4)⟩,⟨some 6,none,.faddr 0 (.t 3)⟩,⟨none,none,(.store 1 (.t 6) (.t 5))⟩]) (.seq (.reg [⟨some 7,none,.faddr 1 (.t 1)⟩,⟨some 8,none,.load true 2 (.t 7)⟩,⟨some 9,none,.call 39 [(.t 8)]⟩,⟨some 10,none,.faddr 1 (.t 3)⟩,⟨none,none,(.store 2 (.t 10) (.t 9))⟩]) (.seq (.reg [⟨some 11,none,.faddr 3 (.t 1)⟩,⟨some 12,none,.load false 1 (.t 11)⟩,⟨some 13,none,.faddr 3 (.t 3)⟩,⟨none,none,(.store 1 (.t 13) (.t 12))⟩]) (.seq (.reg [⟨some 14,none,.faddr 4 (.t 1)⟩,⟨some 15,none,.load false 1 (.t 14)⟩,⟨some 16,none,.call 40 [(.t 15)]⟩,⟨some 17,none,.faddr 4 (.t 3)⟩,⟨none,none,(.store 1 (.t 17) (.t 16))⟩]) (.seq (.reg [⟨some 18,none,.load true 5 (.t 3)⟩,⟨none,none,(.store 5 (.t 2) (.t 18))⟩]) .ret)))))))
theorem Jg:codeOf Tryz.prog 9=some ⟨19,Fg,[(.cell 2 true 5)]⟩:=by kernel_rfl
theorem Bo:modes 9=⟨[],.asis,none,false⟩:=by unfold modes; rfl
def Ew:SC:=(.seq (.reg [⟨some 2,none,.mv (.c .nil)⟩]) (.seq (.reg [⟨some 5,none,.mv (.t 0)⟩,⟨some 6,none,.len false (.t 5)⟩,⟨(some 7),none,(.mkslice 34 5 88 [(.int .i64 0),(.str ⟨#[]⟩),.nil,(.str ⟨#[]⟩),.nil] (.t 6))⟩,⟨some 3,none,.mv (.t 7)⟩]) (.seq (.seq (.reg [⟨some 4,none,.mv (.c (.int .i64 0))⟩]) (.block 0 (.loop [1,0,0,1,1,0,0,0,0,0,0,0,0,0,0,0,0,0,0,0,0,0,0] (.seq (.seq (.reg [⟨some 8,none,.mv (.t 4)⟩,⟨some 9,none,.mv (.t 0)⟩,⟨some 10,none,.len false (.t 9)⟩,⟨some 11,none,.bin .lss false (.t 8) (.t 10)⟩]) (.cond (.t 11) .skip (.exit 0))) (.seq (.block 1 (.reg [⟨some 14,none,.mv (.t 3)⟩,⟨some 15,none,.mv (.t 4)⟩,⟨some 16,none,.mv (.t 0)⟩,⟨some 17,none,.mv (.t 4)⟩,⟨some 18,none,.iaddr 5 (.t 16) (.t 17)⟩,⟨some 19,none,.load true 5 (.t 18)⟩,⟨some 20,none,.call 9 [(.t 19)]⟩,⟨some 21,none,.iaddr 5 (.t 14) (.t 15)⟩,⟨none,none,(.store 5 (.t 21) (.t 20))⟩])) (.reg [⟨some 12,none,.mv (.t 4)⟩,⟨some 13,none,.bin .add false (.t 12) (.c (.int .i64 1))⟩,⟨some 4,none,.mv (.t 13)⟩])))))) (.seq (.reg [⟨some 22,none,.mv (.t 3)⟩,⟨some 2,none,.mv (.t 22)⟩]) .ret))))
theorem Iz:codeOf Tryz.prog 40=some ⟨23,Ew,[(.tmp 2)]⟩:=by kernel_rfl
theorem Ex:modes 40=⟨[],.asis,none,false⟩:=by unfold modes; rfl
abbrev Gp (x:Fm):Prop:=x.bulk≤1048576→E 9 [x.sv] []=some (x.osv,x.obs)
abbrev I1 (xs:List Fm):Prop:=xs.length+Fm.sumB xs≤1048576→E 40 [.arr (xs.map Fm.d)] []=some (.ref 0,[.row 34 5 (xs.map Fm.o)])
theorem JT (xs:List Fm) (h:∀ x∈xs,Gp x):I1 xs:=by
 intro hb
 refine Al Iz Ex (of_decide_eq_true rfl) ?_
 simp (disch:=omega) only [Ew,go_sem,Ac]
 refine go_loop (α:=Int) (fun i=>⟨slots 23 0 [(0,.arr (xs.map Fm.d)),(3,.ref 0),(4,.int .i64 i)],[.row 34 5 (Ei Fm.o [.int 0,.str ⟨#[]⟩,.ow [],.str ⟨#[]⟩,.ow []] xs i.toNat)]⟩) (fun i=>∃ k:Nat,i=k∧k≤xs.length) (fun i=>xs.length-i.toNat) 0 ⟨0,rfl,zG _⟩ (by simp (disch:=omega) only [go_sem,Ac,H5,zS]) ?_
 ·rintro i ⟨k,rfl,hk⟩
  obtain ⟨i,hi⟩:∃ i:Int,i=(k:Int):=⟨_,rfl⟩
  rw [←hi]
  have hn:i.toNat=k:=by omega
  have hn1:(i+1).toNat=k+1:=by omega
  rcases zC k xs.length with hlt | hge
  ·have hg:=get_at Fm.d hlt
   rw [Fm.d_eq] at hg
   have hz:=IS Fm.o [.int 0,.str ⟨#[]⟩,.ow [],.str ⟨#[]⟩,.ow []] hlt
   have hle:=Fm.bulk_le xs k hlt
   have hc:=h xs[k] (zD hlt) (by omega)
   have hs:=IT Fm.o [.int 0,.str ⟨#[]⟩,.ow [],.str ⟨#[]⟩,.ow []] hlt
   rw [Fm.o_eq] at hs
   simp (disch:=omega) only [go_sem,Ac,hn,hg,hc,hz,IQ,Bo,Fm.osv,Fm.obs]
   refine ⟨i+1,⟨k+1,by omega,hlt⟩,by omega,?_⟩
   simp (disch:=omega) only [go_sem,Ac,hn1,hs]
  ·obtain rfl:k=xs.length:=by omega
   simp (disch:=omega) only [go_sem,Ac,hn,IR]
theorem L4 (x:Fm) (h_atom:Iy x.atom) (h_parts:I1 x.parts):Gp x:=by
 intro hb
 have qb:=Fm.bulk_eq x
 replace h_atom:=h_atom (by omega)
 replace h_parts:=h_parts (by omega)
 refine Al Jg Bo (of_decide_eq_true rfl) ?_
 simp (disch:=omega) only [Fg,go_sem,Ac,h_atom,ED,h_parts,Ex]
theorem JH (x:Fm):Gp x:=L4 x (Pc x.atom) (JT x.parts fun y hy=>JH y)
termination_by SizeOf.sizeOf x
decreasing_by exact Fm.lt_of_mem hy
def Hn:SC:=(.seq (.reg [⟨some 2,none,.boxv 31 2 (.t 0)⟩,⟨some 3,none,.boxv 31 2 (.t 1)⟩,⟨some 4,none,.mv (.c (.bool false))⟩]) (.seq (.seq (.reg [⟨some 5,none,.faddr 0 (.t 2)⟩,⟨some 6,none,.load false 1 (.t 5)⟩,⟨some 7,none,.faddr 0 (.t 3)⟩,⟨some 8,none,.load false 1 (.t 7)⟩,⟨some 9,none,.bin .neq false (.t 6) (.t 8)⟩]) (.cond (.t 9) (.seq (.reg [⟨some 4,none,.mv (.c (.bool false))⟩]) .ret) .skip)) (.seq (.seq (.reg [⟨some 10,none,.faddr 1 (.t 2)⟩,⟨some 11,none,.load false 1 (.t 10)⟩,⟨some 12,none,.faddr 1 (.t 3)⟩,⟨some 13,none,.load false 1 (.t 12)⟩,⟨some 14,none,.call 103 [(.t 11),(.t 13)]⟩,⟨some 15,none,.un .not (.t 14)⟩]) (.cond (.t 15) (.seq (.reg [⟨some 4,none,.mv (.c (.bool false))⟩]) .ret) .skip)) (.seq (.reg [⟨some 4,none,.mv (.c (.bool true))⟩]) .ret))))
theorem LS:codeOf Tryz.prog 44=some ⟨16,Hn,[(.tmp 4)]⟩:=by kernel_rfl
theorem EE:modes 44=⟨[],.asis,none,false⟩:=by unfold modes; rfl
def Gq:SC:=(.seq (.reg [⟨some 4,none,.mv (.c (.bool false))⟩]) (.seq (.seq (.reg [⟨some 6,none,.mv (.t 0)⟩,⟨some 7,none,.len false (.t 6)⟩,⟨some 8,none,.mv (.t 1)⟩,⟨some 9,none,.len false (.t 8)⟩,⟨some 10,none,.bin .neq false (.t 7) (.t 9)⟩]) (.cond (.t 10) (.seq (.reg [⟨some 4,none,.mv (.c (.bool false))⟩]) .ret) .skip)) (.seq (.seq (.reg [⟨some 5,none,.mv (.c (.int .i64 0))⟩]) (.block 0 (.loop [1,1,0,0,0,1,0,0,0,0,0,0,0,0,0,0,0,0,0,0,0,0,0,0,0,0,0] (.seq (.seq (.reg [⟨some 11,none,.mv (.t 5)⟩,⟨some 12,none,.mv (.t 0)⟩,⟨some 13,none,.len false (.t 12)⟩,⟨some 14,none,.bin .lss false (.t 11) (.t 13)⟩]) (.cond (.t 14) .skip (.exit 0))) (.seq (.block 1 (.seq (.dreg [[],[],[0,1],[2,0,1],[],[],[4,5],[6,4,5],[3,2,0,1,7,6,4,5],[8,3,2,0,1,7,6,4,5]] [⟨some 17,none,.mv (.t 0)⟩,⟨some 18,none,.mv (.t 5)⟩,⟨some 19,none,.iaddr 2 (.t 17) (.t 18)⟩,⟨some 20,none,.load true 2 (.t 19)⟩,⟨some 21,none,.mv (.t 1)⟩,⟨some 22,none,.mv (.t 5)⟩,⟨some 23,none,.iaddr 2 (.t 21) (.t 22)⟩,⟨some 24,none,.load true 2 (.t 23)⟩,⟨some 25,none,.call 44 [(.t 20),(.t 24)]⟩,⟨some 26,none,.un .not (.t 25)⟩]) (.cond (.t 26) (.seq (.reg [⟨some 4,none,.mv (.c (.bool false))⟩]) .ret) .skip))) (.reg [⟨some 15,none,.mv (.t 5)⟩,⟨some 16,none,.bin .add false (.t 15) (.c (.int .i64 1))⟩,⟨some 5,none,.mv (.t 16)⟩])))))) (.seq (.reg [⟨some 4,none,.mv (.c (.bool true))⟩]) .ret))))
theorem L5:codeOf Tryz.prog 103=some ⟨27,Gq,[(.tmp 4)]⟩:=by kernel_rfl
theorem Gr:modes 103=⟨[],.asis,none,false⟩:=by unfold modes; rfl
abbrev I3 (x:Tm):Prop:=x.bulk≤1048576→E 44 [x.sv,x.sv] []=some (.bool true,[])
abbrev MZ (xs:List Tm):Prop:=xs.length+Tm.sumB xs≤1048576→E 103 [.arr (xs.map Tm.d),.arr (xs.map Tm.d)] []=some (.bool true,[])
theorem NJ (xs:List Tm) (h:∀ x∈xs,I3 x):MZ xs:=by
 intro hb
 refine Al L5 Gr (of_decide_eq_true rfl) ?_
 simp (disch:=omega) only [Gq,go_sem,Ac]
 refine go_loop (α:=Int) (fun i=>⟨slots 27 0 [(0,.arr (xs.map Tm.d)),(1,.arr (xs.map Tm.d)),(5,.int .i64 i)],[]⟩) (fun i=>∃ k:Nat,i=k∧k≤xs.length) (fun i=>xs.length-i.toNat) 0 ⟨0,rfl,zG _⟩ (by simp (disch:=omega) only [go_sem,Ac]) ?_
 ·rintro i ⟨k,rfl,hk⟩
  obtain ⟨i,hi⟩:∃ i:Int,i=(k:Int):=⟨_,rfl⟩
  rw [←hi]
  have hn:i.toNat=k:=by omega
  rcases zC k xs.length with hlt | hge
  ·have hg:=get_at Tm.d hlt
   rw [Tm.d_eq] at hg
   have hle:=Tm.bulk_le xs k hlt
   have hc:=h xs[k] (zD hlt) (by omega)
   simp (disch:=omega) only [go_sem,Ac,hn,hg,hc,EE]
   refine ⟨i+1,⟨k+1,by omega,hlt⟩,by omega,?_⟩
   trivial
  ·obtain rfl:k=xs.length:=by omega
   simp (disch:=omega) only [go_sem,Ac,hn]
theorem Pd (x:Tm) (h_args:MZ x.args):I3 x:=by
 intro hb
 have qb:=Tm.bulk_eq x
 replace h_args:=h_args (by omega)
 refine Al LS EE (of_decide_eq_true rfl) ?_
 simp (disch:=omega) only [Hn,go_sem,Ac,h_args,Gr,C8]
theorem Pe (x:Tm):I3 x:=Pd x (NJ x.args fun y hy=>Pe y)
termination_by SizeOf.sizeOf x
decreasing_by exact Tm.lt_of_mem hy
def Fh:SC:=(.seq (.reg [⟨some 2,none,.boxv 34 5 (.t 0)⟩,⟨some 3,none,.boxv 34 5 (.t 1)⟩,⟨some 4,none,.mv (.c (.bool false))⟩]) (.seq (.seq (.reg [⟨some 5,none,.faddr 0 (.t 2)⟩,⟨some 6,none,.load false 1 (.t 5)⟩,⟨some 7,none,.faddr 0 (.t 3)⟩,⟨some 8,none,.load false 1 (.t 7)⟩,⟨some 9,none,.bin .neq false (.t 6) (.t 8)⟩]) (.cond (.t 9) (.seq (.reg [⟨some 4,none,.mv (.c (.bool false))⟩]) .ret) .skip)) (.seq (.seq (.reg [⟨some 10,none,.faddr 1 (.t 2)⟩,⟨some 11,none,.load true 2 (.t 10)⟩,⟨some 12,none,.faddr 1 (.t 3)⟩,⟨some 13,none,.load true 2 (.t 12)⟩,⟨some 14,none,.call 44 [(.t 11),(.t 13)]⟩,⟨some 15,none,.un .not (.t 14)⟩]) (.cond (.t 15) (.seq (.reg [⟨some 4,none,.mv (.c (.bool false))⟩]) .ret) .skip)) (.seq (.seq (.reg [⟨some 16,none,.faddr 3 (.t 2)⟩,⟨some 17,none,.load false 1 (.t 16)⟩,⟨some 18,none,.faddr 3 (.t 3)⟩,⟨some 19,none,.load false 1 (.t 18)⟩,⟨some 20,none,.bin .neq false (.t 17) (.t 19)⟩]) (.cond (.t 20) (.seq (.reg [⟨some 4,none,.mv (.c (.bool false))⟩]) .ret) .skip)) (.seq (.seq (.reg [⟨some 21,none,.faddr 4 (.t 2)⟩,⟨some 22,none,.load false 1 (.t 21)⟩,⟨some 23,none,.faddr 4 (.t 3)⟩,⟨some 24,none,.load false 1 (.t 23)⟩,⟨some 25,none,.call 45 [(.t 22),(.t 24)]⟩,⟨some 26,none,.un .not (.t 25)⟩]) (.cond (.t 26) (.seq (.reg [⟨some 4,none,.mv (.c (.bool false))⟩]) .ret) .skip)) (.seq (.reg [⟨some 4,none,.mv (.c (.bool true))⟩]) .ret))))))
theorem Jh:codeOf Tryz.prog 11=some ⟨27,Fh,[(.tmp 4)]⟩:=by kernel_rfl
theorem Bp:modes 11=⟨[],.asis,none,false⟩:=by unfold modes; rfl
def Ey:SC:=(.seq (.reg [⟨some 4,none,.mv (.c (.bool false))⟩]) (.seq (.seq (.reg [⟨some 6,none,.mv (.t 0)⟩,⟨some 7,none,.len false (.t 6)⟩,⟨some 8,none,.mv (.t 1)⟩,⟨some 9,none,.len false (.t 8)⟩,⟨some 10,none,.bin .neq false (.t 7) (.t 9)⟩]) (.cond (.t 10) (.seq (.reg [⟨some 4,none,.mv (.c (.bool false))⟩]) .ret) .skip)) (.seq (.seq (.reg [⟨some 5,none,.mv (.c (.int .i64 0))⟩]) (.block 0 (.loop [1,1,0,0,0,1,0,0,0,0,0,0,0,0,0,0,0,0,0,0,0,0,0,0,0,0,0] (.seq (.seq (.reg [⟨some 11,none,.mv (.t 5)⟩,⟨some 12,none,.mv (.t 0)⟩,⟨some 13,none,.len false (.t 12)⟩,⟨some 14,none,.bin .lss false (.t 11) (.t 13)⟩]) (.cond (.t 14) .skip (.exit 0))) (.seq (.block 1 (.seq (.dreg [[],[],[0,1],[2,0,1],[],[],[4,5],[6,4,5],[3,2,0,1,7,6,4,5],[8,3,2,0,1,7,6,4,5]] [⟨some 17,none,.mv (.t 0)⟩,⟨some 18,none,.mv (.t 5)⟩,⟨some 19,none,.iaddr 5 (.t 17) (.t 18)⟩,⟨some 20,none,.load true 5 (.t 19)⟩,⟨some 21,none,.mv (.t 1)⟩,⟨some 22,none,.mv (.t 5)⟩,⟨some 23,none,.iaddr 5 (.t 21) (.t 22)⟩,⟨some 24,none,.load true 5 (.t 23)⟩,⟨some 25,none,.call 11 [(.t 20),(.t 24)]⟩,⟨some 26,none,.un .not (.t 25)⟩]) (.cond (.t 26) (.seq (.reg [⟨some 4,none,.mv (.c (.bool false))⟩]) .ret) .skip))) (.reg [⟨some 15,none,.mv (.t 5)⟩,⟨some 16,none,.bin .add false (.t 15) (.c (.int .i64 1))⟩,⟨some 5,none,.mv (.t 16)⟩])))))) (.seq (.reg [⟨some 4,none,.mv (.c (.bool true))⟩]) .ret))))
theorem I4:codeOf Tryz.prog 45=some ⟨27,Ey,[(.tmp 4)]⟩:=by kernel_rfl
theorem Ez:modes 45=⟨[],.asis,none,false⟩:=by unfold modes; rfl
abbrev Gs (x:Fm):Prop:=x.bulk≤1048576→E 11 [x.sv,x.sv] []=some (.bool true,[])
abbrev I5 (xs:List Fm):Prop:=xs.length+Fm.sumB xs≤1048576→E 45 [.arr (xs.map Fm.d),.arr (xs.map Fm.d)] []=some (.bool true,[])
theorem JU (xs:List Fm) (h:∀ x∈xs,Gs x):I5 xs:=by
 intro hb
 refine Al I4 Ez (of_decide_eq_true rfl) ?_
 simp (disch:=omega) only [Ey,go_sem,Ac]
 refine go_loop (α:=Int) (fun i=>⟨slots 27 0 [(0,.arr (xs.map Fm.d)),(1,.arr (xs.map Fm.d)),(5,.int .i64 i)],[]⟩) (fun i=>∃ k:Nat,i=k∧k≤xs.length) (fun i=>xs.length-i.toNat) 0 ⟨0,rfl,zG _⟩ (by simp (disch:=omega) only [go_sem,Ac]) ?_
 ·rintro i ⟨k,rfl,hk⟩
  obtain ⟨i,hi⟩:∃ i:Int,i=(k:Int):=⟨_,rfl⟩
  rw [←hi]
  have hn:i.toNat=k:=by omega
  rcases zC k xs.length with hlt | hge
  ·have hg:=get_at Fm.d hlt
   rw [Fm.d_eq] at hg
   have hle:=Fm.bulk_le xs k hlt
   have hc:=h xs[k] (zD hlt) (by omega)
   simp (disch:=omega) only [go_sem,Ac,hn,hg,hc,Bp]
   refine ⟨i+1,⟨k+1,by omega,hlt⟩,by omega,?_⟩
   trivial
  ·obtain rfl:k=xs.length:=by omega
   simp (disch:=omega) only [go_sem,Ac,hn]
theorem L6 (x:Fm) (h_atom:I3 x.atom) (h_parts:I5 x.parts):Gs x:=by
 intro hb
 have qb:=Fm.bulk_eq x
 replace h_atom:=h_atom (by omega)
 replace h_parts:=h_parts (by omega)
 refine Al Jh Bp (of_decide_eq_true rfl) ?_
 simp (disch:=omega) only [Fh,go_sem,Ac,h_atom,EE,h_parts,Ez,C8]
theorem Gt (x:Fm):Gs x:=L6 x (Pe x.atom) (JU x.parts fun y hy=>Gt y)
termination_by SizeOf.sizeOf x
decreasing_by exact Fm.lt_of_mem hy
def Bw:SC:=(.seq (.reg [⟨some 1,none,.boxv 27 5 (.t 0)⟩,⟨some 2,none,.mv (.c (.bool false))⟩]) (.seq (.reg [⟨some 3,none,.mv (.c (.int .i64 1048576))⟩]) (.seq (.reg [⟨some 14,none,.load true 5 (.t 1)⟩,⟨some 15,none,.mv (.t 3)⟩,⟨some 16,none,.call 7 [(.t 14),(.t 15)]⟩,⟨some 3,none,.mv (.t 16)⟩]) (.seq (.seq (.reg [⟨some 17,none,.mv (.t 3)⟩,⟨some 18,none,.bin .lss false (.t 17) (.c (.int .i64 0))⟩]) (.cond (.t 18) (.seq (.reg [⟨some 2,none,.mv (.c (.bool true))⟩]) .ret) .skip)) (.seq (.reg [⟨some 20,none,.load true 5 (.t 1)⟩,⟨some 21,none,.call 9 [(.t 20)]⟩,⟨some 22,none,.call 8 [(.t 21)]⟩,⟨some 19,none,.mv (.t 22)⟩,⟨some 23,none,.ext (.t 19) 0⟩,⟨some 24,none,.ext (.t 19) 1⟩,⟨(some 4),none,(.alloc 34 [(.int .i64 0),(.str ⟨#[]⟩),.nil,(.str ⟨#[]⟩),.nil])⟩,⟨none,none,(.store 5 (.t 4) (.t 23))⟩,⟨some 5,none,.mv (.t 24)⟩]) (.seq (.reg [⟨some 25,none,.load true 5 (.t 1)⟩,⟨some 26,none,.call 9 [(.t 25)]⟩,⟨(some 6),none,(.alloc 34 [(.int .i64 0),(.str ⟨#[]⟩),.nil,(.str ⟨#[]⟩),.nil])⟩,⟨none,none,(.store 5 (.t 6) (.t 26))⟩]) (.seq (.reg [⟨some 28,none,.load true 5 (.t 6)⟩,⟨some 29,none,.call 10 [(.t 28)]⟩,⟨some 27,none,.mv (.t 29)⟩,⟨some 30,none,.ext (.t 27) 0⟩,⟨some 31,none,.ext (.t 27) 1⟩,⟨(some 7),none,(.alloc 34 [(.int .i64 0),(.str ⟨#[]⟩),.nil,(.str ⟨#[]⟩),.nil])⟩,⟨none,none,(.store 5 (.t 7) (.t 30))⟩,⟨some 8,none,.mv (.t 31)⟩]) (.seq (.seq (.reg [⟨some 32,none,.load true 5 (.t 7)⟩,⟨some 33,none,.load true 5 (.t 4)⟩,⟨some 34,none,.call 11 [(.t 32),(.t 33)]⟩,⟨some 35,none,.un .not (.t 34)⟩,⟨some 36,none,.mv (.t 35)⟩,⟨(some 37),(some (36,false)),(.mv (.t 8))⟩,⟨(some 38),(some (36,false)),(.mv (.t 5))⟩,⟨(some 39),(some (36,false)),(.bin .neq true (.t 37) (.t 38))⟩,⟨some 40,none,.pick (.t 36) (.c (.bool true)) (.t 39)⟩]) (.cond (.t 40) (.seq (.reg [⟨some 2,none,.mv (.c (.bool false))⟩]) .ret) .skip)) (.seq (.seq (.dreg [[],[],[1],[0,2,1],[3,0,2,1]] [⟨some 41,none,.load true 5 (.t 6)⟩,⟨some 42,none,.load true 5 (.t 1)⟩,⟨some 43,none,.call 9 [(.t 42)]⟩,⟨some 44,none,.call 11 [(.t 41),(.t 43)]⟩,⟨some 45,none,.un .not (.t 44)⟩]) (.cond (.t 45) (.seq (.reg [⟨some 2,none,.mv (.c (.bool false))⟩]) .ret) .skip)) (.seq (.reg [⟨some 9,none,.mv (.c (.int .i64 1))⟩]) (.seq (.reg [⟨some 46,none,.load true 5 (.t 6)⟩,⟨some 47,none,.mv (.t 9)⟩,⟨some 48,none,.call 12 [(.t 46),(.t 47)]⟩,⟨some 9,none,.mv (.t 48)⟩]) (.seq (.seq (.reg [⟨some 49,none,.mv (.t 9)⟩,⟨some 50,none,.bin .lss false (.t 49) (.c (.int .i64 0))⟩,⟨some 51,none,.mv (.t 50)⟩,⟨(some 52),(some (51,false)),(.load true 5 (.t 7))⟩,⟨(some 53),(some (51,false)),(.load true 5 (.t 4))⟩,⟨(some 54),(some (51,false)),(.call 11 [(.t 52),(.t 53)])⟩,⟨(some 55),(some (51,false)),(.un .not (.t 54))⟩,⟨some 56,none,.pick (.t 51) (.c (.bool true)) (.t 55)⟩,⟨some 57,none,.mv (.t 56)⟩,⟨(some 58),(some (57,false)),(.mv (.t 8))⟩,⟨(some 59),(some (57,false)),(.mv (.t 5))⟩,⟨(some 60),(some (57,false)),(.bin .neq true (.t 58) (.t 59))⟩,⟨some 61,none,.pick (.t 57) (.c (.bool true)) (.t 60)⟩]) (.cond (.t 61) (.seq (.reg [⟨some 2,none,.mv (.c (.bool false))⟩]) .ret) .skip)) (.seq (.reg [⟨some 10,none,.mv (.c (.int .i64 1))⟩]) (.seq (.reg [⟨some 62,none,.load true 5 (.t 7)⟩,⟨some 63,none,.mv (.t 10)⟩,⟨some 64,none,.call 12 [(.t 62),(.t 63)]⟩,⟨some 10,none,.mv (.t 64)⟩]) (.seq (.reg [⟨some 11,none,.mv (.c (.int .i64 1))⟩]) (.seq (.reg [⟨some 65,none,.load true 5 (.t 7)⟩,⟨some 66,none,.mv (.t 11)⟩,⟨some 67,none,.call 13 [(.t 65),(.t 66)]⟩,⟨some 11,none,.mv (.t 67)⟩]) (.seq (.seq (.reg [⟨some 68,none,.mv (.t 11)⟩,⟨some 69,none,.bin .lss false (.t 68) (.c (.int .i64 0))⟩]) (.cond (.t 69) (.seq (.reg [⟨some 2,none,.mv (.c (.bool false))⟩]) .ret) .skip)) (.seq (.seq (.reg [⟨some 70,none,.mv (.t 11)⟩,⟨some 71,none,.mv (.t 10)⟩,⟨some 72,none,.bin .neq false (.t 70) (.t 71)⟩]) (.cond (.t 72) (.seq (.reg [⟨some 2,none,.mv (.c (.bool false))⟩]) .ret) .skip)) (.seq (.reg [⟨some 74,none,.load true 5 (.t 1)⟩,⟨some 75,none,.call 9 [(.t 74)]⟩,⟨some 76,none,.call 10 [(.t 75)]⟩,⟨some 73,none,.mv (.t 76)⟩,⟨some 77,none,.ext (.t 73) 0⟩,⟨some 78,none,.ext (.t 73) 1⟩,⟨(some 12),none,(.alloc 34 [(.int .i64 0),(.str ⟨#[]⟩),.nil,(.str ⟨#[]⟩),.nil])⟩,⟨none,none,(.store 5 (.t 12) (.t 77))⟩,⟨some 13,none,.mv (.t 78)⟩]) (.seq (.seq (.reg [⟨some 79,none,.load true 5 (.t 12)⟩,⟨some 80,none,.load true 5 (.t 4)⟩,⟨some 81,none,.call 11 [(.t 79),(.t 80)]⟩,⟨some 82,none,.un .not (.t 81)⟩,⟨some 83,none,.mv (.t 82)⟩,⟨(some 84),(some (83,false)),(.mv (.t 13))⟩,⟨(some 85),(some (83,false)),(.mv (.t 5))⟩,⟨(some 86),(some (83,false)),(.bin .neq true (.t 84) (.t 85))⟩,⟨some 87,none,.pick (.t 83) (.c (.bool true)) (.t 86)⟩]) (.cond (.t 87) (.seq (.reg [⟨some 2,none,.mv (.c (.bool false))⟩]) .ret) .skip)) (.seq (.reg [⟨some 11,none,.mv (.c (.int .i64 1))⟩]) (.seq (.reg [⟨some 88,none,.load true 5 (.t 7)⟩,⟨some 89,none,.mv (.t 11)⟩,⟨some 90,none,.call 13 [(.t 88),(.t 89)]⟩,⟨some 11,none,.mv (.t 90)⟩]) (.seq (.seq (.reg [⟨some 91,none,.mv (.t 11)⟩,⟨some 92,none,.bin .lss false (.t 91) (.c (.int .i64 0))⟩]) (.cond (.t 92) (.seq (.reg [⟨some 2,none,.mv (.c (.bool false))⟩]) .ret) .skip)) (.seq (.seq (.reg [⟨some 93,none,.mv (.t 11)⟩,⟨some 94,none,.mv (.t 10)⟩,⟨some 95,none,.bin .neq false (.t 93) (.t 94)⟩]) (.cond (.t 95) (.seq (.reg [⟨some 2,none,.mv (.c (.bool false))⟩]) .ret) .skip)) (.seq (.reg [⟨some 2,none,.mv (.c (.bool true))⟩]) .ret)))))))))))))))))))))))))
theorem Cf:codeOf Tryz.prog 3=some ⟨96,Bw,[(.tmp 2)]⟩:=by kernel_rfl
theorem Cg:modes 3=⟨[],.asis,none,false⟩:=by unfold modes; rfl
theorem Fm.RL:Fm.zero.bulk=0:=by
 rw [Fm.bulk_eq]
 show Tm.zero.bulk+0+(0+Fm.sumB [])=_
 rw [Tm.bulk_eq,Fm.sumB]
 show (0+(0+Tm.sumB []))+0+0=_
 rw [Tm.sumB]
theorem Qh (x:Fm):(JD x).bulk≤1048576:=by
 unfold JD
 cases h:JC x with
 | false=>rw [cond_false,Fm.RL]; omega
 | true =>
  rw [cond_true]
  unfold JC at h
  rw [zK] at h
  have h2:=h.2
  unfold Fm.valid at h2
  rw [zK,decide_eq_true_eq] at h2
  have:=Fm.Lx _ h2.2
  omega
theorem UC (x:Fm) (hfx:D.fits x.d):E 3 [x.sv] []=some (.bool true,[]):=by
 have s0:=JG x hfx 1048576 (by omega) (by omega)
 have q0:=Ba 1048576 x.bulk
 obtain ⟨l0,hl0⟩:∃ l,l=szR 1048576 (x.bulk:Nat):=⟨_,rfl⟩
 rw [←hl0] at s0 q0
 rcases Int.lt_or_le l0 0 with h0 | h0_0
 ·refine Al Cf Cg (of_decide_eq_true rfl) ?_
  simp (disch:=omega) only [Bw,go_sem,Ac,s0,Be]
 have hb_x:x.bulk≤1048576:=by omega
 have t_x:=JH x hb_x
 obtain ⟨htx,hnx⟩:=Fm.MW x hb_x
 have a1:=Jc x htx (by omega)
 have a2:=Lv x htx (by omega)
 have hb_r:=Qh x
 obtain ⟨r,hr_r⟩:∃ r,r=JD x:=⟨_,rfl⟩
 rw [←hr_r] at a1 a2 hb_r
 obtain ⟨o,hr_o⟩:∃ r,r=JC x:=⟨_,rfl⟩
 rw [←hr_o] at a1 a2
 have eq_x:=Gt x (by omega)
 have be_x:=Fm.bulk_eq x
 have be_x_atom:=Tm.bulk_eq x.atom
 have w_x_atom_args:=Tm.wtS_bulk x.atom.args
 have w_x_parts:=Fm.wtS_bulk x.parts
 have eq_r:=Gt r (by omega)
 have be_r:=Fm.bulk_eq r
 have be_r_atom:=Tm.bulk_eq r.atom
 have w_r_atom_args:=Tm.wtS_bulk r.atom.args
 have w_r_parts:=Fm.wtS_bulk r.parts
 have k_x_0:=Tm.mkS_end x.atom.args (1)
 have k_x_1:=Fm.mkS_end x.parts ((Tm.mkS x.atom.args (1)).2)
 have m_x:=Hj x (1) (.row 31 2 (x.atom.args.map Tm.o)) (.row 34 5 (x.parts.map Fm.o)) (by omega) (by omega) rfl rfl
 obtain ⟨n_x,hn_x⟩:∃ n1,n1=(x.mkr (1)).2:=⟨_,rfl⟩
 have hn'_x:n_x=(Fm.mkS x.parts ((Tm.mkS x.atom.args (1)).2)).2:=hn_x
 rw [←hn_x] at m_x
 have k_r_0:=Tm.mkS_end r.atom.args (1)
 have k_r_1:=Fm.mkS_end r.parts ((Tm.mkS r.atom.args (1)).2)
 have m_r:=Hj r (1) (.row 31 2 (r.atom.args.map Tm.o)) (.row 34 5 (r.parts.map Fm.o)) (by omega) (by omega) rfl rfl
 have hd_r:=LP r (1) (by omega) (by omega)
 obtain ⟨n_r,hn_r⟩:∃ n1,n1=(r.mkr (1)).2:=⟨_,rfl⟩
 have hn'_r:n_r=(Fm.mkS r.parts ((Tm.mkS r.atom.args (1)).2)).2:=hn_r
 rw [←hn_r] at m_r hd_r
 refine Al Cf Cg (of_decide_eq_true rfl) ?_
 simp (disch:=omega) only [Bw,go_sem,s0,t_x,a1,a2,eq_x,eq_r,m_x,hd_r,m_r,C8,Be,Bo,Bp,Bu,Bv,AN,AM,Fm.osv,Fm.obs,Tm.osv,Tm.obs,Tm.erss,Tm.noss,Fm.erss,Fm.noss]
 repeat ((first | (refine Ax ?_ ?_; (focus (simp (disch:=omega) only [go_sem,s0,t_x,a1,a2,eq_x,eq_r,m_x,hd_r,m_r,C8,Be,Bo,Bp,Bu,Bv,AN,AM,Fm.osv,Fm.obs,Tm.osv,Tm.obs,Tm.erss,Tm.noss,Fm.erss,Fm.noss]; done))) | (refine Ay ?_ ?_; (focus (simp (disch:=omega) only [go_sem,s0,t_x,a1,a2,eq_x,eq_r,m_x,hd_r,m_r,C8,Be,Bo,Bp,Bu,Bv,AN,AM,Fm.osv,Fm.obs,Tm.osv,Tm.obs,Tm.erss,Tm.noss,Fm.erss,Fm.noss]; done)))); (try simp (disch:=omega) only [go_sem,s0,t_x,a1,a2,eq_x,eq_r,m_x,hd_r,m_r,C8,Be,Bo,Bp,Bu,Bv,AN,AM,Fm.osv,Fm.obs,Tm.osv,Tm.obs,Tm.erss,Tm.noss,Fm.erss,Fm.noss]))
end Go.Proofs.YtkjpmfmjebkkiaaGreat
set_option maxRecDepth 100000
set_option linter.unusedSimpArgs false
set_option linter.unusedVariables false
set_option linter.unusedSectionVars false
namespace Go.Proofs.YtkjpmfmjebkkiaaGreat
open Go.RowKit Go.ChangeShapes Go.WideShapes Go.ChangeAt Go.Deep
section
variable {H:Type} {enc:TypeId × Value→H} {P:Program} {w:World} {base:Nat} {spare:Nat→Bool} {held:Bool}
theorem Gu {b o k:Nat}:(⟨b,o,none⟩:Addr).add k=⟨b,o+k,none⟩:=by
 unfold Addr.add; split
 ·subst_vars; rfl
 ·rfl
theorem UD {a:Addr} {v:Value} (h:w.cell? a=some v):a.block<w.heap.size:=by
 unfold World.cell? at h
 cases hb:w.heap[a.block]? with
 | none=>rw [hb] at h; cases h
 | some o=>exact (zX.1 hb).1
end
section
variable {H:Type} {enc:TypeId × Value→H} {w:World} {base:Nat} {spare:Nat→Bool} {held:Bool}
end
end Go.Proofs.YtkjpmfmjebkkiaaGreat
set_option maxRecDepth 100000
set_option linter.unusedSimpArgs false
set_option linter.unusedVariables false
set_option linter.unusedSectionVars false
namespace Go.Proofs.YtkjpmfmjebkkiaaGreat
open Go.RowKit Go.ChangeShapes Go.WideShapes Go.ChangeAt Go.Deep
section
variable {H:Type} {enc:TypeId × Value→H} {P:Program} {w:World} {base:Nat} {spare:Nat→Bool} {held:Bool}
theorem Pf {t e:TypeId} {fuel:Nat} {v:Value} {x:DataW H × List MemPlace} (sz:Nat) (hsz:P.cellsOf e=sz) (h0:0<sz) (ht:P.underlying t=some (.slice e)) (h:DataW.trod enc P w base spare held fuel t [v]=some x) :
  ∃ (a:Option Addr) (len cap:Nat) (f:Nat→Nat→Value),v=.slice a len cap∧len≤cap∧cap≤9223372036854775807∧SlA w 0 sz len f a ∧
   ∀ i,i<len→∃ n x',n<fuel∧DataW.trod enc P w base spare held n e ((zT sz).map (f i))=some x':=by
 rcases DataW.trod_slice ht h with ⟨hcs,_⟩ | ⟨a,len,cap,elems,rest,n,hf,hcs,hx,hb,hl,hm,hlen,hel,_,_⟩
 ·simp only [List.cons.injEq,and_true] at hcs
  exact ⟨none,0,0,fun _ _=>undef,hcs,zR _,by omega,.inl rfl,fun i hi=>absurd hi (by omega)⟩
 ·have hi:∀ i,i<len→∃ cs' x',w.cells? base (a.add (i*sz)) sz=some cs'∧DataW.trod enc P w base spare held n e cs'=some x':=by
   intro i hi
   have h1:=hel i hi
   rw [hsz,zH (by omega)] at h1
   obtain ⟨cs',h2,h3⟩:=Option.bind_eq_some_iff.1 h1
   exact ⟨cs',_,h2,h3⟩
  have hcell:∀ i j,i<len→j<sz→∃ v,w.cell? (a.add (i*sz+j))=some v:=by
   intro i j hil hj
   obtain ⟨cs',x',hc,_⟩:=hi i hil
   obtain ⟨_,hcl,hat⟩:=World.cells?_some hc
   have h1:=hat j hj
   rw [Go.Deep.add_add,zH (by omega)] at h1
   exact ⟨_,h1⟩
  simp only [List.cons.injEq,and_true] at hcs
  refine ⟨some a,len,cap,fun i j=>(w.cell? (a.add (i*sz+j))).getD undef,hcs,hl,hm,?_,?_⟩
  ·rcases zI len with h | h
   ·exact .inl h
   ·obtain ⟨v,hv⟩:=hcell 0 0 h h0
    rw [Nat.zero_mul,Nat.zero_add] at hv
    have hsp:a.spot=none:=by simpa [Addr.add] using World.cell?_spot hv
    have hlt:=UD hv
    obtain ⟨b,off,spot⟩:=a
    simp only at hsp
    subst hsp
    refine .inr ⟨b,off,rfl,zG _,by simpa [Addr.add] using hlt,fun i j hil hj=>?_⟩
    obtain ⟨v',hv'⟩:=hcell i j hil hj
    rw [Gu] at hv'
    show _=some ((w.cell? ((⟨b,off,none⟩:Addr).add (i*sz+j))).getD undef)
    rw [Gu,Nat.add_assoc,hv']
    rfl
  ·intro i hil
   obtain ⟨cs',x',hc,ht'⟩:=hi i hil
   obtain ⟨_,hcl,hat⟩:=World.cells?_some hc
   refine ⟨n,x',by omega,?_⟩
   have hcs':(zT sz).map (fun j=>(w.cell? (a.add (i*sz+j))).getD undef)=cs':=by
    apply List.ext_getElem?
    intro j
    by_cases hj:j<sz
    ·rw [zP,List.getElem?_range hj]
     have h1:=hat j hj
     rw [Go.Deep.add_add] at h1
     rw [zH (by omega:j<cs'.length)] at h1 ⊢
     simp [h1]
    ·rw [List.getElem?_eq_none (by simp; omega),List.getElem?_eq_none (by omega)]
   rw [hcs']
   exact ht'
theorem Pg {t:TypeId} {fs:Array Field} {fuel:Nat} {cs:List Value} {x:DataW H × List MemPlace} (ht:P.underlying t=some (.struct fs)) (h:DataW.trod enc P w base spare held fuel t cs=some x) :
  ∃ n,n<fuel∧cs.length=P.cellsOf t∧∀ (i:Nat) (f:Field),fs[i]?=some f→∃ y,DataW.trod enc P w base spare held n f.type ((cs.drop f.offset).take (P.cellsOf f.type))=some y:=by
 obtain ⟨xs,n,hn,hx,hlen,hxl,hf⟩:=DataW.trod_struct ht h
 refine ⟨n,by omega,hlen,fun i f hi=>?_⟩
 have hil:i<fs.size:=(zX.1 hi).1
 have h1:=hf i f hi
 rw [zH (by omega:i<xs.length)] at h1
 exact ⟨_,h1⟩
end
inductive Lvs (w:World):List D→List Value→Prop
 |nil:Lvs w [] []
 |cons {d:D} {v:Value} {ds:List D} {vs:List Value} (h:DAt w d v) (hs:Lvs w ds vs):Lvs w (d :: ds) (v :: vs)
theorem Lvs.len {w:World} {ds:List D} {vs:List Value} (h:Lvs w ds vs):ds.length=vs.length:=by
 induction h with
 | nil=>rfl
 | cons h hs ih=>simp [ih]
theorem Lvs.get {w:World} {ds:List D} {vs:List Value} (h:Lvs w ds vs):∀ j (h1:j<ds.length) (h2:j<vs.length),DAt w ds[j] vs[j]:=by
 induction h with
 | nil=>intro j h1; simp at h1
 | cons h hs ih =>
  intro j h1 h2
  cases j with
  | zero=>exact h
  | succ j=>exact ih j (by simpa using h1) (by simpa using h2)
theorem Ph {α:Type} [Inhabited α] (dd:α→List D) {w:World} {m len cap:Nat} {f:Nat→Nat→Value} {a:Option Addr} (hl:len≤cap) (hm:cap≤9223372036854775807) (hS:SlA w 0 m len f a)
  (hel:∀ i,i<len→∃ X:α,Lvs w (dd X) ((zT m).map (f i))):∃ xs:List α,DAt w (.arr (xs.map dd)) (.slice a len cap):=by
 obtain ⟨g,hg⟩:∃ g:Nat→α,∀ i,i<len→Lvs w (dd (g i)) ((zT m).map (f i)) :=
  ⟨fun i=>if h:i<len then (hel i h).choose else default,fun i hi=>by simp only [hi,dif_pos]; exact (hel i hi).choose_spec⟩
 refine ⟨(zT len).map g,?_⟩
 have hlen:(((zT len).map g).map dd).length=len:=by simp
 have:=DAt.UJ (w:=w) (es:=((zT len).map g).map dd) (sz:=m) (cap:=cap) (a:=a) (f:=f) (by rw [hlen]; exact hl) hm (by rw [hlen]; exact hS) (fun i hi=>by
  rw [hlen] at hi
  have:=(hg i hi).len
  simpa using this) (fun i j hi hj=>by
  rw [hlen] at hi
  have h1:=hg i hi
  have h2:=h1.len
  simp only [zJ,List.length_range] at h2
  simp only [List.getElem_map,List.getElem_range] at hj ⊢
  have:=h1.get j hj (by simp; omega)
  simpa using this)
 rw [hlen] at this
 exact this
instance:Inhabited Tm:=⟨Tm.zero⟩
instance:Inhabited Fm:=⟨Fm.zero⟩
section
variable {H:Type} {enc:TypeId × Value→H} {w:World} {base:Nat} {spare:Nat→Bool} {held:Bool}
end
end Go.Proofs.YtkjpmfmjebkkiaaGreat
set_option maxRecDepth 100000
set_option linter.unusedSimpArgs false
set_option linter.unusedVariables false
set_option linter.unusedSectionVars false
namespace Go.Proofs.YtkjpmfmjebkkiaaGreat
open Go.RowKit
theorem DRep.lt_ {own:Bool} {w:World} {S:Nat→Prop} {d:D} {v:Value} (h:DRep own w S d v):DRep own w (fun b=>S b∧b<w.heap.size) d v:=by
 induction h with
 | int S n=>exact .int _ n
 | byte S n=>exact .byte _ n
 | bool S b=>exact .bool _ b
 | str S s h=>exact .str _ s h
 | arr S sz es a cap f Sub h1 h2 h3 h4 h5 h6 h7 ih =>
  refine .arr _ sz es a cap f (fun i j x=>Sub i j x∧x<w.heap.size) h1 h2 ?_ h4 (fun i j x h=>⟨h5 i j x h.1,h.2⟩) (fun ho i j i' j' x h h'=>h6 ho i j i' j' x h.1 h'.1) ih
  rcases h3 with h3 | ⟨b,off,ha,hS,hl,hc,ho⟩
  ·exact .inl h3
  ·exact .inr ⟨b,off,ha,⟨hS,hl⟩,hl,hc,fun h=>⟨fun i j hx=>(ho h).1 i j hx.1,(ho h).2⟩⟩
theorem Fun.yes {f:FuncId} {args:List SV} (h:Fun Tryz.prog f args [] (.bool true) []) {w:World} {vs:List Value} (hgl:GL w fun b=>b<w.heap.size) (hvs:RepVs w (fun b=>b<w.heap.size) (fun _=>none) args vs):Calls Tryz.prog f vs.toArray w (Ret w (.bool true)):=by
 have nl:∀ g,¬ (Am [] g).live:=fun g hg=>by simp [Am,Ob.live] at hg
 refine (h w (fun b=>b<w.heap.size) (fun _=>none) (fun _ _=>False) vs ⟨fun b hb=>hb,fun g hg=>absurd hg (nl g),fun g b hg=>absurd hg (nl g),fun g b hg=>absurd hg (nl g),fun g g' b hg=>absurd hg (nl g),fun g _=>rfl,hgl⟩ hvs).mono ?_
 rintro e w' ⟨v,I',V',B',rfl,hr,hp⟩
 simp only [RepV] at hr
 subst hr
 exact ⟨rfl,hp.fr.os,hp.fr.tape.1,hp.fr.output,hp.fr.size,fun b hb=>hp.fr.block b hb fun ⟨g,hg,_⟩=>absurd hg (nl g)⟩
theorem Pi {w:World} {d:D} {ds:List D} {v:Value} {vs:List Value} (h:Lvs w (d :: ds) (v :: vs)):DAt w d v∧Lvs w ds vs:=by
 cases h with
 | cons h1 h2=>exact ⟨h1,h2⟩
theorem DAt.rep_sv {w:World} {d:D} {v:Value} (h:DAt w d v):RepV w (fun b=>b<w.heap.size) (fun _=>none) d.sv v :=
 D.rep_sv ((DRep.lt_ h).up fun b hb=>hb.2)
theorem Lvs.reps {w:World} {ds:List D} {vs:List Value} (h:Lvs w ds vs):RepVs w (fun b=>b<w.heap.size) (fun _=>none) (ds.map D.sv) vs:=by
 induction h with
 | nil=>simp [RepVs]
 | cons h hs ih=>simp only [zQ,RepVs]; exact ⟨_,_,rfl,h.rep_sv,ih⟩
theorem Lvs.agg {w:World} {ds:List D} {vs:List Value} (h:Lvs w ds vs):RepV w (fun b=>b<w.heap.size) (fun _=>none) (.agg (ds.map D.sv)) (.agg vs.toArray):=by
 simp only [RepV]; exact ⟨vs,rfl,h.reps⟩
theorem Lvs.fits {w:World} {ds:List D} {vs:List Value} (h:Lvs w ds vs):D.fits ds:=by
 induction h with
 | nil=>trivial
 | cons h hs ih=>exact ⟨DRep.fit h,ih⟩
theorem T1 {w:World} {I:Nat→Prop} {V:Nat→Option Value}:RepVs w I V [] []:=by simp [RepVs]
theorem RN {w:World} {I:Nat→Prop} {V:Nat→Option Value} {x:SV} {xs:List SV} {v:Value} {vs:List Value} (h:RepV w I V x v) (hs:RepVs w I V xs vs):RepVs w I V (x :: xs) (v :: vs):=by
 simp only [RepVs]; exact ⟨v,vs,rfl,h,hs⟩
instance:Inhabited Lt:=⟨Lt.zero⟩
instance:Inhabited Cl:=⟨Cl.zero⟩
section
variable {H:Type} {enc:TypeId × Value→H} {w:World} {base:Nat} {spare:Nat→Bool} {held:Bool}
theorem JI {fuel:Nat} (ih:∀ n,n<fuel→∀ v x,DataW.trod enc Tryz.prog w base spare held n 22 [v]=some x→∃ xs:List Tm,DAt w (.arr (xs.map Tm.d)) v) {cs:List Value} {x:DataW H × List MemPlace} (h:DataW.trod enc Tryz.prog w base spare held fuel 24 cs=some x):∃ X:Tm,Lvs w X.d cs:=by
 obtain ⟨n,hn,hlen,hf⟩:=Pg Tryz.underlying24 h
 rw [show Tryz.prog.cellsOf 24=2 by kernel_rfl] at hlen
 match cs,hlen with
 | [c0,c1],_ =>
  obtain ⟨y0,k0⟩:=hf 0 _ rfl
  have e0:(([c0,c1].drop 0).take (Tryz.prog.cellsOf 9))=[c0]:=by rw [show Tryz.prog.cellsOf 9=1 by kernel_rfl]; rfl
  obtain ⟨z0,q0,_,s0⟩:=DataW.trod_string Tryz.underlying9 k0
  have q0':c0=.string z0:=by
   have:[c0]=[.string z0]:=by rw [←e0]; exact q0
   simpa using this
  obtain ⟨y1,k1⟩:=hf 1 _ rfl
  have e1:(([c0,c1].drop 1).take (Tryz.prog.cellsOf 22))=[c1]:=by rw [show Tryz.prog.cellsOf 22=1 by kernel_rfl]; rfl
  have k1':DataW.trod enc Tryz.prog w base spare held n 22 [c1]=some y1:=by rw [←e1]; exact k1
  obtain ⟨z1,g1⟩:=ih n hn c1 y1 k1'
  subst q0'
  exact ⟨.mk z0 z1,by rw [Tm.d_eq]; exact (.cons (.str _ z0 s0) (.cons g1 .nil))⟩
theorem LT:∀ (fuel:Nat) (v:Value) (x:DataW H × List MemPlace),DataW.trod enc Tryz.prog w base spare held fuel 22 [v]=some x→∃ xs:List Tm,DAt w (.arr (xs.map Tm.d)) v:=by
 intro fuel
 induction fuel using Nat.strongRecOn with
 | _ fuel ih =>
  intro v x h
  obtain ⟨a,len,cap,f,rfl,hl,hm,hS,hr⟩:=Pf (P:=Tryz.prog) 2 (by kernel_rfl) (by omega) Tryz.underlying22 h
  exact Ph Tm.d hl hm hS fun i hi=>by
   obtain ⟨n,x',hn,h1⟩:=hr i hi
   exact JI (fun n' hn'=>ih n' (by omega)) h1
theorem T2 {fuel:Nat} {cs:List Value} {x:DataW H × List MemPlace} (h:DataW.trod enc Tryz.prog w base spare held fuel 24 cs=some x):∃ X:Tm,Lvs w X.d cs :=
 JI (fun n _=>LT n) h
theorem Gv {fuel:Nat} (ih:∀ n,n<fuel→∀ v x,DataW.trod enc Tryz.prog w base spare held n 25 [v]=some x→∃ xs:List Fm,DAt w (.arr (xs.map Fm.d)) v) {cs:List Value} {x:DataW H × List MemPlace} (h:DataW.trod enc Tryz.prog w base spare held fuel 27 cs=some x):∃ X:Fm,Lvs w X.d cs:=by
 obtain ⟨n,hn,hlen,hf⟩:=Pg Tryz.underlying27 h
 rw [show Tryz.prog.cellsOf 27=5 by kernel_rfl] at hlen
 match cs,hlen with
 | [c0,c1,c2,c3,c4],_ =>
  obtain ⟨y0,k0⟩:=hf 0 _ rfl
  have e0:(([c0,c1,c2,c3,c4].drop 0).take (Tryz.prog.cellsOf 3))=[c0]:=by rw [show Tryz.prog.cellsOf 3=1 by kernel_rfl]; rfl
  obtain ⟨z0,q0,_,_⟩:=DataW.trod_int Tryz.underlying3 k0
  have q0':c0=.int .i64 z0:=by
   have:[c0]=[.int .i64 z0]:=by rw [←e0]; exact q0
   simpa using this
  obtain ⟨y1,k1⟩:=hf 1 _ rfl
  have e1:(([c0,c1,c2,c3,c4].drop 1).take (Tryz.prog.cellsOf 24))=[c1,c2]:=by rw [show Tryz.prog.cellsOf 24=2 by kernel_rfl]; rfl
  have k1':DataW.trod enc Tryz.prog w base spare held n 24 [c1,c2]=some y1:=by rw [←e1]; exact k1
  obtain ⟨z1,g1⟩:=T2 k1'
  rw [Tm.d_eq] at g1
  obtain ⟨g1_0,g1⟩:=Pi g1
  obtain ⟨g1_1,g1⟩:=Pi g1
  obtain ⟨y2,k2⟩:=hf 2 _ rfl
  have e2:(([c0,c1,c2,c3,c4].drop 3).take (Tryz.prog.cellsOf 9))=[c3]:=by rw [show Tryz.prog.cellsOf 9=1 by kernel_rfl]; rfl
  obtain ⟨z2,q2,_,s2⟩:=DataW.trod_string Tryz.underlying9 k2
  have q2':c3=.string z2:=by
   have:[c3]=[.string z2]:=by rw [←e2]; exact q2
   simpa using this
  obtain ⟨y3,k3⟩:=hf 3 _ rfl
  have e3:(([c0,c1,c2,c3,c4].drop 4).take (Tryz.prog.cellsOf 25))=[c4]:=by rw [show Tryz.prog.cellsOf 25=1 by kernel_rfl]; rfl
  have k3':DataW.trod enc Tryz.prog w base spare held n 25 [c4]=some y3:=by rw [←e3]; exact k3
  obtain ⟨z3,g3⟩:=ih n hn c4 y3 k3'
  subst q0' q2'
  exact ⟨.mk z0 z1 z2 z3,by rw [Fm.d_eq]; exact (.cons (.int _ z0) (.cons g1_0 (.cons g1_1 (.cons (.str _ z2 s2) (.cons g3 .nil)))))⟩
theorem Ji:∀ (fuel:Nat) (v:Value) (x:DataW H × List MemPlace),DataW.trod enc Tryz.prog w base spare held fuel 25 [v]=some x→∃ xs:List Fm,DAt w (.arr (xs.map Fm.d)) v:=by
 intro fuel
 induction fuel using Nat.strongRecOn with
 | _ fuel ih =>
  intro v x h
  obtain ⟨a,len,cap,f,rfl,hl,hm,hS,hr⟩:=Pf (P:=Tryz.prog) 5 (by kernel_rfl) (by omega) Tryz.underlying25 h
  exact Ph Fm.d hl hm hS fun i hi=>by
   obtain ⟨n,x',hn,h1⟩:=hr i hi
   exact Gv (fun n' hn'=>ih n' (by omega)) h1
theorem Pj {fuel:Nat} {cs:List Value} {x:DataW H × List MemPlace} (h:DataW.trod enc Tryz.prog w base spare held fuel 27 cs=some x):∃ X:Fm,Lvs w X.d cs :=
 Gv (fun n _=>Ji n) h
end
end Go.Proofs.YtkjpmfmjebkkiaaGreat
