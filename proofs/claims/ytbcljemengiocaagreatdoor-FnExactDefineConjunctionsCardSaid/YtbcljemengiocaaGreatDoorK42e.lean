/-
  Texts of this claim, one behind the other, each built on those ahead of it. No condition.
-/
import Derived.Test.YtbcljemengiocaaGreatDoorK42b
import Derived.Test.YtbcljemengiocaaGreatDoorK42c
import Derived.Test.YtbcljemengiocaaGreatDoorK42d
import Derived.ProofKit
import Derived.Deep.Slices
import Derived.Deep.Fields
import Derived.ChangeSame
import Derived.OpenShut
import Derived.ShutString
import Derived.ChangeOld
set_option maxHeartbeats 16000000
open Bool renaming and_eq_true → zA, false_and → zN, not_false → zO, and_true → zP, or_false → zR, not_true → zS, true_and → zT, and_false → zZ, true_or → yB, false_or → yC, or_eq_false_iff → yK, or_eq_true → yQ
open List renaming drop_eq_getElem_cons → zB, map_nil → zC, length_append → zD, eq_nil_of_length_eq_zero → zE, length_nil → zH, drop_eq_nil_of_le → zI, drop_zero → zJ, nil_append → zL, append_nil → zM, getElem_mem → zQ, length_cons → zV, length_map → zX, getElem?_eq_getElem → zY, map_cons → z7, append_assoc → z8, mem_append → yD, map_append → yE, mem_singleton → yF, range → yH, any_cons → yI, all_eq_true → yN, any_eq_true → yO
open Nat renaming lt_or_ge → zF, eq_zero_or_pos → zG, zero_le → zK, not_lt → z6, le_refl → yG, zero_add → yP, mul_le_mul → yU
open Int renaming natCast_add → zU, tdiv_eq_ediv_of_nonneg → zW, add_mul → yA, le_refl → yJ, toNat_zero → yL, natCast_mul → yR, mul_nonneg → yT
open Array renaming getElem?_eq_some_iff → yM
open ByteArray renaming size_append → yS
set_option maxRecDepth 100000
set_option linter.unusedSimpArgs false
set_option linter.unusedVariables false
set_option linter.unusedSectionVars false
namespace Go.Proofs.YtbcljemengiocaaGreatDoor
open Go.RowKit
def E4:SC:=(.seq (.reg [⟨some 4,none,.boxv 34 5 (.t 1)⟩,⟨some 6,none,.mv (.c .nil)⟩]) (.seq (.seq (.reg [⟨some 10,none,.faddr 0 (.t 4)⟩,⟨some 11,none,.load false 1 (.t 10)⟩,⟨some 12,none,.bin .eql false (.t 11) (.c (.int .i64 3))⟩]) (.cond (.t 12) (.seq (.reg [⟨some 13,none,.faddr 1 (.t 4)⟩,⟨some 14,none,.load true 2 (.t 13)⟩,⟨some 15,none,.call 85 [(.t 14)]⟩,⟨some 7,none,.mv (.t 15)⟩]) (.seq (.reg [⟨some 8,none,.mv (.c (.int .i64 0))⟩]) (.block 0 (.loop [1,0,1,0,1,0,0,1,1,0,0,0,0,0,0,0,0,0,0,0,0,0,0,0,0,0,0,0,0,0,0,0,0,0,0,0,0,0,0,0,0,0,0,0,0,0,0,0,0,0,0,0,0,0,0,0,0,0,0,0,0,0,0,0,0,0] (.seq (.seq (.reg [⟨some 16,none,.mv (.t 8)⟩,⟨some 17,none,.mv (.t 7)⟩,⟨some 18,none,.len false (.t 17)⟩,⟨some 19,none,.bin .lss false (.t 16) (.t 18)⟩]) (.cond (.t 19) .skip (.exit 0))) (.seq (.block 1 (.seq (.reg [⟨some 22,none,.mv (.t 2)⟩,⟨some 23,none,.mv (.t 7)⟩,⟨some 24,none,.mv (.t 8)⟩,⟨some 25,none,.iaddr 1 (.t 23) (.t 24)⟩,⟨some 26,none,.load false 1 (.t 25)⟩,⟨some 27,none,.call 66 [(.t 22),(.t 26)]⟩,⟨some 28,none,.un .not (.t 27)⟩]) (.cond (.t 28) (.reg [⟨some 29,none,.mv (.t 0)⟩,⟨some 30,none,.mv (.t 7)⟩,⟨some 31,none,.mv (.t 8)⟩,⟨some 32,none,.iaddr 1 (.t 30) (.t 31)⟩,⟨some 33,none,.load false 1 (.t 32)⟩,⟨some 34,none,.call 86 [(.t 29),(.t 33)]⟩,⟨some 0,none,.mv (.t 34)⟩]) .skip))) (.reg [⟨some 20,none,.mv (.t 8)⟩,⟨some 21,none,.bin .add false (.t 20) (.c (.int .i64 1))⟩,⟨some 8,none,.mv (.t 21)⟩]))))))) .skip)) (.seq (.seq (.reg [⟨some 35,none,.faddr 0 (.t 4)⟩,⟨some 36,none,.load false 1 (.t 35)⟩,⟨some 37,none,.bin .eql false (.t 36) (.c (.int .i64 8))⟩,⟨some 38,none,.mv (.t 37)⟩,⟨(some 39),(some (38,false)),(.faddr 0 (.t 4))⟩,⟨(some 40),(some (38,false)),(.load false 1 (.t 39))⟩,⟨(some 41),(some (38,false)),(.bin .eql false (.t 40) (.c (.int .i64 9)))⟩,⟨some 42,none,.pick (.t 38) (.c (.bool true)) (.t 41)⟩]) (.cond (.t 42) (.dreg [[],[],[0,1],[],[3],[4,3],[2,0,1,5,4,3],[6,2,0,1,5,4,3]] [⟨(some 43),none,(.mkrow 9 1 [(.str ⟨#[]⟩)] 0 [])⟩,⟨some 44,none,.mv (.t 2)⟩,⟨(some 45),none,(.append 9 1 16 [(.str ⟨#[]⟩)] (.t 43) (.t 44))⟩,⟨some 46,none,.faddr 3 (.t 4)⟩,⟨some 47,none,.load false 1 (.t 46)⟩,⟨(some 48),none,(.mkrow 9 1 [(.str ⟨#[]⟩)] 1 [(0,(.t 47))])⟩,⟨(some 49),none,(.append 9 1 16 [(.str ⟨#[]⟩)] (.t 45) (.t 48))⟩,⟨some 2,none,.mv (.t 49)⟩]) .skip)) (.seq (.seq (.reg [⟨some 9,none,.mv (.c (.int .i64 0))⟩]) (.block 2 (.loop [1,0,1,0,1,0,0,0,0,1,0,0,0,0,0,0,0,0,0,0,0,0,0,0,0,0,0,0,0,0,0,0,0,0,0,0,0,0,0,0,0,0,0,0,0,0,0,0,0,0,0,0,0,0,0,0,0,0,0,0,0,0,0,0,0,0] (.seq (.seq (.reg [⟨some 50,none,.mv (.t 9)⟩,⟨some 51,none,.faddr 4 (.t 4)⟩,⟨some 52,none,.load false 1 (.t 51)⟩,⟨some 53,none,.len false (.t 52)⟩,⟨some 54,none,.bin .lss false (.t 50) (.t 53)⟩]) (.cond (.t 54) .skip (.exit 2))) (.seq (.block 3 (.reg [⟨some 57,none,.mv (.t 0)⟩,⟨some 58,none,.faddr 4 (.t 4)⟩,⟨some 59,none,.load false 1 (.t 58)⟩,⟨some 60,none,.mv (.t 9)⟩,⟨some 61,none,.iaddr 5 (.t 59) (.t 60)⟩,⟨some 62,none,.load true 5 (.t 61)⟩,⟨some 63,none,.mv (.t 2)⟩,⟨some 64,none,.call 67 [(.t 57),(.t 62),(.t 63)]⟩,⟨some 0,none,.mv (.t 64)⟩])) (.reg [⟨some 55,none,.mv (.t 9)⟩,⟨some 56,none,.bin .add false (.t 55) (.c (.int .i64 1))⟩,⟨some 9,none,.mv (.t 56)⟩])))))) (.seq (.reg [⟨some 65,none,.mv (.t 0)⟩,⟨some 6,none,.mv (.t 65)⟩]) .ret)))))
theorem GC:Ap Tryz.prog 67=some ⟨66,E4,[(.tmp 6)]⟩:=by kernel_rfl
theorem Co:modes 67=⟨[true],.asis,none,false⟩:=by unfold modes; rfl
def GD:SC:=(.seq (.reg [⟨some 1,none,.boxv 34 5 (.t 0)⟩,⟨some 2,none,.mv (.c .nil)⟩]) (.seq (.reg [⟨(some 3),none,(.mkrow 9 1 [(.str ⟨#[]⟩)] 0 [])⟩,⟨some 4,none,.load true 5 (.t 1)⟩,⟨(some 5),none,(.mkrow 9 1 [(.str ⟨#[]⟩)] 0 [])⟩,⟨some 6,none,.call 67 [(.t 3),(.t 4),(.t 5)]⟩,⟨some 2,none,.mv (.t 6)⟩]) .ret))
theorem JJ:Ap Tryz.prog 45=some ⟨7,GD,[(.tmp 2)]⟩:=by kernel_rfl
theorem E5:modes 45=⟨[],.asis,none,false⟩:=by unfold modes; rfl
theorem SS (b acc:List ByteArray) (n:ByteArray) (ns:List ByteArray):BJ acc ((n :: ns).filter fun m=>!dec (m∈b))=BJ (bif dec (n∈b) then acc else Ck acc n) (ns.filter fun m=>!dec (m∈b)):=by
 rw [List.filter_cons]
 cases dec (n∈b) with
 | true=>rfl
 | false=>rfl
abbrev ZA (x:Fm):Prop:=∀ l b:List ByteArray,l.length+x.vn≤1048576→b.length+x.nodes≤1048576→E 67 [.ref 0,x.sv,.arr (b.map fun s=>[D.str s])] [.row 9 1 (l.map fun s=>[OT.str s])]=some ((bif dec (l.length<(BJ l (x.fv b)).length) then .ref 1 else .ref 0),(bif dec (l.length<(BJ l (x.fv b)).length) then [.gone,.row 9 1 ((BJ l (x.fv b)).map fun s=>[OT.str s])] else [.row 9 1 ((BJ l (x.fv b)).map fun s=>[OT.str s])]))
theorem W0 (x:Fm) (h3:x.op=3→x.parts=[]) (h89:qB x.op=true→x.parts.length=1) (ih:∀ y∈x.parts,ZA y):ZA x:=by
  intro l b hn hb
  have hvn:=Fm.DE x
  have hnd:=Fm.nodes_eq x
  have hpl:=Fm.length_le x.parts
  have hfv:=Fm.S5 x b
  have hgl:dec (l.length < l.length)=false:=Aj (by omega)
  have hxs:x.sv=.agg [.int .i64 x.op,.str x.atom.name,.arr (x.atom.args.map Tm.d),.str x.var,.arr (x.parts.map Fm.d)]:=rfl
  have has:x.atom.sv=.agg [.str x.atom.name,.arr (x.atom.args.map Tm.d)]:=rfl
  cases ho:dec (x.op=3) with
  | true =>
    rw [ho] at hfv
    simp only [cond_true] at hfv
    have ho3:=Ar.1 ho
    have hp0:=h3 ho3
    have o8:dec (x.op=8)=false:=Aj (by omega)
    have o9:dec (x.op=9)=false:=Aj (by omega)
    have hv:=X7 x.atom (by omega)
    have hil:=EE x.atom.vs []
    have hvl:=Tm.LL x.atom
    simp only [zH] at hil
    obtain ⟨ns,hns⟩:∃ ns,ns=BJ [] x.atom.vs:=⟨_,rfl⟩
    rw [←hns] at hv hfv hil
    rw [hfv]
    refine Ai GC Co (of_decide_eq_true rfl) ?_
    simp (disch:=omega) only [E4,go_sem,Ab,ho,hv,G6]
    refine go_loop (α:=Int × (List ByteArray)) (fun a=>⟨slots 66 0 [(0,(bif dec (l.length < (a.2).length) then .ref 1 else .ref 0)),(2,.arr (b.map fun s=>[D.str s])),(4,(bif dec (l.length < (a.2).length) then .ptr 2 0 else .ptr 1 0)),(7,.arr (ns.map fun s=>[D.str s])),(8,.int .i64 (a.1))],(bif dec (l.length < (a.2).length) then [.gone,.row 9 1 ((a.2).map fun s=>[OT.str s]),.box 34 [.int .i64 x.op,.str x.atom.name,.arr (x.atom.args.map Tm.d),.str x.var,.arr (x.parts.map Fm.d)]] else [.row 9 1 ((a.2).map fun s=>[OT.str s]),.box 34 [.int .i64 x.op,.str x.atom.name,.arr (x.atom.args.map Tm.d),.str x.var,.arr (x.parts.map Fm.d)]])⟩) (fun a=>∃ k:Nat,a.1=k∧k≤(ns).length∧BJ (a.2) ((ns.drop k).filter fun m=>!dec (m∈b))=BJ l (ns.filter fun m=>!dec (m∈b))∧(a.2).length+(ns.length - k)≤1048576∧l.length≤(a.2).length) (fun a=>(ns).length - (a.1).toNat) (0,l) ⟨0,rfl,zK _,by rw [zJ],by dsimp only; omega,yG _⟩ (by simp (disch:=omega) only [go_sem,Ab,hgl]) ?_
    rintro ⟨i,acc⟩ ⟨k,hi,hk,hR⟩
    dsimp only at hi hR
    have hni:i.toNat=k:=by omega
    have hni1:(i+1).toNat=k+1:=by omega
    rcases zF k (ns).length with hlt | hge
    · have hg:=get_at (fun s=>[D.str s]) hlt
      obtain ⟨hR1,hR2,hR3⟩:=hR
      rw [zB hlt,SS] at hR1
      have c1:=XV b ns[k] (by omega)
      cases hq:dec (ns[k]∈b) with
      | true =>
        rw [hq] at c1 hR1
        simp only [cond_true] at hR1
        rcases zF l.length acc.length with q1 | q1
        all_goals
          first
            | have d1:=Ao q1
            | have d1:=Aj (z6.2 q1)
          simp (disch:=omega) only [go_sem,Ab,hni,hg,c1,d1,EH]
          refine ⟨(i+1,acc),⟨k+1,by dsimp only; omega,hlt,hR1,by dsimp only; omega,by dsimp only; omega⟩,by dsimp only; omega,?_⟩
          first | done | simp (disch:=omega) only [go_sem,Ab,d1]
      | false =>
        rw [hq] at c1 hR1
        simp only [cond_false] at hR1
        have c2:=S2 acc ns[k] (by omega)
        have hul:=On acc ns[k]
        have hug:=Qa acc ns[k]
        obtain ⟨acc2,ha2⟩:∃ a,a=Ck acc ns[k]:=⟨_,rfl⟩
        rw [←ha2] at c2 hul hug hR1
        rcases zF l.length acc.length with q1 | q1 <;> rcases zF acc.length acc2.length with q2 | q2
        all_goals
          first
            | rw [Ao q2] at c2
            | rw [Aj (z6.2 q2)] at c2
          simp only [cond_true,cond_false] at c2
          first
            | have d1:=Ao q1
            | have d1:=Aj (z6.2 q1)
          first
            | have d2:dec (l.length < acc2.length)=true:=Ao (by omega)
            | have d2:dec (l.length < acc2.length)=false:=Aj (by omega)
          simp (disch:=omega) only [go_sem,Ab,hni,hg,c1,c2,d1,EH,CB]
          refine ⟨(i+1,acc2),⟨k+1,by dsimp only; omega,hlt,hR1,by dsimp only; omega,by dsimp only; omega⟩,by dsimp only; omega,?_⟩
          first
            | done
            | (simp (disch:=omega) only [go_sem,Ab,d2]; done)
            | (have e2:acc2=acc:=by rw [ha2]; exact Qb (by rw [←ha2]; exact q2)
               simp (disch:=omega) only [go_sem,Ab,d2]
               rw [e2])
    · rw [zI hge] at hR
      obtain ⟨hR1,hR2,hR3⟩:=hR
      have hR1:acc=_:=hR1
      rw [←hR1]
      rcases zF l.length acc.length with q1 | q1
      all_goals
        first
          | have d1:=Ao q1
          | have d1:=Aj (z6.2 q1)
        simp (disch:=omega) only [go_sem,Ab,hni,d1,o8,o9]
        clear hi hni hni1 hk hge
        refine go_loop (α:=Int) (fun a=>⟨slots 66 0 [(0,(bif dec (l.length < acc.length) then .ref 1 else .ref 0)),(2,.arr (b.map fun s=>[D.str s])),(4,(bif dec (l.length < acc.length) then .ptr 2 0 else .ptr 1 0)),(9,.int .i64 a)],(bif dec (l.length < acc.length) then [.gone,.row 9 1 (acc.map fun s=>[OT.str s]),.box 34 [.int .i64 x.op,.str x.atom.name,.arr (x.atom.args.map Tm.d),.str x.var,.arr (x.parts.map Fm.d)]] else [.row 9 1 (acc.map fun s=>[OT.str s]),.box 34 [.int .i64 x.op,.str x.atom.name,.arr (x.atom.args.map Tm.d),.str x.var,.arr (x.parts.map Fm.d)]])⟩) (fun a=>∃ k:Nat,a=k∧k≤(x.parts).length) (fun a=>(x.parts).length - (a).toNat) 0 ⟨0,rfl,zK _⟩ (by simp (disch:=omega) only [go_sem,Ab,d1]) ?_
        rintro i ⟨k,hi,hk⟩
        have hni:i.toNat=k:=by omega
        have hni1:(i+1).toNat=k+1:=by omega
        rcases zF k (x.parts).length with hlt | hge
        · rw [hp0] at hlt
          simp at hlt
        · simp (disch:=omega) only [go_sem,Ab,hni,d1]
  | false =>
    rw [ho] at hfv
    simp only [cond_false] at hfv
    cases o8:dec (x.op=8) <;> cases o9:dec (x.op=9)
    all_goals
      have hq:qB x.op=(dec (x.op=8) || dec (x.op=9)):=rfl
      rw [o8,o9] at hq
      simp only [Bool.or_self,Bool.or_true,zR,yB,yC] at hq
      rw [hq] at hfv
      simp only [cond_true,cond_false] at hfv
      rw [hfv]
    · obtain ⟨b',hb'⟩:∃ b',b'=b:=⟨_,rfl⟩
      have hbl:b'.length≤b.length+1:=by rw [hb']; omega
      rw [←hb']
      refine Ai GC Co (of_decide_eq_true rfl) ?_
      simp (disch:=omega) only [E4,go_sem,Ab,ho,o8,o9]
      refine go_loop (α:=Int × (List ByteArray)) (fun a=>⟨slots 66 0 [(0,(bif dec (l.length < (a.2).length) then .ref 1 else .ref 0)),(2,.arr (b'.map fun s=>[D.str s])),(4,(bif dec (l.length < (a.2).length) then .ptr 2 0 else .ptr 1 0)),(9,.int .i64 (a.1))],(bif dec (l.length < (a.2).length) then [.gone,.row 9 1 ((a.2).map fun s=>[OT.str s]),.box 34 [.int .i64 x.op,.str x.atom.name,.arr (x.atom.args.map Tm.d),.str x.var,.arr (x.parts.map Fm.d)]] else [.row 9 1 ((a.2).map fun s=>[OT.str s]),.box 34 [.int .i64 x.op,.str x.atom.name,.arr (x.atom.args.map Tm.d),.str x.var,.arr (x.parts.map Fm.d)]])⟩) (fun a=>∃ k:Nat,a.1=k∧k≤(x.parts).length∧BJ (a.2) (Fm.fvL (x.parts.drop k) b')=BJ l (Fm.fvL x.parts b')∧(a.2).length+Fm.vnS (x.parts.drop k)≤1048576∧l.length≤(a.2).length) (fun a=>(x.parts).length - (a.1).toNat) (0,l) ⟨0,rfl,zK _,by rw [zJ],by rw [zJ]; dsimp only; omega,yG _⟩ (by simp (disch:=omega) only [go_sem,Ab,hgl]) ?_
      rintro ⟨i,acc⟩ ⟨k,hi,hk,hR⟩
      dsimp only at hi hR
      have hni:i.toNat=k:=by omega
      have hni1:(i+1).toNat=k+1:=by omega
      rcases zF k (x.parts).length with hlt | hge
      · have hg:=get_at Fm.d hlt
        rw [Fm.d_eq] at hg
        obtain ⟨hR1,hR2,hR3⟩:=hR
        rw [zB hlt,Fm.fvL,Oo] at hR1
        rw [zB hlt,Fm.vnS] at hR2
        have hnm:=Fm.nodes_le x.parts k hlt
        have hc:=ih x.parts[k] (zQ hlt) acc b' (by omega) (by omega)
        have hlen:=EE (x.parts[k].fv b') acc
        have hgr:=Jn (x.parts[k].fv b') acc
        have hvl:=Fm.Ou x.parts[k] b'
        obtain ⟨acc2,ha2⟩:∃ a,a=BJ acc (x.parts[k].fv b'):=⟨_,rfl⟩
        rw [←ha2] at hc hlen hgr hR1
        rcases zF l.length acc.length with q1 | q1 <;> rcases zF acc.length acc2.length with q2 | q2
        all_goals
          first
            | rw [Ao q2] at hc
            | rw [Aj (z6.2 q2)] at hc
          simp only [cond_true,cond_false] at hc
          first
            | have d1:=Ao q1
            | have d1:=Aj (z6.2 q1)
          first
            | have d2:dec (l.length < acc2.length)=true:=Ao (by omega)
            | have d2:dec (l.length < acc2.length)=false:=Aj (by omega)
          simp (disch:=omega) only [go_sem,Ab,hni,hg,hc,d1,EW,Co]
          refine ⟨(i+1,acc2),⟨k+1,by dsimp only; omega,hlt,hR1,by dsimp only; omega,by dsimp only; omega⟩,by dsimp only; omega,?_⟩
          first | done | simp (disch:=omega) only [go_sem,Ab,d2]
      · rw [zI hge,Fm.fvL] at hR
        obtain ⟨hR1,hR2,hR3⟩:=hR
        have hR1:acc=_:=hR1
        rw [←hR1]
        rcases zF l.length acc.length with q1 | q1
        · have d1:=Ao q1
          simp (disch:=omega) only [go_sem,Ab,hni,d1]
        · have d1:=Aj (z6.2 q1)
          simp (disch:=omega) only [go_sem,Ab,hni,d1]
    all_goals
      have hbm:((b.map fun s=>[D.str s]).map fun x=>x.map D.ot)=b.map fun s=>[OT.str s]:=by rw [List.map_map]; rfl
      have hal:=S1 b
      have hal2:=Rf b
      have hl1:(b.map fun s=>[OT.str s])++[[OT.str x.var]]=(b++[x.var]).map fun s=>[OT.str s]:=by simp
      obtain ⟨b',hb'⟩:∃ b',b'=b++[x.var]:=⟨_,rfl⟩
      have hbl:b'.length≤b.length+1:=by rw [hb']; simp
      rw [←hb'] at hl1
      rw [←hb']
      refine Ai GC Co (of_decide_eq_true rfl) ?_
      simp (disch:=omega) only [E4,go_sem,Ab,ho,o8,o9,hbm,hal,hal2,hl1,zL]
      refine go_loop (α:=Int × (List ByteArray)) (fun a=>⟨slots 66 0 [(0,(bif dec (l.length < (a.2).length) then .ref 1 else .ref 0)),(2,(bif dec (l.length < (a.2).length) then .ref 2 else .ref 1)),(4,(bif dec (l.length < (a.2).length) then .ptr 3 0 else .ptr 2 0)),(9,.int .i64 (a.1))],(bif dec (l.length < (a.2).length) then [.gone,.row 9 1 ((a.2).map fun s=>[OT.str s]),.row 9 1 (b'.map fun s=>[OT.str s]),.box 34 [.int .i64 x.op,.str x.atom.name,.arr (x.atom.args.map Tm.d),.str x.var,.arr (x.parts.map Fm.d)]] else [.row 9 1 ((a.2).map fun s=>[OT.str s]),.row 9 1 (b'.map fun s=>[OT.str s]),.box 34 [.int .i64 x.op,.str x.atom.name,.arr (x.atom.args.map Tm.d),.str x.var,.arr (x.parts.map Fm.d)]])⟩) (fun a=>∃ k:Nat,a.1=k∧k≤(x.parts).length∧BJ (a.2) (Fm.fvL (x.parts.drop k) b')=BJ l (Fm.fvL x.parts b')∧(a.2).length+Fm.vnS (x.parts.drop k)≤1048576∧l.length≤(a.2).length) (fun a=>(x.parts).length - (a.1).toNat) (0,l) ⟨0,rfl,zK _,by rw [zJ],by rw [zJ]; dsimp only; omega,yG _⟩ (by simp (disch:=omega) only [go_sem,Ab,hgl]) ?_
      rintro ⟨i,acc⟩ ⟨k,hi,hk,hR⟩
      dsimp only at hi hR
      have hni:i.toNat=k:=by omega
      have hni1:(i+1).toNat=k+1:=by omega
      rcases zF k (x.parts).length with hlt | hge
      · have hg:=get_at Fm.d hlt
        rw [Fm.d_eq] at hg
        obtain ⟨hR1,hR2,hR3⟩:=hR
        rw [zB hlt,Fm.fvL,Oo] at hR1
        rw [zB hlt,Fm.vnS] at hR2
        have hnm:=Fm.nodes_le x.parts k hlt
        have hc:=ih x.parts[k] (zQ hlt) acc b' (by omega) (by omega)
        have hlen:=EE (x.parts[k].fv b') acc
        have hgr:=Jn (x.parts[k].fv b') acc
        have hvl:=Fm.Ou x.parts[k] b'
        obtain ⟨acc2,ha2⟩:∃ a,a=BJ acc (x.parts[k].fv b'):=⟨_,rfl⟩
        rw [←ha2] at hc hlen hgr hR1
        rcases zF l.length acc.length with q1 | q1 <;> rcases zF acc.length acc2.length with q2 | q2
        all_goals
          first
            | rw [Ao q2] at hc
            | rw [Aj (z6.2 q2)] at hc
          simp only [cond_true,cond_false] at hc
          first
            | have d1:=Ao q1
            | have d1:=Aj (z6.2 q1)
          first
            | have d2:dec (l.length < acc2.length)=true:=Ao (by omega)
            | have d2:dec (l.length < acc2.length)=false:=Aj (by omega)
          simp (disch:=omega) only [go_sem,Ab,hni,hg,hc,d1,EW,Co]
          refine ⟨(i+1,acc2),⟨k+1,by dsimp only; omega,hlt,hR1,by dsimp only; omega,by dsimp only; omega⟩,by dsimp only; omega,?_⟩
          first | done | simp (disch:=omega) only [go_sem,Ab,d2]
      · rw [zI hge,Fm.fvL] at hR
        obtain ⟨hR1,hR2,hR3⟩:=hR
        have hR1:acc=_:=hR1
        rw [←hR1]
        rcases zF l.length acc.length with q1 | q1
        · have d1:=Ao q1
          simp (disch:=omega) only [go_sem,Ab,hni,d1]
        · have d1:=Aj (z6.2 q1)
          simp (disch:=omega) only [go_sem,Ab,hni,d1]
theorem Tm.VC (x:Tm):∀ m∈x.vs,Ba m=true:=by
 have ih:∀ y∈x.args,∀ m∈y.vs,Ba m=true:=fun y hy=>Tm.VC y
 intro m hm
 rw [Tm.Vw] at hm
 cases hv:Ba x.name with
 | true =>
  rw [hv,cond_true,yF] at hm
  rw [hm]; exact hv
 | false =>
  rw [hv,cond_false] at hm
  obtain ⟨y,hy,h⟩:=Tm.Vx.1 hm
  exact ih y hy m h
termination_by SizeOf.sizeOf x
decreasing_by exact Tm.lt_of_mem hy
theorem Fm.XW (x:Fm):∀ b,∀ m∈x.fv b,Ba m=true:=by
 have ih:∀ y∈x.parts,∀ b,∀ m∈y.fv b,Ba m=true:=fun y hy=>Fm.XW y
 intro b m hm
 rw [Fm.S5] at hm
 cases h3:dec (x.op=3) with
 | true =>
  rw [h3,cond_true,List.mem_filter] at hm
  exact Tm.VC _ m ((F4.1 hm.1).elim (fun h=>by cases h) id)
 | false =>
  rw [h3,cond_false] at hm
  obtain ⟨y,hy,h⟩:=Fm.Rg.1 hm
  exact ih y hy _ m h
termination_by SizeOf.sizeOf x
decreasing_by exact Fm.lt_of_mem hy
theorem Fm.OD (x:Fm):∀ m∈x.free,Ba m=true:=fun m hm=>Fm.XW x [] m ((Fm.XA x m).1 hm)
theorem Fm.OE (x:Fm):x.free.length≤x.vn:=by
 have h2:=EE (x.fv []) []
 have h3:=Fm.Ou x []
 simp only [zH] at h2
 show (BJ [] (x.fv [])).length≤_
 omega
theorem Qn (n:Int):0<(pre AY n).size:=by unfold pre; rw [yS]; show 0<1+_; omega
theorem Md (n:Int):Fu (pre AY n) 0=100:=by
 unfold Fu pre
 rw [ByteArray.toList_eq,ByteArray.data_append,Array.toList_append]
 rfl
theorem U6 (n:Int):Ba (pre AY n)=false:=by
 cases h:Ba (pre AY n) with
 | false=>rfl
 | true =>
  unfold Ba at h
  rw [zA] at h
  have h0:=F3 h.1 (Qn n)
  unfold GS L1 at h0
  rw [Md] at h0
  simp at h0
theorem U7 (n:Int):HI (pre AY n)=true:=LK (Qn n) (by unfold L1; rw [Md]; rfl)
theorem XX {l:List ByteArray} {y:Tm} (h:y∈vT l):∃ v∈l,y=.mk v []:=by
 obtain ⟨v,hv,rfl⟩:=List.mem_map.1 h
 exact ⟨v,hv,rfl⟩
theorem Jq {v:ByteArray} (h:Ba v=true):(Tm.mk v []).names=true:=by
 rw [Tm.Fx]
 show (if Ba v=true then ([]:List Tm).length == 0 else _)=true
 rw [if_pos h]; rfl
theorem XY:∀ {l:List ByteArray},(∀ v∈l,Ba v=true)→Tm.Oh (vT l)=true
 | [],_=>rfl
 | v :: l,h=>by
  show Tm.Oh (.mk v [] :: vT l)=true
  rw [Tm.Oh,Tm.GX _ (Jq (h v (by simp))),XY fun w hw=>h w (by simp [hw])]
  rfl
theorem ZB (n:Int) (vs:List ByteArray) (hv:∀ v∈vs,Ba v=true):LM ⟨pre AY n,vT vs⟩:=by
 refine Kg _ (fun h=>?_) ?_ fun y hy=>?_
 ·rw [show (Tm.mk (pre AY n) (vT vs)).name=pre AY n from rfl,U6] at h
  cases h
 ·rw [Tm.Rd]
  show (HI (pre AY n)&&Tm.Oh (vT vs))=true
  rw [U7,XY hv]; rfl
 ·obtain ⟨v,h,rfl⟩:=XX hy
  exact LN _ (Jq (hv v h)) (Tm.GX _ (Jq (hv v h)))
theorem Qaw:qB 3=false:=by unfold qB; rw [Aj (by decide),Aj (by decide)]; rfl
theorem Fm.ZC (a:Tm):(Fm.at a).noq=true:=by
 rw [Fm.Mc]
 show (!qB 3&&([]:List Fm).all Fm.noq)=true
 rw [Qaw]; rfl
theorem Fm.ZD (a:Tm):(Fm.at a).ats=[a]:=by
 rw [Fm.Kn]
 show (bif dec ((3:Int)=3) then [a] else _)=_
 rw [Ao rfl]; rfl
theorem Fm.Qak (a:Tm):(Fm.at a).vn=a.nodes:=by
 rw [Fm.DE]
 show a.nodes+Fm.vnS []=_
 rw [Fm.vnS]; rfl
theorem Fm.XZ (a:Tm):(Fm.at a).nodes=1:=by
 rw [Fm.nodes_eq]
 show 1+Fm.nodeS []=1
 rw [Fm.nodeS]
structure DInv (K:Nat) (nd:Nat) (vn:Nat) (yn yv:Nat) (yq:Bool) (ya:List Tm) (c c2:Int) (ds:List Df) (skip:Prop):Prop where
 noq:yq=true
 vn:yv≤vn
 nodes:yn≤nd
 good:¬ skip→∀ a∈ya,LM a
 c0:c≤c2
 c1:c2≤c+(nd:Int)*(K:Nat)
 ds:ds.length≤nd
theorem U8 {y:Fm} (h3:¬ y.op=3) (hq:qB y.op=false):y.free.length≤Fm.vnS y.parts:=by
 have h1:=EE (y.fv []) []
 have h2:(y.fv []).length≤Fm.vnS y.parts:=by
  rw [Fm.S5,Aj h3,cond_false,hq,cond_false]
  exact Fm.Rh [] y.parts fun x _=>Fm.Ou x []
 simp only [zH] at h1
 show (BJ [] (y.fv [])).length≤_
 omega
mutual
theorem Gs (tk:List ByteArray):∀ (x:Fm),x.noq=true→∀ (skip:Prop),(¬ skip→∀ a∈x.ats,LM a)→∀ (io:Bool) (c:Int),DInv (tk.length+2) x.nodes x.vn (x.dfn tk io c).1.nodes (x.dfn tk io c).1.vn (x.dfn tk io c).1.noq (x.dfn tk io c).1.ats c (x.dfn tk io c).2.1 (x.dfn tk io c).2.2 skip
 | .mk op atom var parts,hq,skip,hg,io,c=>by
  rw [Fm.noq,zA] at hq
  obtain ⟨hq1,hq2⟩:=hq
  have hqb:qB op=false:=by simpa using hq1
  rw [Fm.dfn]
  unfold K7
  have hnd:(Fm.mk op atom var parts).nodes=1+Fm.nodeS parts:=Fm.nodes_eq _
  have hvn:(Fm.mk op atom var parts).vn=atom.nodes+Fm.vnS parts:=Fm.DE _
  have hap:=Tm.nodes_pos atom
  have ih:=IQ tk parts hq2 (skip∨op=3) (fun h a ha=>hg (fun k=>h (.inl k)) a (by
   rw [Fm.ats,Aj (fun k=>h (.inr k)),cond_false]; exact ha)) (dec (op=6)) c
  obtain ⟨r,hr⟩:∃ r,r=Fm.B7 tk parts (dec (op=6)) c:=⟨_,rfl⟩
  rw [←hr] at ih ⊢
  obtain ⟨i1,i2,i3,i4,i5,i6,i7⟩:=ih
  rw [hnd,hvn]
  have hyq:(Fm.mk op atom var r.1).noq=true:=by rw [Fm.noq,hqb,i1]; rfl
  have hyv:(Fm.mk op atom var r.1).vn=atom.nodes+Fm.vnS r.1:=Fm.DE _
  have hyn:(Fm.mk op atom var r.1).nodes=1+Fm.nodeS r.1:=Fm.nodes_eq _
  have hK:((1+Fm.nodeS parts:Nat):Int)*((tk.length+2:Nat):Int)=(tk.length+2:Nat)+(Fm.nodeS parts:Int)*((tk.length+2:Nat):Int):=by rw [zU,yA]; simp
  cases hc:io&&dec ((Fm.mk op atom var r.1).op=5) with
  | false =>
   rw [cond_false]
   dsimp only
   refine ⟨hyq,by rw [hyv]; omega,by rw [hyn]; omega,fun hs a ha=>?_,i5,by rw [hK]; omega,by omega⟩
   by_cases h3:op=3
   ·refine hg hs a ?_
    rw [Fm.ats,Ao h3,cond_true] at ha ⊢
    exact ha
   ·rw [Fm.ats,Aj h3,cond_false] at ha
    exact i4 (fun h=>by rcases h with h | h; exact hs h; exact h3 h) a ha
  | true =>
   rw [zA] at hc
   have h5:op=5:=Ar.1 hc.2
   have hfl:=U8 (y:=Fm.mk op atom var r.1) (show ¬ op=3 by omega) hqb
   have hfr:=CY AY tk r.2.1
   have hfl:(Fm.mk op atom var r.1).free.length≤Fm.vnS r.1:=hfl
   rw [cond_true]
   dsimp only
   refine ⟨Fm.ZC _,?_,?_,fun hs a ha=>?_,?_,?_,?_⟩
   ·rw [Fm.Qak,Tm.nodes_eq]
    show 1+Tm.nodeS (vT _)≤_
    rw [SG]; omega
   ·rw [Fm.XZ]; omega
   ·rw [Fm.ZD,yF] at ha
    rw [ha]
    exact ZB _ _ fun v hv=>Fm.OD _ v hv
   ·omega
   ·rw [hK]; omega
   ·rw [zD,List.length_singleton]; omega
theorem IQ (tk:List ByteArray):∀ (xs:List Fm),Fm.MQ xs=true→∀ (skip:Prop),(¬ skip→∀ a∈Fm.GB xs,LM a)→∀ (io:Bool) (c:Int),Fm.MQ (Fm.B7 tk xs io c).1=true∧Fm.vnS (Fm.B7 tk xs io c).1≤Fm.vnS xs∧Fm.nodeS (Fm.B7 tk xs io c).1≤Fm.nodeS xs∧(¬ skip→∀ a∈Fm.GB (Fm.B7 tk xs io c).1,LM a)∧c≤(Fm.B7 tk xs io c).2.1∧(Fm.B7 tk xs io c).2.1≤c+(Fm.nodeS xs:Int)*((tk.length+2:Nat):Int)∧(Fm.B7 tk xs io c).2.2.length≤Fm.nodeS xs
 | [],hq,skip,hg,io,c=>by
  rw [Fm.B7]
  dsimp only
  refine ⟨rfl,yG _,yG _,fun _ a ha=>(by cases ha),yJ _,?_,zK _⟩
  rw [show Fm.nodeS []=0 from rfl]; simp
 | x :: xs,hq,skip,hg,io,c=>by
  rw [Fm.MQ,zA] at hq
  have h1:=Gs tk x hq.1 skip (fun h a ha=>hg h a (by rw [Fm.GB,yD]; exact .inl ha)) io c
  have h2:=IQ tk xs hq.2 skip (fun h a ha=>hg h a (by rw [Fm.GB,yD]; exact .inr ha)) io (x.dfn tk io c).2.1
  obtain ⟨a1,a2,a3,a4,a5,a6,a7⟩:=h1
  obtain ⟨b1,b2,b3,b4,b5,b6,b7⟩:=h2
  rw [Fm.B7]
  dsimp only
  rw [Fm.MQ,Fm.vnS,Fm.vnS,Fm.nodeS,Fm.nodeS,Fm.GB,a1,b1,zU,yA,zD]
  refine ⟨rfl,by omega,by omega,fun hs a ha=>?_,by omega,by omega,by omega⟩
  rw [yD] at ha
  rcases ha with ha | ha
  ·exact a4 hs a ha
  ·exact b4 hs a ha
end
abbrev DfC (tk:List ByteArray) (x:Fm):Prop:=∀ (io:Bool) (c:Int) (es:List (List OT)) (b:Bool),0≤c→c+(x.nodes:Int)*((tk.length+2:Nat):Int)≤1099511000000→es.length+x.nodes≤1000000→TF tk x io c es b
theorem Fm.Me (x:Fm) (hx:x.forms=true):∀ a∈x.ats,a.atom=true:=fun a ha=>by
 rw [Fm.Kn] at ha
 by_cases h3:x.op=3
 ·rw [Ao h3,cond_true,yF] at ha
  rw [ha]; exact (Fm.GW (Fm.CA hx) h3).2.1
 ·rw [Aj h3,cond_false] at ha
  obtain ⟨y,hy,h⟩:=Fm.Lc.1 ha
  exact Fm.Me y (Fm.Cn hx hy) a h
termination_by SizeOf.sizeOf x
decreasing_by exact Fm.lt_of_mem hy
theorem FI {x y:Fm} (h:x.noq=true) (hy:y∈x.parts):y.noq=true:=by
 rw [Fm.Mc,zA,yN] at h
 exact h.2 y hy
theorem W1 (tk:List ByteArray) (htk:tk.length≤1000000) (x:Fm) (hx:x.forms=true) (hq:x.noq=true) (hv:x.vn≤1000000) (ih:∀ y∈x.parts,DfC tk y):DfC tk x:=by
 intro io c es b h0 hc hes
 have hcol:∀ y∈x.parts,∀ a∈y.ats,LM a:=fun y hy a ha=>Ol a (Fm.Me y (Fm.Cn hx hy) a ha)
 have hnq:=Fm.nodes_eq x
 have hvq:=Fm.DE x
 have hpl:=Fm.length_le x.parts
 have hK:((1+Fm.nodeS x.parts:Nat):Int)*((tk.length+2:Nat):Int)=(tk.length+2:Nat)+(Fm.nodeS x.parts:Int)*((tk.length+2:Nat):Int):=by rw [zU,yA]; simp
 rw [hnq,hK] at hc
 have hmp:=Rr 57 x tk es b (dec (x.op=6)) (fun k s=>0≤s.1∧s.1+(Fm.nodeS (x.parts.drop k):Int)*((tk.length+2:Nat):Int)≤1099511000000∧es.length+s.2.length+Fm.nodeS (x.parts.drop k)≤1000000) x c ⟨h0,by rw [zJ]; omega,by rw [zJ]; simp only [zH]; omega⟩ (by omega) (by omega) Ho (by rw [C3]) (fun r=>by rw [C3]; rfl) fun k hk s hs=>by
  obtain ⟨s0,s1,s2⟩:=hs
  rw [zB hk,Fm.nodeS,zU,yA] at s1
  rw [zB hk,Fm.nodeS] at s2
  have hmem:=zQ hk
  have hp:(0:Int)≤(Fm.nodeS (x.parts.drop (k+1)):Int)*((tk.length+2:Nat):Int):=yT (by omega) (by omega)
  have hi:=Gs tk x.parts[k] (FI hq hmem) False (fun _=>hcol _ hmem) (dec (x.op=6)) s.1
  refine ⟨Qah x x.parts[k] tk es b s (ih _ hmem _ _ _ _ s0 (by omega) (by rw [zD,zX]; omega)),?_,?_,?_⟩
  ·have:=hi.c0
   unfold BN; dsimp only; omega
  ·have:=hi.c1
   unfold BN; dsimp only; omega
  ·have:=hi.ds
   unfold BN; dsimp only
   rw [zD]; omega
 have hie:=IQ tk x.parts (by rw [Fm.Lb]; exact yN.2 fun y hy=>FI hq hy) False (fun _ a ha=>by
  obtain ⟨y,hy,h⟩:=Fm.Lc.1 ha
  exact hcol y hy a h) (dec (x.op=6)) c
 unfold TF
 rw [Fm.XR]
 rcases zG x.parts.length with hp0 | hp0
 ·have hp:x.parts=[]:=zE hp0
  rw [if_pos hp0] at hmp
  simp only [OC,zR,zC,zM] at hmp
  have h5:dec (x.op=5)=false:=Aj fun h5=>by
   have hf:=Fm.CA hx
   unfold Fm.form at hf
   rw [if_neg (by omega),if_neg (by omega),if_neg (by omega),if_pos (by omega),hp] at hf
   simp at hf
  have hio:(io&&dec (x.op=5))=false:=by rw [h5,zZ]
  have e:K7 tk io (.mk x.op x.atom x.var (Fm.B7 tk x.parts (dec (x.op=6)) c).1) (Fm.B7 tk x.parts (dec (x.op=6)) c).2=(x,c,[]):=by
   rw [hp,Fm.B7]
   unfold K7
   show (bif io&&dec (x.op=5) then _ else _)=_
   rw [hio,cond_false]
   dsimp only
   rw [←hp,Fm.eta]
  rw [e]
  simp only [OC,zR,zC,zM]
  exact YU tk x io c es b hio hp hmp
 ·rw [if_neg (by omega),Qm] at hmp
  obtain ⟨r,hr⟩:∃ r,r=Fm.B7 tk x.parts (dec (x.op=6)) c:=⟨_,rfl⟩
  rw [←hr] at hmp hie ⊢
  obtain ⟨i1,i2,i3,i4,i5,i6,i7⟩:=hie
  simp only [zL] at hmp
  have hyn:(Fm.mk x.op x.atom x.var r.1).nodes=1+Fm.nodeS r.1:=Fm.nodes_eq _
  have hyv:(Fm.mk x.op x.atom x.var r.1).vn=x.atom.nodes+Fm.vnS r.1:=Fm.DE _
  have hm2:DfM tk x (.mk x.op x.atom x.var r.1) c r.2.1 es (es++r.2.2.map Df.o) b (b || CS r.2.2):=by
   unfold DfM
   simp only [OC,zR,zC,zM] at hmp
   exact hmp
  cases hio:io&&dec (x.op=5) with
  | false =>
   have e:K7 tk io (.mk x.op x.atom x.var r.1) r.2=(.mk x.op x.atom x.var r.1,r.2):=by
    unfold K7
    show (bif io&&dec (x.op=5) then _ else _)=_
    rw [hio,cond_false]
   rw [e]
   exact XU tk x _ io c _ es _ b _ hio hm2
  | true =>
   have hio':=hio
   rw [zA] at hio'
   obtain ⟨rfl,h5⟩:=hio'
   have h5:x.op=5:=Ar.1 h5
   obtain ⟨y,hy⟩:∃ y,y=Fm.mk x.op x.atom x.var r.1:=⟨_,rfl⟩
   have hyo:y.op=5:=by rw [hy]; exact h5
   have hyq:y.noq=true:=by
    rw [hy,Fm.noq,i1]
    rw [Fm.Mc,zA] at hq
    rw [hq.1]; rfl
   have hya:∀ a∈y.ats,LM a:=fun a ha=>by
    rw [Fm.Kn,Aj (by omega),cond_false,hy] at ha
    exact i4 (fun h=>h) a ha
   rw [←hy] at hm2 hyn hyv ⊢
   have hvi:=Pn y hyq (by omega) (by omega) hya
   have hfl:=Fm.OE y
   have e:K7 tk true y r.2=(Fm.at ⟨pre AY (fresh AY tk r.2.1),vT y.free⟩,fresh AY tk r.2.1,r.2.2++[⟨pre AY (fresh AY tk r.2.1),y.free,y⟩]):=by
    unfold K7
    rw [hyo,Ao rfl]; rfl
   rw [e]
   dsimp only
   rw [yE,← z8,Sn,← Bool.or_assoc]
   have hnm:=YO AY (by decide) tk r.2.1 (by omega) (by omega)
   exact Z9 tk x y c r.2.1 _ es _ b _ _ _ y.free h5 hm2 hnm hvi (U1 y.free (by omega)) (by omega) (by rw [zD,zX]; omega) (by
    congr 1
    unfold CS
    simp)
theorem OF (tk:List ByteArray) (htk:tk.length≤1000000) (x:Fm) (hx:x.forms=true) (hq:x.noq=true) (hv:x.vn≤1000000):DfC tk x :=
 W1 tk htk x hx hq hv fun y hy=>OF tk htk y (Fm.Cn hx hy) (FI hq hy) (by have:=Fm.DE x; have:=Fm.Ro hy; omega)
termination_by SizeOf.sizeOf x
decreasing_by exact Fm.lt_of_mem hy
theorem YV {tk:List ByteArray} {x:Fm} {io:Bool} {c:Int} {b:Bool} (h:TF tk x io c [] b):Zz tk x io c b:=by
 intro w I V B vs hwf hvs
 obtain ⟨y,hy⟩:∃ y,y=(x.dfn tk io c).1:=⟨_,rfl⟩
 obtain ⟨c2,hc2⟩:∃ c2,c2=(x.dfn tk io c).2.1:=⟨_,rfl⟩
 obtain ⟨ds,hds⟩:∃ ds,ds=(x.dfn tk io c).2.2:=⟨_,rfl⟩
 unfold TF at h
 rw [←hy,← hc2,← hds,zL] at h
 rw [←hy,← hc2,← hds]
 have hbig:∀ g,3≤g→An (JZ tk c b) g=.free:=fun g hg=>A5 _ _ (by show 3≤g; exact hg)
 have hV3:∀ g,3≤g→V g=none:=fun g hg=>hwf.fr g (hbig g hg)
 obtain ⟨V1,hV1⟩:∃ V1:Nat→Option Value,V1=fun g=>if g=2 then some (.slice none 0 0) else if g=3 then V 2 else V g:=⟨_,rfl⟩
 obtain ⟨B1,hB1⟩:∃ B1:Nat→Nat→Prop,B1=fun g=>if g=2 then (fun _=>False) else if g=3 then B 2 else B g:=⟨_,rfl⟩
 have v0:V1 0=V 0:=by rw [hV1]; rfl
 have v1:V1 1=V 1:=by rw [hV1]; rfl
 have v2:V1 2=some (.slice none 0 0):=by rw [hV1]; rfl
 have v3:V1 3=V 2:=by rw [hV1]; rfl
 have b0:B1 0=B 0:=by rw [hB1]; rfl
 have b1:B1 1=B 1:=by rw [hB1]; rfl
 have b2:B1 2=fun _=>False:=by rw [hB1]; rfl
 have b3:B1 3=B 2:=by rw [hB1]; rfl
 obtain ⟨u0,k0,r0⟩:=hwf.obj 0 trivial
 obtain ⟨u1,k1,r1⟩:=hwf.obj 1 trivial
 obtain ⟨u2,k2,r2⟩:=hwf.obj 2 trivial
 have hlv:∀ g,(An (Gz tk c [] b) g).live→∃ g',(An (JZ tk c b) g').live∧(g=0∧g'=0∨g=1∧g'=1∨g=3∧g'=2)∨g=2:=fun g hg=>by
  match g,hg with
  | 0,_=>exact ⟨0,.inl ⟨trivial,.inl ⟨rfl,rfl⟩⟩⟩
  | 1,_=>exact ⟨1,.inl ⟨trivial,.inr (.inl ⟨rfl,rfl⟩)⟩⟩
  | 2,_=>exact ⟨0,.inr rfl⟩
  | 3,_=>exact ⟨2,.inl ⟨trivial,.inr (.inr ⟨rfl,rfl⟩)⟩⟩
  | g+4,hg =>
   rw [A5 _ _ (by show 4≤g+4; omega)] at hg
   exact hg.elim
 have hsub:∀ g bb,(An (Gz tk c [] b) g).live→B1 g bb→∃ g',(An (JZ tk c b) g').live∧B g' bb∧(g=0∧g'=0∨g=1∧g'=1∨g=3∧g'=2):=fun g bb hg hb=>by
  obtain ⟨g',h1⟩:=hlv g hg
  rcases h1 with ⟨h1,h2⟩ | h1
  ·refine ⟨g',h1,?_,h2⟩
   rcases h2 with ⟨rfl,rfl⟩ | ⟨rfl,rfl⟩ | ⟨rfl,rfl⟩
   ·rw [b0] at hb; exact hb
   ·rw [b1] at hb; exact hb
   ·rw [b3] at hb; exact hb
  ·rw [h1,b2] at hb; exact hb.elim
 have hHB:∀ bb,HB B1 (Gz tk c [] b) bb→HB B (JZ tk c b) bb:=fun bb ⟨g,hg,hb⟩=>by
  obtain ⟨g',h1,h2,_⟩:=hsub g bb hg hb
  exact ⟨g',h1,h2⟩
 have hwf1:Wf w I V1 B1 (An (Gz tk c [] b)):=by
  refine ⟨hwf.ilt,fun g hg=>?_,fun g bb hg hb=>?_,fun g bb hg hb=>?_,fun g g2 bb hg hg2 hb hb2=>?_,fun g hg=>?_,hwf.gl⟩
  ·match g,hg with
   | 0,_ =>
    refine ⟨u0,by rw [v0]; exact k0,?_⟩
    rw [b0]
    obtain ⟨bb,vs',m1,m2,m3,m4⟩:=r0
    refine ⟨bb,vs',m1,m2,m3,?_⟩
    simp only [RepVs,RepV] at m4 ⊢
    rw [v1,v2]
    obtain ⟨a1,a2,a3,a4,a5,a6,a7,a8,a9⟩:=m4
    exact ⟨a1,a2,a3,a4,a5,a6,a7,⟨by rw [a8],by rw [a8]; rfl⟩,a9⟩
   | 1,_ =>
    refine ⟨u1,by rw [v1]; exact k1,?_⟩
    rw [b1]
    obtain ⟨bb,vs',m1,m2,m3,m4⟩:=r1
    refine ⟨bb,vs',m1,m2,m3,?_⟩
    simp only [RepVs,RepV] at m4 ⊢
    rw [v3]
    exact m4
   | 2,_=>exact ⟨_,v2,.inl ⟨rfl,rfl⟩⟩
   | 3,_ =>
    refine ⟨u2,by rw [v3]; exact k2,?_⟩
    rw [b3]
    exact r2
   | g+4,hg =>
    rw [A5 _ _ (by show 4≤g+4; omega)] at hg
    exact hg.elim
  ·obtain ⟨g',h1,h2,_⟩:=hsub g bb hg hb
   exact hwf.lt g' bb h1 h2
  ·obtain ⟨g',h1,h2,_⟩:=hsub g bb hg hb
   exact hwf.dI g' bb h1 h2
  ·obtain ⟨g',h1,h2,h3⟩:=hsub g bb hg hb
   obtain ⟨g2',m1,m2,m3⟩:=hsub g2 bb hg2 hb2
   have:=hwf.dO g' g2' bb h1 m1 h2 m2
   omega
  ·match g,hg with
   | 0,h=>cases h
   | 1,h=>cases h
   | 2,h=>cases h
   | 3,h=>cases h
   | g+4,_ =>
    rw [hV1]
    simp only [if_neg (show ¬ g+4=2 by omega),if_neg (show ¬ g+4=3 by omega)]
    exact hV3 _ (by omega)
 have hvs1:RepVs w I V1 (DL io x) vs:=RepVs.idsB (n:=1) (V:=V) (fun g hg=>by
  obtain rfl:g=0:=by omega
  exact v0) _ _ rfl hvs
 refine (h w I V1 B1 vs hwf1 hvs1).mono ?_
 rintro e w' ⟨v,I',V',B',he,hr,hp⟩
 have hw:WeakC 0 [0,1,3,4,5,6] ⟨[dfR 4 y],JY tk c2 (ds.map Df.o) (b || CS ds) y⟩ ⟨[dfR 3 y],So tk c2 ds (b || CS ds) y⟩:=by
  simp only [dfR,JY,So,dfT,List.cons_append,zL,WeakC,leL,leV,leO,Q8,Q9,An,sgp,SV.ren,SV.GK,Ob.ren,N2,Ht,N1,HW,HG,HG.setO1,zV,zH,Nat.reduceAdd,List.nodup_cons,List.nodup_nil,List.mem_cons,List.not_mem_nil,or_false,false_or,not_false_eq_true,not_true_eq_false,true_and,and_true,and_self,Nat.reduceEqDiff,reduceCtorEq,zL,zM,Nat.add_zero,yP]
 have hwf':=hw.wf hp.wf
 have hr':=Jd (show leV _ (dfR 3 y) (dfR 4 y) from hw.1.1) hr
 have hln:(JY tk c2 (ds.map Df.o) (b || CS ds) y).length=7:=rfl
 refine ⟨v,I',_,_,he,hr',⟨⟨hp.fr.os,hp.fr.tape,hp.fr.output,hp.fr.size,fun bb hb hn=>hp.fr.block bb hb fun hh=>hn (hHB bb hh)⟩,hp.i0,fun bb hb=>?_,fun g u hu=>?_,hwf',fun g bb hg hb=>?_⟩⟩
 ·rcases hp.i1 bb hb with h1 | h1 | h1
  ·exact .inl h1
  ·exact .inr (.inl h1)
  ·exact .inr (.inr (hHB bb h1))
 ·have hg:g<3:=by
   rcases zF g 3 with h1 | h1
   ·exact h1
   ·rw [hV3 g h1] at hu; cases hu
  match g,hg with
  | 0,_=>exact hp.v 0 u (by rw [v0]; exact hu)
  | 1,_=>exact hp.v 1 u (by rw [v1]; exact hu)
  | 2,_=>exact hp.v 3 u (by rw [v3]; exact hu)
 ·have hlt:g<(So tk c2 ds (b || CS ds) y).length:=by
   rcases zF g (So tk c2 ds (b || CS ds) y).length with h1 | h1
   ·exact h1
   ·rw [A5 _ _ h1] at hg; exact hg.elim
  have h1:=DD (j:=g) hw.2.1 hlt
  rw [yP] at h1
  rcases hp.bh _ bb (Dr h1 hg) hb with h2 | h2
  ·exact .inl (hHB bb h2)
  ·exact .inr h2
theorem Fm.ST (n:Int):∀ xs:List Fm,Fm.Sm n xs=xs.any (Fm.has n)
 | []=>by rw [Fm.Sm]; rfl
 | x :: xs=>by rw [Fm.Sm,Fm.ST n xs]; rfl
theorem Fm.has_eq (n:Int) (x:Fm):x.has n=(dec (n=x.op) || x.parts.any (Fm.has n)):=by
 obtain ⟨op,a,v,ps⟩:=x
 rw [Fm.has,Fm.ST]; rfl
theorem Fm.YW (ns:List Int) (x:Fm):x.hasS ns=((ns.any fun n=>dec (x.op=n)) || x.parts.any (Fm.hasS ns)):=by
 have hd:∀ n,dec (n=x.op)=dec (x.op=n):=fun n=>by
  by_cases h:n=x.op
  ·rw [Ao h,Ao h.symm]
  ·rw [Aj h,Aj (fun e=>h e.symm)]
 apply Bool.eq_iff_iff.2
 unfold Fm.hasS
 simp only [yQ,yO]
 constructor
 ·rintro ⟨n,hn,h⟩
  rw [Fm.has_eq,yQ,yO] at h
  rcases h with h | ⟨y,hy,h⟩
  ·exact .inl ⟨n,hn,by rw [←hd]; exact h⟩
  ·exact .inr ⟨y,hy,n,hn,h⟩
 ·rintro (⟨n,hn,h⟩ | ⟨y,hy,n,hn,h⟩)
  ·exact ⟨n,hn,by rw [Fm.has_eq,hd,h]; rfl⟩
  ·refine ⟨n,hn,?_⟩
   rw [Fm.has_eq,yQ,yO]
   exact .inr ⟨y,hy,h⟩
def HC:SC:=(.seq (.reg [⟨some 2,none,.boxv 34 5 (.t 0)⟩,⟨some 4,none,.mv (.c (.bool false))⟩]) (.seq (.seq (.reg [⟨some 6,none,.faddr 0 (.t 2)⟩,⟨some 7,none,.load false 1 (.t 6)⟩,⟨some 8,none,.mv (.t 1)⟩,⟨some 9,none,.bin .eql false (.t 7) (.t 8)⟩]) (.cond (.t 9) (.seq (.reg [⟨some 4,none,.mv (.c (.bool true))⟩]) .ret) .skip)) (.seq (.seq (.reg [⟨some 5,none,.mv (.c (.int .i64 0))⟩]) (.block 0 (.loop [0,1,1,0,0,1,0,0,0,0,0,0,0,0,0,0,0,0,0,0,0,0,0,0] (.seq (.seq (.reg [⟨some 10,none,.mv (.t 5)⟩,⟨some 11,none,.faddr 4 (.t 2)⟩,⟨some 12,none,.load false 1 (.t 11)⟩,⟨some 13,none,.len false (.t 12)⟩,⟨some 14,none,.bin .lss false (.t 10) (.t 13)⟩]) (.cond (.t 14) .skip (.exit 0))) (.seq (.block 1 (.seq (.reg [⟨some 17,none,.faddr 4 (.t 2)⟩,⟨some 18,none,.load false 1 (.t 17)⟩,⟨some 19,none,.mv (.t 5)⟩,⟨some 20,none,.iaddr 5 (.t 18) (.t 19)⟩,⟨some 21,none,.load true 5 (.t 20)⟩,⟨some 22,none,.mv (.t 1)⟩,⟨some 23,none,.call 18 [(.t 21),(.t 22)]⟩]) (.cond (.t 23) (.seq (.reg [⟨some 4,none,.mv (.c (.bool true))⟩]) .ret) .skip))) (.reg [⟨some 15,none,.mv (.t 5)⟩,⟨some 16,none,.bin .add false (.t 15) (.c (.int .i64 1))⟩,⟨some 5,none,.mv (.t 16)⟩])))))) (.seq (.reg [⟨some 4,none,.mv (.c (.bool false))⟩]) .ret))))
theorem Ld:Ap Tryz.prog 18=some ⟨24,HC,[(.tmp 4)]⟩:=by kernel_rfl
theorem BU:modes 18=⟨[],.asis,none,false⟩:=by unfold modes; rfl
theorem Ya (n:Int) (x:Fm) (hp:x.nodes≤1099511627776) (ih:∀ y∈x.parts,E 18 [y.sv,.int .i64 n] []=some (.bool (y.has n),[])):E 18 [x.sv,.int .i64 n] []=some (.bool (x.has n),[]):=by
 have hxs:x.sv=.agg [.int .i64 x.op,.str x.atom.name,.arr (x.atom.args.map Tm.d),.str x.var,.arr (x.parts.map Fm.d)]:=rfl
 have hpl:=Fm.length_le x.parts
 have hnq:=Fm.nodes_eq x
 have hie:=Fm.has_eq n x
 rw [hxs]
 by_cases ho:x.op=n
 ·have od:dec (x.op=n)=true:=Ao ho
  rw [hie,Ao ho.symm,yB]
  refine Ai Ld BU (of_decide_eq_true rfl) ?_
  simp (disch:=omega) only [HC,go_sem,Ab,od]
 have od:dec (x.op=n)=false:=Aj ho
 rw [hie,Aj (fun e=>ho e.symm),yC]
 refine Ai Ld BU (of_decide_eq_true rfl) ?_
 simp (disch:=omega) only [HC,go_sem,Ab,od]
 refine go_loop (α:=Int) (fun a=>⟨slots 24 0 [(1,.int .i64 n),(2,.ptr 0 0),(5,.int .i64 a)],[.box 34 [.int .i64 x.op,.str x.atom.name,.arr (x.atom.args.map Tm.d),.str x.var,.arr (x.parts.map Fm.d)]]⟩) (fun a=>∃ k:Nat,a=k∧k≤(x.parts).length∧(x.parts.drop k).any (Fm.has n)=x.parts.any (Fm.has n)) (fun a=>(x.parts).length-(a).toNat) 0 ⟨0,rfl,zK _,by rw [zJ]⟩ (by simp (disch:=omega) only [go_sem,Ab]) ?_
 rintro i ⟨k,hi,hk,hR⟩
 have hni:i.toNat=k:=by omega
 have hni1:(i+1).toNat=k+1:=by omega
 rcases zF k (x.parts).length with hlt | hge
 ·have hg:=get_at Fm.d hlt
  rw [Fm.d_eq] at hg
  have hc:=ih x.parts[k] (zQ hlt)
  have hps:x.parts[k].sv=.agg [.int .i64 x.parts[k].op,.str x.parts[k].atom.name,.arr (x.parts[k].atom.args.map Tm.d),.str x.parts[k].var,.arr (x.parts[k].parts.map Fm.d)]:=rfl
  rw [hps] at hc
  rw [zB hlt,yI] at hR
  cases hb:x.parts[k].has n with
  | false =>
   rw [hb] at hc hR
   rw [yC] at hR
   simp (disch:=omega) only [go_sem,Ab,hni,hg,hc,BU]
   exact ⟨i+1,⟨k+1,by omega,hlt,hR⟩,by omega,by first | trivial | rfl⟩
  | true =>
   rw [hb] at hc hR
   rw [yB] at hR
   rw [←hR]
   simp (disch:=omega) only [go_sem,Ab,hni,hg,hc,BU]
 ·rw [zI hge,List.any_nil] at hR
  rw [←hR]
  simp (disch:=omega) only [go_sem,Ab,hni]
theorem Rs (n:Int) (x:Fm) (hp:x.nodes≤1099511627776):E 18 [x.sv,.int .i64 n] []=some (.bool (x.has n),[]) :=
 Ya n x hp fun y hy=>Rs n y (by have:=Fm.nodes_mem hy; have:=Fm.nodes_eq x; omega)
termination_by SizeOf.sizeOf x
decreasing_by exact Fm.lt_of_mem hy
def DZ:SC:=(.seq (.reg [⟨some 4,none,.mv (.c (.int .i64 0))⟩]) (.seq (.seq (.reg [⟨some 6,none,.mv (.t 0)⟩,⟨some 7,none,.len false (.t 6)⟩,⟨some 8,none,.mv (.c (.int .i64 0))⟩]) (.block 0 (.loop [1,1,0,0,0,0,0,1,1,0,0,0,0,0,0,0,0,0,0] (.seq (.reg [⟨some 9,none,.bin .lss false (.t 8) (.t 7)⟩]) (.seq (.cond (.t 9) .skip (.exit 0)) (.seq (.block 1 (.seq (.reg [⟨some 10,none,.mv (.t 8)⟩,⟨some 5,none,.mv (.t 10)⟩]) (.seq (.reg [⟨some 11,none,.mv (.t 1)⟩,⟨some 12,none,.mv (.t 0)⟩,⟨some 13,none,.mv (.t 5)⟩,⟨some 14,none,.iaddr 1 (.t 12) (.t 13)⟩,⟨some 15,none,.load false 1 (.t 14)⟩,⟨some 16,none,.bin .eql false (.t 11) (.t 15)⟩]) (.cond (.t 16) (.seq (.reg [⟨some 17,none,.mv (.t 5)⟩,⟨some 4,none,.mv (.t 17)⟩]) .ret) .skip)))) (.reg [⟨some 18,none,.bin .add false (.t 8) (.c (.int .i64 1))⟩,⟨some 8,none,.mv (.t 18)⟩]))))))) (.seq (.reg [⟨some 4,none,.mv (.c (.int .i64 (-(0+1))))⟩]) .ret)))
theorem HD:Ap Tryz.prog 75=some ⟨19,DZ,[(.tmp 4)]⟩:=by kernel_rfl
theorem Ea:modes 75=⟨[],.asis,none,false⟩:=by unfold modes; rfl
def Dm:SC:=(.seq (.reg [⟨some 4,none,.mv (.c (.bool false))⟩]) (.seq (.reg [⟨some 5,none,.mv (.t 0)⟩,⟨some 6,none,.mv (.t 1)⟩,⟨some 7,none,.call 75 [(.t 5),(.t 6)]⟩,⟨some 8,none,.bin .geq false (.t 7) (.c (.int .i64 0))⟩,⟨some 4,none,.mv (.t 8)⟩]) .ret))
theorem FK:Ap Tryz.prog 50=some ⟨9,Dm,[(.tmp 4)]⟩:=by kernel_rfl
theorem Ce:modes 50=⟨[],.asis,none,false⟩:=by unfold modes; rfl
theorem W3 (xs:List Int) (n:Int) (hl:xs.length≤1099511627776):E 75 [.arr (xs.map fun s=>[D.int s]),.int .i64 n] []=some (.int .i64 (D9 (fun s=>dec (n=s)) xs 0),[]):=by
 refine Ai HD Ea (of_decide_eq_true rfl) ?_
 simp (disch:=omega) only [DZ,go_sem,Ab]
 refine go_loop (α:=Int) (fun a=>⟨slots 19 0 [(0,.arr (xs.map fun s=>[D.int s])),(1,.int .i64 n),(7,.int .i64 xs.length),(8,.int .i64 a)],[]⟩) (fun a=>∃ k:Nat,a=k∧k≤(xs).length∧D9 (fun s=>dec (n=s)) (xs.drop k) a=D9 (fun s=>dec (n=s)) xs 0) (fun a=>(xs).length-(a).toNat) 0 ⟨0,rfl,zK _,by rw [zJ]⟩ (by simp (disch:=omega) only [go_sem,Ab]) ?_
 rintro i ⟨k,hi,hk,hR⟩
 have hni:i.toNat=k:=by omega
 have hni1:(i+1).toNat=k+1:=by omega
 rcases zF k (xs).length with hlt | hge
 ·have hg:=get_at (fun s=>[D.int s]) hlt
  rw [zB hlt,D9] at hR
  cases hp:dec (n=xs[k]) with
  | true =>
   rw [hp] at hR
   simp (disch:=omega) only [go_sem,Ab,hni,hg,hp]
   simpa using hR
  | false =>
   rw [hp] at hR
   simp (disch:=omega) only [go_sem,Ab,hni,hg,hp]
   exact ⟨i+1,⟨k+1,by omega,hlt,by simpa using hR⟩,by omega,by first | trivial | rfl⟩
 ·rw [zI hge,D9] at hR
  simp (disch:=omega) only [go_sem,Ab,hni]
  exact hR
theorem Rt (xs:List Int) (n:Int) (hl:xs.length≤1099511627776):E 50 [.arr (xs.map fun s=>[D.int s]),.int .i64 n] []=some (.bool (xs.any fun s=>dec (n=s)),[]):=by
 have h:=W3 xs n hl
 have hp:=Iu (fun s=>dec (n=s)) xs
 rw [←hp]
 refine Ai FK Ce (of_decide_eq_true rfl) ?_
 simp (disch:=omega) only [Dm,go_sem,Ab,h,Ea]
def HE:SC:=(.seq (.reg [⟨some 2,none,.boxv 34 5 (.t 0)⟩,⟨some 3,none,.boxv 82 1 (.t 1)⟩,⟨some 4,none,.mv (.c (.bool false))⟩]) (.seq (.reg [⟨some 5,none,.load false 1 (.t 3)⟩,⟨some 6,none,.faddr 0 (.t 2)⟩,⟨some 7,none,.load false 1 (.t 6)⟩,⟨some 8,none,.call 50 [(.t 5),(.t 7)]⟩,⟨some 9,none,.mv (.t 8)⟩,⟨(some 10),(some (9,false)),(.faddr 4 (.t 2))⟩,⟨(some 11),(some (9,false)),(.load false 1 (.t 10))⟩,⟨(some 12),(some (9,false)),(.mkfn 52 [(.t 3)])⟩,⟨(some 13),(some (9,false)),(.call 51 [(.t 11),(.t 12)])⟩,⟨some 14,none,.pick (.t 9) (.c (.bool true)) (.t 13)⟩,⟨some 4,none,.mv (.t 14)⟩]) .ret))
theorem Le:Ap Tryz.prog 24=some ⟨15,HE,[(.tmp 4)]⟩:=by kernel_rfl
theorem BV:modes 24=⟨[],.asis,none,false⟩:=by unfold modes; rfl
def IR:SC:=(.seq (.reg [⟨some 2,none,.boxv 34 5 (.t 0)⟩,⟨some 3,none,.mv (.c (.bool false))⟩]) (.seq (.reg [⟨some 4,none,.load true 5 (.t 2)⟩,⟨some 5,none,.load false 1 (.t 1)⟩,⟨some 6,none,.call 24 [(.t 4),(.t 5)]⟩,⟨some 3,none,.mv (.t 6)⟩]) .ret))
theorem OG:Ap Tryz.prog 52=some ⟨7,IR,[(.tmp 3)]⟩:=by kernel_rfl
theorem IS:modes 52=⟨[],.asis,none,false⟩:=by unfold modes; rfl
theorem OH:HV Tryz.prog 52=true:=by kernel_rfl
theorem Ru (ns:List Int) (p:Fm→Bool) (xs:List Fm) (hl:xs.length≤1099511627776) (hg:HV Tryz.prog 52=true) (hm:modes 52=⟨[],.asis,none,false⟩) (hE:∀ x∈xs,E 52 [x.sv,.ptr 0 0] [.box 82 [.arr (ns.map fun s=>[D.int s])]]=some (.bool (p x),[.box 82 [.arr (ns.map fun s=>[D.int s])]])):E 76 [.arr (xs.map Fm.d),.fn 52 [.ptr 0 0]] [.box 82 [.arr (ns.map fun s=>[D.int s])]]=some (.int .i64 (D9 p xs 0),[.box 82 [.arr (ns.map fun s=>[D.int s])]]):=by
 refine Ai Bp AA (of_decide_eq_true rfl) ?_
 simp (disch:=omega) only [AP,go_sem,Ab]
 refine go_loop (α:=Int) (fun a=>⟨slots 19 0 [(0,.arr (xs.map Fm.d)),(1,.fn 52 [.ptr 0 0]),(7,.int .i64 xs.length),(8,.int .i64 a)],[.box 82 [.arr (ns.map fun s=>[D.int s])]]⟩) (fun a=>∃ k:Nat,a=k∧k≤(xs).length∧D9 p (xs.drop k) a=D9 p xs 0) (fun a=>(xs).length-(a).toNat) 0 ⟨0,rfl,zK _,by rw [zJ]⟩ (by simp (disch:=omega) only [go_sem,Ab]) ?_
 rintro i ⟨k,hi,hk,hR⟩
 have hni:i.toNat=k:=by omega
 have hni1:(i+1).toNat=k+1:=by omega
 rcases zF k (xs).length with hlt | hge
 ·have hg':=get_at Fm.d hlt
  rw [Fm.d_eq] at hg'
  have hc:=hE xs[k] (zQ hlt)
  rw [zB hlt,D9] at hR
  cases hp:p xs[k] with
  | true =>
   rw [hp] at hc hR
   simp (disch:=omega) only [go_sem,Ab,hni,hg',hc,hg,hm]
   simpa using hR
  | false =>
   rw [hp] at hc hR
   simp (disch:=omega) only [go_sem,Ab,hni,hg',hc,hg,hm]
   exact ⟨i+1,⟨k+1,by omega,hlt,by simpa using hR⟩,by omega,by first | trivial | rfl⟩
 ·rw [zI hge,D9] at hR
  simp (disch:=omega) only [go_sem,Ab,hni]
  exact hR
theorem MS (ns:List Int) (p:Fm→Bool) (xs:List Fm) (hl:xs.length≤1099511627776) (hg:HV Tryz.prog 52=true) (hm:modes 52=⟨[],.asis,none,false⟩) (hE:∀ x∈xs,E 52 [x.sv,.ptr 0 0] [.box 82 [.arr (ns.map fun s=>[D.int s])]]=some (.bool (p x),[.box 82 [.arr (ns.map fun s=>[D.int s])]])):E 51 [.arr (xs.map Fm.d),.fn 52 [.ptr 0 0]] [.box 82 [.arr (ns.map fun s=>[D.int s])]]=some (.bool (xs.any p),[.box 82 [.arr (ns.map fun s=>[D.int s])]]):=by
 have h:=Ru ns p xs hl hg hm hE
 refine Ai Bh Aa (of_decide_eq_true rfl) ?_
 simp (disch:=omega) only [AM,go_sem,Ab,h,AA]
 rw [Iu]
theorem Yb (ns:List Int) (x:Fm) (h:E 24 [x.sv,.arr (ns.map fun s=>[D.int s])] []=some (.bool (x.hasS ns),[])):E 52 [x.sv,.ptr 0 0] [.box 82 [.arr (ns.map fun s=>[D.int s])]]=some (.bool (x.hasS ns),[.box 82 [.arr (ns.map fun s=>[D.int s])]]):=by
 have hxs:x.sv=.agg [.int .i64 x.op,.str x.atom.name,.arr (x.atom.args.map Tm.d),.str x.var,.arr (x.parts.map Fm.d)]:=rfl
 rw [hxs] at h
 rw [hxs]
 refine Ai OG IS (of_decide_eq_true rfl) ?_
 simp (disch:=omega) only [IR,go_sem,Ab,h,BV]
theorem W4 (ns:List Int) (x:Fm) (hns:ns.length≤1099511627776) (hp:x.nodes≤1099511627776) (ih:∀ y∈x.parts,E 24 [y.sv,.arr (ns.map fun s=>[D.int s])] []=some (.bool (y.hasS ns),[])):E 24 [x.sv,.arr (ns.map fun s=>[D.int s])] []=some (.bool (x.hasS ns),[]):=by
 have hxs:x.sv=.agg [.int .i64 x.op,.str x.atom.name,.arr (x.atom.args.map Tm.d),.str x.var,.arr (x.parts.map Fm.d)]:=rfl
 have hpl:=Fm.length_le x.parts
 have hnq:=Fm.nodes_eq x
 have hie:=Fm.YW ns x
 have h1:=Rt ns x.op hns
 have h2:=MS ns (Fm.hasS ns) x.parts (by omega) OH IS fun y hy=>Yb ns y (ih y hy)
 rw [hxs,hie]
 cases ho:(ns.any fun n=>dec (x.op=n)) with
 | true =>
  rw [ho] at h1
  rw [yB]
  refine Ai Le BV (of_decide_eq_true rfl) ?_
  simp (disch:=omega) only [HE,go_sem,Ab,h1,h2,Ce,Aa]
 | false =>
  rw [ho] at h1
  rw [yC]
  refine Ai Le BV (of_decide_eq_true rfl) ?_
  simp (disch:=omega) only [HE,go_sem,Ab,h1,h2,Ce,Aa]
theorem SU (ns:List Int) (hns:ns.length≤1099511627776) (x:Fm) (hp:x.nodes≤1099511627776):E 24 [x.sv,.arr (ns.map fun s=>[D.int s])] []=some (.bool (x.hasS ns),[]) :=
 W4 ns x hns hp fun y hy=>SU ns hns y (by have:=Fm.nodes_mem hy; have:=Fm.nodes_eq x; omega)
termination_by SizeOf.sizeOf x
decreasing_by exact Fm.lt_of_mem hy
mutual
noncomputable def Fm.isN:Fm→Bool
 | .mk op _ _ parts=>!(dec (op=7) || (dec (op=4)&&!dec ((V7 parts).op=3)))&&Fm.Yc parts
noncomputable def Fm.Yc:List Fm→Bool
 | []=>true
 | x :: xs=>Fm.isN x&&Fm.Yc xs
end
theorem Fm.SW:∀ xs:List Fm,Fm.Yc xs=xs.all Fm.isN
 | []=>by rw [Fm.Yc]; rfl
 | x :: xs=>by rw [Fm.Yc,Fm.SW xs]; rfl
theorem Fm.Yd (x:Fm):x.isN=(!(dec (x.op=7) || (dec (x.op=4)&&!dec ((V7 x.parts).op=3)))&&x.parts.all Fm.isN):=by
 obtain ⟨op,atom,var,parts⟩:=x
 rw [Fm.isN,Fm.SW]; rfl
def Br:SC:=(.seq (.reg [⟨some 1,none,.boxv 34 5 (.t 0)⟩,⟨some 2,none,.mv (.c (.bool false))⟩]) (.seq (.seq (.reg [⟨some 3,none,.faddr 0 (.t 1)⟩,⟨some 4,none,.load false 1 (.t 3)⟩,⟨some 5,none,.bin .eql false (.t 4) (.c (.int .i64 7))⟩,⟨some 6,none,.mv (.t 5)⟩,⟨(some 7),(some (6,false)),(.faddr 0 (.t 1))⟩,⟨(some 8),(some (6,false)),(.load false 1 (.t 7))⟩,⟨(some 9),(some (6,false)),(.bin .eql false (.t 8) (.c (.int .i64 4)))⟩,⟨(some 10),(some (6,false)),(.mv (.t 9))⟩,⟨(some 11),(some (10,true)),(.faddr 4 (.t 1))⟩,⟨(some 12),(some (10,true)),(.load false 1 (.t 11))⟩,⟨(some 13),(some (10,true)),(.iaddr 5 (.t 12) (.c (.int .i64 0)))⟩,⟨(some 14),(some (10,true)),(.faddr 0 (.t 13))⟩,⟨(some 15),(some (10,true)),(.load false 1 (.t 14))⟩,⟨(some 16),(some (10,true)),(.bin .neq false (.t 15) (.c (.int .i64 3)))⟩,⟨(some 17),(some (6,false)),(.pick (.t 10) (.t 16) (.c (.bool false)))⟩,⟨some 18,none,.pick (.t 6) (.c (.bool true)) (.t 17)⟩]) (.cond (.t 18) (.seq (.reg [⟨some 2,none,.mv (.c (.bool false))⟩]) .ret) .skip)) (.seq (.reg [⟨some 19,none,.faddr 4 (.t 1)⟩,⟨some 20,none,.load false 1 (.t 19)⟩,⟨some 21,none,.call 51 [(.t 20),(.c (.fn 53 []))]⟩,⟨some 22,none,.un .not (.t 21)⟩,⟨some 2,none,.mv (.t 22)⟩]) .ret)))
theorem BQ:Ap Tryz.prog 25=some ⟨23,Br,[(.tmp 2)]⟩:=by kernel_rfl
theorem A3:modes 25=⟨[],.asis,none,false⟩:=by unfold modes; rfl
def Dn:SC:=(.seq (.reg [⟨some 1,none,.boxv 34 5 (.t 0)⟩,⟨some 2,none,.mv (.c (.bool false))⟩]) (.seq (.reg [⟨some 3,none,.load true 5 (.t 1)⟩,⟨some 4,none,.call 25 [(.t 3)]⟩,⟨some 5,none,.un .not (.t 4)⟩,⟨some 2,none,.mv (.t 5)⟩]) .ret))
theorem FL:Ap Tryz.prog 53=some ⟨6,Dn,[(.tmp 2)]⟩:=by kernel_rfl
theorem Do:modes 53=⟨[],.asis,none,false⟩:=by unfold modes; rfl
theorem FN:HV Tryz.prog 53=true:=by kernel_rfl
def De:SC:=(.seq (.reg [⟨some 1,none,.boxv 34 5 (.t 0)⟩,⟨some 2,none,.mv (.c (.bool false))⟩]) (.seq (.seq (.reg [⟨some 4,none,.faddr 0 (.t 1)⟩,⟨some 5,none,.load false 1 (.t 4)⟩,⟨some 6,none,.bin .eql false (.t 5) (.c (.int .i64 7))⟩,⟨some 7,none,.mv (.t 6)⟩,⟨(some 8),(some (7,false)),(.faddr 0 (.t 1))⟩,⟨(some 9),(some (7,false)),(.load false 1 (.t 8))⟩,⟨(some 10),(some (7,false)),(.bin .eql false (.t 9) (.c (.int .i64 4)))⟩,⟨(some 11),(some (7,false)),(.mv (.t 10))⟩,⟨(some 12),(some (11,true)),(.faddr 4 (.t 1))⟩,⟨(some 13),(some (11,true)),(.load false 1 (.t 12))⟩,⟨(some 14),(some (11,true)),(.iaddr 5 (.t 13) (.c (.int .i64 0)))⟩,⟨(some 15),(some (11,true)),(.faddr 0 (.t 14))⟩,⟨(some 16),(some (11,true)),(.load false 1 (.t 15))⟩,⟨(some 17),(some (11,true)),(.bin .neq false (.t 16) (.c (.int .i64 3)))⟩,⟨(some 18),(some (7,false)),(.pick (.t 11) (.t 17) (.c (.bool false)))⟩,⟨some 19,none,.pick (.t 7) (.c (.bool true)) (.t 18)⟩]) (.cond (.t 19) (.seq (.reg [⟨some 2,none,.mv (.c (.bool false))⟩]) .ret) .skip)) (.seq (.seq (.reg [⟨some 3,none,.mv (.c (.int .i64 0))⟩]) (.block 0 (.loop [0,1,0,1,0,0,0,0,0,0,0,0,0,0,0,0,0,0,0,0,0,0,0,0,0,0,0,0,0,0,0,0,0,0] (.seq (.seq (.reg [⟨some 20,none,.mv (.t 3)⟩,⟨some 21,none,.faddr 4 (.t 1)⟩,⟨some 22,none,.load false 1 (.t 21)⟩,⟨some 23,none,.len false (.t 22)⟩,⟨some 24,none,.bin .lss false (.t 20) (.t 23)⟩]) (.cond (.t 24) .skip (.exit 0))) (.seq (.block 1 (.seq (.reg [⟨some 27,none,.faddr 4 (.t 1)⟩,⟨some 28,none,.load false 1 (.t 27)⟩,⟨some 29,none,.mv (.t 3)⟩,⟨some 30,none,.iaddr 5 (.t 28) (.t 29)⟩,⟨some 31,none,.load true 5 (.t 30)⟩,⟨some 32,none,.call 17 [(.t 31)]⟩,⟨some 33,none,.un .not (.t 32)⟩]) (.cond (.t 33) (.seq (.reg [⟨some 2,none,.mv (.c (.bool false))⟩]) .ret) .skip))) (.reg [⟨some 25,none,.mv (.t 3)⟩,⟨some 26,none,.bin .add false (.t 25) (.c (.int .i64 1))⟩,⟨some 3,none,.mv (.t 26)⟩])))))) (.seq (.reg [⟨some 2,none,.mv (.c (.bool true))⟩]) .ret))))
theorem Eb:Ap Tryz.prog 17=some ⟨34,De,[(.tmp 2)]⟩:=by kernel_rfl
theorem AQ:modes 17=⟨[],.asis,none,false⟩:=by unfold modes; rfl
theorem ZE (x:Fm) (h:E 25 [x.sv] []=some (.bool x.isN,[])):E 53 [x.sv] []=some (.bool (!x.isN),[]):=by
 have hxs:x.sv=.agg [.int .i64 x.op,.str x.atom.name,.arr (x.atom.args.map Tm.d),.str x.var,.arr (x.parts.map Fm.d)]:=rfl
 refine Ai FL Do (of_decide_eq_true rfl) ?_
 simp (disch:=omega) only [Dn,go_sem,Ab,h,A3]
theorem Jx (x:Fm) (hx:x.forms=true) (hn:x.nodes≤1099511627776) (ih:∀ y∈x.parts,E 25 [y.sv] []=some (.bool y.isN,[])):E 25 [x.sv] []=some (.bool x.isN,[]):=by
 have hxs:x.sv=.agg [.int .i64 x.op,.str x.atom.name,.arr (x.atom.args.map Tm.d),.str x.var,.arr (x.parts.map Fm.d)]:=rfl
 have hfo:=Fm.CA hx
 have hpl:=Fm.length_le x.parts
 have hnq:=Fm.nodes_eq x
 have hie:=Fm.Yd x
 have hcf:=FE 53 (fun y=>!y.isN) x.parts (by omega) FN (by rw [Do]) fun y hy=>ZE y (ih y hy)
 have hna:(x.parts.any fun y=>!y.isN)=!(x.parts.all Fm.isN):=by rw [List.not_all_eq_any_not]
 rw [hna] at hcf
 by_cases h7:x.op=7
 ·have o7:dec (x.op=7)=true:=Ao h7
  rw [hie,o7]
  simp only [yB,zS,zN]
  refine Ai BQ A3 (of_decide_eq_true rfl) ?_
  simp (disch:=omega) only [Br,go_sem,Ab,o7,hcf,Aa]
 have o7:dec (x.op=7)=false:=Aj h7
 by_cases h4:x.op=4
 ·have o4:dec (x.op=4)=true:=Ao h4
  obtain ⟨p,hp⟩:=Fm.Sy hfo h4
  have hp:x.parts=[p]:=congrArg Fm.parts hp
  have hlt:0<x.parts.length:=by rw [hp]; simp
  have hg:=get_at Fm.d hlt
  have hx0:x.parts[0]=p:=by simp [hp]
  rw [hx0,Fm.d_eq] at hg
  have hh:(V7 x.parts).op=p.op:=by rw [hp]; rfl
  rw [hh,o7,o4] at hie
  by_cases hp3:p.op=3
  ·have hq3:(p.op=3)=True:=eq_true hp3
   have hd3:dec (p.op=3)=true:=Ao hp3
   rw [hd3] at hie
   simp only [zS,zZ,zR,zO,zT] at hie
   rw [hie]
   refine Ai BQ A3 (of_decide_eq_true rfl) ?_
   simp (disch:=omega) only [Br,go_sem,Ab,o7,o4,hg,hq3,hd3,yL,hcf,Aa]
   all_goals first | done | (rw [Bool.not_not])
  ·have hq3:(p.op=3)=False:=eq_false hp3
   have hd3:dec (p.op=3)=false:=Aj hp3
   rw [hd3] at hie
   simp only [zO,zP,Bool.or_true,zS,zN] at hie
   rw [hie]
   refine Ai BQ A3 (of_decide_eq_true rfl) ?_
   simp (disch:=omega) only [Br,go_sem,Ab,o7,o4,hg,hq3,hd3,yL,hcf,Aa]
 have o4:dec (x.op=4)=false:=Aj h4
 rw [o7,o4] at hie
 simp only [zN,zR,zO,zT] at hie
 rw [hie]
 refine Ai BQ A3 (of_decide_eq_true rfl) ?_
 simp (disch:=omega) only [Br,go_sem,Ab,o7,o4,hcf,Aa]
 all_goals first | done | (rw [Bool.not_not])
theorem FJ (x:Fm) (hx:x.forms=true) (hn:x.nodes≤1099511627776):E 25 [x.sv] []=some (.bool x.isN,[]) :=
 Jx x hx hn fun y hy=>FJ y (Fm.Cn hx hy) (by have:=Fm.nodes_mem hy; have:=Fm.nodes_eq x; omega)
termination_by SizeOf.sizeOf x
decreasing_by exact Fm.lt_of_mem hy
theorem U9 (x:Fm) (hx:x.forms=true) (hn:x.nodes≤1099511627776) (ih:∀ y∈x.parts,E 17 [y.sv] []=some (.bool y.isN,[])):E 17 [x.sv] []=some (.bool x.isN,[]):=by
 have hxs:x.sv=.agg [.int .i64 x.op,.str x.atom.name,.arr (x.atom.args.map Tm.d),.str x.var,.arr (x.parts.map Fm.d)]:=rfl
 have hfo:=Fm.CA hx
 have hpl:=Fm.length_le x.parts
 have hnq:=Fm.nodes_eq x
 have hie:=Fm.Yd x
 by_cases h7:x.op=7
 ·have o7:dec (x.op=7)=true:=Ao h7
  rw [hie,o7]
  simp only [yB,zS,zN]
  refine Ai Eb AQ (of_decide_eq_true rfl) ?_
  simp (disch:=omega) only [De,go_sem,Ab,o7]
 have o7:dec (x.op=7)=false:=Aj h7
 by_cases h4:x.op=4
 ·have o4:dec (x.op=4)=true:=Ao h4
  obtain ⟨p,hp⟩:=Fm.Sy hfo h4
  have hp:x.parts=[p]:=congrArg Fm.parts hp
  have hlt:0<x.parts.length:=by rw [hp]; simp
  have hg:=get_at Fm.d hlt
  have hx0:x.parts[0]=p:=by simp [hp]
  rw [hx0,Fm.d_eq] at hg
  have hh:(V7 x.parts).op=p.op:=by rw [hp]; rfl
  rw [hh,o7,o4] at hie
  by_cases hp3:p.op=3
  ·have hq3:(p.op=3)=True:=eq_true hp3
   have hd3:dec (p.op=3)=true:=Ao hp3
   rw [hd3] at hie
   simp only [zS,zZ,zR,zO,zT] at hie
   rw [hie]
   refine Ai Eb AQ (of_decide_eq_true rfl) ?_
   simp (disch:=omega) only [De,go_sem,Ab,o7,o4,hg,hq3,hd3,yL]
   refine go_loop (α:=Int) (fun a=>⟨slots 34 0 [(1,.ptr 0 0),(3,.int .i64 a)],[.box 34 [.int .i64 x.op,.str x.atom.name,.arr (x.atom.args.map Tm.d),.str x.var,.arr (x.parts.map Fm.d)]]⟩) (fun a=>∃ k:Nat,a=k∧k≤(x.parts).length∧(x.parts.drop k).all Fm.isN=x.parts.all Fm.isN) (fun a=>(x.parts).length-(a).toNat) 0 ⟨0,rfl,zK _,by rw [zJ]⟩ (by simp (disch:=omega) only [go_sem,Ab]) ?_
   rintro i ⟨k,hi,hk,hR⟩
   have hni:i.toNat=k:=by omega
   have hni1:(i+1).toNat=k+1:=by omega
   rcases zF k (x.parts).length with hlt | hge
   ·have hg:=get_at Fm.d hlt
    rw [Fm.d_eq] at hg
    have hc:=ih x.parts[k] (zQ hlt)
    rw [zB hlt,List.all_cons] at hR
    cases hp:x.parts[k].isN with
    | true =>
     rw [hp] at hc hR
     rw [zT] at hR
     simp (disch:=omega) only [go_sem,Ab,hni,hg,hc,AQ]
     exact ⟨i+1,⟨k+1,by omega,hlt,hR⟩,by omega,by first | trivial | rfl⟩
    | false =>
     rw [hp] at hc hR
     rw [zN] at hR
     rw [←hR]
     simp (disch:=omega) only [go_sem,Ab,hni,hg,hc,AQ]
   ·rw [zI hge,List.all_nil] at hR
    rw [←hR]
    simp (disch:=omega) only [go_sem,Ab,hni]
  ·have hq3:(p.op=3)=False:=eq_false hp3
   have hd3:dec (p.op=3)=false:=Aj hp3
   rw [hd3] at hie
   simp only [zO,zP,Bool.or_true,zS,zN] at hie
   rw [hie]
   refine Ai Eb AQ (of_decide_eq_true rfl) ?_
   simp (disch:=omega) only [De,go_sem,Ab,o7,o4,hg,hq3,hd3,yL]
 have o4:dec (x.op=4)=false:=Aj h4
 rw [o7,o4] at hie
 simp only [zN,zR,zO,zT] at hie
 rw [hie]
 refine Ai Eb AQ (of_decide_eq_true rfl) ?_
 simp (disch:=omega) only [De,go_sem,Ab,o7,o4]
 refine go_loop (α:=Int) (fun a=>⟨slots 34 0 [(1,.ptr 0 0),(3,.int .i64 a)],[.box 34 [.int .i64 x.op,.str x.atom.name,.arr (x.atom.args.map Tm.d),.str x.var,.arr (x.parts.map Fm.d)]]⟩) (fun a=>∃ k:Nat,a=k∧k≤(x.parts).length∧(x.parts.drop k).all Fm.isN=x.parts.all Fm.isN) (fun a=>(x.parts).length-(a).toNat) 0 ⟨0,rfl,zK _,by rw [zJ]⟩ (by simp (disch:=omega) only [go_sem,Ab]) ?_
 rintro i ⟨k,hi,hk,hR⟩
 have hni:i.toNat=k:=by omega
 have hni1:(i+1).toNat=k+1:=by omega
 rcases zF k (x.parts).length with hlt | hge
 ·have hg:=get_at Fm.d hlt
  rw [Fm.d_eq] at hg
  have hc:=ih x.parts[k] (zQ hlt)
  rw [zB hlt,List.all_cons] at hR
  cases hp:x.parts[k].isN with
  | true =>
   rw [hp] at hc hR
   rw [zT] at hR
   simp (disch:=omega) only [go_sem,Ab,hni,hg,hc,AQ]
   exact ⟨i+1,⟨k+1,by omega,hlt,hR⟩,by omega,by first | trivial | rfl⟩
  | false =>
   rw [hp] at hc hR
   rw [zN] at hR
   rw [←hR]
   simp (disch:=omega) only [go_sem,Ab,hni,hg,hc,AQ]
 ·rw [zI hge,List.all_nil] at hR
  rw [←hR]
  simp (disch:=omega) only [go_sem,Ab,hni]
theorem Qo (x:Fm) (hx:x.forms=true) (hn:x.nodes≤1099511627776):E 17 [x.sv] []=some (.bool x.isN,[]) :=
 U9 x hx hn fun y hy=>Qo y (Fm.Cn hx hy) (by have:=Fm.nodes_mem hy; have:=Fm.nodes_eq x; omega)
termination_by SizeOf.sizeOf x
decreasing_by exact Fm.lt_of_mem hy
mutual
theorem VD:∀ x:Fm,x.has 8=false→x.has 9=false→x.noq=true
 | .mk op atom var ps,h8,h9=>by
  rw [Fm.has,yK] at h8 h9
  rw [Fm.noq,SY ps h8.2 h9.2,zP]
  unfold qB
  have e8:dec (op=8)=false:=Aj fun e=>by rw [e,Ao rfl] at h8; cases h8.1
  have e9:dec (op=9)=false:=Aj fun e=>by rw [e,Ao rfl] at h9; cases h9.1
  rw [e8,e9]; rfl
theorem SY:∀ xs:List Fm,Fm.Sm 8 xs=false→Fm.Sm 9 xs=false→Fm.MQ xs=true
 | [],_,_=>rfl
 | x :: xs,h8,h9=>by
  rw [Fm.Sm,yK] at h8 h9
  rw [Fm.MQ,VD x h8.1 h9.1,SY xs h8.2 h9.2]; rfl
end
theorem UA {x:Fm} (h:x.hasS [8,9]=false):x.noq=true:=by
 unfold Fm.hasS at h
 rw [yI,yI,List.any_nil,zR,yK] at h
 exact VD x h.1 h.2
mutual
theorem Rv:∀ (x:Fm),x.vn≤1099511627776→x.tame
 | .mk op atom var ps,h=>by
  rw [Fm.vn] at h
  rw [Fm.tame]
  exact ⟨by omega,SZ ps (by omega)⟩
theorem SZ:∀ (xs:List Fm),Fm.vnS xs≤1099511627776→Fm.Iy xs
 | [],_=>by rw [Fm.Iy]; trivial
 | x :: xs,h=>by
  rw [Fm.vnS] at h
  rw [Fm.Iy]
  exact ⟨Rv x (by omega),SZ xs (by omega)⟩
end
noncomputable def dcR (x:Fm):Fm × Int × List Df:=x.dfn (Bb [] (syA x.ats)) false 0
noncomputable def EN (x:Fm):Bool:=x.valid&&(!x.hasS [8,9]&&(x.isN&&(!CS (dcR x).2.2&&(dcR x).1.valid)))
noncomputable def Kr (x:Fm):Fm:=bif EN x then (dcR x).1 else Fm.zero
noncomputable def MT (x:Fm):List Df:=bif EN x then (dcR x).2.2 else []
theorem VE (l:List Tm):(syA l).length≤Tm.nodeS l:=by
 induction l with
 | nil=>exact zK _
 | cons t l ih =>
  have h:=Tm.Gp t
  show (t.sy1++syA l).length≤_
  rw [zD,Tm.nodeS]; omega
def AI:SC:=(.seq (.reg [⟨some 1,none,.boxv 34 5 (.t 0)⟩,⟨(some 2),none,(.alloc 34 [(.int .i64 0),(.str ⟨#[]⟩),.nil,(.str ⟨#[]⟩),.nil])⟩,⟨some 3,none,.mv (.c .nil)⟩,⟨some 4,none,.mv (.c (.bool false))⟩]) (.seq (.seq (.reg [⟨some 7,none,.load true 5 (.t 1)⟩,⟨some 8,none,.call 23 [(.t 7)]⟩,⟨some 9,none,.un .not (.t 8)⟩,⟨some 10,none,.mv (.t 9)⟩,⟨(some 11),(some (10,false)),(.load true 5 (.t 1))⟩,⟨(some 12),(some (10,false)),(.mkrow 3 1 [(.int .i64 0)] 2 [(0,(.c (.int .i64 8))),(1,(.c (.int .i64 9)))])⟩,⟨(some 13),(some (10,false)),(.call 24 [(.t 11),(.t 12)])⟩,⟨some 14,none,.pick (.t 10) (.c (.bool true)) (.t 13)⟩,⟨some 15,none,.mv (.t 14)⟩,⟨(some 16),(some (15,false)),(.load true 5 (.t 1))⟩,⟨(some 17),(some (15,false)),(.call 25 [(.t 16)])⟩,⟨(some 18),(some (15,false)),(.un .not (.t 17))⟩,⟨some 19,none,.pick (.t 15) (.c (.bool true)) (.t 18)⟩]) (.cond (.t 19) (.seq (.reg [⟨(some 20),none,(.build [(.int .i64 0),(.str ⟨#[]⟩),.nil,(.str ⟨#[]⟩),.nil] [])⟩,⟨none,none,(.store 5 (.t 2) (.t 20))⟩,⟨some 3,none,.mv (.c .nil)⟩,⟨some 4,none,.mv (.c (.bool false))⟩]) .ret) .skip)) (.seq (.reg [⟨some 21,none,.load true 5 (.t 1)⟩,⟨some 22,none,.call 26 [(.c .nil),(.t 21)]⟩,⟨(some 23),none,(.build [(.str ⟨#[]⟩),.nil,(.int .i64 0)] [(0,(1,(.c (.str ⟨#[100]⟩)))),(1,(1,(.t 22)))])⟩,⟨some 24,none,.boxv 63 3 (.t 23)⟩,⟨some 25,none,.build [.any,.nil,(.bool false)] [(0,(1,(.t 24)))]⟩,⟨some 26,none,.boxv 65 3 (.t 25)⟩,⟨some 5,none,.mv (.t 26)⟩]) (.seq (.reg [⟨some 27,none,.mv (.t 5)⟩,⟨some 28,none,.load true 5 (.t 1)⟩,⟨some 29,none,.call 27 [(.t 27),(.t 28),(.c (.bool false))]⟩,⟨(some 6),none,(.alloc 34 [(.int .i64 0),(.str ⟨#[]⟩),.nil,(.str ⟨#[]⟩),.nil])⟩,⟨none,none,(.store 5 (.t 6) (.t 29))⟩]) (.seq (.seq (.reg [⟨some 30,none,.mv (.t 5)⟩,⟨some 31,none,.nilchk (.t 30)⟩,⟨some 32,none,.faddr 2 (.t 31)⟩,⟨some 33,none,.load false 1 (.t 32)⟩,⟨some 34,none,.mv (.t 33)⟩,⟨(some 35),(some (34,false)),(.load true 5 (.t 6))⟩,⟨(some 36),(some (34,false)),(.call 23 [(.t 35)])⟩,⟨(some 37),(some (34,false)),(.un .not (.t 36))⟩,⟨some 38,none,.pick (.t 34) (.c (.bool true)) (.t 37)⟩]) (.cond (.t 38) (.seq (.reg [⟨(some 39),none,(.build [(.int .i64 0),(.str ⟨#[]⟩),.nil,(.str ⟨#[]⟩),.nil] [])⟩,⟨none,none,(.store 5 (.t 2) (.t 39))⟩,⟨some 3,none,.mv (.c .nil)⟩,⟨some 4,none,.mv (.c (.bool false))⟩]) .ret) .skip)) (.seq (.dreg [[],[],[1],[2,1],[3,2,1],[0],[4,3,2,1,5,0],[6,4,3,2,1,5,0]] [⟨some 40,none,.load true 5 (.t 6)⟩,⟨some 41,none,.mv (.t 5)⟩,⟨some 42,none,.nilchk (.t 41)⟩,⟨some 43,none,.faddr 1 (.t 42)⟩,⟨some 44,none,.load false 1 (.t 43)⟩,⟨none,none,(.store 5 (.t 2) (.t 40))⟩,⟨some 3,none,.mv (.t 44)⟩,⟨some 4,none,.mv (.c (.bool true))⟩]) .ret))))))
theorem AS:Ap Tryz.prog 7=some ⟨45,AI,[(.cell 2 true 5),(.tmp 3),(.tmp 4)]⟩:=by kernel_rfl
theorem A2:modes 7=⟨[],.own [none,none,some (31,2),none,some (34,5),some (56,7),none],none,false⟩:=by unfold modes; rfl
theorem IT (x:Fm) (hta:x.tame) (hn:x.nodes≤1099511627776):E 7 [x.sv] []=some (.tup [.agg [.int .i64 (Kr x).op,.str (Kr x).atom.name,.ref 0,.str (Kr x).var,.ref 1],.ref 2,.bool (EN x)],[.row 31 2 ((Kr x).atom.args.map Tm.o),.row 34 5 ((Kr x).parts.map Fm.o),.row 56 7 ((MT x).map Df.o)]):=by
 have h1:=Hk x hta hn
 have h2:E 24 [x.sv,.arr [[D.int 8],[D.int 9]]] []=some (.bool (x.hasS [8,9]),[]):=SU [8,9] (by simp) x hn
 have hz:EN x=false→(Kr x=Fm.zero∧MT x=[]):=fun h=>by unfold Kr MT; rw [h]; exact ⟨rfl,rfl⟩
 have hzo:Fm.zero.op=0:=rfl
 have hzn:Fm.zero.atom.name=⟨#[]⟩:=rfl
 have hza:Fm.zero.atom.args=[]:=rfl
 have hzv:Fm.zero.var=⟨#[]⟩:=rfl
 have hzp:Fm.zero.parts=[]:=rfl
 rw [BO] at h1 h2 ⊢
 cases hv:x.valid with
 | false =>
  rw [hv] at h1
  have ho:EN x=false:=by unfold EN; rw [hv]; rfl
  rw [(hz ho).1,(hz ho).2,ho,hzo,hzn,hza,hzv,hzp,zC,zC,zC]
  refine Ai AS A2 (of_decide_eq_true rfl) ?_
  simp (disch:=omega) only [AI,go_sem,Ab,AN,BV,A3,BC,AG,Fm.osv,Fm.obs,h1]
  try first | rfl | exact ⟨rfl,rfl⟩
 | true =>
 rw [hv] at h1
 obtain ⟨hva1,hva2⟩:=Iz hv
 cases hs:x.hasS [8,9] with
 | true =>
  rw [hs] at h2
  have ho:EN x=false:=by unfold EN; rw [hv,hs]; rfl
  rw [(hz ho).1,(hz ho).2,ho,hzo,hzn,hza,hzv,hzp,zC,zC,zC]
  refine Ai AS A2 (of_decide_eq_true rfl) ?_
  simp (disch:=omega) only [AI,go_sem,Ab,AN,BV,A3,BC,AG,Fm.osv,Fm.obs,h1,h2]
  try first | rfl | exact ⟨rfl,rfl⟩
 | false =>
 rw [hs] at h2
 have hq:=UA hs
 have h3:=FJ x hva2 hn
 rw [BO] at h3
 cases hin:x.isN with
 | false =>
  rw [hin] at h3
  have ho:EN x=false:=by unfold EN; rw [hv,hs,hin]; rfl
  rw [(hz ho).1,(hz ho).2,ho,hzo,hzn,hza,hzv,hzp,zC,zC,zC]
  refine Ai AS A2 (of_decide_eq_true rfl) ?_
  simp (disch:=omega) only [AI,go_sem,Ab,AN,BV,A3,BC,AG,Fm.osv,Fm.obs,h1,h2,h3]
  try first | rfl | exact ⟨rfl,rfl⟩
 | true =>
 rw [hin] at h3
 have hvn:=Fm.V5 x hva2
 have hvn2:x.vn≤1200:=by omega
 have h4:=Rq x (by omega) (by omega)
 obtain ⟨tk,htk⟩:∃ tk,tk=Bb [] (syA x.ats):=⟨_,rfl⟩
 have htl:tk.length≤1200:=by
  have a1:=Db (syA x.ats) []
  have a2:=VE x.ats
  have a3:=Fm.Ff x
  rw [←htk,zH] at a1
  omega
 have hmul:(x.nodes:Int)*((tk.length+2:Nat):Int)≤100000:=by
  have h:=yU hva1 (show tk.length+2≤1202 by omega)
  rw [←yR]; omega
 have hd:=Xg (YV (OF tk (by omega) x hva2 hq (by omega) false 0 [] false (yJ 0) (by omega) (by simp only [zH]; omega)))
 have h5:E 27 (DL false x) (JZ tk 0 false)=_:=(Oc (g:=OY) (congrArg FM.ext AG)).trans hd
 have hinv:=Gs tk x hq False (fun _ a ha=>Ol a (Fm.Me x hva2 a ha)) false 0
 have hre:dcR x=x.dfn tk false 0:=by unfold dcR; rw [htk]
 rw [←htk] at h4
 unfold Kr MT EN
 rw [hv,hs,hin,hre]
 obtain ⟨r,hr⟩:∃ r,r=x.dfn tk false 0:=⟨_,rfl⟩
 rw [←hr] at h5 hinv ⊢
 have hyv:=hinv.vn
 have hyn:=hinv.nodes
 have h6:=Hk r.1 (Rv _ (by omega)) (by omega)
 unfold DL JZ So dfR dfT AY at h5
 rw [BO] at h4 h5 h6
 rw [yC] at h5
 dsimp only [List.cons_append,zL] at h5
 have e1:=Tm.erss r.1.atom.args
 have e2:=Tm.fus r.1.atom.args
 have e3:=Fm.erss r.1.parts
 have e4:=Fm.fus r.1.parts
 obtain ⟨bad,hbad⟩:∃ bad,bad=CS r.2.2:=⟨_,rfl⟩
 rw [←hbad] at h5 ⊢
 obtain ⟨ok,hok⟩:∃ ok,ok=r.1.valid:=⟨_,rfl⟩
 rw [←hok] at h6 ⊢
 clear hr hre hd hinv hmul htl htk
 cases bad with
 | true =>
  simp only [zO,zS,zZ,zN,cond_false,hzo,hzn,hza,hzv,hzp,zC]
  refine Ai AS A2 (of_decide_eq_true rfl) ?_
  simp (disch:=omega) only [AI,go_sem,Ab,AN,BV,A3,BC,AG,Fm.osv,Fm.obs,h1,h2,h3,h4,h5]
  try first | rfl | exact ⟨rfl,rfl⟩
 | false =>
  cases ok with
  | false =>
   simp only [zO,zS,zZ,zN,cond_false,hzo,hzn,hza,hzv,hzp,zC]
   refine Ai AS A2 (of_decide_eq_true rfl) ?_
   simp (disch:=omega) only [AI,go_sem,Ab,AN,BV,A3,BC,AG,Fm.osv,Fm.obs,h1,h2,h3,h4,h5,h6,e1,e2,e3,e4]
   try first | rfl | exact ⟨rfl,rfl⟩
  | true =>
   simp only [zO,zP,cond_true]
   refine Ai AS A2 (of_decide_eq_true rfl) ?_
   simp (disch:=omega) only [AI,go_sem,Ab,AN,BV,A3,BC,AG,Fm.osv,Fm.obs,h1,h2,h3,h4,h5,h6,e1,e2,e3,e4]
   try first | rfl | exact ⟨rfl,rfl⟩
def HF:SC:=(.seq (.reg [⟨(some 2),none,(.mv (.c (.str ⟨#[]⟩)))⟩]) (.seq (.seq (.reg [⟨some 3,none,.mv (.t 0)⟩,⟨some 4,none,.bin .lss false (.t 3) (.c (.int .i64 0))⟩]) (.cond (.t 4) (.seq (.reg [⟨some 5,none,.mv (.t 0)⟩,⟨some 6,none,.un .neg (.t 5)⟩,⟨some 7,none,.call 65 [(.t 6)]⟩,⟨(some 8),none,(.bin .add false (.c (.str ⟨#[45]⟩)) (.t 7))⟩,⟨some 2,none,.mv (.t 8)⟩]) .ret) .skip)) (.seq (.seq (.reg [⟨some 9,none,.mv (.t 0)⟩,⟨some 10,none,.bin .lss false (.t 9) (.c (.int .i64 10))⟩]) (.cond (.t 10) (.seq (.reg [⟨some 11,none,.mv (.t 0)⟩,⟨some 12,none,.mv (.t 0)⟩,⟨some 13,none,.bin .add false (.t 12) (.c (.int .i64 1))⟩,⟨(some 14),none,(.slice true 0 (.c (.str ⟨#[48,49,50,51,52,53,54,55,56,57]⟩)) (some (.t 11)) (some (.t 13)))⟩,⟨some 2,none,.mv (.t 14)⟩]) .ret) .skip)) (.seq (.dreg [[],[0],[1,0],[],[3],[],[5],[6,5],[4,3,7,6,5],[2,1,0,8,4,3,7,6,5],[9,2,1,0,8,4,3,7,6,5]] [⟨some 15,none,.mv (.t 0)⟩,⟨some 16,none,.bin .quo false (.t 15) (.c (.int .i64 10))⟩,⟨some 17,none,.call 65 [(.t 16)]⟩,⟨some 18,none,.mv (.t 0)⟩,⟨some 19,none,.bin .rem false (.t 18) (.c (.int .i64 10))⟩,⟨some 20,none,.mv (.t 0)⟩,⟨some 21,none,.bin .rem false (.t 20) (.c (.int .i64 10))⟩,⟨some 22,none,.bin .add false (.t 21) (.c (.int .i64 1))⟩,⟨(some 23),none,(.slice true 0 (.c (.str ⟨#[48,49,50,51,52,53,54,55,56,57]⟩)) (some (.t 19)) (some (.t 22)))⟩,⟨some 24,none,.bin .add false (.t 17) (.t 23)⟩,⟨some 2,none,.mv (.t 24)⟩]) .ret))))
theorem Lf:Ap Tryz.prog 65=some ⟨25,HF,[(.tmp 2)]⟩:=by kernel_rfl
theorem Ec:modes 65=⟨[],.asis,none,false⟩:=by unfold modes; rfl
theorem Zi (d:Nat) (h:d<10):(⟨#[48,49,50,51,52,53,54,55,56,57]⟩:ByteArray).extract d (d+1)=⟨#[UInt8.ofNat (48+d)]⟩:=by
 have key:∀ d:_root_.Fin 10,(⟨#[48,49,50,51,52,53,54,55,56,57]⟩:ByteArray).extract d.val (d.val+1)=⟨#[UInt8.ofNat (48+d.val)]⟩:=by decide +kernel
 exact key ⟨d,h⟩
theorem Ye (n:Int) (h0:0≤n) (h1:n≤1099511627776) (ih:10≤n→E 65 [.int .i64 (n.tdiv 10)] []=some (.str (HY (n.tdiv 10)),[])):E 65 [.int .i64 n] []=some (.str (HY n),[]):=by
 have hsz:(⟨#[48,49,50,51,52,53,54,55,56,57]⟩:ByteArray).size=10:=rfl
 rcases Int.lt_or_le n 10 with h | h
 ·have e1:=Zi n.toNat (by omega)
  have e2:(n+1).toNat=n.toNat+1:=by omega
  rw [Um h0 h]
  refine Ai Lf Ec (of_decide_eq_true rfl) ?_
  simp (disch:=omega) only [HF,go_sem,Ab,e1,e2,hsz]
 ·have hc:=ih h
  have hq:n.tdiv 10=n / 10:=zW h0
  have hr:n.tmod 10=n % 10:=Int.tmod_eq_emod_of_nonneg h0
  have hq2:0≤n.tdiv 10∧n.tdiv 10≤n:=by omega
  have hr2:0≤n.tmod 10∧n.tmod 10<10:=by omega
  have hs:=Jj hq2.1 (by omega:n.tdiv 10≤1099511627776)
  have e1:=Zi (n.tmod 10).toNat (by omega)
  have e2:(n.tmod 10+1).toNat=(n.tmod 10).toNat+1:=by omega
  rw [Xs h]
  clear hq hr
  have hs1:(⟨#[UInt8.ofNat (48+(n.tmod 10).toNat)]⟩:ByteArray).size=1:=rfl
  refine Ai Lf Ec (of_decide_eq_true rfl) ?_
  simp (disch:=omega) only [HF,go_sem,Ab,hc,e1,e2,hsz,hs1,Ec]
theorem VF (n:Int) (h0:0≤n) (h1:n≤1099511627776):E 65 [.int .i64 n] []=some (.str (HY n),[]) :=
 Ye n h0 h1 fun h=>VF (n.tdiv 10) (by rw [zW h0]; omega) (by rw [zW h0]; omega)
termination_by n.toNat
decreasing_by rw [zW h0]; omega
def EU:SC:=(.seq (.reg [⟨(some 2),none,(.mv (.c (.str ⟨#[]⟩)))⟩]) (.block 0 (.loop [1,0,0,0,0,0,0,0,0,0,0,0,0,0,0,0,0,0,0,0,0,0,0,0,0,0,0,0,0] (.block 1 (.seq (.reg [⟨some 4,none,.mv (.t 0)⟩,⟨some 5,none,.nilchk (.t 4)⟩,⟨some 6,none,.faddr 1 (.t 5)⟩,⟨some 7,none,.load false 1 (.t 6)⟩,⟨some 8,none,.bin .add false (.t 7) (.c (.int .i64 1))⟩,⟨some 9,none,.nilchk (.t 4)⟩,⟨some 10,none,.faddr 1 (.t 9)⟩,⟨none,none,(.store 1 (.t 10) (.t 8))⟩]) (.seq (.dreg [[],[0],[1,0],[2,1,0],[],[4],[5,4],[6,5,4],[7,6,5,4],[3,2,1,0,8,7,6,5,4],[9,3,2,1,0,8,7,6,5,4]] [⟨some 11,none,.mv (.t 0)⟩,⟨some 12,none,.nilchk (.t 11)⟩,⟨some 13,none,.faddr 0 (.t 12)⟩,⟨some 14,none,.load false 1 (.t 13)⟩,⟨some 15,none,.mv (.t 0)⟩,⟨some 16,none,.nilchk (.t 15)⟩,⟨some 17,none,.faddr 1 (.t 16)⟩,⟨some 18,none,.load false 1 (.t 17)⟩,⟨some 19,none,.call 65 [(.t 18)]⟩,⟨some 20,none,.bin .add false (.t 14) (.t 19)⟩,⟨some 3,none,.mv (.t 20)⟩]) (.seq (.reg [⟨some 21,none,.mv (.t 0)⟩,⟨some 22,none,.nilchk (.t 21)⟩,⟨some 23,none,.faddr 2 (.t 22)⟩,⟨some 24,none,.load false 1 (.t 23)⟩,⟨some 25,none,.mv (.t 3)⟩,⟨some 26,none,.call 66 [(.t 24),(.t 25)]⟩,⟨some 27,none,.un .not (.t 26)⟩]) (.cond (.t 27) (.seq (.reg [⟨some 28,none,.mv (.t 3)⟩,⟨some 2,none,.mv (.t 28)⟩]) .ret) .skip))))))))
theorem Jy:Ap Tryz.prog 44=some ⟨29,EU,[(.tmp 2)]⟩:=by kernel_rfl
theorem Dq:modes 44=⟨[],.asis,none,false⟩:=by unfold modes; rfl
theorem ZF (p:ByteArray) (hp:p.size≤1000) (tk:List ByteArray) (c:Int) (h0:0≤c) (hc:c+tk.length≤1099511600000):E 44 [.ptr 0 0] [.box 54 [.str p,.int .i64 c,.ref 1],.row 9 1 (tk.map fun s=>[OT.str s])]=some (.str (pre p (fresh p tk c)),[.box 54 [.str p,.int .i64 (fresh p tk c),.ref 1],.row 9 1 (tk.map fun s=>[OT.str s])]):=by
 have hfr:=CY p tk c
 refine Ai Jy Dq (of_decide_eq_true rfl) ?_
 simp (disch:=omega) only [EU,go_sem,Ab]
 refine go_loop (α:=Int) (fun a=>⟨slots 29 0 [(0,.ptr 0 0)],[.box 54 [.str p,.int .i64 a,.ref 1],.row 9 1 (tk.map fun s=>[OT.str s])]⟩) (fun a=>c≤a∧fresh p tk a=fresh p tk c) (fun a=>beyond p tk a) c ⟨yJ _,rfl⟩ (by simp (disch:=omega) only [go_sem,Ab]) ?_
 rintro a ⟨ha,hR⟩
 have hfa:=CY p tk a
 rw [hR] at hfa
 have hit:=VF (a+1) (by omega) (by omega)
 have hns:=Jj (show 0≤a+1 by omega) (by omega:a+1≤1099511627776)
 have hpre:p++HY (a+1)=pre p (a+1):=rfl
 have hcn:=XV tk (pre p (a+1)) (by omega)
 by_cases hm:pre p (a+1)∈tk
 ·rw [Ao hm] at hcn
  simp (disch:=omega) only [go_sem,Ab,hit,hpre,hcn,EW,Ec,EH]
  exact ⟨a+1,⟨by omega,by rw [←PR (by omega) hm]; exact hR⟩,Jk (by omega) hm,by first | trivial | rfl | exact ⟨rfl,rfl⟩⟩
 ·rw [Aj hm] at hcn
  have hnew:=PS hm
  rw [hR] at hnew
  rw [hnew]
  simp (disch:=omega) only [go_sem,Ab,hit,hpre,hcn,EW,Ec,EH]
mutual
noncomputable def Fm.at3:Fm→Bool
 | .mk op _ _ ps=>(!dec (op=3) || ps.isEmpty)&&Fm.Mf ps
noncomputable def Fm.Mf:List Fm→Bool
 | []=>true
 | x :: xs=>Fm.at3 x&&Fm.Mf xs
end
theorem Fm.Ta:∀ {xs:List Fm},Fm.Mf xs=true→∀ y∈xs,y.at3=true
 | x :: xs,h,y,hy=>by
  rw [Fm.Mf,zA] at h
  rcases List.mem_cons.1 hy with rfl | hy
  ·exact h.1
  ·exact Fm.Ta h.2 y hy
theorem Fm.OI (x:Fm):x.at3=((!dec (x.op=3) || x.parts.isEmpty)&&Fm.Mf x.parts):=by
 obtain ⟨op,a,v,ps⟩:=x
 rw [Fm.at3]; rfl
theorem Fm.YX {x:Fm} (h:x.at3=true) (h3:x.op=3):x.parts=[]:=by
 rw [Fm.OI,Ao h3,zA] at h
 simpa using h.1
theorem VG:∀ {xs:List Fm},(∀ y∈xs,y.at3=true)→Fm.Mf xs=true
 | [],_=>rfl
 | x :: xs,h=>by rw [Fm.Mf,h x (by simp),VG fun y hy=>h y (by simp [hy])]; rfl
theorem Fm.Qp (x:Fm) (hx:x.forms=true):x.at3=true:=by
 rw [Fm.OI,VG fun y hy=>Fm.Qp y (Fm.Cn hx hy),zP]
 by_cases h3:x.op=3
 ·rw [(Fm.GW (Fm.CA hx) h3).1]; simp
 ·rw [Aj h3]; rfl
termination_by SizeOf.sizeOf x
decreasing_by exact Fm.lt_of_mem hy
mutual
theorem YY (tk:List ByteArray):∀ (x:Fm),x.at3=true→∀ (io:Bool) (c:Int),(x.dfn tk io c).1.at3=true
 | .mk op atom var ps,h,io,c=>by
  rw [Fm.at3,zA] at h
  have ih:=OJ tk ps h.2 (dec (op=6)) c
  have hl:=SQ tk (dec (op=6)) ps c
  rw [Fm.dfn]
  unfold K7
  cases hc:io&&dec ((Fm.mk op atom var (Fm.B7 tk ps (dec (op=6)) c).1).op=5) with
  | false =>
   rw [cond_false]
   dsimp only
   rw [Fm.at3,ih,zP]
   by_cases h3:op=3
   ·rw [Ao h3] at h ⊢
    have hp:ps=[]:=by simpa using h.1
    have hn:(Fm.B7 tk ps (dec (op=6)) c).1=[]:=zE (hl.trans (by rw [hp]; rfl))
    rw [hn]; rfl
   ·rw [Aj h3]; rfl
  | true =>
   rw [cond_true]
   dsimp only
   rw [Fm.OI]
   show ((!dec ((3:Int)=3) || ([]:List Fm).isEmpty)&&Fm.Mf [])=true
   rw [Fm.Mf]; simp
theorem OJ (tk:List ByteArray):∀ (xs:List Fm),Fm.Mf xs=true→∀ (io:Bool) (c:Int),Fm.Mf (Fm.B7 tk xs io c).1=true
 | [],_,io,c=>by rw [Fm.B7]; rfl
 | x :: xs,h,io,c=>by
  rw [Fm.Mf,zA] at h
  rw [Fm.B7]
  dsimp only
  rw [Fm.Mf,YY tk x h.1,OJ tk xs h.2]; rfl
end
theorem Qq (x:Fm) (hq:x.noq=true) (h3:x.at3=true):ZA x :=
 W0 x (Fm.YX h3) (fun h=>by rw [Fm.Mc,h] at hq; simp at hq) fun y hy=>Qq y (FI hq hy) (by
  rw [Fm.OI,zA] at h3
  exact Fm.Ta h3.2 y hy)
termination_by SizeOf.sizeOf x
decreasing_by exact Fm.lt_of_mem hy
theorem W5 (x:Fm) (hq:x.noq=true) (h3:x.at3=true) (hv:x.vn≤1048576) (hn:x.nodes≤1048576):E 45 [x.sv] []=some (.ref 0,[.row 9 1 (x.free.map fun s=>[OT.str s])]):=by
 have h1:=Qq x hq h3 [] [] (by simpa using hv) (by simpa using hn)
 rw [zC,zC,zH] at h1
 unfold Fm.free
 have hxs:x.sv=.agg [.int .i64 x.op,.str x.atom.name,.arr (x.atom.args.map Tm.d),.str x.var,.arr (x.parts.map Fm.d)]:=rfl
 obtain ⟨ns,hns⟩:∃ ns,ns=BJ [] (x.fv []):=⟨_,rfl⟩
 rw [←hns] at h1 ⊢
 rcases zF 0 ns.length with q | q
 ·rw [Ao q] at h1
  simp only [cond_true] at h1
  refine Ai JJ E5 (of_decide_eq_true rfl) ?_
  simp (disch:=omega) only [GD,go_sem,Ab,h1,Co]
 ·rw [Aj (by omega)] at h1
  simp only [cond_false] at h1
  refine Ai JJ E5 (of_decide_eq_true rfl) ?_
  simp (disch:=omega) only [GD,go_sem,Ab,h1,Co]
def HU:SC:=(.seq (.reg [⟨some 4,none,.boxv 34 5 (.t 0)⟩,⟨(some 8),none,(.alloc 34 [(.int .i64 0),(.str ⟨#[]⟩),.nil,(.str ⟨#[]⟩),.nil])⟩,⟨some 9,none,.mv (.c .nil)⟩]) (.seq (.dreg [[],[0],[],[2],[3,2],[],[5],[1,0,4,3,2,6,5],[],[8,7,1,0,4,3,2,6,5]] [⟨some 17,none,.faddr 0 (.t 4)⟩,⟨some 18,none,.load false 1 (.t 17)⟩,⟨some 19,none,.faddr 1 (.t 4)⟩,⟨some 20,none,.load true 2 (.t 19)⟩,⟨some 21,none,.call 43 [(.t 20)]⟩,⟨some 22,none,.faddr 3 (.t 4)⟩,⟨some 23,none,.load false 1 (.t 22)⟩,⟨(some 24),none,(.build [(.int .i64 0),(.str ⟨#[]⟩),.nil,(.str ⟨#[]⟩),.nil] [(0,(1,(.t 18))),(1,(2,(.t 21))),(3,(1,(.t 23)))])⟩,⟨(some 10),none,(.alloc 34 [(.int .i64 0),(.str ⟨#[]⟩),.nil,(.str ⟨#[]⟩),.nil])⟩,⟨none,none,(.store 5 (.t 10) (.t 24))⟩]) (.seq (.seq (.reg [⟨some 11,none,.mv (.c (.int .i64 0))⟩]) (.block 0 (.loop [0,1,1,1,1,0,0,0,1,0,1,1,0,0,0,0,0,0,0,0,0,0,0,0,0,0,0,0,0,0,0,0,0,0,0,0,0,0,0,0,0,0,0,0,0,0,0,0,0,0,0,0,0,0,0,0,0,0,0,0,0,0,0,0,0,0,0,0,0,0,0,0,0,0,0,0,0,0,0,0,0,0,0,0,0,0,0,0,0,0,0,0,0,0,0] (.seq (.seq (.reg [⟨some 25,none,.mv (.t 11)⟩,⟨some 26,none,.faddr 4 (.t 4)⟩,⟨some 27,none,.load false 1 (.t 26)⟩,⟨some 28,none,.len false (.t 27)⟩,⟨some 29,none,.bin .lss false (.t 25) (.t 28)⟩]) (.cond (.t 29) .skip (.exit 0))) (.seq (.block 1 (.seq (.dreg [[],[0],[],[1,0,2],[3,1,0,2],[],[5],[6,5],[],[],[4,3,1,0,2,7,6,5,8,9],[10,4,3,1,0,2,7,6,5,8,9],[11,10,4,3,1,0,2,7,6,5,8,9],[11,10,4,3,1,0,2,7,6,5,8,9],[],[14,12,11,10,4,3,1,0,2,7,6,5,8,9],[13,11,10,4,3,1,0,2,7,6,5,8,9,15,14,12]] [⟨some 33,none,.faddr 4 (.t 4)⟩,⟨some 34,none,.load false 1 (.t 33)⟩,⟨some 35,none,.mv (.t 11)⟩,⟨some 36,none,.iaddr 5 (.t 34) (.t 35)⟩,⟨some 37,none,.load true 5 (.t 36)⟩,⟨some 38,none,.faddr 0 (.t 4)⟩,⟨some 39,none,.load false 1 (.t 38)⟩,⟨some 40,none,.bin .eql false (.t 39) (.c (.int .i64 6))⟩,⟨some 41,none,.mv (.t 2)⟩,⟨some 42,none,.mv (.t 3)⟩,⟨some 43,none,.call 19 [(.t 37),(.t 40),(.t 41),(.t 42)]⟩,⟨some 32,none,.mv (.t 43)⟩,⟨some 44,none,.ext (.t 32) 0⟩,⟨some 45,none,.ext (.t 32) 1⟩,⟨(some 12),none,(.alloc 34 [(.int .i64 0),(.str ⟨#[]⟩),.nil,(.str ⟨#[]⟩),.nil])⟩,⟨none,none,(.store 5 (.t 12) (.t 44))⟩,⟨some 13,none,.mv (.t 45)⟩]) (.seq (.reg [⟨some 46,none,.mv (.t 13)⟩,⟨some 3,none,.mv (.t 46)⟩]) (.reg [⟨some 47,none,.faddr 4 (.t 10)⟩,⟨some 48,none,.load false 1 (.t 47)⟩,⟨some 49,none,.load true 5 (.t 12)⟩,⟨(some 50),none,(.mkrow 34 5 [(.int .i64 0),(.str ⟨#[]⟩),.nil,(.str ⟨#[]⟩),.nil] 1 [(0,(.t 49))])⟩,⟨(some 51),none,(.append 34 5 88 [(.int .i64 0),(.str ⟨#[]⟩),.nil,(.str ⟨#[]⟩),.nil] (.t 48) (.t 50))⟩,⟨some 52,none,.faddr 4 (.t 10)⟩,⟨none,none,(.store 1 (.t 52) (.t 51))⟩])))) (.reg [⟨some 30,none,.mv (.t 11)⟩,⟨some 31,none,.bin .add false (.t 30) (.c (.int .i64 1))⟩,⟨some 11,none,.mv (.t 31)⟩])))))) (.seq (.seq (.reg [⟨some 53,none,.mv (.t 1)⟩,⟨some 54,none,.un .not (.t 53)⟩,⟨some 55,none,.mv (.t 54)⟩,⟨(some 56),(some (55,false)),(.faddr 0 (.t 4))⟩,⟨(some 57),(some (55,false)),(.load false 1 (.t 56))⟩,⟨(some 58),(some (55,false)),(.bin .neq false (.t 57) (.c (.int .i64 5)))⟩,⟨some 59,none,.pick (.t 55) (.c (.bool true)) (.t 58)⟩]) (.cond (.t 59) (.seq (.reg [⟨some 60,none,.load true 5 (.t 10)⟩,⟨some 61,none,.mv (.t 3)⟩,⟨none,none,(.store 5 (.t 8) (.t 60))⟩,⟨some 9,none,.mv (.t 61)⟩]) .ret) .skip)) (.seq (.dreg [[],[0],[],[2,1,0],[],[1,0,3,2,4],[],[6,5,1,0,3,2,4]] [⟨some 62,none,.mv (.t 2)⟩,⟨some 63,none,.call 44 [(.t 62)]⟩,⟨some 64,none,.load true 5 (.t 10)⟩,⟨some 65,none,.call 45 [(.t 64)]⟩,⟨some 66,none,.load true 5 (.t 10)⟩,⟨(some 67),none,(.build [(.str ⟨#[]⟩),.nil,(.int .i64 0),(.str ⟨#[]⟩),.nil,(.str ⟨#[]⟩),.nil] [(0,(1,(.t 63))),(1,(1,(.t 65))),(2,(5,(.t 66)))])⟩,⟨(some 14),none,(.alloc 56 [(.str ⟨#[]⟩),.nil,(.int .i64 0),(.str ⟨#[]⟩),.nil,(.str ⟨#[]⟩),.nil])⟩,⟨none,none,(.store 7 (.t 14) (.t 67))⟩]) (.seq (.reg [⟨some 68,none,.faddr 0 (.t 14)⟩,⟨some 69,none,.load false 1 (.t 68)⟩,⟨(some 70),none,(.build [(.str ⟨#[]⟩),.nil] [(0,(1,(.t 69)))])⟩,⟨(some 15),none,(.alloc 31 [(.str ⟨#[]⟩),.nil])⟩,⟨none,none,(.store 2 (.t 15) (.t 70))⟩]) (.seq (.seq (.reg [⟨some 16,none,.mv (.c (.int .i64 0))⟩]) (.block 2 (.loop [0,0,0,1,0,0,0,0,1,0,0,0,0,0,1,1,1,0,0,0,0,0,0,0,0,0,0,0,0,0,0,0,0,0,0,0,0,0,0,0,0,0,0,0,0,0,0,0,0,0,0,0,0,0,0,0,0,0,0,0,0,0,0,0,0,0,0,0,0,0,0,0,0,0,0,0,0,0,0,0,0,0,0,0,0,0,0,0,0,0,0,0,0,0,0] (.seq (.seq (.reg [⟨some 71,none,.mv (.t 16)⟩,⟨some 72,none,.faddr 1 (.t 14)⟩,⟨some 73,none,.load false 1 (.t 72)⟩,⟨some 74,none,.len false (.t 73)⟩,⟨some 75,none,.bin .lss false (.t 71) (.t 74)⟩]) (.cond (.t 75) .skip (.exit 2))) (.seq (.block 3 (.dreg [[],[0],[],[2],[],[3,2,4],[5,3,2,4],[6,5,3,2,4],[7,6,5,3,2,4],[1,0,8,7,6,5,3,2,4],[0,1,2,3,4,5,6,7,8,9],[10,0,1,2,3,4,5,6,7,8,9]] [⟨some 78,none,.faddr 1 (.t 15)⟩,⟨some 79,none,.load false 1 (.t 78)⟩,⟨some 80,none,.faddr 1 (.t 14)⟩,⟨some 81,none,.load false 1 (.t 80)⟩,⟨some 82,none,.mv (.t 16)⟩,⟨some 83,none,.iaddr 1 (.t 81) (.t 82)⟩,⟨some 84,none,.load false 1 (.t 83)⟩,⟨(some 85),none,(.build [(.str ⟨#[]⟩),.nil] [(0,(1,(.t 84)))])⟩,⟨(some 86),none,(.mkrow 31 2 [(.str ⟨#[]⟩),.nil] 1 [(0,(.t 85))])⟩,⟨(some 87),none,(.append 31 2 40 [(.str ⟨#[]⟩),.nil] (.t 79) (.t 86))⟩,⟨some 88,none,.faddr 1 (.t 15)⟩,⟨none,none,(.store 1 (.t 88) (.t 87))⟩])) (.reg [⟨some 76,none,.mv (.t 16)⟩,⟨some 77,none,.bin .add false (.t 76) (.c (.int .i64 1))⟩,⟨some 16,none,.mv (.t 77)⟩])))))) (.seq (.dreg [[],[0],[],[],[3],[2,4,3],[1,0,5,2,4,3],[5,2,4,3,6,1,0]] [⟨some 89,none,.load true 2 (.t 15)⟩,⟨(some 90),none,(.build [(.int .i64 0),(.str ⟨#[]⟩),.nil,(.str ⟨#[]⟩),.nil] [(0,(1,(.c (.int .i64 3)))),(1,(2,(.t 89)))])⟩,⟨some 91,none,.mv (.t 3)⟩,⟨some 92,none,.load true 7 (.t 14)⟩,⟨(some 93),none,(.mkrow 56 7 [(.str ⟨#[]⟩),.nil,(.int .i64 0),(.str ⟨#[]⟩),.nil,(.str ⟨#[]⟩),.nil] 1 [(0,(.t 92))])⟩,⟨(some 94),none,(.append 56 7 128 [(.str ⟨#[]⟩),.nil,(.int .i64 0),(.str ⟨#[]⟩),.nil,(.str ⟨#[]⟩),.nil] (.t 91) (.t 93))⟩,⟨none,none,(.store 5 (.t 8) (.t 90))⟩,⟨some 9,none,.mv (.t 94)⟩]) .ret))))))))
theorem MU:Ap Tryz.prog 19=some ⟨95,HU,[(.cell 8 true 5),(.tmp 9)]⟩:=by kernel_rfl
theorem AO:modes 19=⟨[false,false,false,true],.own [none,none,some (31,2),none,some (34,5),some (56,7)],none,false⟩:=by unfold modes; rfl
abbrev LdE (tk:List ByteArray) (x:Fm) (io:Bool) (c:Int) (es:List (List OT)):Prop:=E 19 [x.sv,.bool io,.ptr 0 0,.ref 1] [.box 54 [.str AY,.int .i64 c,.ref 2],.row 56 7 (es),.row 9 1 (tk.map fun s=>[OT.str s])]=some (.tup [.agg [.int .i64 (x.dfn tk io c).1.op,.str (x.dfn tk io c).1.atom.name,.ref 3,.str (x.dfn tk io c).1.var,.ref 4],(bif dec (0<(x.dfn tk io c).2.2.length) then .ref 5 else .ref 1)],(bif dec (0<(x.dfn tk io c).2.2.length) then [.box 54 [.str AY,.int .i64 (x.dfn tk io c).2.1,.ref 2],.gone,.row 9 1 (tk.map fun s=>[OT.str s]),.row 31 2 ((x.dfn tk io c).1.atom.args.map Tm.o),.row 34 5 ((x.dfn tk io c).1.parts.map Fm.o),.row 56 7 (es++(x.dfn tk io c).2.2.map Df.o)] else [.box 54 [.str AY,.int .i64 (x.dfn tk io c).2.1,.ref 2],.row 56 7 (es),.row 9 1 (tk.map fun s=>[OT.str s]),.row 31 2 ((x.dfn tk io c).1.atom.args.map Tm.o),.row 34 5 ((x.dfn tk io c).1.parts.map Fm.o)]))
abbrev LdC (tk:List ByteArray) (x:Fm):Prop:=∀ (io:Bool) (c:Int) (es:List (List OT)),0≤c→c+(x.nodes:Int)*((tk.length+2:Nat):Int)≤1099511000000→es.length+x.nodes≤1000000→LdE tk x io c es
theorem Tc (tk:List ByteArray) (htk:tk.length≤1000000) (x:Fm) (hq:x.noq=true) (h3:x.at3=true) (h5:x.op=5→x.parts≠[]) (hv:x.vn≤1000000) (ih:∀ y∈x.parts,LdC tk y):LdC tk x:=by
 intro io c0 es h0 hc0 hes
 have hnq:=Fm.nodes_eq x
 have hvq:=Fm.DE x
 have hpl:=Fm.length_le x.parts
 have hK:((1+Fm.nodeS x.parts:Nat):Int)*((tk.length+2:Nat):Int)=(tk.length+2:Nat)+(Fm.nodeS x.parts:Int)*((tk.length+2:Nat):Int):=by rw [zU,yA]; simp
 rw [hnq,hK] at hc0
 have hown:=V6 x.atom (by omega)
 have has:x.atom.sv=.agg [.str x.atom.name,.arr (x.atom.args.map Tm.d)]:=rfl
 rw [has] at hown
 have hgl:dec (0<([]:List Df).length)=false:=Aj (by simp)
 have hinv:=Gs tk x hq True (fun h=>absurd trivial h) io c0
 unfold LdE
 rw [BO]
 obtain ⟨R,hR0⟩:∃ R,R=x.dfn tk io c0:=⟨_,rfl⟩
 rw [←hR0] at hinv ⊢
 rw [Fm.XR] at hR0
 refine Ai MU AO (of_decide_eq_true rfl) ?_
 simp (maxSteps:=4000000) (disch:=omega) only [HU,go_sem,Ab,hown,BG]
 refine go_loop (α:=Int × (Int) × (List Df) × (List Fm)) (fun a=>⟨slots 95 0 [(1,.bool io),(2,.ptr 0 0),(3,(bif dec (0<(a.2.2.1).length) then .ref 3 else .ref 1)),(4,(bif dec (0<(a.2.2.1).length) then .ptr 4 0 else .ptr 3 0)),(8,(bif dec (0<(a.2.2.1).length) then .ptr 5 0 else .ptr 4 0)),(10,(bif dec (0<(a.2.2.1).length) then .ptr 6 0 else .ptr 5 0)),(11,.int .i64 (a.1))],(bif dec (0<(a.2.2.1).length) then [.box 54 [.str AY,.int .i64 (a.2.1),.ref 2],.gone,.row 9 1 (tk.map fun s=>[OT.str s]),.row 56 7 (es++(a.2.2.1).map Df.o),.box 34 [.int .i64 x.op,.str x.atom.name,.arr (x.atom.args.map Tm.d),.str x.var,.arr (x.parts.map Fm.d)],.box 34 [.int .i64 0,.str ⟨#[]⟩,.nil,.str ⟨#[]⟩,.nil],.box 34 [.int .i64 x.op,.str x.atom.name,.ref 7,.str x.var,.ref 8],.row 31 2 (x.atom.args.map Tm.o),.row 34 5 ((a.2.2.2).map Fm.o)] else (if (a.1)=0 then [.box 54 [.str AY,.int .i64 (a.2.1),.ref 2],.row 56 7 (es),.row 9 1 (tk.map fun s=>[OT.str s]),.box 34 [.int .i64 x.op,.str x.atom.name,.arr (x.atom.args.map Tm.d),.str x.var,.arr (x.parts.map Fm.d)],.box 34 [.int .i64 0,.str ⟨#[]⟩,.nil,.str ⟨#[]⟩,.nil],.box 34 [.int .i64 x.op,.str x.atom.name,.ref 6,.str x.var,.nil],.row 31 2 (x.atom.args.map Tm.o)] else [.box 54 [.str AY,.int .i64 (a.2.1),.ref 2],.row 56 7 (es),.row 9 1 (tk.map fun s=>[OT.str s]),.box 34 [.int .i64 x.op,.str x.atom.name,.arr (x.atom.args.map Tm.d),.str x.var,.arr (x.parts.map Fm.d)],.box 34 [.int .i64 0,.str ⟨#[]⟩,.nil,.str ⟨#[]⟩,.nil],.box 34 [.int .i64 x.op,.str x.atom.name,.ref 6,.str x.var,.ref 7],.row 31 2 (x.atom.args.map Tm.o),.row 34 5 ((a.2.2.2).map Fm.o)]))⟩) (fun a=>∃ k:Nat,a.1=k∧k≤(x.parts).length∧(k=0→(a.2.2.1)=[]∧(a.2.2.2)=[]∧(a.2.1)=c0)∧(a.2.2.2).length=k∧Fm.B7 tk x.parts (dec (x.op=6)) c0=((a.2.2.2)++(Fm.B7 tk (x.parts.drop k) (dec (x.op=6)) (a.2.1)).1,(Fm.B7 tk (x.parts.drop k) (dec (x.op=6)) (a.2.1)).2.1,(a.2.2.1)++(Fm.B7 tk (x.parts.drop k) (dec (x.op=6)) (a.2.1)).2.2)∧0≤(a.2.1)∧(a.2.1)+(Fm.nodeS (x.parts.drop k):Int)*((tk.length+2:Nat):Int)≤1099511000000∧es.length+(a.2.2.1).length+Fm.nodeS (x.parts.drop k)≤1000000) (fun a=>(x.parts).length-(a.1).toNat) (0,c0,[],[]) ⟨0,rfl,zK _,fun _=>⟨rfl,rfl,rfl⟩,rfl,by rw [zJ]; rfl,h0,by rw [zJ]; dsimp only; omega,by rw [zJ]; dsimp only [zH]; omega⟩ (by simp (maxSteps:=4000000) (disch:=omega) only [go_sem,Ab,hgl,cond_false,eq_self,if_true]) ?_
 rintro ⟨i,c,acc,ys⟩ ⟨k,hi,hk,hR⟩
 dsimp only at hi hR
 have hni:i.toNat=k:=by omega
 have hni1:(i+1).toNat=k+1:=by omega
 rcases zF k (x.parts).length with hlt | hge
 ·have hg:=get_at Fm.d hlt
  rw [Fm.d_eq] at hg
  obtain ⟨hZ,hR1,hR2,hc1,hc2,hc3⟩:=hR
  rw [zB hlt,Fm.B7] at hR2
  rw [zB hlt,Fm.nodeS,zU,yA] at hc2
  rw [zB hlt,Fm.nodeS] at hc3
  have hmem:=zQ hlt
  have hpos:(0:Int)≤(Fm.nodeS (x.parts.drop (k+1)):Int)*((tk.length+2:Nat):Int):=yT (by omega) (by omega)
  have hi2:=Gs tk x.parts[k] (FI hq hmem) True (fun h=>absurd trivial h) (dec (x.op=6)) c
  have hcc:=ih _ hmem (dec (x.op=6)) c (es++acc.map Df.o) hc1 (by omega) (by rw [zD,zX]; omega)
  unfold LdE at hcc
  rw [BO] at hcc
  obtain ⟨r,hr⟩:∃ r,r=x.parts[k].dfn tk (dec (x.op=6)) c:=⟨_,rfl⟩
  rw [←hr] at hcc hR2 hi2
  dsimp only at hR2
  obtain ⟨j2,j3,j4,j5,j6,j7,j8⟩:=hi2
  have hR2':Fm.B7 tk x.parts (dec (x.op=6)) c0=((ys++[r.1])++(Fm.B7 tk (x.parts.drop (k+1)) (dec (x.op=6)) r.2.1).1,(Fm.B7 tk (x.parts.drop (k+1)) (dec (x.op=6)) r.2.1).2.1,(acc++r.2.2)++(Fm.B7 tk (x.parts.drop (k+1)) (dec (x.op=6)) r.2.1).2.2):=by rw [hR2,z8,z8]; rfl
  have hs:ys.map Fm.o++[[OT.int r.1.op,OT.str r.1.atom.name,OT.ow (r.1.atom.args.map Tm.o),OT.str r.1.var,OT.ow (r.1.parts.map Fm.o)]]=(ys++[r.1]).map Fm.o:=by rw [yE,z7,zC,Fm.o_eq]
  have hi1:(i+1=0)=False:=by simp; omega
  clear hr hR2 hR0 hinv
  rcases zG k with k0 | k0
  ·subst k0
   obtain rfl:i=0:=hi
   obtain ⟨rfl,rfl,rfl⟩:=hZ rfl
   have h10:((1:Int)=0)=False:=by simp
   simp only [yP] at hR2' hc2 hc3
   simp only [zC,zM,zL] at hcc hs
   rcases zG r.2.2.length with z0 | z0
   ·have hz:r.2.2=[]:=zE z0
    have d0:dec (0<r.2.2.length)=false:=Aj (by omega)
    rw [d0] at hcc
    simp only [cond_false] at hcc
    simp (maxSteps:=4000000) (disch:=omega) only [go_sem,Ab,hni,hg,hcc,hgl,cond_false,eq_self,if_true,AO,BG]
    refine ⟨(1,r.2.1,[]++r.2.2,[]++[r.1]),⟨1,rfl,hlt,fun h=>absurd h (by omega),rfl,hR2',by dsimp only; omega,by dsimp only; omega,by dsimp only; rw [zD]; omega⟩,by dsimp only; omega,?_⟩
    rw [hz]
    simp (maxSteps:=4000000) (disch:=omega) only [go_sem,Ab,hgl,cond_false,h10,if_false,hs,zM]
   ·have d0:dec (0<r.2.2.length)=true:=Ao z0
    rw [d0] at hcc
    simp only [cond_true] at hcc
    simp (maxSteps:=4000000) (disch:=omega) only [go_sem,Ab,hni,hg,hcc,hgl,cond_false,eq_self,if_true,AO,BG]
    refine ⟨(1,r.2.1,[]++r.2.2,[]++[r.1]),⟨1,rfl,hlt,fun h=>absurd h (by omega),rfl,hR2',by dsimp only; omega,by dsimp only; omega,by dsimp only; rw [zD]; omega⟩,by dsimp only; omega,?_⟩
    simp (maxSteps:=4000000) (disch:=omega) only [go_sem,Ab,d0,cond_true,hs,zL]
  ·have hi0:(i=0)=False:=by simp; omega
   rcases zG acc.length with y0 | y0
   ·obtain rfl:acc=[]:=zE y0
    simp only [zC,zM] at hcc
    rcases zG r.2.2.length with z0 | z0
    ·have hz:r.2.2=[]:=zE z0
     have d0:dec (0<r.2.2.length)=false:=Aj (by omega)
     rw [d0] at hcc
     simp only [cond_false] at hcc
     simp (maxSteps:=4000000) (disch:=omega) only [go_sem,Ab,hni,hg,hcc,hgl,cond_false,hi0,if_false,AO,BG]
     refine ⟨(i+1,r.2.1,([]:List Df)++r.2.2,ys++[r.1]),⟨k+1,by dsimp only; omega,hlt,fun h=>absurd h (by omega),by dsimp only; rw [zD,hR1]; rfl,hR2',by dsimp only; omega,by dsimp only; omega,by dsimp only; rw [zD]; omega⟩,by dsimp only; omega,?_⟩
     rw [hz]
     simp (maxSteps:=4000000) (disch:=omega) only [go_sem,Ab,hgl,cond_false,hi1,if_false,hs,zM]
    ·have d0:dec (0<r.2.2.length)=true:=Ao z0
     rw [d0] at hcc
     simp only [cond_true] at hcc
     simp (maxSteps:=4000000) (disch:=omega) only [go_sem,Ab,hni,hg,hcc,hgl,cond_false,hi0,if_false,AO,BG]
     refine ⟨(i+1,r.2.1,([]:List Df)++r.2.2,ys++[r.1]),⟨k+1,by dsimp only; omega,hlt,fun h=>absurd h (by omega),by dsimp only; rw [zD,hR1]; rfl,hR2',by dsimp only; omega,by dsimp only; omega,by dsimp only; rw [zD]; omega⟩,by dsimp only; omega,?_⟩
     simp (maxSteps:=4000000) (disch:=omega) only [go_sem,Ab,d0,cond_true,hs,zL]
   ·have e0:dec (0<acc.length)=true:=Ao y0
    have e1:dec (0<(acc++r.2.2).length)=true:=Ao (by rw [zD]; omega)
    have e2:es++(acc++r.2.2).map Df.o=(es++acc.map Df.o)++r.2.2.map Df.o:=by rw [yE,z8]
    rcases zG r.2.2.length with z0 | z0
    ·have hz:r.2.2=[]:=zE z0
     have d0:dec (0<r.2.2.length)=false:=Aj (by omega)
     rw [d0] at hcc
     simp only [cond_false] at hcc
     rw [hz,zM] at e1 e2
     simp (maxSteps:=4000000) (disch:=omega) only [go_sem,Ab,hni,hg,hcc,e0,cond_true,AO,BG]
     refine ⟨(i+1,r.2.1,acc++r.2.2,ys++[r.1]),⟨k+1,by dsimp only; omega,hlt,fun h=>absurd h (by omega),by dsimp only; rw [zD,hR1]; rfl,hR2',by dsimp only; omega,by dsimp only; omega,by dsimp only; rw [zD]; omega⟩,by dsimp only; omega,?_⟩
     rw [hz,zM]
     simp (maxSteps:=4000000) (disch:=omega) only [go_sem,Ab,e0,cond_true,hs]
    ·have d0:dec (0<r.2.2.length)=true:=Ao z0
     rw [d0] at hcc
     simp only [cond_true] at hcc
     simp (maxSteps:=4000000) (disch:=omega) only [go_sem,Ab,hni,hg,hcc,e0,cond_true,AO,BG]
     refine ⟨(i+1,r.2.1,acc++r.2.2,ys++[r.1]),⟨k+1,by dsimp only; omega,hlt,fun h=>absurd h (by omega),by dsimp only; rw [zD,hR1]; rfl,hR2',by dsimp only; omega,by dsimp only; omega,by dsimp only; rw [zD]; omega⟩,by dsimp only; omega,?_⟩
     simp (maxSteps:=4000000) (disch:=omega) only [go_sem,Ab,e1,e2,cond_true,hs]
 ·obtain rfl:k=x.parts.length:=by omega
  obtain ⟨hZ,hR1,hR2,hc1,hc2,hc3⟩:=hR
  rw [zI hge,Fm.B7] at hR2
  dsimp only at hR2
  rw [zM,zM] at hR2
  rw [hR2] at hR0
  obtain ⟨y,hy⟩:∃ y,y=Fm.mk x.op x.atom x.var ys:=⟨_,rfl⟩
  have hyo:y.op=x.op:=by rw [hy]; rfl
  have hya:y.atom=x.atom:=by rw [hy]; rfl
  have hyv:y.var=x.var:=by rw [hy]; rfl
  have hyp:y.parts=ys:=by rw [hy]; rfl
  dsimp only at hR0
  rw [←hy] at hR0
  cases hio:io&&dec (x.op=5) with
  | false =>
   have e:R=(y,c,acc):=by
    rw [hR0]
    unfold K7
    rw [hyo,hio,cond_false]
   rw [e]
   dsimp only
   rw [hyo,hya,hyv,hyp]
   rcases zG x.parts.length with k0 | k0
   ·obtain ⟨rfl,rfl,rfl⟩:=hZ k0
    obtain rfl:i=0:=by omega
    have hx0:x.parts=[]:=zE k0
    cases io with
    | false =>
     simp (maxSteps:=4000000) (disch:=omega) only [go_sem,Ab,hni,hio,hx0,hgl,cond_false,eq_self,if_true,zC,zH]
    | true =>
     rw [zT] at hio
     simp (maxSteps:=4000000) (disch:=omega) only [go_sem,Ab,hni,hio,hx0,hgl,cond_false,eq_self,if_true,zC,zH]
   ·have hi0:(i=0)=False:=by simp; omega
    rcases zG acc.length with y0 | y0
    ·obtain rfl:acc=[]:=zE y0
     cases io with
     | false =>
      simp (maxSteps:=4000000) (disch:=omega) only [go_sem,Ab,hni,hio,hgl,cond_false,hi0,if_false]
     | true =>
      rw [zT] at hio
      simp (maxSteps:=4000000) (disch:=omega) only [go_sem,Ab,hni,hio,hgl,cond_false,hi0,if_false]
    ·have e0:dec (0<acc.length)=true:=Ao y0
     cases io with
     | false =>
      simp (maxSteps:=4000000) (disch:=omega) only [go_sem,Ab,hni,hio,e0,cond_true]
     | true =>
      rw [zT] at hio
      simp (maxSteps:=4000000) (disch:=omega) only [go_sem,Ab,hni,hio,e0,cond_true]
  | true =>
   have hio':=hio
   rw [zA] at hio'
   obtain ⟨rfl,o5⟩:=hio'
   rw [zT] at hio
   have hx5:x.op=5:=Ar.1 o5
   have k0:0<x.parts.length:=List.length_pos_iff.2 (h5 hx5)
   have hi0:(i=0)=False:=by simp; omega
   have hin:=IQ tk x.parts (by rw [Fm.Lb]; exact yN.2 fun z hz=>FI hq hz) True (fun h=>absurd trivial h) (dec (x.op=6)) c0
   rw [hR2] at hin
   obtain ⟨n1,n2,n3,_,n5,n6,n7⟩:=hin
   dsimp only at n1 n2 n3 n5 n6 n7
   have hyq:y.noq=true:=by
    rw [hy,Fm.noq,n1]
    rw [Fm.Mc,zA] at hq
    rw [hq.1]; rfl
   have hy3:y.at3=true:=by
    have h:=OJ tk x.parts (by rw [Fm.OI,zA] at h3; exact h3.2) (dec (x.op=6)) c0
    rw [hR2] at h
    dsimp only at h
    rw [hy,Fm.at3,h,Aj (by omega)]; rfl
   have hyn:y.nodes=1+Fm.nodeS ys:=by rw [hy]; exact Fm.nodes_eq _
   have hyvn:y.vn=x.atom.nodes+Fm.vnS ys:=by rw [hy]; exact Fm.DE _
   have hfr:=W5 y hyq hy3 (by omega) (by omega)
   rw [BO,hyo,hya,hyv,hyp] at hfr
   have hfl:=Fm.OE y
   have hvl0:y.free.length≤1048576:=by omega
   have hnx:=ZF AY (by decide) tk c hc1 (by omega)
   have e:R=(Fm.at ⟨pre AY (fresh AY tk c),vT y.free⟩,fresh AY tk c,acc++[⟨pre AY (fresh AY tk c),y.free,y⟩]):=by
    rw [hR0]
    unfold K7
    rw [hyo,o5]; rfl
   rw [e]
   obtain ⟨vs,hvs⟩:∃ vs,vs=y.free:=⟨_,rfl⟩
   obtain ⟨c2,hc2'⟩:∃ c2,c2=fresh AY tk c:=⟨_,rfl⟩
   rw [←hvs] at hfr hfl hvl0 ⊢
   rw [←hc2'] at hnx ⊢
   obtain ⟨nm,hnm⟩:∃ nm,nm=pre AY c2:=⟨_,rfl⟩
   rw [←hnm] at hnx ⊢
   dsimp only
   have z1:(Fm.at ⟨nm,vT vs⟩).op=3:=rfl
   have z2:(Fm.at ⟨nm,vT vs⟩).atom.name=nm:=rfl
   have z3:(Fm.at ⟨nm,vT vs⟩).atom.args=vT vs:=rfl
   have z4:(Fm.at ⟨nm,vT vs⟩).var=⟨#[]⟩:=rfl
   have z5:(Fm.at ⟨nm,vT vs⟩).parts=[]:=rfl
   rw [z1,z2,z3,z4,z5,zC]
   have gT:dec (0<(acc++[(⟨nm,vs,y⟩:Df)]).length)=true:=Ao (by rw [zD,List.length_singleton]; omega)
   have hom:Df.o ⟨nm,vs,y⟩=[OT.str nm,OT.ow (vs.map fun s=>[OT.str s]),OT.int x.op,OT.str x.atom.name,OT.ow (x.atom.args.map Tm.o),OT.str x.var,OT.ow (ys.map Fm.o)]:=by rw [Df.o_eq]; dsimp only; rw [hyo,hya,hyv,hyp]
   rw [gT,yE,z7,zC,hom]
   simp only [cond_true]
   have e1:=Tm.erss x.atom.args
   have e2:=Tm.fus x.atom.args
   have e3:=Fm.erss ys
   have e4:=Fm.fus ys
   have hvt0:((vT vs).take 0).map Tm.o=[]:=rfl
   have hsn:∀ j (h:j<vs.length),((vT vs).take j).map Tm.o++[[OT.str vs[j],OT.ow []]]=((vT vs).take (j+1)).map Tm.o:=fun j h=>by
    have hlv:j<(vT vs).length:=by unfold vT; rw [zX]; exact h
    rw [List.take_succ_eq_append_getElem hlv,yE,z7,zC,Zh h hlv]; rfl
   have hvtl:(vT vs).length=vs.length:=by unfold vT; rw [zX]
   have hte:(vT vs).take vs.length=vT vs:=List.take_of_length_le (by rw [hvtl]; exact yG _)
   clear hR0 hR2 e hvs hnm hc2' hyn hyvn hom
   rcases zG acc.length with y0 | y0
   ·obtain rfl:acc=[]:=zE y0
    rw [zC,zL]
    simp (maxSteps:=4000000) (disch:=omega) only [go_sem,Ab,hni,hi0,if_false,hio,hnx,hfr,e1,e2,e3,e4,E5,Dq,hgl,cond_false]
    refine go_loop (α:=Int) (fun a=>⟨slots 95 0 [(3,.ref 1),(8,.ptr 3 0),(14,.ptr 4 0),(15,.ptr 5 0),(16,.int .i64 a)],(if a=0 then [.box 54 [.str AY,.int .i64 c2,.ref 2],.row 56 7 (es),.row 9 1 (tk.map fun s=>[OT.str s]),.box 34 [.int .i64 0,.str ⟨#[]⟩,.nil,.str ⟨#[]⟩,.nil],.box 56 [.str nm,.ref 6,.int .i64 x.op,.str x.atom.name,.ref 7,.str x.var,.ref 8],.box 31 [.str nm,.nil],.row 9 1 (vs.map fun s=>[OT.str s]),.row 31 2 (x.atom.args.map Tm.o),.row 34 5 (ys.map Fm.o)] else [.box 54 [.str AY,.int .i64 c2,.ref 2],.row 56 7 (es),.row 9 1 (tk.map fun s=>[OT.str s]),.box 34 [.int .i64 0,.str ⟨#[]⟩,.nil,.str ⟨#[]⟩,.nil],.box 56 [.str nm,.ref 6,.int .i64 x.op,.str x.atom.name,.ref 7,.str x.var,.ref 8],.box 31 [.str nm,.ref 9],.row 9 1 (vs.map fun s=>[OT.str s]),.row 31 2 (x.atom.args.map Tm.o),.row 34 5 (ys.map Fm.o),.row 31 2 (((vT vs).take a.toNat).map Tm.o)])⟩) (fun a=>∃ k:Nat,a=k∧k≤(vs).length) (fun a=>(vs).length-(a).toNat) 0 ⟨0,rfl,zK _⟩ (by simp (maxSteps:=4000000) (disch:=omega) only [go_sem,Ab,eq_self,if_true]) ?_
    rintro i ⟨k,hi,hk⟩
    have hni:i.toNat=k:=by omega
    have hni1:(i+1).toNat=k+1:=by omega
    rcases zF k (vs).length with hlt | hge
    ·have hg:=get_at (fun s=>[OT.str s]) hlt
     have hs:=hsn k hlt
     have htl:((vT vs).take k).length=k:=by rw [List.length_take,hvtl]; omega
     have hi1:(i+1=0)=False:=by simp; omega
     rcases zG k with q0 | q0
     ·subst q0
      obtain rfl:i=0:=hi
      have h10:((1:Int)=0)=False:=by simp
      rw [hvt0,zL] at hs
      simp (maxSteps:=4000000) (disch:=omega) only [go_sem,Ab,hni,hg,eq_self,if_true]
      refine ⟨1,⟨1,rfl,hlt⟩,by omega,?_⟩
      simp (maxSteps:=4000000) (disch:=omega) only [go_sem,Ab,h10,if_false,hs,Int.toNat_one]
     ·have hi0:(i=0)=False:=by simp; omega
      simp (maxSteps:=4000000) (disch:=omega) only [go_sem,Ab,hni,hg,htl,hi0,if_false]
      refine ⟨i+1,⟨k+1,by omega,hlt⟩,by omega,?_⟩
      simp (maxSteps:=4000000) (disch:=omega) only [go_sem,Ab,hi1,if_false,hni1,hs]
    ·obtain rfl:k=vs.length:=by omega
     rcases zG vs.length with q0 | q0
     ·obtain rfl:i=0:=by omega
      have hv0:vT vs=[]:=zE (by rw [hvtl]; exact q0)
      rw [hv0,zC]
      simp (maxSteps:=4000000) (disch:=omega) only [go_sem,Ab,hni,eq_self,if_true]
     ·have hi0:(i=0)=False:=by simp; omega
      simp (maxSteps:=4000000) (disch:=omega) only [go_sem,Ab,hni,hi0,if_false,hte]
   ·have e0:dec (0<acc.length)=true:=Ao y0
    have hla:(es++acc.map Df.o).length=es.length+acc.length:=by rw [zD,zX]
    rw [←z8]
    obtain ⟨fs,hfs⟩:∃ fs,fs=es++acc.map Df.o:=⟨_,rfl⟩
    rw [←hfs] at hla ⊢
    have hfs':=hfs.symm
    simp (maxSteps:=4000000) (disch:=omega) only [go_sem,Ab,hni,hi0,if_false,hio,hnx,hfr,e1,e2,e3,e4,E5,Dq,e0,cond_true,hfs']
    refine go_loop (α:=Int) (fun a=>⟨slots 95 0 [(3,.ref 3),(8,.ptr 4 0),(14,.ptr 5 0),(15,.ptr 6 0),(16,.int .i64 a)],(if a=0 then [.box 54 [.str AY,.int .i64 c2,.ref 2],.gone,.row 9 1 (tk.map fun s=>[OT.str s]),.row 56 7 (fs),.box 34 [.int .i64 0,.str ⟨#[]⟩,.nil,.str ⟨#[]⟩,.nil],.box 56 [.str nm,.ref 7,.int .i64 x.op,.str x.atom.name,.ref 8,.str x.var,.ref 9],.box 31 [.str nm,.nil],.row 9 1 (vs.map fun s=>[OT.str s]),.row 31 2 (x.atom.args.map Tm.o),.row 34 5 (ys.map Fm.o)] else [.box 54 [.str AY,.int .i64 c2,.ref 2],.gone,.row 9 1 (tk.map fun s=>[OT.str s]),.row 56 7 (fs),.box 34 [.int .i64 0,.str ⟨#[]⟩,.nil,.str ⟨#[]⟩,.nil],.box 56 [.str nm,.ref 7,.int .i64 x.op,.str x.atom.name,.ref 8,.str x.var,.ref 9],.box 31 [.str nm,.ref 10],.row 9 1 (vs.map fun s=>[OT.str s]),.row 31 2 (x.atom.args.map Tm.o),.row 34 5 (ys.map Fm.o),.row 31 2 (((vT vs).take a.toNat).map Tm.o)])⟩) (fun a=>∃ k:Nat,a=k∧k≤(vs).length) (fun a=>(vs).length-(a).toNat) 0 ⟨0,rfl,zK _⟩ (by simp (maxSteps:=4000000) (disch:=omega) only [go_sem,Ab,eq_self,if_true]) ?_
    rintro i ⟨k,hi,hk⟩
    have hni:i.toNat=k:=by omega
    have hni1:(i+1).toNat=k+1:=by omega
    rcases zF k (vs).length with hlt | hge
    ·have hg:=get_at (fun s=>[OT.str s]) hlt
     have hs:=hsn k hlt
     have htl:((vT vs).take k).length=k:=by rw [List.length_take,hvtl]; omega
     have hi1:(i+1=0)=False:=by simp; omega
     rcases zG k with q0 | q0
     ·subst q0
      obtain rfl:i=0:=hi
      have h10:((1:Int)=0)=False:=by simp
      rw [hvt0,zL] at hs
      simp (maxSteps:=4000000) (disch:=omega) only [go_sem,Ab,hni,hg,eq_self,if_true]
      refine ⟨1,⟨1,rfl,hlt⟩,by omega,?_⟩
      simp (maxSteps:=4000000) (disch:=omega) only [go_sem,Ab,h10,if_false,hs,Int.toNat_one]
     ·have hi0:(i=0)=False:=by simp; omega
      simp (maxSteps:=4000000) (disch:=omega) only [go_sem,Ab,hni,hg,htl,hi0,if_false]
      refine ⟨i+1,⟨k+1,by omega,hlt⟩,by omega,?_⟩
      simp (maxSteps:=4000000) (disch:=omega) only [go_sem,Ab,hi1,if_false,hni1,hs]
    ·obtain rfl:k=vs.length:=by omega
     rcases zG vs.length with q0 | q0
     ·obtain rfl:i=0:=by omega
      have hv0:vT vs=[]:=zE (by rw [hvtl]; exact q0)
      rw [hv0,zC]
      simp (maxSteps:=4000000) (disch:=omega) only [go_sem,Ab,hni,eq_self,if_true]
     ·have hi0:(i=0)=False:=by simp; omega
      simp (maxSteps:=4000000) (disch:=omega) only [go_sem,Ab,hni,hi0,if_false,hte]
mutual
theorem Qr {tk tu:List ByteArray} (h:∀ k:Int,pre AY k∈tk ↔ pre AY k∈tu):∀ (x:Fm) (io:Bool) (c:Int),0≤c→x.dfn tk io c=x.dfn tu io c∧0≤(x.dfn tk io c).2.1
 | .mk op a v ps,io,c,hc=>by
  obtain ⟨e1,e2⟩:=OK h ps (dec (op=6)) c hc
  rw [Fm.dfn,Fm.dfn,← e1]
  obtain ⟨r,hr⟩:∃ r,r=Fm.B7 tk ps (dec (op=6)) c:=⟨_,rfl⟩
  rw [←hr] at e2 ⊢
  unfold K7
  rw [SH h e2]
  refine ⟨rfl,?_⟩
  have hf:=CY AY tu r.2.1
  cases io&&dec ((Fm.mk op a v r.1).op=5) with
  | false=>exact e2
  | true=>rw [cond_true]; dsimp only; omega
theorem OK {tk tu:List ByteArray} (h:∀ k:Int,pre AY k∈tk ↔ pre AY k∈tu):∀ (xs:List Fm) (io:Bool) (c:Int),0≤c→Fm.B7 tk xs io c=Fm.B7 tu xs io c∧0≤(Fm.B7 tk xs io c).2.1
 | [],io,c,hc=>by rw [Fm.B7,Fm.B7]; exact ⟨rfl,hc⟩
 | x :: xs,io,c,hc=>by
  obtain ⟨a1,a2⟩:=Qr h x io c hc
  obtain ⟨b1,b2⟩:=OK h xs io (x.dfn tk io c).2.1 a2
  rw [Fm.B7,Fm.B7,← a1,← b1]
  exact ⟨rfl,b2⟩
end
theorem YZ (k:Int):pre AY k≠⟨#[61]⟩:=fun e=>by
 have h:=Md k
 rw [e] at h
 revert h
 decide +kernel
theorem ZG {x:Fm} (hx:x.forms=true):x.dfn x.sy2 false 0=dcR x:=by
 unfold dcR
 refine (Qr (fun k=>?_) x false 0 (yJ 0)).1
 rw [Oj,Fm.sy12 x hx (YZ k)]
 simp
theorem Df.Qal:∀ ds:List Df,OT.erss (ds.map Df.o)=ds.map Df.d
 | []=>rfl
 | d :: ds=>by
  rw [z7,z7,Df.o_eq,Df.d_eq]
  simp only [OT.erss,OT.ers,OT.er,Tm.erss,Fm.erss,EW,Df.Qal ds]
theorem Df.Qam:∀ ds:List Df,OT.AK (ds.map Df.o)=true
 | []=>rfl
 | d :: ds=>by
  rw [z7,Df.o_eq]
  simp only [OT.AK,OT.DC,OT.full,Tm.fus,Fm.fus,Na,Df.Qam ds,Bool.and_self]
def AT:SC:=(.seq (.reg [⟨some 1,none,.boxv 34 5 (.t 0)⟩,⟨(some 2),none,(.alloc 34 [(.int .i64 0),(.str ⟨#[]⟩),.nil,(.str ⟨#[]⟩),.nil])⟩,⟨some 3,none,.mv (.c .nil)⟩,⟨some 4,none,.mv (.c (.bool false))⟩]) (.seq (.seq (.reg [⟨some 8,none,.load true 5 (.t 1)⟩,⟨some 9,none,.call 16 [(.t 8)]⟩,⟨some 10,none,.un .not (.t 9)⟩,⟨some 11,none,.mv (.t 10)⟩,⟨(some 12),(some (11,false)),(.load true 5 (.t 1))⟩,⟨(some 13),(some (11,false)),(.call 17 [(.t 12)])⟩,⟨(some 14),(some (11,false)),(.un .not (.t 13))⟩,⟨some 15,none,.pick (.t 11) (.c (.bool true)) (.t 14)⟩,⟨some 16,none,.mv (.t 15)⟩,⟨(some 17),(some (16,false)),(.load true 5 (.t 1))⟩,⟨(some 18),(some (16,false)),(.call 18 [(.t 17),(.c (.int .i64 8))])⟩,⟨some 19,none,.pick (.t 16) (.c (.bool true)) (.t 18)⟩,⟨some 20,none,.mv (.t 19)⟩,⟨(some 21),(some (20,false)),(.load true 5 (.t 1))⟩,⟨(some 22),(some (20,false)),(.call 18 [(.t 21),(.c (.int .i64 9))])⟩,⟨some 23,none,.pick (.t 20) (.c (.bool true)) (.t 22)⟩]) (.cond (.t 23) (.seq (.reg [⟨(some 24),none,(.build [(.int .i64 0),(.str ⟨#[]⟩),.nil,(.str ⟨#[]⟩),.nil] [])⟩,⟨(some 25),none,(.mkrow 56 7 [(.str ⟨#[]⟩),.nil,(.int .i64 0),(.str ⟨#[]⟩),.nil,(.str ⟨#[]⟩),.nil] 0 [])⟩,⟨none,none,(.store 5 (.t 2) (.t 24))⟩,⟨some 3,none,.mv (.t 25)⟩,⟨some 4,none,.mv (.c (.bool false))⟩]) .ret) .skip)) (.seq (.dreg [[],[],[],[1,2],[3,1,2],[4,3,1,2],[],[0,5,4,3,1,2,6],[7,0,5,4,3,1,2,6],[8,7,0,5,4,3,1,2,6],[8,7,0,5,4,3,1,2,6],[],[11,9,8,7,0,5,4,3,1,2,6],[10,8,7,0,5,4,3,1,2,6,12,11,9]] [⟨some 27,none,.load true 5 (.t 1)⟩,⟨(some 28),none,(.mkrow 9 1 [(.str ⟨#[]⟩)] 0 [])⟩,⟨some 29,none,.load true 5 (.t 1)⟩,⟨some 30,none,.call 20 [(.t 28),(.t 29)]⟩,⟨(some 31),none,(.build [(.str ⟨#[]⟩),(.int .i64 0),.nil] [(0,(1,(.c (.str ⟨#[100]⟩)))),(2,(1,(.t 30)))])⟩,⟨some 32,none,.boxv 54 3 (.t 31)⟩,⟨(some 33),none,(.mkrow 56 7 [(.str ⟨#[]⟩),.nil,(.int .i64 0),(.str ⟨#[]⟩),.nil,(.str ⟨#[]⟩),.nil] 0 [])⟩,⟨some 34,none,.call 19 [(.t 27),(.c (.bool false)),(.t 32),(.t 33)]⟩,⟨some 26,none,.mv (.t 34)⟩,⟨some 35,none,.ext (.t 26) 0⟩,⟨some 36,none,.ext (.t 26) 1⟩,⟨(some 5),none,(.alloc 34 [(.int .i64 0),(.str ⟨#[]⟩),.nil,(.str ⟨#[]⟩),.nil])⟩,⟨none,none,(.store 5 (.t 5) (.t 35))⟩,⟨some 6,none,.mv (.t 36)⟩]) (.seq (.seq (.reg [⟨some 7,none,.mv (.c (.int .i64 0))⟩]) (.block 0 (.loop [0,0,1,0,0,1,1,1,0,0,0,0,0,0,0,0,0,0,0,0,0,0,0,0,0,0,0,0,0,0,0,0,0,0,0,0,0,0,0,0,0,0,0,0,0,0,0,0,0,0,0,0,0,0,0,0,0,0,0] (.seq (.seq (.reg [⟨some 37,none,.mv (.t 7)⟩,⟨some 38,none,.mv (.t 6)⟩,⟨some 39,none,.len false (.t 38)⟩,⟨some 40,none,.bin .lss false (.t 37) (.t 39)⟩]) (.cond (.t 40) .skip (.exit 0))) (.seq (.block 1 (.seq (.reg [⟨some 43,none,.mv (.t 6)⟩,⟨some 44,none,.mv (.t 7)⟩,⟨some 45,none,.iaddr 7 (.t 43) (.t 44)⟩,⟨some 46,none,.faddr 1 (.t 45)⟩,⟨some 47,none,.load false 1 (.t 46)⟩,⟨some 48,none,.len false (.t 47)⟩,⟨some 49,none,.bin .gtr false (.t 48) (.c (.int .i64 4))⟩]) (.cond (.t 49) (.seq (.reg [⟨(some 50),none,(.build [(.int .i64 0),(.str ⟨#[]⟩),.nil,(.str ⟨#[]⟩),.nil] [])⟩,⟨(some 51),none,(.mkrow 56 7 [(.str ⟨#[]⟩),.nil,(.int .i64 0),(.str ⟨#[]⟩),.nil,(.str ⟨#[]⟩),.nil] 0 [])⟩,⟨none,none,(.store 5 (.t 2) (.t 50))⟩,⟨some 3,none,.mv (.t 51)⟩,⟨some 4,none,.mv (.c (.bool false))⟩]) .ret) .skip))) (.reg [⟨some 41,none,.mv (.t 7)⟩,⟨some 42,none,.bin .add false (.t 41) (.c (.int .i64 1))⟩,⟨some 7,none,.mv (.t 42)⟩])))))) (.seq (.seq (.reg [⟨some 52,none,.load true 5 (.t 5)⟩,⟨some 53,none,.call 16 [(.t 52)]⟩,⟨some 54,none,.un .not (.t 53)⟩]) (.cond (.t 54) (.seq (.reg [⟨(some 55),none,(.build [(.int .i64 0),(.str ⟨#[]⟩),.nil,(.str ⟨#[]⟩),.nil] [])⟩,⟨(some 56),none,(.mkrow 56 7 [(.str ⟨#[]⟩),.nil,(.int .i64 0),(.str ⟨#[]⟩),.nil,(.str ⟨#[]⟩),.nil] 0 [])⟩,⟨none,none,(.store 5 (.t 2) (.t 55))⟩,⟨some 3,none,.mv (.t 56)⟩,⟨some 4,none,.mv (.c (.bool false))⟩]) .ret) .skip)) (.seq (.reg [⟨some 57,none,.load true 5 (.t 5)⟩,⟨some 58,none,.mv (.t 6)⟩,⟨none,none,(.store 5 (.t 2) (.t 57))⟩,⟨some 3,none,.mv (.t 58)⟩,⟨some 4,none,.mv (.c (.bool true))⟩]) .ret))))))
theorem Bg:Ap Tryz.prog 5=some ⟨59,AT,[(.cell 2 true 5),(.tmp 3),(.tmp 4)]⟩:=by kernel_rfl
theorem A8:modes 5=⟨[],.frl [13],none,false⟩:=by unfold modes; rfl
theorem OL (tk:List ByteArray) (htk:tk.length≤1000000) (x:Fm) (hx:x.forms=true) (hq:x.noq=true) (hv:x.vn≤1000000):LdC tk x :=
 Tc tk htk x hq (Fm.Qp x hx) (fun h5 hp=>by
  have hf:=Fm.CA hx
  unfold Fm.form at hf
  rw [if_neg (by omega),if_neg (by omega),if_neg (by omega),if_pos (by omega),hp] at hf
  simp at hf) hv fun y hy=>OL tk htk y (Fm.Cn hx hy) (FI hq hy) (by have:=Fm.DE x; have:=Fm.Ro hy; omega)
termination_by SizeOf.sizeOf x
decreasing_by exact Fm.lt_of_mem hy
theorem GE (x:Fm) (hta:x.tame) (hn:x.nodes≤1099511627776):E 5 [x.sv] []=some (.tup [(Kr x).sv,.arr ((MT x).map Df.d),.bool (EN x)],[]):=by
 have h1:=SK x hta hn
 have h2:=Rs 8 x hn
 have h3:=Rs 9 x hn
 have hz:EN x=false→(Kr x=Fm.zero∧MT x=[]):=fun h=>by unfold Kr MT; rw [h]; exact ⟨rfl,rfl⟩
 have hzs:Fm.zero.sv=.agg [.int .i64 0,.str ⟨#[]⟩,.arr [],.str ⟨#[]⟩,.arr []]:=rfl
 have hss:x.hasS [8,9]=(x.has 8 || x.has 9):=by unfold Fm.hasS; rw [yI,yI,List.any_nil,zR]
 rw [BO x] at h1 h2 h3 ⊢
 cases hv:x.valid with
 | false =>
  rw [hv] at h1
  have ho:EN x=false:=by unfold EN; rw [hv]; rfl
  rw [(hz ho).1,(hz ho).2,ho,hzs,zC]
  refine Ai Bg A8 (of_decide_eq_true rfl) ?_
  simp (disch:=omega) only [AT,go_sem,Ab,BH,AQ,BU,Cd,AO,h1]
  try first | rfl | exact ⟨rfl,rfl⟩
 | true =>
 rw [hv] at h1
 obtain ⟨hva1,hva2⟩:=Iz hv
 have h4:=Qo x hva2 hn
 rw [BO x] at h4
 cases hin:x.isN with
 | false =>
  rw [hin] at h4
  have ho:EN x=false:=by unfold EN; rw [hv,hin]; simp
  rw [(hz ho).1,(hz ho).2,ho,hzs,zC]
  refine Ai Bg A8 (of_decide_eq_true rfl) ?_
  simp (disch:=omega) only [AT,go_sem,Ab,BH,AQ,BU,Cd,AO,h1,h4]
  try first | rfl | exact ⟨rfl,rfl⟩
 | true =>
 rw [hin] at h4
 cases h8:x.has 8 with
 | true =>
  rw [h8] at h2 hss
  have ho:EN x=false:=by unfold EN; rw [hv,hss]; rfl
  rw [(hz ho).1,(hz ho).2,ho,hzs,zC]
  refine Ai Bg A8 (of_decide_eq_true rfl) ?_
  simp (disch:=omega) only [AT,go_sem,Ab,BH,AQ,BU,Cd,AO,h1,h4,h2]
  try first | rfl | exact ⟨rfl,rfl⟩
 | false =>
 rw [h8] at h2 hss
 cases h9:x.has 9 with
 | true =>
  rw [h9] at h3 hss
  have ho:EN x=false:=by unfold EN; rw [hv,hss]; rfl
  rw [(hz ho).1,(hz ho).2,ho,hzs,zC]
  refine Ai Bg A8 (of_decide_eq_true rfl) ?_
  simp (disch:=omega) only [AT,go_sem,Ab,BH,AQ,BU,Cd,AO,h1,h4,h2,h3]
  try first | rfl | exact ⟨rfl,rfl⟩
 | false =>
 rw [h9] at h3 hss
 have hs:x.hasS [8,9]=false:=hss
 have hq:=UA hs
 have hvn:=Fm.V5 x hva2
 have hvn2:x.vn≤1200:=by omega
 have h5:=Ql x (by omega) [] (by simp only [zH]; omega)
 have hsl:=Fm.sy2_len x
 obtain ⟨tk,htk⟩:∃ tk,tk=x.sy2:=⟨_,rfl⟩
 rw [zL,zC,← htk] at h5
 rw [←htk] at hsl
 have htl:tk.length≤1200:=by omega
 have hmul:(x.nodes:Int)*((tk.length+2:Nat):Int)≤100000:=by
  have h:=yU hva1 (show tk.length+2≤1202 by omega)
  rw [←yR]; omega
 have h6:=OL tk (by omega) x hva2 hq (by omega) false 0 [] (yJ 0) (by omega) (by simp only [zH]; omega)
 have hinv:=Gs tk x hq True (fun h=>absurd trivial h) false 0
 have hre:dcR x=x.dfn tk false 0:=by rw [htk]; exact (ZG hva2).symm
 unfold Kr MT EN
 rw [hv,hs,hin,hre]
 unfold LdE at h6
 obtain ⟨y,hy⟩:∃ y,y=(x.dfn tk false 0).1:=⟨_,rfl⟩
 obtain ⟨c2,hc2⟩:∃ c2,c2=(x.dfn tk false 0).2.1:=⟨_,rfl⟩
 obtain ⟨ds,hds⟩:∃ ds,ds=(x.dfn tk false 0).2.2:=⟨_,rfl⟩
 rw [←hy,← hc2,← hds] at hinv
 rw [←hy,← hds]
 rw [←hy,← hc2,← hds,zL] at h6
 have hyv:=hinv.vn
 have hyn:=hinv.nodes
 have hdl:=hinv.ds
 have h7:=SK y (Rv _ (by omega)) (by omega)
 unfold AY at h6
 rw [BO x] at h5 h6
 rw [BO y] at h7
 have e1:=Tm.erss y.atom.args
 have e2:=Tm.fus y.atom.args
 have e3:=Fm.erss y.parts
 have e4:=Fm.fus y.parts
 have e5:=Df.Qal ds
 have e6:=Df.Qam ds
 obtain ⟨ok,hok⟩:∃ ok,ok=y.valid:=⟨_,rfl⟩
 rw [←hok] at h7 ⊢
 obtain ⟨bad,hbad⟩:∃ bad,bad=CS ds:=⟨_,rfl⟩
 rw [←hbad]
 clear hinv hre hmul hy hc2 hz
 have hgl:dec (([]:List ByteArray).length < tk.length)=dec (0 < tk.length):=rfl
 have goal:∀ P:Prop,P→P:=fun _ h=>h
 rcases zG tk.length with t0 | t0 <;> rcases zG ds.length with z0 | z0
 all_goals
  first
   |rw [zH,Ao t0] at h5
   |rw [zH,Aj (show ¬ 0 < tk.length by omega)] at h5
  first
   |rw [Ao z0] at h6
   |rw [Aj (show ¬ 0 < ds.length by omega)] at h6
  simp only [cond_true,cond_false] at h5 h6
  have hz2:ds.length=0→ds=[]:=fun h=>zE h
  first
   |have hd1:ds.map Df.d=[]:=by rw [hz2 (by omega)]; rfl
   |have hd1:True:=trivial
  refine Ai Bg A8 (of_decide_eq_true rfl) ?_
  simp (disch:=omega) only [AT,go_sem,Ab,BH,AQ,BU,Cd,AO,h1,h2,h3,h4,h5,h6]
  refine go_loop (α:=Int) (fun a=>⟨slots 59 0 [(2,.ptr 0 0),(5,.ptr 1 0),(6,.arr (ds.map Df.d)),(7,.int .i64 a)],[.box 34 [.int .i64 0,.str ⟨#[]⟩,.nil,.str ⟨#[]⟩,.nil],.box 34 [.int .i64 y.op,.str y.atom.name,.ref 2,.str y.var,.ref 3],.row 31 2 (y.atom.args.map Tm.o),.row 34 5 (y.parts.map Fm.o)]⟩) (fun a=>∃ k:Nat,a=k∧k≤(ds).length∧CS (ds.drop k)=bad) (fun a=>(ds).length - (a).toNat) 0 ⟨0,rfl,zK _,by rw [zJ]; exact hbad.symm⟩ (by simp (disch:=omega) only [go_sem,Ab,e5,e6,hd1,OT.erss]) ?_
  rintro i ⟨k,hi,hk,hR⟩
  have hni:i.toNat=k:=by omega
  have hni1:(i+1).toNat=k+1:=by omega
  rcases zF k (ds).length with hlt | hge
  ·have hg:=get_at Df.d hlt
   have hR:CS (ds.drop k)=bad:=hR
   rw [zB hlt] at hR
   obtain ⟨d,hd⟩:∃ d,d=ds[k]:=⟨_,rfl⟩
   rw [←hd] at hg hR
   have hR2:(dec (4 < d.vars.length) || CS (ds.drop (k+1)))=bad:=hR
   rw [Df.d_eq] at hg
   have q4:dec ((4:Int) < (d.vars.length:Int))=dec (4 < d.vars.length):=by
    by_cases q:4 < d.vars.length
    ·rw [Ao q,Ao (by omega)]
    ·rw [Aj q,Aj (by omega)]
   cases hq4:dec (4 < d.vars.length) with
   | true =>
    rw [hq4,yB] at hR2
    rw [hq4] at q4
    rw [←hR2]
    simp only [zO,zS,zZ,zN,cond_false,hzs,zC]
    simp (disch:=omega) only [go_sem,Ab,hni,hg,q4]
    try first | rfl | exact ⟨rfl,rfl⟩
   | false =>
    rw [hq4,yC] at hR2
    rw [hq4] at q4
    simp (disch:=omega) only [go_sem,Ab,hni,hg,q4]
    refine ⟨i+1,⟨k+1,by omega,hlt,hR2⟩,by omega,?_⟩
    first | trivial | rfl | exact ⟨rfl,rfl⟩
  ·have hR:CS (ds.drop k)=bad:=hR
   rw [zI hge] at hR
   have hR2:bad=false:=hR.symm
   rw [hR2]
   cases ok with
   | false =>
    simp only [zO,zS,zZ,zN,cond_false,hzs,zC]
    simp (disch:=omega) only [go_sem,Ab,hni,h7,e1,e2,e3,e4,e5,e6,BH]
    try first | rfl | exact ⟨rfl,rfl⟩
   | true =>
    simp only [zO,zP,cond_true]
    rw [BO y]
    simp (disch:=omega) only [go_sem,Ab,hni,h7,e1,e2,e3,e4,e5,e6,BH]
    try first | rfl | exact ⟨rfl,rfl⟩
mutual
def Tm.nsz:Tm→Bool
 | .mk n args=>decide (n.size≤6)&&Tm.nszL args
def Tm.nszL:List Tm→Bool
 | []=>true
 | x :: xs=>Tm.nsz x&&Tm.nszL xs
end
mutual
def Fm.nsz:Fm→Bool
 | .mk _ a v ps=>a.nsz&&decide (v.size≤6)&&Fm.nszL ps
def Fm.nszL:List Fm→Bool
 | []=>true
 | x :: xs=>Fm.nsz x&&Fm.nszL xs
end
mutual
theorem Tm.nsz_bulk:∀ t:Tm,t.nsz=true→t.bulk+1≤8*t.nodes
 | .mk n args,h=>by
  rw [Tm.nsz,zA,decide_eq_true_eq] at h
  have h2:=Tm.nszL_bulk args h.2
  rw [Tm.bulk_eq,Tm.nodes_eq]
  show n.size+(args.length+Tm.sumB args)+1≤8*(1+Tm.nodeS args)
  omega
theorem Tm.nszL_bulk:∀ ts:List Tm,Tm.nszL ts=true→ts.length+Tm.sumB ts≤8*Tm.nodeS ts
 | [],_=>by simp [Tm.sumB]
 | t :: ts,h=>by
  rw [Tm.nszL,zA] at h
  have h1:=Tm.nsz_bulk t h.1
  have h2:=Tm.nszL_bulk ts h.2
  rw [Tm.sumB,Tm.nodeS,zV]
  omega
end
mutual
theorem Fm.nsz_bulk:∀ y:Fm,y.nsz=true→y.bulk+1≤8*(y.vn+y.nodes)
 | .mk op a v ps,h=>by
  rw [Fm.nsz,zA,zA,decide_eq_true_eq] at h
  have h1:=Tm.nsz_bulk a h.1.1
  have h2:=Fm.nszL_bulk ps h.2
  rw [Fm.bulk_eq,Fm.DE,Fm.nodes_eq]
  show a.bulk+v.size+(ps.length+Fm.sumB ps)+1≤8*(a.nodes+Fm.vnS ps+(1+Fm.nodeS ps))
  omega
theorem Fm.nszL_bulk:∀ ys:List Fm,Fm.nszL ys=true→ys.length+Fm.sumB ys≤8*(Fm.vnS ys+Fm.nodeS ys)
 | [],_=>by simp [Fm.sumB]
 | y :: ys,h=>by
  rw [Fm.nszL,zA] at h
  have h1:=Fm.nsz_bulk y h.1
  have h2:=Fm.nszL_bulk ys h.2
  rw [Fm.sumB,Fm.vnS,Fm.nodeS,zV]
  omega
end
theorem Tm.nszL_of:∀ {ts:List Tm},(∀ t∈ts,t.nsz=true)→Tm.nszL ts=true
 | [],_=>rfl
 | t :: ts,h=>by rw [Tm.nszL,h t (by simp),Tm.nszL_of fun u hu=>h u (by simp [hu])]; rfl
theorem Fm.nszL_of:∀ {ts:List Fm},(∀ t∈ts,t.nsz=true)→Fm.nszL ts=true
 | [],_=>rfl
 | t :: ts,h=>by rw [Fm.nszL,h t (by simp),Fm.nszL_of fun u hu=>h u (by simp [hu])]; rfl
theorem Tm.nsz_eq (t:Tm):t.nsz=(decide (t.name.size≤6)&&Tm.nszL t.args):=by
 obtain ⟨n,a⟩:=t
 rw [Tm.nsz]; rfl
theorem Fm.nsz_eq (y:Fm):y.nsz=(y.atom.nsz&&decide (y.var.size≤6)&&Fm.nszL y.parts):=by
 obtain ⟨op,a,v,ps⟩:=y
 rw [Fm.nsz]; rfl
theorem Mg (t:Tm) (h:t.names=true):t.nsz=true:=by
 rw [Tm.nsz_eq,Tm.nszL_of fun u hu=>Mg u (Tm.GV h hu),zP,decide_eq_true_eq]
 rw [Tm.Fx] at h
 split at h
 ·rename_i hv; exact LI hv
 ·rw [zA,zA] at h; exact PV h.1.1
termination_by SizeOf.sizeOf t
decreasing_by exact Tm.lt_of_mem hu
theorem Yf {t:Tm} (h:t.atom=true):t.nsz=true:=by
 rw [Tm.nsz_eq,Tm.nszL_of fun u hu=>Mg u ((Tm.Jm h).2 u hu),zP,decide_eq_true_eq]
 unfold Tm.atom at h
 split at h
 ·rename_i he
  have he:t.name=⟨#[61]⟩:=Ar.1 he
  rw [he]
  show 1≤6
  omega
 ·rw [zA] at h
  exact PV h.1
theorem Qs (x:Fm) (hx:x.forms=true):x.nsz=true:=by
 have hfo:=Fm.CA hx
 rw [Fm.nsz_eq,Fm.nszL_of fun y hy=>Qs y (Fm.Cn hx hy),zP,zA,decide_eq_true_eq]
 refine ⟨?_,?_⟩
 ·by_cases h3:x.op=3
  ·exact Yf (Fm.GW hfo h3).2.1
  ·rw [Fm.H5 hfo h3]; decide
 ·unfold Fm.form at hfo
  split at hfo
  ·rw [zA,Ar] at hfo; rw [hfo.2]; exact zK _
  ·split at hfo
   ·rw [zA,Ar] at hfo; rw [hfo.2]; exact zK _
   ·split at hfo
    ·rw [zA,Ar] at hfo; rw [hfo.2]; exact zK _
    ·split at hfo
     ·rw [zA,Ar] at hfo; rw [hfo.2]; exact zK _
     ·split at hfo
      ·rw [zA] at hfo; exact LI hfo.2
      ·cases hfo
termination_by SizeOf.sizeOf x
decreasing_by exact Fm.lt_of_mem hy
theorem Td:∀ (k n:Nat),n<10 ^ (k+1)→(Lib.decDigits n).length≤k+1
 | 0,n,h=>by
  rw [Lib.decDigits]
  split
  ·simp
  ·rename_i h2; exact absurd h (by simpa using h2)
 | k+1,n,h=>by
  rw [Lib.decDigits]
  split
  ·simp
  ·have hp:10 ^ (k+1+1)=10 ^ (k+1)*10:=Nat.pow_succ ..
   have:=Td k (n / 10) (by omega)
   rw [zD]
   simp only [zV,zH]
   omega
theorem Te {n:Int} (h0:0≤n) (h1:n≤99999):(pre AY n).size≤6:=by
 obtain ⟨u,rfl⟩:∃ u:Nat,n=u:=⟨n.toNat,by omega⟩
 unfold pre
 rw [yS]
 have h2:=Td 4 u (by omega)
 have h3:(HY (u:Int)).size=(Lib.decDigits u).length:=by
  show (Lib.itoa u).toArray.size=_
  rw [Lib.itoa_nonneg,List.size_toArray]
 rw [h3]
 show 1+_≤6
 omega
theorem ZH {n:Int} (h0:0≤n) (h1:n≤99999) {vs:List ByteArray} (hv:∀ v∈vs,Ba v=true):(Fm.at ⟨pre AY n,vT vs⟩).nsz=true:=by
 have h2:Tm.nszL (vT vs)=true:=Tm.nszL_of fun t ht=>by
  obtain ⟨v,hm,rfl⟩:=XX ht
  exact Mg _ (Jq (hv v hm))
 rw [Fm.nsz_eq,zA,zA,decide_eq_true_eq]
 refine ⟨⟨?_,zK _⟩,rfl⟩
 show (Tm.mk (pre AY n) (vT vs)).nsz=true
 rw [Tm.nsz,h2,zP,decide_eq_true_eq]
 exact Te h0 h1
def Df.small (nd vn:Nat) (d:Df):Prop:=d.name.size≤6∧d.form.nsz=true∧d.form.nodes≤nd∧d.form.vn≤vn∧d.vars=d.form.free
theorem Df.IU {nd vn nd' vn':Nat} {d:Df} (h:d.small nd vn) (h1:nd≤nd') (h2:vn≤vn'):d.small nd' vn':=⟨h.1,h.2.1,Nat.le_trans h.2.2.1 h1,Nat.le_trans h.2.2.2.1 h2,h.2.2.2.2⟩
mutual
theorem Qt (tk:List ByteArray):∀ (x:Fm),x.noq=true→x.nsz=true→∀ (io:Bool) (c:Int),0≤c→c+(x.nodes:Int)*((tk.length+2:Nat):Int)≤99999→(x.dfn tk io c).1.nsz=true∧∀ d∈(x.dfn tk io c).2.2,d.small x.nodes x.vn
 | .mk op a v ps,hq,hn,io,c,h0,hc=>by
  rw [Fm.noq,zA] at hq
  rw [Fm.nsz,zA] at hn
  have hnd:(Fm.mk op a v ps).nodes=1+Fm.nodeS ps:=Fm.nodes_eq _
  have hvn:(Fm.mk op a v ps).vn=a.nodes+Fm.vnS ps:=Fm.DE _
  rw [hnd,zU,yA] at hc
  have hone:((1:Nat):Int)*((tk.length+2:Nat):Int)=(tk.length+2:Nat):=by simp
  rw [hone] at hc
  have hi:=IQ tk ps hq.2 True (fun h=>absurd trivial h) (dec (op=6)) c
  obtain ⟨e1,e2⟩:=OM tk ps hq.2 hn.2 (dec (op=6)) c h0 (by omega)
  rw [Fm.dfn,hnd,hvn]
  unfold K7
  obtain ⟨r,hr⟩:∃ r,r=Fm.B7 tk ps (dec (op=6)) c:=⟨_,rfl⟩
  rw [←hr] at hi e1 e2 ⊢
  obtain ⟨i1,i2,i3,i4,i5,i6,i7⟩:=hi
  have hy:(Fm.mk op a v r.1).nsz=true:=by rw [Fm.nsz,hn.1,e1]; rfl
  have hyn:(Fm.mk op a v r.1).nodes=1+Fm.nodeS r.1:=Fm.nodes_eq _
  have hyv:(Fm.mk op a v r.1).vn=a.nodes+Fm.vnS r.1:=Fm.DE _
  have hfr:=CY AY tk r.2.1
  cases io&&dec ((Fm.mk op a v r.1).op=5) with
  | false =>
   rw [cond_false]
   exact ⟨hy,fun d hd=>Df.IU (e2 d hd) (by omega) (by omega)⟩
  | true =>
   rw [cond_true]
   dsimp only
   refine ⟨ZH (by omega) (by omega) fun m hm=>Fm.OD _ m hm,fun d hd=>?_⟩
   rw [yD,yF] at hd
   rcases hd with hd | rfl
   ·exact Df.IU (e2 d hd) (by omega) (by omega)
   ·exact ⟨Te (by omega) (by omega),hy,by rw [hyn]; omega,by rw [hyv]; omega,rfl⟩
theorem OM (tk:List ByteArray):∀ (xs:List Fm),Fm.MQ xs=true→Fm.nszL xs=true→∀ (io:Bool) (c:Int),0≤c→c+(Fm.nodeS xs:Int)*((tk.length+2:Nat):Int)≤99999→Fm.nszL (Fm.B7 tk xs io c).1=true∧∀ d∈(Fm.B7 tk xs io c).2.2,d.small (Fm.nodeS xs) (Fm.vnS xs)
 | [],hq,hn,io,c,h0,hc=>by
  rw [Fm.B7]
  exact ⟨rfl,fun d hd=>by cases hd⟩
 | x :: xs,hq,hn,io,c,h0,hc=>by
  rw [Fm.MQ,zA] at hq
  rw [Fm.nszL,zA] at hn
  rw [Fm.nodeS,zU,yA] at hc
  have hp:(0:Int)≤(Fm.nodeS xs:Int)*((tk.length+2:Nat):Int):=yT (by omega) (by omega)
  have hi:=Gs tk x hq.1 True (fun h=>absurd trivial h) io c
  obtain ⟨e1,e2⟩:=Qt tk x hq.1 hn.1 io c h0 (by omega)
  have hc0:=hi.c0
  have hc1:=hi.c1
  obtain ⟨f1,f2⟩:=OM tk xs hq.2 hn.2 io (x.dfn tk io c).2.1 (by omega) (by omega)
  rw [Fm.B7]
  dsimp only
  rw [Fm.nszL,e1,f1,Fm.nodeS,Fm.vnS]
  refine ⟨rfl,fun d hd=>?_⟩
  rw [yD] at hd
  rcases hd with hd | hd
  ·exact Df.IU (e2 d hd) (by omega) (by omega)
  ·exact Df.IU (f2 d hd) (by omega) (by omega)
end
theorem Tf:∀ (l:List ByteArray),(∀ s∈l,s.size≤6)→Rz l≤6*l.length
 | [],_=>by simp [Rz]
 | s :: l,h=>by
  have h1:=h s (by simp)
  have h2:=Tf l fun t ht=>h t (by simp [ht])
  rw [Rz,zV]; omega
theorem Df.UC {d:Df} (h:d.small 40 1200):d.bulk≤20000:=by
 obtain ⟨h1,h2,h3,h4,h5⟩:=h
 have h6:=Fm.nsz_bulk d.form h2
 have h7:=Fm.OE d.form
 have h8:=Tf d.vars (fun s hs=>by rw [h5] at hs; exact LI (Fm.OD _ s hs))
 rw [←h5] at h7
 rw [Df.bulk_eq]
 omega
theorem Qu:∀ (ds:List Df),(∀ d∈ds,d.small 40 1200)→Df.sumB ds≤20000*ds.length
 | [],_=>by simp [Df.sumB]
 | d :: ds,h=>by
  have h1:=Df.UC (h d (by simp))
  have h2:=Qu ds fun e he=>h e (by simp [he])
  rw [Df.sumB,zV]; omega
theorem Za (x:Fm):(Kr x).bulk≤1048576∧(MT x).length+Df.sumB (MT x)≤1048576:=by
 have hz:Fm.zero.bulk=0:=by
  rw [Fm.bulk_eq]
  show Tm.zero.bulk+0+(0+Fm.sumB [])=_
  rw [Tm.bulk_eq,Fm.sumB]
  show (0+(0+Tm.sumB []))+0+0=_
  rw [Tm.sumB]
 unfold Kr MT
 cases h:EN x with
 | false=>rw [cond_false,cond_false,hz]; simp [Df.sumB]
 | true =>
  rw [cond_true,cond_true]
  unfold EN at h
  rw [zA,zA] at h
  obtain ⟨hv,hs,_⟩:=h
  obtain ⟨hva1,hva2⟩:=Iz hv
  have hq:=UA (x:=x) (by simpa using hs)
  have hvn:=Fm.V5 x hva2
  have htl:(Bb [] (syA x.ats)).length≤1200:=by
   have a1:=Db (syA x.ats) []
   have a2:=VE x.ats
   have a3:=Fm.Ff x
   rw [zH] at a1
   omega
  have hmul:(x.nodes:Int)*(((Bb [] (syA x.ats)).length+2:Nat):Int)≤99999:=by
   have h:=yU hva1 (show (Bb [] (syA x.ats)).length+2≤1202 by omega)
   rw [←yR]; omega
  have hi:=Gs (Bb [] (syA x.ats)) x hq True (fun h=>absurd trivial h) false 0
  obtain ⟨e1,e2⟩:=Qt (Bb [] (syA x.ats)) x hq (Qs x hva2) false 0 (yJ 0) (by omega)
  have hd:=hi.ds
  have hvv:=hi.vn
  have hnn:=hi.nodes
  have hb:=Fm.nsz_bulk _ e1
  have hsum:=Qu _ fun d hd=>Df.IU (e2 d hd) hva1 (show x.vn≤1200 by omega)
  unfold dcR
  exact ⟨by omega,by omega⟩
theorem Fm.Qv (x:Fm) (h:x.bulk≤1048576):x.tame∧x.nodes≤1+x.bulk:=by
 have hb:=Fm.bulk_eq x
 have ha:=Tm.Og x.atom
 have key:∀ xs:List Fm,(∀ y∈xs,y.bulk≤1048576→y.tame∧y.nodes≤1+y.bulk)→Fm.sumB xs≤1048576→Fm.Iy xs∧Fm.nodeS xs≤xs.length+Fm.sumB xs:=by
  intro xs
  induction xs with
  | nil=>intro _ _; rw [Fm.Iy,Fm.nodeS]; exact ⟨trivial,by simp⟩
  | cons y ys ih =>
   intro hh hs
   rw [Fm.sumB] at hs
   have h1:=hh y (by simp) (by omega)
   have h2:=ih (fun z hz=>hh z (by simp [hz])) (by omega)
   rw [Fm.Iy,Fm.nodeS,Fm.sumB,zV]
   exact ⟨⟨h1.1,h2.1⟩,by omega⟩
 have hk:=key x.parts (fun y hy hby=>Fm.Qv y hby) (by omega)
 rw [Fm.Rb,Fm.nodes_eq]
 exact ⟨⟨by omega,hk.1⟩,by omega⟩
termination_by SizeOf.sizeOf x
decreasing_by exact Fm.lt_of_mem hy
def Bx:SC:=(.seq (.reg [⟨some 1,none,.boxv 27 5 (.t 0)⟩,⟨some 2,none,.mv (.c (.bool false))⟩]) (.seq (.reg [⟨some 3,none,.mv (.c (.int .i64 1048576))⟩]) (.seq (.reg [⟨some 17,none,.load true 5 (.t 1)⟩,⟨some 18,none,.mv (.t 3)⟩,⟨some 19,none,.call 4 [(.t 17),(.t 18)]⟩,⟨some 3,none,.mv (.t 19)⟩]) (.seq (.seq (.reg [⟨some 20,none,.mv (.t 3)⟩,⟨some 21,none,.bin .lss false (.t 20) (.c (.int .i64 0))⟩]) (.cond (.t 21) (.seq (.reg [⟨some 2,none,.mv (.c (.bool true))⟩]) .ret) .skip)) (.seq (.reg [⟨some 23,none,.load true 5 (.t 1)⟩,⟨some 24,none,.call 6 [(.t 23)]⟩,⟨some 25,none,.call 5 [(.t 24)]⟩,⟨some 22,none,.mv (.t 25)⟩,⟨some 26,none,.ext (.t 22) 0⟩,⟨some 27,none,.ext (.t 22) 1⟩,⟨some 28,none,.ext (.t 22) 2⟩,⟨(some 4),none,(.alloc 34 [(.int .i64 0),(.str ⟨#[]⟩),.nil,(.str ⟨#[]⟩),.nil])⟩,⟨none,none,(.store 5 (.t 4) (.t 26))⟩,⟨some 5,none,.mv (.t 27)⟩,⟨some 6,none,.mv (.t 28)⟩]) (.seq (.reg [⟨some 29,none,.load true 5 (.t 1)⟩,⟨some 30,none,.call 6 [(.t 29)]⟩,⟨(some 7),none,(.alloc 34 [(.int .i64 0),(.str ⟨#[]⟩),.nil,(.str ⟨#[]⟩),.nil])⟩,⟨none,none,(.store 5 (.t 7) (.t 30))⟩]) (.seq (.reg [⟨some 32,none,.load true 5 (.t 7)⟩,⟨some 33,none,.call 7 [(.t 32)]⟩,⟨some 31,none,.mv (.t 33)⟩,⟨some 34,none,.ext (.t 31) 0⟩,⟨some 35,none,.ext (.t 31) 1⟩,⟨some 36,none,.ext (.t 31) 2⟩,⟨(some 8),none,(.alloc 34 [(.int .i64 0),(.str ⟨#[]⟩),.nil,(.str ⟨#[]⟩),.nil])⟩,⟨none,none,(.store 5 (.t 8) (.t 34))⟩,⟨some 9,none,.mv (.t 35)⟩,⟨some 10,none,.mv (.t 36)⟩]) (.seq (.seq (.reg [⟨some 37,none,.load true 5 (.t 8)⟩,⟨some 38,none,.load true 5 (.t 4)⟩,⟨some 39,none,.call 8 [(.t 37),(.t 38)]⟩,⟨some 40,none,.un .not (.t 39)⟩,⟨some 41,none,.mv (.t 40)⟩,⟨(some 42),(some (41,false)),(.mv (.t 9))⟩,⟨(some 43),(some (41,false)),(.mv (.t 5))⟩,⟨(some 44),(some (41,false)),(.call 9 [(.t 42),(.t 43)])⟩,⟨(some 45),(some (41,false)),(.un .not (.t 44))⟩,⟨some 46,none,.pick (.t 41) (.c (.bool true)) (.t 45)⟩,⟨some 47,none,.mv (.t 46)⟩,⟨(some 48),(some (47,false)),(.mv (.t 10))⟩,⟨(some 49),(some (47,false)),(.mv (.t 6))⟩,⟨(some 50),(some (47,false)),(.bin .neq true (.t 48) (.t 49))⟩,⟨some 51,none,.pick (.t 47) (.c (.bool true)) (.t 50)⟩]) (.cond (.t 51) (.seq (.reg [⟨some 2,none,.mv (.c (.bool false))⟩]) .ret) .skip)) (.seq (.seq (.dreg [[],[],[1],[0,2,1],[3,0,2,1]] [⟨some 52,none,.load true 5 (.t 7)⟩,⟨some 53,none,.load true 5 (.t 1)⟩,⟨some 54,none,.call 6 [(.t 53)]⟩,⟨some 55,none,.call 8 [(.t 52),(.t 54)]⟩,⟨some 56,none,.un .not (.t 55)⟩]) (.cond (.t 56) (.seq (.reg [⟨some 2,none,.mv (.c (.bool false))⟩]) .ret) .skip)) (.seq (.reg [⟨some 11,none,.mv (.c (.int .i64 1))⟩]) (.seq (.reg [⟨some 57,none,.load true 5 (.t 7)⟩,⟨some 58,none,.mv (.t 11)⟩,⟨some 59,none,.call 10 [(.t 57),(.t 58)]⟩,⟨some 11,none,.mv (.t 59)⟩]) (.seq (.seq (.reg [⟨some 60,none,.mv (.t 11)⟩,⟨some 61,none,.bin .lss false (.t 60) (.c (.int .i64 0))⟩,⟨some 62,none,.mv (.t 61)⟩,⟨(some 63),(some (62,false)),(.load true 5 (.t 8))⟩,⟨(some 64),(some (62,false)),(.load true 5 (.t 4))⟩,⟨(some 65),(some (62,false)),(.call 8 [(.t 63),(.t 64)])⟩,⟨(some 66),(some (62,false)),(.un .not (.t 65))⟩,⟨some 67,none,.pick (.t 62) (.c (.bool true)) (.t 66)⟩,⟨some 68,none,.mv (.t 67)⟩,⟨(some 69),(some (68,false)),(.mv (.t 9))⟩,⟨(some 70),(some (68,false)),(.mv (.t 5))⟩,⟨(some 71),(some (68,false)),(.call 9 [(.t 69),(.t 70)])⟩,⟨(some 72),(some (68,false)),(.un .not (.t 71))⟩,⟨some 73,none,.pick (.t 68) (.c (.bool true)) (.t 72)⟩,⟨some 74,none,.mv (.t 73)⟩,⟨(some 75),(some (74,false)),(.mv (.t 10))⟩,⟨(some 76),(some (74,false)),(.mv (.t 6))⟩,⟨(some 77),(some (74,false)),(.bin .neq true (.t 75) (.t 76))⟩,⟨some 78,none,.pick (.t 74) (.c (.bool true)) (.t 77)⟩]) (.cond (.t 78) (.seq (.reg [⟨some 2,none,.mv (.c (.bool false))⟩]) .ret) .skip)) (.seq (.reg [⟨some 12,none,.mv (.c (.int .i64 1))⟩]) (.seq (.reg [⟨some 79,none,.load true 5 (.t 8)⟩,⟨some 80,none,.mv (.t 12)⟩,⟨some 81,none,.call 10 [(.t 79),(.t 80)]⟩,⟨some 12,none,.mv (.t 81)⟩]) (.seq (.reg [⟨some 82,none,.mv (.t 9)⟩,⟨some 83,none,.mv (.t 12)⟩,⟨some 84,none,.call 11 [(.t 82),(.t 83)]⟩,⟨some 12,none,.mv (.t 84)⟩]) (.seq (.reg [⟨some 13,none,.mv (.c (.int .i64 1))⟩]) (.seq (.reg [⟨some 85,none,.load true 5 (.t 8)⟩,⟨some 86,none,.mv (.t 13)⟩,⟨some 87,none,.call 12 [(.t 85),(.t 86)]⟩,⟨some 13,none,.mv (.t 87)⟩]) (.seq (.seq (.reg [⟨some 88,none,.mv (.t 13)⟩,⟨some 89,none,.bin .lss false (.t 88) (.c (.int .i64 0))⟩]) (.cond (.t 89) (.seq (.reg [⟨some 2,none,.mv (.c (.bool false))⟩]) .ret) .skip)) (.seq (.reg [⟨some 90,none,.mv (.t 9)⟩,⟨some 91,none,.mv (.t 13)⟩,⟨some 92,none,.call 13 [(.t 90),(.t 91)]⟩,⟨some 13,none,.mv (.t 92)⟩]) (.seq (.seq (.reg [⟨some 93,none,.mv (.t 13)⟩,⟨some 94,none,.bin .lss false (.t 93) (.c (.int .i64 0))⟩]) (.cond (.t 94) (.seq (.reg [⟨some 2,none,.mv (.c (.bool false))⟩]) .ret) .skip)) (.seq (.seq (.reg [⟨some 95,none,.mv (.t 13)⟩,⟨some 96,none,.mv (.t 12)⟩,⟨some 97,none,.bin .neq false (.t 95) (.t 96)⟩]) (.cond (.t 97) (.seq (.reg [⟨some 2,none,.mv (.c (.bool false))⟩]) .ret) .skip)) (.seq (.reg [⟨some 99,none,.load true 5 (.t 1)⟩,⟨some 100,none,.call 6 [(.t 99)]⟩,⟨some 101,none,.call 7 [(.t 100)]⟩,⟨some 98,none,.mv (.t 101)⟩,⟨some 102,none,.ext (.t 98) 0⟩,⟨some 103,none,.ext (.t 98) 1⟩,⟨some 104,none,.ext (.t 98) 2⟩,⟨(some 14),none,(.alloc 34 [(.int .i64 0),(.str ⟨#[]⟩),.nil,(.str ⟨#[]⟩),.nil])⟩,⟨none,none,(.store 5 (.t 14) (.t 102))⟩,⟨some 15,none,.mv (.t 103)⟩,⟨some 16,none,.mv (.t 104)⟩]) (.seq (.seq (.reg [⟨some 105,none,.load true 5 (.t 14)⟩,⟨some 106,none,.load true 5 (.t 4)⟩,⟨some 107,none,.call 8 [(.t 105),(.t 106)]⟩,⟨some 108,none,.un .not (.t 107)⟩,⟨some 109,none,.mv (.t 108)⟩,⟨(some 110),(some (109,false)),(.mv (.t 15))⟩,⟨(some 111),(some (109,false)),(.mv (.t 5))⟩,⟨(some 112),(some (109,false)),(.call 9 [(.t 110),(.t 111)])⟩,⟨(some 113),(some (109,false)),(.un .not (.t 112))⟩,⟨some 114,none,.pick (.t 109) (.c (.bool true)) (.t 113)⟩,⟨some 115,none,.mv (.t 114)⟩,⟨(some 116),(some (115,false)),(.mv (.t 16))⟩,⟨(some 117),(some (115,false)),(.mv (.t 6))⟩,⟨(some 118),(some (115,false)),(.bin .neq true (.t 116) (.t 117))⟩,⟨some 119,none,.pick (.t 115) (.c (.bool true)) (.t 118)⟩]) (.cond (.t 119) (.seq (.reg [⟨some 2,none,.mv (.c (.bool false))⟩]) .ret) .skip)) (.seq (.reg [⟨some 13,none,.mv (.c (.int .i64 1))⟩]) (.seq (.reg [⟨some 120,none,.load true 5 (.t 8)⟩,⟨some 121,none,.mv (.t 13)⟩,⟨some 122,none,.call 12 [(.t 120),(.t 121)]⟩,⟨some 13,none,.mv (.t 122)⟩]) (.seq (.seq (.reg [⟨some 123,none,.mv (.t 13)⟩,⟨some 124,none,.bin .lss false (.t 123) (.c (.int .i64 0))⟩]) (.cond (.t 124) (.seq (.reg [⟨some 2,none,.mv (.c (.bool false))⟩]) .ret) .skip)) (.seq (.reg [⟨some 125,none,.mv (.t 9)⟩,⟨some 126,none,.mv (.t 13)⟩,⟨some 127,none,.call 13 [(.t 125),(.t 126)]⟩,⟨some 13,none,.mv (.t 127)⟩]) (.seq (.seq (.reg [⟨some 128,none,.mv (.t 13)⟩,⟨some 129,none,.bin .lss false (.t 128) (.c (.int .i64 0))⟩]) (.cond (.t 129) (.seq (.reg [⟨some 2,none,.mv (.c (.bool false))⟩]) .ret) .skip)) (.seq (.seq (.reg [⟨some 130,none,.mv (.t 13)⟩,⟨some 131,none,.mv (.t 12)⟩,⟨some 132,none,.bin .neq false (.t 130) (.t 131)⟩]) (.cond (.t 132) (.seq (.reg [⟨some 2,none,.mv (.c (.bool false))⟩]) .ret) .skip)) (.seq (.reg [⟨some 2,none,.mv (.c (.bool true))⟩]) .ret))))))))))))))))))))))))))))))
theorem Cg:Ap Tryz.prog 3=some ⟨133,Bx,[(.tmp 2)]⟩:=by kernel_rfl
theorem Ch:modes 3=⟨[],.asis,none,false⟩:=by unfold modes; rfl
theorem Zb (x:Fm) (hfx:D.fits x.d):E 3 [x.sv] []=some (.bool true,[]):=by
 have s0:=M2 x hfx 1048576 (by omega) (by omega)
 have q0:=B8 1048576 x.bulk
 obtain ⟨l0,hl0⟩:∃ l,l=szR 1048576 (x.bulk:Nat):=⟨_,rfl⟩
 rw [←hl0] at s0 q0
 rcases Int.lt_or_le l0 0 with h0 | h0_0
 ·refine Ai Cg Ch (of_decide_eq_true rfl) ?_
  simp (disch:=omega) only [Bx,go_sem,Ab,s0,BA]
 have hb_x:x.bulk≤1048576:=by omega
 have t_x:=M3 x hb_x
 obtain ⟨htx,hnx⟩:=Fm.Qv x hb_x
 have a1:=GE x htx (by omega)
 have a2:=IT x htx (by omega)
 obtain ⟨hb_r,hb_ds⟩:=Za x
 obtain ⟨r,hr_r⟩:∃ r,r=Kr x:=⟨_,rfl⟩
 rw [←hr_r] at a1 a2 hb_r
 obtain ⟨ds,hr_ds⟩:∃ r,r=MT x:=⟨_,rfl⟩
 rw [←hr_ds] at a1 a2 hb_ds
 obtain ⟨o,hr_o⟩:∃ r,r=EN x:=⟨_,rfl⟩
 rw [←hr_o] at a1 a2
 have eq_x:=Gm x (by omega)
 have be_x:=Fm.bulk_eq x
 have be_x_atom:=Tm.bulk_eq x.atom
 have w_x_atom_args:=Tm.wtS_bulk x.atom.args
 have w_x_parts:=Fm.wtS_bulk x.parts
 have eq_r:=Gm r (by omega)
 have be_r:=Fm.bulk_eq r
 have be_r_atom:=Tm.bulk_eq r.atom
 have w_r_atom_args:=Tm.wtS_bulk r.atom.args
 have w_r_parts:=Fm.wtS_bulk r.parts
 have eq_ds:=ML ds (by omega)
 have w_ds:=Df.wtS_bulk ds
 have k_x_0:=Tm.mkS_end x.atom.args (1)
 have k_x_1:=Fm.mkS_end x.parts ((Tm.mkS x.atom.args (1)).2)
 have m_x:=JA x (1) (.row 31 2 (x.atom.args.map Tm.o)) (.row 34 5 (x.parts.map Fm.o)) (by omega) (by omega) rfl rfl
 obtain ⟨n_x,hn_x⟩:∃ n1,n1=(x.mkr (1)).2:=⟨_,rfl⟩
 have hn'_x:n_x=(Fm.mkS x.parts ((Tm.mkS x.atom.args (1)).2)).2:=hn_x
 rw [←hn_x] at m_x
 have k_r_0:=Tm.mkS_end r.atom.args (1)
 have k_r_1:=Fm.mkS_end r.parts ((Tm.mkS r.atom.args (1)).2)
 have m_r:=JA r (1) (.row 31 2 (r.atom.args.map Tm.o)) (.row 34 5 (r.parts.map Fm.o)) (by omega) (by omega) rfl rfl
 have hd_r:=Pg r (1) (by omega) (by omega)
 obtain ⟨n_r,hn_r⟩:∃ n1,n1=(r.mkr (1)).2:=⟨_,rfl⟩
 have hn'_r:n_r=(Fm.mkS r.parts ((Tm.mkS r.atom.args (1)).2)).2:=hn_r
 rw [←hn_r] at m_r hd_r
 have k_ds:=Df.mkS_end ds (n_r)
 have m_ds:=KJ ds (n_r) [.row 56 7 (ds.map Df.o)] (by omega) (by omega) rfl
 have hd_ds:=KL ds (n_r) (by omega) (by omega)
 obtain ⟨n_ds,hn_ds⟩:∃ n1,n1=(Df.mkS ds (n_r)).2:=⟨_,rfl⟩
 rw [←hn_ds] at k_ds m_ds hd_ds
 refine Ai Cg Ch (of_decide_eq_true rfl) ?_
 simp (disch:=omega) only [Bx,go_sem,s0,t_x,a1,a2,eq_x,eq_r,eq_ds,m_x,hd_r,m_r,hd_ds,m_ds,Cw,BA,BY,BB,BM,Cb,Cc,Bw,Bv,A8,A2,Fm.osv,Fm.obs,Tm.osv,Tm.obs,Df.osv,Df.obs,Tm.erss,Tm.noss,Fm.erss,Fm.noss,Df.erss,Df.noss]
 repeat ((first | (refine A6 ?_ ?_; (focus (simp (disch:=omega) only [go_sem,s0,t_x,a1,a2,eq_x,eq_r,eq_ds,m_x,hd_r,m_r,hd_ds,m_ds,Cw,BA,BY,BB,BM,Cb,Cc,Bw,Bv,A8,A2,Fm.osv,Fm.obs,Tm.osv,Tm.obs,Df.osv,Df.obs,Tm.erss,Tm.noss,Fm.erss,Fm.noss,Df.erss,Df.noss]; done))) | (refine A7 ?_ ?_; (focus (simp (disch:=omega) only [go_sem,s0,t_x,a1,a2,eq_x,eq_r,eq_ds,m_x,hd_r,m_r,hd_ds,m_ds,Cw,BA,BY,BB,BM,Cb,Cc,Bw,Bv,A8,A2,Fm.osv,Fm.obs,Tm.osv,Tm.obs,Df.osv,Df.obs,Tm.erss,Tm.noss,Fm.erss,Fm.noss,Df.erss,Df.noss]; done)))); (try simp (disch:=omega) only [go_sem,s0,t_x,a1,a2,eq_x,eq_r,eq_ds,m_x,hd_r,m_r,hd_ds,m_ds,Cw,BA,BY,BB,BM,Cb,Cc,Bw,Bv,A8,A2,Fm.osv,Fm.obs,Tm.osv,Tm.obs,Df.osv,Df.obs,Tm.erss,Tm.noss,Fm.erss,Fm.noss,Df.erss,Df.noss]))
end Go.Proofs.YtbcljemengiocaaGreatDoor
set_option maxRecDepth 100000
set_option linter.unusedSimpArgs false
set_option linter.unusedVariables false
set_option linter.unusedSectionVars false
namespace Go.Proofs.YtbcljemengiocaaGreatDoor
open Go.RowKit Go.ChangeShapes Go.WideShapes Go.ChangeAt Go.Deep
section
variable {H:Type} {enc:TypeId × Value→H} {P:Program} {w:World} {base:Nat} {spare:Nat→Bool} {held:Bool}
theorem IV {b o k:Nat}:(⟨b,o,none⟩:Addr).add k=⟨b,o+k,none⟩:=by
 unfold Addr.add; split
 ·subst_vars; rfl
 ·rfl
theorem Zc {a:Addr} {v:Value} (h:w.cell? a=some v):a.block<w.heap.size:=by
 unfold World.cell? at h
 cases hb:w.heap[a.block]? with
 | none=>rw [hb] at h; cases h
 | some o=>exact (yM.1 hb).1
end
section
variable {H:Type} {enc:TypeId × Value→H} {w:World} {base:Nat} {spare:Nat→Bool} {held:Bool}
end
end Go.Proofs.YtbcljemengiocaaGreatDoor
set_option maxRecDepth 100000
set_option linter.unusedSimpArgs false
set_option linter.unusedVariables false
set_option linter.unusedSectionVars false
namespace Go.Proofs.YtbcljemengiocaaGreatDoor
open Go.RowKit Go.ChangeShapes Go.WideShapes Go.ChangeAt Go.Deep
section
variable {H:Type} {enc:TypeId × Value→H} {P:Program} {w:World} {base:Nat} {spare:Nat→Bool} {held:Bool}
theorem Tg {t e:TypeId} {fuel:Nat} {v:Value} {x:DataW H × List MemPlace} (sz:Nat) (hsz:P.cellsOf e=sz) (h0:0<sz) (ht:P.underlying t=some (.slice e)) (h:DataW.trod enc P w base spare held fuel t [v]=some x) :
  ∃ (a:Option Addr) (len cap:Nat) (f:Nat→Nat→Value),v=.slice a len cap∧len≤cap∧cap≤9223372036854775807∧SlA w 0 sz len f a ∧
   ∀ i,i<len→∃ n x',n<fuel∧DataW.trod enc P w base spare held n e ((yH sz).map (f i))=some x':=by
 rcases DataW.trod_slice ht h with ⟨hcs,_⟩ | ⟨a,len,cap,elems,rest,n,hf,hcs,hx,hb,hl,hm,hlen,hel,_,_⟩
 ·simp only [List.cons.injEq,and_true] at hcs
  exact ⟨none,0,0,fun _ _=>undef,hcs,yG _,by omega,.inl rfl,fun i hi=>absurd hi (by omega)⟩
 ·have hi:∀ i,i<len→∃ cs' x',w.cells? base (a.add (i*sz)) sz=some cs'∧DataW.trod enc P w base spare held n e cs'=some x':=by
   intro i hi
   have h1:=hel i hi
   rw [hsz,zY (by omega)] at h1
   obtain ⟨cs',h2,h3⟩:=Option.bind_eq_some_iff.1 h1
   exact ⟨cs',_,h2,h3⟩
  have hcell:∀ i j,i<len→j<sz→∃ v,w.cell? (a.add (i*sz+j))=some v:=by
   intro i j hil hj
   obtain ⟨cs',x',hc,_⟩:=hi i hil
   obtain ⟨_,hcl,hat⟩:=World.cells?_some hc
   have h1:=hat j hj
   rw [Go.Deep.add_add,zY (by omega)] at h1
   exact ⟨_,h1⟩
  simp only [List.cons.injEq,and_true] at hcs
  refine ⟨some a,len,cap,fun i j=>(w.cell? (a.add (i*sz+j))).getD undef,hcs,hl,hm,?_,?_⟩
  ·rcases zG len with h | h
   ·exact .inl h
   ·obtain ⟨v,hv⟩:=hcell 0 0 h h0
    rw [Nat.zero_mul,yP] at hv
    have hsp:a.spot=none:=by simpa [Addr.add] using World.cell?_spot hv
    have hlt:=Zc hv
    obtain ⟨b,off,spot⟩:=a
    simp only at hsp
    subst hsp
    refine .inr ⟨b,off,rfl,zK _,by simpa [Addr.add] using hlt,fun i j hil hj=>?_⟩
    obtain ⟨v',hv'⟩:=hcell i j hil hj
    rw [IV] at hv'
    show _=some ((w.cell? ((⟨b,off,none⟩:Addr).add (i*sz+j))).getD undef)
    rw [IV,Nat.add_assoc,hv']
    rfl
  ·intro i hil
   obtain ⟨cs',x',hc,ht'⟩:=hi i hil
   obtain ⟨_,hcl,hat⟩:=World.cells?_some hc
   refine ⟨n,x',by omega,?_⟩
   have hcs':(yH sz).map (fun j=>(w.cell? (a.add (i*sz+j))).getD undef)=cs':=by
    apply List.ext_getElem?
    intro j
    by_cases hj:j<sz
    ·rw [List.getElem?_map,List.getElem?_range hj]
     have h1:=hat j hj
     rw [Go.Deep.add_add] at h1
     rw [zY (by omega:j<cs'.length)] at h1 ⊢
     simp [h1]
    ·rw [List.getElem?_eq_none (by simp; omega),List.getElem?_eq_none (by omega)]
   rw [hcs']
   exact ht'
theorem Th {t:TypeId} {fs:Array Field} {fuel:Nat} {cs:List Value} {x:DataW H × List MemPlace} (ht:P.underlying t=some (.struct fs)) (h:DataW.trod enc P w base spare held fuel t cs=some x) :
  ∃ n,n<fuel∧cs.length=P.cellsOf t∧∀ (i:Nat) (f:Field),fs[i]?=some f→∃ y,DataW.trod enc P w base spare held n f.type ((cs.drop f.offset).take (P.cellsOf f.type))=some y:=by
 obtain ⟨xs,n,hn,hx,hlen,hxl,hf⟩:=DataW.trod_struct ht h
 refine ⟨n,by omega,hlen,fun i f hi=>?_⟩
 have hil:i<fs.size:=(yM.1 hi).1
 have h1:=hf i f hi
 rw [zY (by omega:i<xs.length)] at h1
 exact ⟨_,h1⟩
end
inductive Lvs (w:World):List D→List Value→Prop
 |nil:Lvs w [] []
 |cons {d:D} {v:Value} {ds:List D} {vs:List Value} (h:DAt w d v) (hs:Lvs w ds vs):Lvs w (d :: ds) (v :: vs)
theorem Lvs.len {w:World} {ds:List D} {vs:List Value} (h:Lvs w ds vs):ds.length=vs.length:=by
 induction h with
 | nil=>rfl
 | cons h hs ih=>simp [ih]
theorem Lvs.get {w:World} {ds:List D} {vs:List Value} (h:Lvs w ds vs):∀ j (h1:j<ds.length) (h2:j<vs.length),DAt w ds[j] vs[j]:=by
 induction h with
 | nil=>intro j h1; simp at h1
 | cons h hs ih =>
  intro j h1 h2
  cases j with
  | zero=>exact h
  | succ j=>exact ih j (by simpa using h1) (by simpa using h2)
theorem Ti {α:Type} [Inhabited α] (dd:α→List D) {w:World} {m len cap:Nat} {f:Nat→Nat→Value} {a:Option Addr} (hl:len≤cap) (hm:cap≤9223372036854775807) (hS:SlA w 0 m len f a)
  (hel:∀ i,i<len→∃ X:α,Lvs w (dd X) ((yH m).map (f i))):∃ xs:List α,DAt w (.arr (xs.map dd)) (.slice a len cap):=by
 obtain ⟨g,hg⟩:∃ g:Nat→α,∀ i,i<len→Lvs w (dd (g i)) ((yH m).map (f i)) :=
  ⟨fun i=>if h:i<len then (hel i h).choose else default,fun i hi=>by simp only [hi,dif_pos]; exact (hel i hi).choose_spec⟩
 refine ⟨(yH len).map g,?_⟩
 have hlen:(((yH len).map g).map dd).length=len:=by simp
 have:=DAt.Zk (w:=w) (es:=((yH len).map g).map dd) (sz:=m) (cap:=cap) (a:=a) (f:=f) (by rw [hlen]; exact hl) hm (by rw [hlen]; exact hS) (fun i hi=>by
  rw [hlen] at hi
  have:=(hg i hi).len
  simpa using this) (fun i j hi hj=>by
  rw [hlen] at hi
  have h1:=hg i hi
  have h2:=h1.len
  simp only [zX,List.length_range] at h2
  simp only [List.getElem_map,List.getElem_range] at hj ⊢
  have:=h1.get j hj (by simp; omega)
  simpa using this)
 rw [hlen] at this
 exact this
instance:Inhabited Tm:=⟨Tm.zero⟩
instance:Inhabited Fm:=⟨Fm.zero⟩
section
variable {H:Type} {enc:TypeId × Value→H} {w:World} {base:Nat} {spare:Nat→Bool} {held:Bool}
end
end Go.Proofs.YtbcljemengiocaaGreatDoor
set_option maxRecDepth 100000
set_option linter.unusedSimpArgs false
set_option linter.unusedVariables false
set_option linter.unusedSectionVars false
namespace Go.Proofs.YtbcljemengiocaaGreatDoor
open Go.RowKit
theorem DRep.lt_ {own:Bool} {w:World} {S:Nat→Prop} {d:D} {v:Value} (h:DRep own w S d v):DRep own w (fun b=>S b∧b<w.heap.size) d v:=by
 induction h with
 | int S n=>exact .int _ n
 | byte S n=>exact .byte _ n
 | nl S=>exact .nl _
 | bool S b=>exact .bool _ b
 | str S s h=>exact .str _ s h
 | arr S sz es a cap f Sub h1 h2 h3 h4 h5 h6 h7 ih =>
  refine .arr _ sz es a cap f (fun i j x=>Sub i j x∧x<w.heap.size) h1 h2 ?_ h4 (fun i j x h=>⟨h5 i j x h.1,h.2⟩) (fun ho i j i' j' x h h'=>h6 ho i j i' j' x h.1 h'.1) ih
  rcases h3 with h3 | ⟨b,off,ha,hS,hl,hc,ho⟩
  ·exact .inl h3
  ·exact .inr ⟨b,off,ha,⟨hS,hl⟩,hl,hc,fun h=>⟨fun i j hx=>(ho h).1 i j hx.1,(ho h).2⟩⟩
theorem Fun.yes {f:FuncId} {args:List SV} (h:Fun Tryz.prog f args [] (.bool true) []) {w:World} {vs:List Value} (hgl:GL w fun b=>b<w.heap.size) (hvs:RepVs w (fun b=>b<w.heap.size) (fun _=>none) args vs):Calls Tryz.prog f vs.toArray w (Ret w (.bool true)):=by
 have nl:∀ g,¬ (An [] g).live:=fun g hg=>by simp [An,Ob.live] at hg
 refine (h w (fun b=>b<w.heap.size) (fun _=>none) (fun _ _=>False) vs ⟨fun b hb=>hb,fun g hg=>absurd hg (nl g),fun g b hg=>absurd hg (nl g),fun g b hg=>absurd hg (nl g),fun g g' b hg=>absurd hg (nl g),fun g _=>rfl,hgl⟩ hvs).mono ?_
 rintro e w' ⟨v,I',V',B',rfl,hr,hp⟩
 simp only [RepV] at hr
 subst hr
 exact ⟨rfl,hp.fr.os,hp.fr.tape.1,hp.fr.output,hp.fr.size,fun b hb=>hp.fr.block b hb fun ⟨g,hg,_⟩=>absurd hg (nl g)⟩
theorem Tj {w:World} {d:D} {ds:List D} {v:Value} {vs:List Value} (h:Lvs w (d :: ds) (v :: vs)):DAt w d v∧Lvs w ds vs:=by
 cases h with
 | cons h1 h2=>exact ⟨h1,h2⟩
theorem DAt.rep_sv {w:World} {d:D} {v:Value} (h:DAt w d v):RepV w (fun b=>b<w.heap.size) (fun _=>none) d.sv v :=
 D.rep_sv ((DRep.lt_ h).up fun b hb=>hb.2)
theorem Lvs.reps {w:World} {ds:List D} {vs:List Value} (h:Lvs w ds vs):RepVs w (fun b=>b<w.heap.size) (fun _=>none) (ds.map D.sv) vs:=by
 induction h with
 | nil=>simp [RepVs]
 | cons h hs ih=>simp only [z7,RepVs]; exact ⟨_,_,rfl,h.rep_sv,ih⟩
theorem Lvs.agg {w:World} {ds:List D} {vs:List Value} (h:Lvs w ds vs):RepV w (fun b=>b<w.heap.size) (fun _=>none) (.agg (ds.map D.sv)) (.agg vs.toArray):=by
 simp only [RepV]; exact ⟨vs,rfl,h.reps⟩
theorem Lvs.fits {w:World} {ds:List D} {vs:List Value} (h:Lvs w ds vs):D.fits ds:=by
 induction h with
 | nil=>trivial
 | cons h hs ih=>exact ⟨DRep.fit h,ih⟩
theorem Yg {w:World} {I:Nat→Prop} {V:Nat→Option Value}:RepVs w I V [] []:=by simp [RepVs]
theorem W6 {w:World} {I:Nat→Prop} {V:Nat→Option Value} {x:SV} {xs:List SV} {v:Value} {vs:List Value} (h:RepV w I V x v) (hs:RepVs w I V xs vs):RepVs w I V (x :: xs) (v :: vs):=by
 simp only [RepVs]; exact ⟨v,vs,rfl,h,hs⟩
section
variable {H:Type} {enc:TypeId × Value→H} {w:World} {base:Nat} {spare:Nat→Bool} {held:Bool}
theorem M7 {fuel:Nat} (ih:∀ n,n<fuel→∀ v x,DataW.trod enc Tryz.prog w base spare held n 22 [v]=some x→∃ xs:List Tm,DAt w (.arr (xs.map Tm.d)) v) {cs:List Value} {x:DataW H × List MemPlace} (h:DataW.trod enc Tryz.prog w base spare held fuel 24 cs=some x):∃ X:Tm,Lvs w X.d cs:=by
 obtain ⟨n,hn,hlen,hf⟩:=Th Tryz.underlying24 h
 rw [show Tryz.prog.cellsOf 24=2 by kernel_rfl] at hlen
 match cs,hlen with
 | [c0,c1],_ =>
  obtain ⟨y0,k0⟩:=hf 0 _ rfl
  have e0:(([c0,c1].drop 0).take (Tryz.prog.cellsOf 9))=[c0]:=by rw [show Tryz.prog.cellsOf 9=1 by kernel_rfl]; rfl
  obtain ⟨z0,q0,_,s0⟩:=DataW.trod_string Tryz.underlying9 k0
  have q0':c0=.string z0:=by
   have:[c0]=[.string z0]:=by rw [←e0]; exact q0
   simpa using this
  obtain ⟨y1,k1⟩:=hf 1 _ rfl
  have e1:(([c0,c1].drop 1).take (Tryz.prog.cellsOf 22))=[c1]:=by rw [show Tryz.prog.cellsOf 22=1 by kernel_rfl]; rfl
  have k1':DataW.trod enc Tryz.prog w base spare held n 22 [c1]=some y1:=by rw [←e1]; exact k1
  obtain ⟨z1,g1⟩:=ih n hn c1 y1 k1'
  subst q0'
  exact ⟨.mk z0 z1,by rw [Tm.d_eq]; exact (.cons (.str _ z0 s0) (.cons g1 .nil))⟩
theorem Po:∀ (fuel:Nat) (v:Value) (x:DataW H × List MemPlace),DataW.trod enc Tryz.prog w base spare held fuel 22 [v]=some x→∃ xs:List Tm,DAt w (.arr (xs.map Tm.d)) v:=by
 intro fuel
 induction fuel using Nat.strongRecOn with
 | _ fuel ih =>
  intro v x h
  obtain ⟨a,len,cap,f,rfl,hl,hm,hS,hr⟩:=Tg (P:=Tryz.prog) 2 (by kernel_rfl) (by omega) Tryz.underlying22 h
  exact Ti Tm.d hl hm hS fun i hi=>by
   obtain ⟨n,x',hn,h1⟩:=hr i hi
   exact M7 (fun n' hn'=>ih n' (by omega)) h1
theorem Yh {fuel:Nat} {cs:List Value} {x:DataW H × List MemPlace} (h:DataW.trod enc Tryz.prog w base spare held fuel 24 cs=some x):∃ X:Tm,Lvs w X.d cs :=
 M7 (fun n _=>Po n) h
theorem IW {fuel:Nat} (ih:∀ n,n<fuel→∀ v x,DataW.trod enc Tryz.prog w base spare held n 25 [v]=some x→∃ xs:List Fm,DAt w (.arr (xs.map Fm.d)) v) {cs:List Value} {x:DataW H × List MemPlace} (h:DataW.trod enc Tryz.prog w base spare held fuel 27 cs=some x):∃ X:Fm,Lvs w X.d cs:=by
 obtain ⟨n,hn,hlen,hf⟩:=Th Tryz.underlying27 h
 rw [show Tryz.prog.cellsOf 27=5 by kernel_rfl] at hlen
 match cs,hlen with
 | [c0,c1,c2,c3,c4],_ =>
  obtain ⟨y0,k0⟩:=hf 0 _ rfl
  have e0:(([c0,c1,c2,c3,c4].drop 0).take (Tryz.prog.cellsOf 3))=[c0]:=by rw [show Tryz.prog.cellsOf 3=1 by kernel_rfl]; rfl
  obtain ⟨z0,q0,_,_⟩:=DataW.trod_int Tryz.underlying3 k0
  have q0':c0=.int .i64 z0:=by
   have:[c0]=[.int .i64 z0]:=by rw [←e0]; exact q0
   simpa using this
  obtain ⟨y1,k1⟩:=hf 1 _ rfl
  have e1:(([c0,c1,c2,c3,c4].drop 1).take (Tryz.prog.cellsOf 24))=[c1,c2]:=by rw [show Tryz.prog.cellsOf 24=2 by kernel_rfl]; rfl
  have k1':DataW.trod enc Tryz.prog w base spare held n 24 [c1,c2]=some y1:=by rw [←e1]; exact k1
  obtain ⟨z1,g1⟩:=Yh k1'
  rw [Tm.d_eq] at g1
  obtain ⟨g1_0,g1⟩:=Tj g1
  obtain ⟨g1_1,g1⟩:=Tj g1
  obtain ⟨y2,k2⟩:=hf 2 _ rfl
  have e2:(([c0,c1,c2,c3,c4].drop 3).take (Tryz.prog.cellsOf 9))=[c3]:=by rw [show Tryz.prog.cellsOf 9=1 by kernel_rfl]; rfl
  obtain ⟨z2,q2,_,s2⟩:=DataW.trod_string Tryz.underlying9 k2
  have q2':c3=.string z2:=by
   have:[c3]=[.string z2]:=by rw [←e2]; exact q2
   simpa using this
  obtain ⟨y3,k3⟩:=hf 3 _ rfl
  have e3:(([c0,c1,c2,c3,c4].drop 4).take (Tryz.prog.cellsOf 25))=[c4]:=by rw [show Tryz.prog.cellsOf 25=1 by kernel_rfl]; rfl
  have k3':DataW.trod enc Tryz.prog w base spare held n 25 [c4]=some y3:=by rw [←e3]; exact k3
  obtain ⟨z3,g3⟩:=ih n hn c4 y3 k3'
  subst q0' q2'
  exact ⟨.mk z0 z1 z2 z3,by rw [Fm.d_eq]; exact (.cons (.int _ z0) (.cons g1_0 (.cons g1_1 (.cons (.str _ z2 s2) (.cons g3 .nil)))))⟩
theorem Mh:∀ (fuel:Nat) (v:Value) (x:DataW H × List MemPlace),DataW.trod enc Tryz.prog w base spare held fuel 25 [v]=some x→∃ xs:List Fm,DAt w (.arr (xs.map Fm.d)) v:=by
 intro fuel
 induction fuel using Nat.strongRecOn with
 | _ fuel ih =>
  intro v x h
  obtain ⟨a,len,cap,f,rfl,hl,hm,hS,hr⟩:=Tg (P:=Tryz.prog) 5 (by kernel_rfl) (by omega) Tryz.underlying25 h
  exact Ti Fm.d hl hm hS fun i hi=>by
   obtain ⟨n,x',hn,h1⟩:=hr i hi
   exact IW (fun n' hn'=>ih n' (by omega)) h1
theorem Tk {fuel:Nat} {cs:List Value} {x:DataW H × List MemPlace} (h:DataW.trod enc Tryz.prog w base spare held fuel 27 cs=some x):∃ X:Fm,Lvs w X.d cs :=
 IW (fun n _=>Mh n) h
end
end Go.Proofs.YtbcljemengiocaaGreatDoor
