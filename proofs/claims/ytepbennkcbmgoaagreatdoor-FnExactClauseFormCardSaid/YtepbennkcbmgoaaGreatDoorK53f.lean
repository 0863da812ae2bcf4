/-
  Texts of this claim, one behind the other, each built on those ahead of it. No condition.
-/
import Derived.Test.YtepbennkcbmgoaaGreatDoorK53b
import Derived.Test.YtepbennkcbmgoaaGreatDoorK53c
import Derived.Test.YtepbennkcbmgoaaGreatDoorK53d
import Derived.Test.YtepbennkcbmgoaaGreatDoorK53e
import Derived.ProofKit
import Derived.Deep.Slices
import Derived.Deep.Fields
import Derived.ChangeSame
import Derived.OpenShut
import Derived.ShutString
import Derived.ChangeOld
set_option maxHeartbeats 16000000
open List renaming drop_eq_getElem_cons → zA, length_map → zC, mem_singleton → zD, drop_eq_nil_of_le → zE, length_append → zF, drop_zero → zG, map_cons → zH, getElem_mem → zK, map_nil → zL, map_append → zM, take_succ_eq_append_getElem → zN, getElem?_eq_getElem → zO, mem_append → zP, take_of_length_le → zQ, length_take → zR, length_cons → zS, range → zT, eq_nil_of_length_eq_zero → zU, nil_append → zZ
open Int renaming toNat_zero → zB
open Nat renaming lt_or_ge → zI, zero_le → zJ, eq_zero_or_pos → zV, le_refl → zX
open Array renaming getElem?_eq_some_iff → zW
open Bool renaming and_eq_true → zY, false_or → z6
set_option maxRecDepth 100000
set_option linter.unusedSimpArgs false
set_option linter.unusedVariables false
set_option linter.unusedSectionVars false
namespace Go.Proofs.YtepbennkcbmgoaaGreatDoor
open Go.RowKit
theorem Qet (r:List Cl) (k:Nat):((r.take k).map (nz 10)).length≤r.length:=by rw [zC,zR]; omega
def AV:SC:=(.seq (.reg [⟨some 1,none,.boxv 36 5 (.t 0)⟩,⟨some 2,none,.mv (.c .nil)⟩,⟨some 3,none,.mv (.c (.bool false))⟩]) (.seq (.reg [⟨some 10,none,.mkrow 60 1 [.nil] 0 []⟩,⟨some 4,none,.mv (.t 10)⟩]) (.seq (.reg [⟨some 5,none,.mv (.c (.bool true))⟩]) (.seq (.seq (.reg [⟨some 11,none,.faddr 0 (.t 1)⟩,⟨some 12,none,.load false 1 (.t 11)⟩]) (.block 0 (.seq (.reg [⟨some 14,none,.bin .eql false (.t 12) (.c (.int .i64 2))⟩,⟨some 13,none,.mv (.t 14)⟩]) (.cond (.t 13) (.reg [⟨some 15,none,.mv (.t 4)⟩,⟨some 16,none,.build [.nil] []⟩,⟨some 17,none,.mkrow 60 1 [.nil] 1 [(0,(.t 16))]⟩,⟨some 18,none,.append 60 1 24 [.nil] (.t 15) (.t 17)⟩,⟨some 4,none,.mv (.t 18)⟩]) (.seq (.reg [⟨some 20,none,.bin .eql false (.t 12) (.c (.int .i64 3))⟩,⟨some 19,none,.mv (.t 20)⟩]) (.cond (.t 19) (.reg [⟨some 21,none,.mv (.t 4)⟩,⟨some 22,none,.faddr 1 (.t 1)⟩,⟨some 23,none,.load true 2 (.t 22)⟩,⟨(some 24),none,(.build [(.bool false),(.str ⟨#[]⟩),.nil] [(0,(1,(.c (.bool true)))),(1,(2,(.t 23)))])⟩,⟨(some 25),none,(.mkrow 122 3 [(.bool false),(.str ⟨#[]⟩),.nil] 1 [(0,(.t 24))])⟩,⟨some 26,none,.call 218 [(.t 25)]⟩,⟨some 27,none,.mkrow 60 1 [.nil] 1 [(0,(.t 26))]⟩,⟨some 28,none,.append 60 1 24 [.nil] (.t 21) (.t 27)⟩,⟨some 4,none,.mv (.t 28)⟩]) (.seq (.reg [⟨some 30,none,.bin .eql false (.t 12) (.c (.int .i64 4))⟩,⟨some 29,none,.mv (.t 30)⟩]) (.cond (.t 29) (.reg [⟨some 31,none,.mv (.t 4)⟩,⟨some 32,none,.faddr 4 (.t 1)⟩,⟨some 33,none,.load false 1 (.t 32)⟩,⟨some 34,none,.iaddr 5 (.t 33) (.c (.int .i64 0))⟩,⟨some 35,none,.faddr 1 (.t 34)⟩,⟨some 36,none,.load true 2 (.t 35)⟩,⟨(some 37),none,(.build [(.bool false),(.str ⟨#[]⟩),.nil] [(1,(2,(.t 36)))])⟩,⟨(some 38),none,(.mkrow 122 3 [(.bool false),(.str ⟨#[]⟩),.nil] 1 [(0,(.t 37))])⟩,⟨some 39,none,.call 218 [(.t 38)]⟩,⟨some 40,none,.mkrow 60 1 [.nil] 1 [(0,(.t 39))]⟩,⟨some 41,none,.append 60 1 24 [.nil] (.t 31) (.t 40)⟩,⟨some 4,none,.mv (.t 41)⟩]) (.seq (.reg [⟨some 43,none,.bin .eql false (.t 12) (.c (.int .i64 8))⟩,⟨some 42,none,.mv (.t 43)⟩]) (.cond (.t 42) (.seq (.reg [⟨some 44,none,.faddr 4 (.t 1)⟩,⟨some 45,none,.load false 1 (.t 44)⟩,⟨some 46,none,.iaddr 5 (.t 45) (.c (.int .i64 0))⟩,⟨some 47,none,.load true 5 (.t 46)⟩,⟨some 48,none,.call 160 [(.t 47)]⟩,⟨some 49,none,.ext (.t 48) 0⟩,⟨some 50,none,.ext (.t 48) 1⟩,⟨some 2,none,.mv (.t 49)⟩,⟨some 3,none,.mv (.t 50)⟩]) .ret) (.seq (.seq (.reg [⟨some 52,none,.bin .eql false (.t 12) (.c (.int .i64 5))⟩,⟨some 51,none,.mv (.t 52)⟩]) (.cond (.t 51) .skip (.reg [⟨some 53,none,.bin .eql false (.t 12) (.c (.int .i64 6))⟩,⟨some 51,none,.mv (.t 53)⟩]))) (.cond (.t 51) (.seq (.reg [⟨some 55,none,.faddr 4 (.t 1)⟩,⟨some 56,none,.load false 1 (.t 55)⟩,⟨some 57,none,.iaddr 5 (.t 56) (.c (.int .i64 0))⟩,⟨some 58,none,.load true 5 (.t 57)⟩,⟨some 59,none,.call 160 [(.t 58)]⟩,⟨some 54,none,.mv (.t 59)⟩,⟨some 60,none,.ext (.t 54) 0⟩,⟨some 61,none,.ext (.t 54) 1⟩,⟨some 6,none,.mv (.t 60)⟩,⟨some 7,none,.mv (.t 61)⟩]) (.seq (.reg [⟨some 63,none,.faddr 4 (.t 1)⟩,⟨some 64,none,.load false 1 (.t 63)⟩,⟨some 65,none,.iaddr 5 (.t 64) (.c (.int .i64 1))⟩,⟨some 66,none,.load true 5 (.t 65)⟩,⟨some 67,none,.call 160 [(.t 66)]⟩,⟨some 62,none,.mv (.t 67)⟩,⟨some 68,none,.ext (.t 62) 0⟩,⟨some 69,none,.ext (.t 62) 1⟩,⟨some 8,none,.mv (.t 68)⟩,⟨some 9,none,.mv (.t 69)⟩]) (.seq (.seq (.reg [⟨some 70,none,.mv (.t 7)⟩,⟨some 71,none,.un .not (.t 70)⟩,⟨some 72,none,.mv (.t 71)⟩,⟨(some 73),(some (72,false)),(.mv (.t 9))⟩,⟨(some 74),(some (72,false)),(.un .not (.t 73))⟩,⟨some 75,none,.pick (.t 72) (.c (.bool true)) (.t 74)⟩]) (.cond (.t 75) (.seq (.reg [⟨some 76,none,.mkrow 60 1 [.nil] 0 []⟩,⟨some 2,none,.mv (.t 76)⟩,⟨some 3,none,.mv (.c (.bool false))⟩]) .ret) .skip)) (.seq (.reg [⟨some 77,none,.mv (.t 4)⟩,⟨some 78,none,.mv (.t 6)⟩,⟨some 79,none,.append 60 1 24 [.nil] (.t 77) (.t 78)⟩,⟨some 80,none,.mv (.t 8)⟩,⟨some 81,none,.append 60 1 24 [.nil] (.t 79) (.t 80)⟩,⟨some 4,none,.mv (.t 81)⟩]) (.seq (.reg [⟨some 82,none,.faddr 0 (.t 1)⟩,⟨some 83,none,.load false 1 (.t 82)⟩,⟨some 84,none,.bin .eql false (.t 83) (.c (.int .i64 6))⟩]) (.cond (.t 84) (.reg [⟨some 86,none,.mv (.t 6)⟩,⟨some 87,none,.mv (.t 8)⟩,⟨some 88,none,.call 219 [(.t 86),(.t 87)]⟩,⟨some 85,none,.mv (.t 88)⟩,⟨some 89,none,.ext (.t 85) 0⟩,⟨some 90,none,.ext (.t 85) 1⟩,⟨some 4,none,.mv (.t 89)⟩,⟨some 5,none,.mv (.t 90)⟩]) .skip)))))) .skip)))))))))))) (.seq (.reg [⟨some 91,none,.mv (.t 4)⟩,⟨some 92,none,.call 220 [(.t 91)]⟩,⟨some 4,none,.mv (.t 92)⟩]) (.seq (.reg [⟨some 93,none,.mv (.t 4)⟩,⟨some 94,none,.mv (.t 5)⟩,⟨some 95,none,.mv (.t 94)⟩,⟨(some 96),(some (95,true)),(.mv (.t 4))⟩,⟨(some 97),(some (95,true)),(.len false (.t 96))⟩,⟨(some 98),(some (95,true)),(.bin .leq false (.t 97) (.c (.int .i64 30)))⟩,⟨some 99,none,.pick (.t 95) (.t 98) (.c (.bool false))⟩,⟨some 2,none,.mv (.t 93)⟩,⟨some 3,none,.mv (.t 99)⟩]) .ret))))))
theorem Bf:codeOf Tryz.prog 160=some ⟨100,AV,[(.tmp 2),(.tmp 3)]⟩:=by kernel_rfl
theorem At:modes 160=⟨[],.frz,none,false⟩:=by unfold modes; rfl
theorem Wq (x:Fm) (hx:x.forms=true) (hn:x.isN=true) (ih:∀ y∈x.parts,ClE 160 y):ClE 160 x:=by
 have hxs:x.sv=.agg [.int .i64 x.op,.str x.atom.name,.arr (x.atom.args.map Tm.d),.str x.var,.arr (x.parts.map Fm.d)]:=rfl
 have hsv:∀ d:Cl,d.sv=.agg [.arr (d.lits.map Lt.d)]:=fun d=>rfl
 have hfo:=Fm.CN hx
 by_cases h2:x.op=2
 ·have o2:dec (x.op=2)=true:=An h2
  have o3:dec (x.op=3)=false:=Aj (by omega)
  have o4:dec (x.op=4)=false:=Aj (by omega)
  have o8:dec (x.op=8)=false:=Aj (by omega)
  have o5:dec (x.op=5)=false:=Aj (by omega)
  have o6:dec (x.op=6)=false:=Aj (by omega)
  have hc:E 220 [.arr [[D.arr []]]] []=_:=FR [⟨[]⟩] (by simp) fun c hc=>by rw [zD.1 hc]; exact ZA
  refine ClE.fin (Fm.cl2 h2) ?_
  rw [hxs]
  obtain ⟨t,ht⟩:∃ t,t=Dp [] [(⟨[]⟩:Cl)]:=⟨_,rfl⟩
  rw [←ht] at hc ⊢
  have htl:(t.map Cl.d).length=t.length:=zC _
  refine Af Bf At (of_decide_eq_true rfl) ?_
  simp (disch:=omega) only [AV,go_sem,Ab,o2,o3,o4,o8,o5,o6,hc,htl,AF,Be,At,AU]
 by_cases h3:x.op=3
 ·have o2:dec (x.op=2)=false:=Aj (by omega)
  have o3:dec (x.op=3)=true:=An h3
  have o4:dec (x.op=4)=false:=Aj (by omega)
  have o8:dec (x.op=8)=false:=Aj (by omega)
  have o5:dec (x.op=5)=false:=Aj (by omega)
  have o6:dec (x.op=6)=false:=Aj (by omega)
  have hat:=(Fm.En hfo h3).2.1
  have h8:=KX [⟨true,x.atom⟩] (by simp) fun z hz=>by rw [zD.1 hz]; exact Dk hat
  have hok:=Pu true hat
  refine ClE.fin (Fm.cl3 h3) ?_
  obtain ⟨u,hu⟩:∃ u,u=mkC [⟨true,x.atom⟩]:=⟨_,rfl⟩
  rw [←hu,hsv] at h8
  rw [←hu] at hok ⊢
  simp only [zH,zL,Lt.d_eq] at h8
  have hc:=FR [u] (by simp) fun c hc=>by rw [zD.1 hc]; exact hok
  simp only [zH,zL,Cl.d_eq] at hc
  rw [hxs]
  obtain ⟨t,ht⟩:∃ t,t=Dp [] [u]:=⟨_,rfl⟩
  rw [←ht] at hc ⊢
  have htl:(t.map Cl.d).length=t.length:=zC _
  refine Af Bf At (of_decide_eq_true rfl) ?_
  simp (disch:=omega) only [AV,go_sem,Ab,o2,o3,o4,o8,o5,o6,hc,h8,htl,AF,Be,At,AU]
 by_cases h4:x.op=4
 ·have o2:dec (x.op=2)=false:=Aj (by omega)
  have o3:dec (x.op=3)=false:=Aj (by omega)
  have o4:dec (x.op=4)=true:=An h4
  have o8:dec (x.op=8)=false:=Aj (by omega)
  have o5:dec (x.op=5)=false:=Aj (by omega)
  have o6:dec (x.op=6)=false:=Aj (by omega)
  obtain ⟨p,hp⟩:=Fm.Lr hfo h4
  have hp:x.parts=[p]:=congrArg Fm.parts hp
  have hpm:p∈x.parts:=by rw [hp]; simp
  have hat:=(Fm.En (Fm.CN (Fm.BP hx hpm)) (Fm.Wi hn h4 hp)).2.1
  have hlt:0<x.parts.length:=by rw [hp]; simp
  have hg:=get_at Fm.d hlt
  have hx0:x.parts[0]=p:=by simp [hp]
  rw [hx0,Fm.d_eq] at hg
  have h8:=KX [⟨false,p.atom⟩] (by simp) fun z hz=>by rw [zD.1 hz]; exact Dk hat
  have hok:=Pu false hat
  refine ClE.fin (Fm.cl4 h4 hp) ?_
  obtain ⟨u,hu⟩:∃ u,u=mkC [⟨false,p.atom⟩]:=⟨_,rfl⟩
  rw [←hu,hsv] at h8
  rw [←hu] at hok ⊢
  simp only [zH,zL,Lt.d_eq] at h8
  have hc:=FR [u] (by simp) fun c hc=>by rw [zD.1 hc]; exact hok
  simp only [zH,zL,Cl.d_eq] at hc
  rw [hxs]
  obtain ⟨t,ht⟩:∃ t,t=Dp [] [u]:=⟨_,rfl⟩
  rw [←ht] at hc ⊢
  have htl:(t.map Cl.d).length=t.length:=zC _
  refine Af Bf At (of_decide_eq_true rfl) ?_
  simp (disch:=omega) only [AV,go_sem,Ab,o2,o3,o4,o8,o5,o6,hc,h8,hg,htl,zB,AF,Be,At,AU]
 by_cases h8:x.op=8
 ·have o2:dec (x.op=2)=false:=Aj (by omega)
  have o3:dec (x.op=3)=false:=Aj (by omega)
  have o4:dec (x.op=4)=false:=Aj (by omega)
  have o8:dec (x.op=8)=true:=An h8
  have o5:dec (x.op=5)=false:=Aj (by omega)
  have o6:dec (x.op=6)=false:=Aj (by omega)
  obtain ⟨p,hp⟩:=Fm.Z0 hfo (.inl h8)
  have hp:x.parts=[p]:=congrArg Fm.parts hp
  have hlt:0<x.parts.length:=by rw [hp]; simp
  have hg:=get_at Fm.d hlt
  have hx0:x.parts[0]=p:=by simp [hp]
  rw [hx0,Fm.d_eq] at hg
  obtain ⟨q,hq,hqr⟩:=ih p (by rw [hp]; simp)
  have hps:p.sv=.agg [.int .i64 p.op,.str p.atom.name,.arr (p.atom.args.map Tm.d),.str p.var,.arr (p.parts.map Fm.d)]:=rfl
  rw [hps] at hq
  have hcl:=Fm.cl8 h8 hp
  refine ⟨q,?_,fun r hr=>hqr r (by rw [←hcl]; exact hr)⟩
  rw [hcl,hxs]
  obtain ⟨b,hb⟩:∃ b,b=p.cl.isSome:=⟨_,rfl⟩
  rw [←hb] at hq ⊢
  refine Af Bf At (of_decide_eq_true rfl) ?_
  simp (disch:=omega) only [AV,go_sem,Ab,o2,o3,o4,o8,o5,o6,hg,hq,zB,AF,Be,At,AU]
 by_cases h56:x.op=5∨x.op=6
 ·obtain ⟨p,q,hp⟩:=Fm.SA hfo (by omega)
  have hp:x.parts=[p,q]:=congrArg Fm.parts hp
  have hlt:0<x.parts.length:=by rw [hp]; simp
  have hlt1:1<x.parts.length:=by rw [hp]; simp
  have hg:=get_at Fm.d hlt
  have hg1:=get_at Fm.d hlt1
  have hx0:x.parts[0]=p:=by simp [hp]
  have hx1:x.parts[1]=q:=by simp [hp]
  rw [hx0,Fm.d_eq] at hg
  rw [hx1,Fm.d_eq] at hg1
  have hpm:p∈x.parts:=by rw [hp]; simp
  have hqm:q∈x.parts:=by rw [hp]; simp
  obtain ⟨la,hla,har⟩:=ih p hpm
  obtain ⟨lb,hlb,hbr⟩:=ih q hqm
  have hps:p.sv=.agg [.int .i64 p.op,.str p.atom.name,.arr (p.atom.args.map Tm.d),.str p.var,.arr (p.parts.map Fm.d)]:=rfl
  have hqs:q.sv=.agg [.int .i64 q.op,.str q.atom.name,.arr (q.atom.args.map Tm.d),.str q.var,.arr (q.parts.map Fm.d)]:=rfl
  rw [hps] at hla
  rw [hqs] at hlb
  have hcl:=Fm.Qfd h56 hp
  have ho:dec (x.op=5)=true∧dec (x.op=6)=false∨dec (x.op=5)=false∧dec (x.op=6)=true:=by
   rcases h56 with h | h
   ·exact .inl ⟨An h,Aj (by omega)⟩
   ·exact .inr ⟨Aj (by omega),An h⟩
  have o2:dec (x.op=2)=false:=Aj (by omega)
  have o3:dec (x.op=3)=false:=Aj (by omega)
  have o4:dec (x.op=4)=false:=Aj (by omega)
  have o8:dec (x.op=8)=false:=Aj (by omega)
  cases e1:p.cl with
  | none =>
   rw [e1] at hla hcl
   rw [show (none:Option (List Cl)).isSome=false from rfl] at hla
   refine ClE.none_ [] hcl ?_
   obtain ⟨b,hb⟩:∃ b,b=q.cl.isSome:=⟨_,rfl⟩
   rw [←hb] at hlb
   rw [hxs]
   rcases ho with ⟨o5,o6⟩ | ⟨o5,o6⟩
   ·refine Af Bf At (of_decide_eq_true rfl) ?_
    simp (disch:=omega) only [AV,go_sem,Ab,o2,o3,o4,o8,o5,o6,hg,hg1,hla,hlb,zB,AF,Be,At,AU]
   ·refine Af Bf At (of_decide_eq_true rfl) ?_
    simp (disch:=omega) only [AV,go_sem,Ab,o2,o3,o4,o8,o5,o6,hg,hg1,hla,hlb,zB,AF,Be,At,AU]
  | some a =>
  obtain rfl:=har a e1
  rw [e1] at hla hcl
  rw [show (some la:Option (List Cl)).isSome=true from rfl] at hla
  cases e2:q.cl with
  | none =>
   rw [e2] at hlb hcl
   rw [show (none:Option (List Cl)).isSome=false from rfl] at hlb
   refine ClE.none_ [] hcl ?_
   rw [hxs]
   rcases ho with ⟨o5,o6⟩ | ⟨o5,o6⟩
   ·refine Af Bf At (of_decide_eq_true rfl) ?_
    simp (disch:=omega) only [AV,go_sem,Ab,o2,o3,o4,o8,o5,o6,hg,hg1,hla,hlb,zB,AF,Be,At,AU]
   ·refine Af Bf At (of_decide_eq_true rfl) ?_
    simp (disch:=omega) only [AV,go_sem,Ab,o2,o3,o4,o8,o5,o6,hg,hg1,hla,hlb,zB,AF,Be,At,AU]
  | some b =>
  obtain rfl:=hbr b e2
  rw [e2] at hlb hcl
  rw [show (some lb:Option (List Cl)).isSome=true from rfl] at hlb
  simp only at hcl
  have k1:=Fm.Qf p (Fm.BP hx hpm) (Fm.HD hn hpm) la e1
  have k2:=Fm.Qf q (Fm.BP hx hqm) (Fm.HD hn hqm) lb e2
  obtain ⟨k1,ka⟩:=k1
  obtain ⟨k2,kb⟩:=k2
  clear har hbr e1 e2 hps hqs hp hx0 hx1 hpm hqm
  have a1:=Cl.Qe7 la
  have a2:=Cl.Qe7 lb
  have a3:la.map Cl.os++lb.map Cl.os=(la++lb).map Cl.os:=by rw [zM]
  have a4:(la.map Cl.os).length=la.length:=zC _
  have a5:(lb.map Cl.os).length=lb.length:=zC _
  have a6:=Cl.Qf6 la
  have a7:=Cl.Qf6 lb
  have a8:([]:List (List OT))++la.map Cl.os=la.map Cl.os:=zZ _
  have hlen:(la++lb).length≤60:=by rw [zF]; omega
  rcases ho with ⟨o5,o6⟩ | ⟨o5,o6⟩
  ·have h5:=Aq.1 o5
   rw [if_pos h5] at hcl
   have her:=Cl.Lp (la++lb)
   have hfu:=Cl.Fp (la++lb)
   have hc:=FR (la++lb) (by omega) fun c hc=>by
    rcases zP.1 hc with h | h
    ·exact ka c h
    ·exact kb c h
   refine ClE.fin hcl ?_
   rw [hxs]
   obtain ⟨t,ht⟩:∃ t,t=Dp [] (la++lb):=⟨_,rfl⟩
   rw [←ht] at hc ⊢
   have htl:(t.map Cl.d).length=t.length:=zC _
   refine Af Bf At (of_decide_eq_true rfl) ?_
   simp (disch:=omega) only [AV,go_sem,Ab,o2,o3,o4,o8,o5,o6,hg,hg1,hla,hlb,a1,a2,a3,a4,a5,a6,a7,a8,her,hfu,hc,htl,zB,AF,Be,At,AU]
  ·have h6:=Aq.1 o6
   rw [if_neg (by omega)] at hcl
   have hpr:=Ym la lb k1 k2 ka kb
   have hpl:=U9 k2 la []
   have hnil:∀ c∈([]:List Cl),c.ok=true:=fun c hc=>by cases hc
   have hpk:=Yh kb ka hnil
   obtain ⟨hp1,hp2⟩:=Yi lb la []
   rw [hp1] at hpr
   generalize (H9 lb la []).1=z at *
   have hc:=FR z (by simp at hpl; omega) hpk
   refine ⟨Dp [] z,?_,fun r hr=>?_⟩
   ·cases hb:Gr la lb with
    | false =>
     rw [hb,cond_false] at hcl
     rw [hb] at hpr
     rw [hcl,hxs]
     rw [show (none:Option (List Cl)).isSome=false from rfl]
     generalize Dp [] z=t at *
     have htl:(t.map Cl.d).length=t.length:=zC _
     refine Af Bf At (of_decide_eq_true rfl) ?_
     simp (disch:=omega) only [AV,go_sem,Ab,o2,o3,o4,o8,o5,o6,hg,hg1,hla,hlb,a1,a2,a3,a4,a5,a6,a7,a8,hpr,hc,htl,zB,AF,Be,At,AU]
    | true =>
     rw [hb,cond_true] at hcl
     have hz:=hp2 hb
     rw [zZ] at hz
     rw [hb] at hpr
     rw [hcl,JR,← hz,hxs]
     generalize Dp [] z=t at *
     have htl:(t.map Cl.d).length=t.length:=zC _
     refine Af Bf At (of_decide_eq_true rfl) ?_
     simp (disch:=omega) only [AV,go_sem,Ab,o2,o3,o4,o8,o5,o6,hg,hg1,hla,hlb,a1,a2,a3,a4,a5,a6,a7,a8,hpr,hc,htl,zB,AF,Be,At,AU]
   ·cases hb:Gr la lb with
    | false=>rw [hb,cond_false] at hcl; rw [hcl] at hr; cases hr
    | true =>
     have hz:=hp2 hb
     rw [zZ] at hz
     rw [hb,cond_true,← hz] at hcl
     exact SE (by rw [←hcl]; exact hr)
 ·have o2:dec (x.op=2)=false:=Aj (by omega)
  have o3:dec (x.op=3)=false:=Aj (by omega)
  have o4:dec (x.op=4)=false:=Aj (by omega)
  have o8:dec (x.op=8)=false:=Aj (by omega)
  have o5:dec (x.op=5)=false:=Aj (by omega)
  have o6:dec (x.op=6)=false:=Aj (by omega)
  have hc:E 220 [.arr []] []=_:=FR [] (by simp) fun c hc=>by cases hc
  refine ClE.fin (Fm.cl0 (by omega)) ?_
  rw [hxs]
  obtain ⟨t,ht⟩:∃ t,t=Dp [] ([]:List Cl):=⟨_,rfl⟩
  rw [←ht] at hc ⊢
  have htl:(t.map Cl.d).length=t.length:=zC _
  refine Af Bf At (of_decide_eq_true rfl) ?_
  simp (disch:=omega) only [AV,go_sem,Ab,o2,o3,o4,o8,o5,o6,hc,htl,AF,Be,At,AU]
theorem L1 (x:Fm) (hx:x.forms=true) (hn:x.isN=true):ClE 160 x :=
 Wq x hx hn fun y hy=>L1 y (Fm.BP hx hy) (Fm.HD hn hy)
termination_by SizeOf.sizeOf x
decreasing_by exact Fm.lt_of_mem hy
def IN:SC:=(.seq (.reg [⟨some 1,none,.boxv 36 5 (.t 0)⟩,⟨some 2,none,.mv (.c .nil)⟩,⟨some 3,none,.mv (.c (.bool false))⟩]) (.seq (.reg [⟨some 11,none,.load true 5 (.t 1)⟩,⟨some 12,none,.call 160 [(.t 11)]⟩,⟨some 10,none,.mv (.t 12)⟩,⟨some 13,none,.ext (.t 10) 0⟩,⟨some 14,none,.ext (.t 10) 1⟩,⟨some 4,none,.mv (.t 13)⟩,⟨some 5,none,.mv (.t 14)⟩]) (.seq (.seq (.reg [⟨some 15,none,.mv (.t 5)⟩,⟨some 16,none,.un .not (.t 15)⟩]) (.cond (.t 16) (.seq (.reg [⟨some 17,none,.mkrow 60 1 [.nil] 0 []⟩,⟨some 2,none,.mv (.t 17)⟩,⟨some 3,none,.mv (.c (.bool false))⟩]) .ret) .skip)) (.seq (.reg [⟨some 18,none,.mkrow 60 1 [.nil] 0 []⟩,⟨some 6,none,.mv (.t 18)⟩]) (.seq (.seq (.reg [⟨some 7,none,.mv (.c (.int .i64 0))⟩]) (.block 0 (.loop [0,0,0,0,1,0,1,1,0,0,0,0,0,0,0,0,0,0,0,0,0,0,0,0,0,0,0,0,0,0,0,0,0,0,0,0,0,0,0,0,0,0] (.seq (.seq (.reg [⟨some 19,none,.mv (.t 7)⟩,⟨some 20,none,.mv (.t 4)⟩,⟨some 21,none,.len false (.t 20)⟩,⟨some 22,none,.bin .lss false (.t 19) (.t 21)⟩]) (.cond (.t 22) .skip (.exit 0))) (.seq (.block 1 (.seq (.reg [⟨some 26,none,.mv (.t 4)⟩,⟨some 27,none,.mv (.t 7)⟩,⟨some 28,none,.iaddr 1 (.t 26) (.t 27)⟩,⟨some 29,none,.load true 1 (.t 28)⟩,⟨some 30,none,.call 161 [(.t 29)]⟩,⟨some 25,none,.mv (.t 30)⟩,⟨some 31,none,.ext (.t 25) 0⟩,⟨some 32,none,.ext (.t 25) 1⟩,⟨some 8,none,.alloc 60 [.nil]⟩,⟨none,none,(.store 1 (.t 8) (.t 31))⟩,⟨some 9,none,.mv (.t 32)⟩]) (.seq (.seq (.reg [⟨some 33,none,.mv (.t 9)⟩,⟨some 34,none,.un .not (.t 33)⟩]) (.cond (.t 34) (.seq (.reg [⟨some 35,none,.mkrow 60 1 [.nil] 0 []⟩,⟨some 2,none,.mv (.t 35)⟩,⟨some 3,none,.mv (.c (.bool false))⟩]) .ret) .skip)) (.reg [⟨some 36,none,.mv (.t 6)⟩,⟨some 37,none,.load true 1 (.t 8)⟩,⟨some 38,none,.mkrow 60 1 [.nil] 1 [(0,(.t 37))]⟩,⟨some 39,none,.append 60 1 24 [.nil] (.t 36) (.t 38)⟩,⟨some 6,none,.mv (.t 39)⟩])))) (.reg [⟨some 23,none,.mv (.t 7)⟩,⟨some 24,none,.bin .add false (.t 23) (.c (.int .i64 1))⟩,⟨some 7,none,.mv (.t 24)⟩])))))) (.seq (.reg [⟨some 40,none,.mv (.t 6)⟩,⟨some 41,none,.call 102 [(.t 40)]⟩,⟨some 2,none,.mv (.t 41)⟩,⟨some 3,none,.mv (.c (.bool true))⟩]) .ret))))))
theorem MA:codeOf Tryz.prog 96=some ⟨42,IN,[(.tmp 2),(.tmp 3)]⟩:=by kernel_rfl
theorem CA:modes 96=⟨[],.frz,none,false⟩:=by unfold modes; rfl
theorem QbD (x:Fm) (hx:x.forms=true) (hn:x.isN=true) (hc:x.cl=none):E 96 [x.sv] []=some (.tup [.arr [],.bool false],[]):=by
 have hxs:x.sv=.agg [.int .i64 x.op,.str x.atom.name,.arr (x.atom.args.map Tm.d),.str x.var,.arr (x.parts.map Fm.d)]:=rfl
 obtain ⟨q,hq,_⟩:=L1 x hx hn
 rw [hc] at hq
 rw [show (none:Option (List Cl)).isSome=false from rfl,hxs] at hq
 rw [hxs]
 refine Af MA CA (of_decide_eq_true rfl) ?_
 simp (disch:=omega) only [IN,go_sem,Ab,hq,At]
theorem ZH (x:Fm) (hx:x.forms=true) (hn:x.isN=true) (r:List Cl) (hc:x.cl=some r):E 96 [x.sv] []=some (.tup [.arr ((G3 [] (r.map (nz 10))).map Cl.d),.bool true],[]):=by
 have hxs:x.sv=.agg [.int .i64 x.op,.str x.atom.name,.arr (x.atom.args.map Tm.d),.str x.var,.arr (x.parts.map Fm.d)]:=rfl
 have hsv:∀ d:Cl,d.sv=.agg [.arr (d.lits.map Lt.d)]:=fun d=>rfl
 obtain ⟨q,hq,hqr⟩:=L1 x hx hn
 obtain rfl:=hqr r hc
 obtain ⟨hrl,hro⟩:=Fm.Qf x hx hn q hc
 rw [hc] at hq
 rw [show (some q:Option (List Cl)).isSome=true from rfl,hxs] at hq
 rw [hxs]
 have hz0:(([]:List Cl).map (nz 10)).map Cl.os=[]:=rfl
 refine Af MA CA (of_decide_eq_true rfl) ?_
 simp (disch:=omega) only [IN,go_sem,Ab,hq,At]
 refine go_loop (α:=Int) (fun a=>⟨slots 42 0 [(4,.arr (q.map Cl.d)),(6,.ref 0),(7,.int .i64 a)],[.row 60 1 (((q.take a.toNat).map (nz 10)).map Cl.os)]⟩) (fun a=>∃ k:Nat,a=k∧k≤(q).length) (fun a=>(q).length-(a).toNat) 0 ⟨0,rfl,zJ _⟩ (by simp (disch:=omega) only [go_sem,Ab,hz0]) ?_
 rintro i ⟨k,hi,hk⟩
 have hni:i.toNat=k:=by omega
 have hni1:(i+1).toNat=k+1:=by omega
 rcases zI k (q).length with hlt | hge
 ·have hg:=get_at Cl.d hlt
  rw [Cl.d_eq] at hg
  have h1:=ZG q[k] (hro _ (zK hlt))
  rw [hsv,hsv] at h1
  have hle:=Qet q k
  have hap:((q.take k).map (nz 10)).map Cl.os++[[OT.sh ((nz 10 q[k]).lits.map Lt.d)]]=((q.take (k+1)).map (nz 10)).map Cl.os:=by
   rw [zN hlt,zM,zM]; rfl
  have hle3:(q.take k).length≤30:=by rw [zR]; omega
  have hle2:(((q.take k).map (nz 10)).map Cl.os).length≤30:=by rw [zC]; omega
  simp (disch:=omega) only [go_sem,Ab,hni,hg,h1,Kx]
  refine ⟨i+1,⟨k+1,by omega,hlt⟩,by omega,?_⟩
  simp (disch:=omega) only [go_sem,Ab,hni1,hap]
 ·have htl:q.take k=q:=zQ hge
  have hu:=Zx (q.map (nz 10)) (by rw [zC]; omega) fun y hy=>by
   obtain ⟨c,hc,rfl⟩:=List.mem_map.1 hy
   exact H0 (Qa4 10 (hro c hc))
  have her:=Cl.Lp (q.map (nz 10))
  have hfu:=Cl.Fp (q.map (nz 10))
  simp (disch:=omega) only [go_sem,Ab,hni,htl,hu,her,hfu,Kp]
def JT:SC:=(.seq (.reg [⟨some 2,none,.boxv 36 5 (.t 0)⟩,⟨some 4,none,.mv (.c (.bool false))⟩]) (.seq (.seq (.reg [⟨some 6,none,.faddr 0 (.t 2)⟩,⟨some 7,none,.load false 1 (.t 6)⟩,⟨some 8,none,.mv (.t 1)⟩,⟨some 9,none,.bin .eql false (.t 7) (.t 8)⟩]) (.cond (.t 9) (.seq (.reg [⟨some 4,none,.mv (.c (.bool true))⟩]) .ret) .skip)) (.seq (.seq (.reg [⟨some 5,none,.mv (.c (.int .i64 0))⟩]) (.block 0 (.loop [0,1,1,0,0,1,0,0,0,0,0,0,0,0,0,0,0,0,0,0,0,0,0,0] (.seq (.seq (.reg [⟨some 10,none,.mv (.t 5)⟩,⟨some 11,none,.faddr 4 (.t 2)⟩,⟨some 12,none,.load false 1 (.t 11)⟩,⟨some 13,none,.len false (.t 12)⟩,⟨some 14,none,.bin .lss false (.t 10) (.t 13)⟩]) (.cond (.t 14) .skip (.exit 0))) (.seq (.block 1 (.seq (.reg [⟨some 17,none,.faddr 4 (.t 2)⟩,⟨some 18,none,.load false 1 (.t 17)⟩,⟨some 19,none,.mv (.t 5)⟩,⟨some 20,none,.iaddr 5 (.t 18) (.t 19)⟩,⟨some 21,none,.load true 5 (.t 20)⟩,⟨some 22,none,.mv (.t 1)⟩,⟨some 23,none,.call 66 [(.t 21),(.t 22)]⟩]) (.cond (.t 23) (.seq (.reg [⟨some 4,none,.mv (.c (.bool true))⟩]) .ret) .skip))) (.reg [⟨some 15,none,.mv (.t 5)⟩,⟨some 16,none,.bin .add false (.t 15) (.c (.int .i64 1))⟩,⟨some 5,none,.mv (.t 16)⟩])))))) (.seq (.reg [⟨some 4,none,.mv (.c (.bool false))⟩]) .ret))))
theorem Ow:codeOf Tryz.prog 66=some ⟨24,JT,[(.tmp 4)]⟩:=by kernel_rfl
theorem Cr:modes 66=⟨[],.asis,none,false⟩:=by unfold modes; rfl
theorem Qdy (n:Int) (x:Fm) (hp:x.nodes≤1099511627776) (ih:∀ y∈x.parts,E 66 [y.sv,.int .i64 n] []=some (.bool (y.has n),[])):E 66 [x.sv,.int .i64 n] []=some (.bool (x.has n),[]):=by
 have hxs:x.sv=.agg [.int .i64 x.op,.str x.atom.name,.arr (x.atom.args.map Tm.d),.str x.var,.arr (x.parts.map Fm.d)]:=rfl
 have hpl:=Fm.length_le x.parts
 have hnq:=Fm.nodes_eq x
 have hie:=Fm.has_eq n x
 rw [hxs]
 by_cases ho:x.op=n
 ·have od:dec (x.op=n)=true:=An ho
  rw [hie,An ho.symm,Bool.true_or]
  refine Af Ow Cr (of_decide_eq_true rfl) ?_
  simp (disch:=omega) only [JT,go_sem,Ab,od]
 have od:dec (x.op=n)=false:=Aj ho
 rw [hie,Aj (fun e=>ho e.symm),z6]
 refine Af Ow Cr (of_decide_eq_true rfl) ?_
 simp (disch:=omega) only [JT,go_sem,Ab,od]
 refine go_loop (α:=Int) (fun a=>⟨slots 24 0 [(1,.int .i64 n),(2,.ptr 0 0),(5,.int .i64 a)],[.box 36 [.int .i64 x.op,.str x.atom.name,.arr (x.atom.args.map Tm.d),.str x.var,.arr (x.parts.map Fm.d)]]⟩) (fun a=>∃ k:Nat,a=k∧k≤(x.parts).length∧(x.parts.drop k).any (Fm.has n)=x.parts.any (Fm.has n)) (fun a=>(x.parts).length-(a).toNat) 0 ⟨0,rfl,zJ _,by rw [zG]⟩ (by simp (disch:=omega) only [go_sem,Ab]) ?_
 rintro i ⟨k,hi,hk,hR⟩
 have hni:i.toNat=k:=by omega
 have hni1:(i+1).toNat=k+1:=by omega
 rcases zI k (x.parts).length with hlt | hge
 ·have hg:=get_at Fm.d hlt
  rw [Fm.d_eq] at hg
  have hc:=ih x.parts[k] (zK hlt)
  have hps:x.parts[k].sv=.agg [.int .i64 x.parts[k].op,.str x.parts[k].atom.name,.arr (x.parts[k].atom.args.map Tm.d),.str x.parts[k].var,.arr (x.parts[k].parts.map Fm.d)]:=rfl
  rw [hps] at hc
  rw [zA hlt,List.any_cons] at hR
  cases hb:x.parts[k].has n with
  | false =>
   rw [hb] at hc hR
   rw [z6] at hR
   simp (disch:=omega) only [go_sem,Ab,hni,hg,hc,Cr]
   exact ⟨i+1,⟨k+1,by omega,hlt,hR⟩,by omega,by first | trivial | rfl⟩
  | true =>
   rw [hb] at hc hR
   rw [Bool.true_or] at hR
   rw [←hR]
   simp (disch:=omega) only [go_sem,Ab,hni,hg,hc,Cr]
 ·rw [zE hge,List.any_nil] at hR
  rw [←hR]
  simp (disch:=omega) only [go_sem,Ab,hni]
theorem QaI (n:Int) (x:Fm) (hp:x.nodes≤1099511627776):E 66 [x.sv,.int .i64 n] []=some (.bool (x.has n),[]) :=
 Qdy n x hp fun y hy=>QaI n y (by have:=Fm.nodes_mem hy; have:=Fm.nodes_eq x; omega)
termination_by SizeOf.sizeOf x
decreasing_by exact Fm.lt_of_mem hy
def Ca:SC:=(.seq (.reg [⟨some 1,none,.boxv 36 5 (.t 0)⟩,⟨some 2,none,.mv (.c .nil)⟩,⟨some 3,none,.mv (.c (.bool false))⟩]) (.seq (.seq (.reg [⟨some 4,none,.load true 5 (.t 1)⟩,⟨some 5,none,.call 48 [(.t 4)]⟩,⟨some 6,none,.un .not (.t 5)⟩,⟨some 7,none,.mv (.t 6)⟩,⟨(some 8),(some (7,false)),(.load true 5 (.t 1))⟩,⟨(some 9),(some (7,false)),(.call 49 [(.t 8)])⟩,⟨(some 10),(some (7,false)),(.un .not (.t 9))⟩,⟨some 11,none,.pick (.t 7) (.c (.bool true)) (.t 10)⟩,⟨some 12,none,.mv (.t 11)⟩,⟨(some 13),(some (12,false)),(.load true 5 (.t 1))⟩,⟨(some 14),(some (12,false)),(.call 50 [(.t 13)])⟩,⟨(some 15),(some (12,false)),(.un .not (.t 14))⟩,⟨some 16,none,.pick (.t 12) (.c (.bool true)) (.t 15)⟩,⟨some 17,none,.mv (.t 16)⟩,⟨(some 18),(some (17,false)),(.load true 5 (.t 1))⟩,⟨(some 19),(some (17,false)),(.call 66 [(.t 18),(.c (.int .i64 9))])⟩,⟨some 20,none,.pick (.t 17) (.c (.bool true)) (.t 19)⟩]) (.cond (.t 20) (.seq (.reg [⟨some 21,none,.mkrow 60 1 [.nil] 0 []⟩,⟨some 2,none,.mv (.t 21)⟩,⟨some 3,none,.mv (.c (.bool false))⟩]) .ret) .skip)) (.seq (.reg [⟨some 22,none,.load true 5 (.t 1)⟩,⟨some 23,none,.call 96 [(.t 22)]⟩,⟨some 24,none,.ext (.t 23) 0⟩,⟨some 25,none,.ext (.t 23) 1⟩,⟨some 2,none,.mv (.t 24)⟩,⟨some 3,none,.mv (.t 25)⟩]) .ret)))
theorem Cz:codeOf Tryz.prog 39=some ⟨26,Ca,[(.tmp 2),(.tmp 3)]⟩:=by kernel_rfl
theorem Bv:modes 39=⟨[],.frz,none,false⟩:=by unfold modes; rfl
theorem Px (x:Fm) (hta:x.tame) (hn:x.nodes≤1099511627776):E 39 [x.sv] []=some (.tup [.arr ((SF x).map Cl.d),.bool (Wj x)],[]):=by
 have h1:=Qdf x hta hn
 have h4:=QaI 9 x hn
 have hd0:([]:List Cl).map Cl.d=[]:=rfl
 have hxs:x.sv=.agg [.int .i64 x.op,.str x.atom.name,.arr (x.atom.args.map Tm.d),.str x.var,.arr (x.parts.map Fm.d)]:=rfl
 rw [hxs] at h1 h4
 cases hv:x.valid with
 | false =>
  rw [hv] at h1
  obtain ⟨e1,e2⟩:=Or (show cfP x=false by unfold cfP; rw [hv]; rfl)
  rw [e1,e2,hd0,hxs]
  refine Af Cz Bv (of_decide_eq_true rfl) ?_
  simp (disch:=omega) only [Ca,go_sem,Ab,h1,C9,Bj,BR,Cr,CA]
 | true =>
 rw [hv] at h1
 obtain ⟨hva1,hva2⟩:=Lz hv
 obtain ⟨b1,b2,b3,b4⟩:=Yo x hva2 hva1
 have h2:=U6 x hva2 (by omega)
 have h3:=Tp x hva2 (by omega) (by omega)
 rw [hxs] at h2 h3
 cases hin:x.isN with
 | false =>
  rw [hin] at h2
  obtain ⟨e1,e2⟩:=Or (show cfP x=false by unfold cfP; rw [hv,hin,Bool.false_and,Bool.and_false]; rfl)
  rw [e1,e2,hd0,hxs]
  refine Af Cz Bv (of_decide_eq_true rfl) ?_
  simp (disch:=omega) only [Ca,go_sem,Ab,h1,h2,C9,Bj,BR,Cr,CA]
 | true =>
 rw [hin] at h2
 cases hs:x.sepd with
 | false =>
  rw [hs] at h3
  obtain ⟨e1,e2⟩:=Or (show cfP x=false by unfold cfP; rw [hv,hs]; rfl)
  rw [e1,e2,hd0,hxs]
  refine Af Cz Bv (of_decide_eq_true rfl) ?_
  simp (disch:=omega) only [Ca,go_sem,Ab,h1,h2,h3,C9,Bj,BR,Cr,CA]
 | true =>
 rw [hs] at h3
 cases hh:x.has 9 with
 | true =>
  rw [hh] at h4
  obtain ⟨e1,e2⟩:=Or (show cfP x=false by unfold cfP; rw [hv,hs,hin,hh]; rfl)
  rw [e1,e2,hd0,hxs]
  refine Af Cz Bv (of_decide_eq_true rfl) ?_
  simp (disch:=omega) only [Ca,go_sem,Ab,h1,h2,h3,h4,C9,Bj,BR,Cr,CA]
 | false =>
 rw [hh] at h4
 have hP:cfP x=true:=by unfold cfP; rw [hv,hs,hin,hh]; rfl
 cases hc:x.cl with
 | none =>
  have h5:=QbD x hva2 hin hc
  obtain ⟨e1,e2⟩:=Wk hP hc
  rw [hxs] at h5
  rw [e1,e2,hd0,hxs]
  refine Af Cz Bv (of_decide_eq_true rfl) ?_
  simp (disch:=omega) only [Ca,go_sem,Ab,h1,h2,h3,h4,h5,C9,Bj,BR,Cr,CA]
 | some r =>
  have h5:=ZH x hva2 hin r hc
  obtain ⟨e1,e2⟩:=Wl hP hc
  rw [hxs] at h5
  rw [e1,e2,hxs]
  refine Af Cz Bv (of_decide_eq_true rfl) ?_
  simp (disch:=omega) only [Ca,go_sem,Ab,h1,h2,h3,h4,h5,C9,Bj,BR,Cr,CA]
theorem Cl.al1 (xs:List Cl):((xs.map Cl.os).all fun l=>l.length == 1)=true:=by rw [List.all_map,List.all_eq_true]; intro x _; rfl
theorem Cl.QfH (a:List Cl):((a.map Cl.d).map fun x=>x.map D.ot)=a.map Cl.os:=by rw [List.map_map]; rfl
theorem Cl.Qdz (a:List Cl):(a.map Cl.os).length=a.length:=zC _
theorem Cl.Qfi (a b:List Cl):a.map Cl.os++b.map Cl.os=(a++b).map Cl.os:=by rw [zM]
def Co:SC:=(.seq (.reg [⟨some 2,none,.mv (.c .nil)⟩]) (.seq (.reg [⟨some 3,none,.mv (.c (.int .i64 0))⟩]) (.seq (.seq (.reg [⟨some 9,none,.mv (.t 0)⟩,⟨some 10,none,.len false (.t 9)⟩,⟨some 11,none,.mv (.c (.int .i64 0))⟩]) (.block 0 (.loop [1,0,0,1,0,0,0,0,0,1,1,1,0,0,0,0,0,0,0,0,0,0,0,0,0,0,0,0,0,0,0,0,0,0,0,0] (.seq (.reg [⟨some 12,none,.bin .lss false (.t 11) (.t 10)⟩]) (.seq (.cond (.t 12) .skip (.exit 0)) (.seq (.block 1 (.seq (.reg [⟨some 13,none,.iaddr 1 (.t 9) (.t 11)⟩,⟨some 14,none,.load false 1 (.t 13)⟩,⟨some 5,none,.mv (.t 14)⟩]) (.seq (.reg [⟨some 15,none,.mv (.t 3)⟩,⟨some 16,none,.mv (.t 5)⟩,⟨some 17,none,.len false (.t 16)⟩,⟨some 18,none,.bin .add false (.t 15) (.t 17)⟩,⟨some 3,none,.mv (.t 18)⟩]) (.seq (.reg [⟨some 19,none,.mv (.t 3)⟩,⟨some 20,none,.bin .lss false (.t 19) (.c (.int .i64 0))⟩]) (.cond (.t 20) (.reg [⟨some 21,none,.un .neg (.c .nil)⟩,⟨none,none,(.un .neg (.c .nil))⟩]) .skip))))) (.reg [⟨some 22,none,.bin .add false (.t 11) (.c (.int .i64 1))⟩,⟨some 11,none,.mv (.t 22)⟩]))))))) (.seq (.reg [⟨some 23,none,.mv (.t 3)⟩,⟨some 24,none,.call 290 [(.c .nil),(.t 23)]⟩,⟨some 6,none,.mv (.t 24)⟩]) (.seq (.seq (.reg [⟨some 25,none,.mv (.t 0)⟩,⟨some 26,none,.len false (.t 25)⟩,⟨some 27,none,.mv (.c (.int .i64 0))⟩]) (.block 2 (.loop [0,0,0,0,0,0,1,0,0,0,0,0,0,0,0,0,0,0,0,0,0,0,0,0,0,1,1,1,0,0,0,0,0,0,0,0] (.seq (.reg [⟨some 28,none,.bin .lss false (.t 27) (.t 26)⟩]) (.seq (.cond (.t 28) .skip (.exit 2)) (.seq (.block 3 (.seq (.reg [⟨some 29,none,.iaddr 1 (.t 25) (.t 27)⟩,⟨some 30,none,.load false 1 (.t 29)⟩,⟨some 8,none,.mv (.t 30)⟩]) (.reg [⟨some 31,none,.mv (.t 6)⟩,⟨some 32,none,.mv (.t 8)⟩,⟨some 33,none,.append 60 1 24 [.nil] (.t 31) (.t 32)⟩,⟨some 6,none,.mv (.t 33)⟩]))) (.reg [⟨some 34,none,.bin .add false (.t 27) (.c (.int .i64 1))⟩,⟨some 27,none,.mv (.t 34)⟩]))))))) (.seq (.reg [⟨some 35,none,.mv (.t 6)⟩,⟨some 2,none,.mv (.t 35)⟩]) .ret))))))
theorem DP:codeOf Tryz.prog 224=some ⟨36,Co,[(.tmp 2)]⟩:=by kernel_rfl
theorem Ao:modes 224=⟨[],.asis,none,false⟩:=by unfold modes; rfl
theorem Bn:modes 290=⟨[true],.asis,some PR,false⟩:=by unfold modes; rfl
theorem Qd0:E 290 [.nil,.int .i64 0] []=some (.nil,[]):=by
 rw [FH (g:=PR) (congrArg FM.ext Bn)]
 unfold PR
 simp only
 rw [An trivial,cond_true]
theorem Qd1 (n:Int) (h:0<n) (h1:n≤1048576):E 290 [.nil,.int .i64 n] []=some (.ref 0,[.row 60 1 []]):=by
 rw [FH (g:=PR) (congrArg FM.ext Bn)]
 unfold PR
 simp only
 rw [Aj (by omega),cond_false,An ⟨h,h1⟩,cond_true]
theorem ZI (xs:List (List Cl)) (hne:0<xs.length) (hx:xs.length≤1024) (hs:xs.flatten.length≤1048576):E 224 [.arr (xs.map fun l=>[D.arr (l.map Cl.d)])] []=some (.ref 0,[.row 60 1 (xs.flatten.map Cl.os)]):=by
 have hd0:([]:List Cl).map Cl.os=[]:=rfl
 refine Af DP Ao (of_decide_eq_true rfl) ?_
 simp (disch:=omega) only [Co,go_sem,Ab]
 refine go_loop (α:=Int × (Int)) (fun a=>⟨slots 36 0 [(0,.arr (xs.map fun l=>[D.arr (l.map Cl.d)])),(3,.int .i64 (a.2)),(9,.arr (xs.map fun l=>[D.arr (l.map Cl.d)])),(10,.int .i64 xs.length),(11,.int .i64 (a.1))],[]⟩) (fun a=>∃ k:Nat,a.1=k∧k≤(xs).length∧(a.2)+((xs.drop k).flatten.length:Int)=xs.flatten.length∧0≤(a.2)) (fun a=>(xs).length-(a.1).toNat) (0,0) ⟨0,rfl,zJ _,by rw [zG]; dsimp only; omega,Int.le_refl _⟩ (by simp (disch:=omega) only [go_sem,Ab]) ?_
 rintro ⟨i,n⟩ ⟨k,hi,hk,hR⟩
 dsimp only at hi hR
 have hni:i.toNat=k:=by omega
 have hni1:(i+1).toNat=k+1:=by omega
 rcases zI k (xs).length with hlt | hge
 ·have hg:=get_at (fun l:List Cl=>[D.arr (l.map Cl.d)]) hlt
  rw [zA hlt,List.flatten_cons,zF] at hR
  obtain ⟨hR1,hR2⟩:=hR
  have hge:dec (n+(xs[k].length:Int)<0)=false:=Aj (by omega)
  simp (disch:=omega) only [go_sem,Ab,hni,hg,hge]
  refine ⟨(i+1,n+xs[k].length),⟨k+1,by dsimp only; omega,hlt,by dsimp only; omega,by dsimp only; omega⟩,by dsimp only; omega,?_⟩
  first | trivial | rfl
 ·rw [zE hge] at hR
  obtain ⟨hR1,hR2⟩:=hR
  have hn:n=xs.flatten.length:=by simpa using hR1
  clear hR1 hR2
  rcases zV xs.flatten.length with hz | hz
  ·have hxe:∀ l∈xs,l=[]:=by
    have:=zU hz
    rwa [List.flatten_eq_nil_iff] at this
   have hfe:xs.flatten=[]:=zU hz
   obtain rfl:n=0:=by omega
   have hgr:=Qd0
   rw [hfe]
   simp (disch:=omega) only [go_sem,Ab,hni,hgr,Bn]
   clear hi hni hni1 hk hge
   refine go_loop (α:=Int) (fun a=>⟨slots 36 0 [(6,(if a=0 then .nil else .ref 0)),(25,.arr (xs.map fun l=>[D.arr (l.map Cl.d)])),(26,.int .i64 xs.length),(27,.int .i64 a)],(if a=0 then [] else [.row 60 1 []])⟩) (fun a=>∃ k:Nat,a=k∧k≤(xs).length) (fun a=>(xs).length-(a).toNat) 0 ⟨0,rfl,zJ _⟩ (by simp (disch:=omega) only [go_sem,Ab,eq_self,if_true]) ?_
   rintro i ⟨k,hi,hk⟩
   have hni:i.toNat=k:=by omega
   have hni1:(i+1).toNat=k+1:=by omega
   rcases zI k (xs).length with hlt | hge
   ·have hg:=get_at (fun l:List Cl=>[D.arr (l.map Cl.d)]) hlt
    rw [hxe _ (zK hlt)] at hg
    rcases zV k with h0 | h0
    ·subst h0
     obtain rfl:i=0:=hi
     simp (disch:=omega) only [go_sem,Ab,hg,eq_self,if_true]
     exact ⟨1,⟨1,rfl,hlt⟩,by omega,by first | trivial | rfl⟩
    ·have hi0:(i=0)=False:=by simp; omega
     have hi1:(i+1=0)=False:=by simp; omega
     simp (disch:=omega) only [go_sem,Ab,hni,hg,hi0,if_false]
     exact ⟨i+1,⟨k+1,by omega,hlt⟩,by omega,by simp only [hi1,if_false,and_self]⟩
   ·have hi0:(i=0)=False:=by simp; omega
    simp (disch:=omega) only [go_sem,Ab,hni,hi0,if_false,hd0]
  ·have hgr:=Qd1 n (by omega) (by omega)
   simp (disch:=omega) only [go_sem,Ab,hni,hgr,Bn]
   clear hi hni hni1 hk hge
   refine go_loop (α:=Int × (List Cl)) (fun a=>⟨slots 36 0 [(6,.ref 0),(25,.arr (xs.map fun l=>[D.arr (l.map Cl.d)])),(26,.int .i64 xs.length),(27,.int .i64 (a.1))],[.row 60 1 ((a.2).map Cl.os)]⟩) (fun a=>∃ k:Nat,a.1=k∧k≤(xs).length∧(a.2)++(xs.drop k).flatten=xs.flatten) (fun a=>(xs).length-(a.1).toNat) (0,[]) ⟨0,rfl,zJ _,by rw [zG]; rfl⟩ (by simp (disch:=omega) only [go_sem,Ab,hd0]) ?_
   rintro ⟨i,acc⟩ ⟨k,hi,hk,hR⟩
   dsimp only at hi hR
   have hni:i.toNat=k:=by omega
   have hni1:(i+1).toNat=k+1:=by omega
   rcases zI k (xs).length with hlt | hge
   ·have hg:=get_at (fun l:List Cl=>[D.arr (l.map Cl.d)]) hlt
    rw [zA hlt,List.flatten_cons,← List.append_assoc] at hR
    have hlen:=congrArg List.length hR
    rw [zF,zF] at hlen
    have hap:=Cl.Qfi acc xs[k]
    have h1:=Cl.QfH xs[k]
    have h2:=Cl.Qdz xs[k]
    have h3:=Cl.Qdz acc
    have h4:=Cl.al1 xs[k]
    simp (disch:=omega) only [go_sem,Ab,hni,hg,hap,h1,h2,h3,h4]
    refine ⟨(i+1,acc++xs[k]),⟨k+1,by dsimp only; omega,hlt,hR⟩,by dsimp only; omega,?_⟩
    first | trivial | rfl | simp only [hap]
   ·rw [zE hge] at hR
    have hR:acc=xs.flatten:=by simpa using hR
    rw [←hR]
    simp (disch:=omega) only [go_sem,Ab,hni]
def L2:SC:=(.seq (.reg [⟨some 2,none,.mv (.c .nil)⟩,⟨some 3,none,.mv (.c (.bool false))⟩]) (.seq (.reg [⟨some 7,none,.mkrow 60 1 [.nil] 0 []⟩,⟨some 4,none,.mv (.t 7)⟩]) (.seq (.seq (.reg [⟨some 8,none,.mv (.t 0)⟩,⟨some 9,none,.len false (.t 8)⟩,⟨some 10,none,.mv (.c (.int .i64 0))⟩]) (.block 0 (.loop [0,0,0,0,1,0,0,0,1,1,1,0,0,0,0,0,0,0,0,0,0,0,0,0,0,0,0,0,0,0,0,0] (.seq (.reg [⟨some 11,none,.bin .lss false (.t 10) (.t 9)⟩]) (.seq (.cond (.t 11) .skip (.exit 0)) (.seq (.block 1 (.seq (.reg [⟨some 12,none,.iaddr 1 (.t 8) (.t 10)⟩,⟨some 13,none,.load true 1 (.t 12)⟩,⟨some 6,none,.alloc 60 [.nil]⟩,⟨none,none,(.store 1 (.t 6) (.t 13))⟩]) (.seq (.reg [⟨some 14,none,.load true 1 (.t 6)⟩,⟨some 15,none,.call 289 [(.t 14)]⟩,⟨some 16,none,.un .not (.t 15)⟩,⟨some 17,none,.mv (.t 16)⟩,⟨(some 18),(some (17,true)),(.mv (.t 4))⟩,⟨(some 19),(some (17,true)),(.load true 1 (.t 6))⟩,⟨(some 20),(some (17,true)),(.call 81 [(.t 18),(.t 19)])⟩,⟨(some 21),(some (17,true)),(.un .not (.t 20))⟩,⟨some 22,none,.pick (.t 17) (.t 21) (.c (.bool false))⟩]) (.cond (.t 22) (.reg [⟨some 23,none,.mv (.t 4)⟩,⟨some 24,none,.load true 1 (.t 6)⟩,⟨some 25,none,.mkrow 60 1 [.nil] 1 [(0,(.t 24))]⟩,⟨some 26,none,.append 60 1 24 [.nil] (.t 23) (.t 25)⟩,⟨some 4,none,.mv (.t 26)⟩]) .skip)))) (.reg [⟨some 27,none,.bin .add false (.t 10) (.c (.int .i64 1))⟩,⟨some 10,none,.mv (.t 27)⟩]))))))) (.seq (.reg [⟨some 28,none,.mv (.t 4)⟩,⟨some 29,none,.mv (.t 4)⟩,⟨some 30,none,.len false (.t 29)⟩,⟨some 31,none,.bin .leq false (.t 30) (.c (.int .i64 30))⟩,⟨some 2,none,.mv (.t 28)⟩,⟨some 3,none,.mv (.t 31)⟩]) .ret))))
theorem SJ:codeOf Tryz.prog 223=some ⟨32,L2,[(.tmp 2),(.tmp 3)]⟩:=by kernel_rfl
theorem Bk:modes 223=⟨[],.frz,none,false⟩:=by unfold modes; rfl
theorem GS (cs:List Cl) (hl:cs.length≤1048576) (hx:∀ x∈cs,x.ok=true):E 223 [.arr (cs.map Cl.d)] []=some (.tup [.arr ((Dp [] cs).map Cl.d),.bool (dec (((Dp [] cs).length:Int)≤30))],[]):=by
 have hd0:([]:List Cl).map Cl.os=[]:=rfl
 refine Af SJ Bk (of_decide_eq_true rfl) ?_
 simp (disch:=omega) only [L2,go_sem,Ab]
 refine go_loop (α:=Int × (List Cl)) (fun a=>⟨slots 32 0 [(4,.ref 0),(8,.arr (cs.map Cl.d)),(9,.int .i64 cs.length),(10,.int .i64 (a.1))],[.row 60 1 ((a.2).map Cl.os)]⟩) (fun a=>∃ k:Nat,a.1=k∧k≤(cs).length∧Dp (a.2) (cs.drop k)=Dp [] cs∧(a.2).length≤k∧∀ x∈(a.2),x.ok=true) (fun a=>(cs).length-(a.1).toNat) (0,[]) ⟨0,rfl,zJ _,by rw [zG],zX _,fun x hx=>by simp at hx⟩ (by simp (disch:=omega) only [go_sem,Ab,hd0]) ?_
 rintro ⟨i,acc⟩ ⟨k,hi,hk,hR⟩
 dsimp only at hi hR
 have hni:i.toNat=k:=by omega
 have hni1:(i+1).toNat=k+1:=by omega
 rcases zI k (cs).length with hlt | hge
 ·obtain ⟨hR1,hR2,hR3⟩:=hR
  rw [zA hlt] at hR1
  have hg:=get_at Cl.d hlt
  rw [Cl.d_eq] at hg
  have hcm:=hx _ (zK hlt)
  obtain ⟨c,hc⟩:∃ c,c=cs[k]:=⟨_,rfl⟩
  rw [←hc] at hR1 hg hcm
  have hstep:Dp (Nk acc c) (cs.drop (k+1))=Dp [] cs:=hR1
  have h1:=Tq c hcm
  have hh:=Qc c (H0 hcm) acc (by omega) fun x hx=>H0 (hR3 x hx)
  have e2:c.sv=.agg [.arr (c.lits.map Lt.d)]:=rfl
  rw [e2] at h1 hh
  have her:=Cl.Lp acc
  have hfu:=Cl.Fp acc
  unfold Nk at hstep
  cases ht:c.taut with
  | true =>
   rw [ht,cond_true] at hstep
   rw [ht] at h1
   simp (disch:=omega) only [go_sem,Ab,hni,hg,h1,hh,her,hfu,D0,CE]
   exact ⟨(i+1,acc),⟨k+1,by dsimp only; omega,hlt,hstep,by dsimp only; omega,hR3⟩,by dsimp only; omega,by first | trivial | rfl⟩
  | false =>
   rw [ht,cond_false] at hstep
   rw [ht] at h1
   cases hm:dec (c∈acc) with
   | true =>
    rw [hm] at hh
    rw [S9 hm] at hstep
    simp (disch:=omega) only [go_sem,Ab,hni,hg,h1,hh,her,hfu,D0,CE]
    exact ⟨(i+1,acc),⟨k+1,by dsimp only; omega,hlt,hstep,by dsimp only; omega,hR3⟩,by dsimp only; omega,by first | trivial | rfl⟩
   | false =>
    rw [hm] at hh
    rw [VY hm] at hstep
    have hap:acc.map Cl.os++[[OT.sh (c.lits.map Lt.d)]]=(acc++[c]).map Cl.os:=by rw [zM]; rfl
    simp (disch:=omega) only [go_sem,Ab,hni,hg,h1,hh,her,hfu,hap,D0,CE]
    refine ⟨(i+1,acc++[c]),⟨k+1,by dsimp only; omega,hlt,hstep,by simp only [zF,zS,List.length_nil]; omega,fun x hx=>?_⟩,by dsimp only; omega,by first | trivial | rfl⟩
    rcases zP.1 hx with h | h
    ·exact hR3 x h
    ·rw [zD.1 h]; exact hcm
 ·obtain ⟨hR1,hR2,hR3⟩:=hR
  rw [zE hge] at hR1
  have hR1:acc=Dp [] cs:=hR1
  have her:=Cl.Lp acc
  have hfu:=Cl.Fp acc
  rw [←hR1]
  simp (disch:=omega) only [go_sem,Ab,hni,her,hfu]
def JU:SC:=(.seq (.reg [⟨some 2,none,.boxv 60 1 (.t 0)⟩,⟨some 3,none,.boxv 60 1 (.t 1)⟩,⟨some 4,none,.alloc 60 [.nil]⟩,⟨some 5,none,.mv (.c (.bool false))⟩]) (.seq (.reg [⟨some 7,none,.faddr 0 (.t 2)⟩,⟨some 8,none,.load false 1 (.t 7)⟩,⟨some 9,none,.faddr 0 (.t 3)⟩,⟨some 10,none,.load false 1 (.t 9)⟩,⟨some 11,none,.mkrow 58 1 [.nil] 2 [(0,(.t 8)),(1,(.t 10))]⟩,⟨some 12,none,.call 153 [(.t 11)]⟩,⟨some 13,none,.call 222 [(.t 12)]⟩,⟨some 6,none,.alloc 60 [.nil]⟩,⟨none,none,(.store 1 (.t 6) (.t 13))⟩]) (.seq (.dreg [[],[],[1],[2,1],[3,2,1],[0],[4,3,2,1,5,0]] [⟨some 14,none,.load true 1 (.t 6)⟩,⟨some 15,none,.faddr 0 (.t 6)⟩,⟨some 16,none,.load false 1 (.t 15)⟩,⟨some 17,none,.len false (.t 16)⟩,⟨some 18,none,.bin .leq false (.t 17) (.c (.int .i64 8))⟩,⟨none,none,(.store 1 (.t 4) (.t 14))⟩,⟨some 5,none,.mv (.t 18)⟩]) .ret)))
theorem Ox:codeOf Tryz.prog 225=some ⟨19,JU,[(.cell 4 true 1),(.tmp 5)]⟩:=by kernel_rfl
theorem Br:modes 225=⟨[],.frz,none,false⟩:=by unfold modes; rfl
theorem Qeu (x y:Cl) (hx:x.ok=true) (hy:y.ok=true):E 225 [x.sv,y.sv] []=some (.tup [(GK x y).sv,.bool (JQ x y)],[]):=by
 have hxl:=Cl.Dx hx
 have hyl:=Cl.Dx hy
 have hsv:∀ d:Cl,d.sv=.agg [.arr (d.lits.map Lt.d)]:=fun d=>rfl
 have hcs:∀ d:Cl,Cl.osv d=.agg [.ref 0]:=fun d=>rfl
 have hob:∀ d:Cl,Cl.obs d=[.row 122 3 (d.lits.map Lt.o)]:=fun d=>rfl
 have h7:=Qdv [x.lits,y.lits] (by simp) (by simp; omega)
 have hfl:[x.lits,y.lits].flatten=x.lits++y.lits:=by simp
 rw [hfl] at h7
 simp only [zH,zL] at h7
 have h8:=JI (x.lits++y.lits) (by rw [zF]; omega) fun z hz=>by
  rcases zP.1 hz with h | h
  ·exact Dk (Cl.Ci hx z h)
  ·exact Dk (Cl.Ci hy z h)
 unfold JQ
 obtain ⟨u,hu⟩:∃ u,u=GK x y:=⟨_,rfl⟩
 have hu2:mkC (x.lits++y.lits)=u:=hu.symm
 rw [hu2,hcs,hob] at h8
 rw [←hu,hsv,hsv,hsv]
 have her:=Lt.Qe5 (x.lits++y.lits)
 have hfu:=Lt.Qe6 (x.lits++y.lits)
 have eru:=Lt.erss u.lits
 cases hno:OT.BD (Lt.ds (x.lits++y.lits)) with
 | true =>
  refine Af Ox Br (of_decide_eq_true rfl) ?_
  simp (disch:=omega) only [JU,go_sem,Ab,hno,h7,h8,her,hfu,eru,Lt.noss,Lt.fus,AE,B0]
 | false =>
  refine Af Ox Br (of_decide_eq_true rfl) ?_
  simp (disch:=omega) only [JU,go_sem,Ab,hno,h7,h8,her,hfu,eru,Lt.noss,Lt.fus,AE,B0]
theorem ZJ (b:Bool) (l:List Cl):(bif b then ER l else none).isSome=(bif b then dec (((Dp [] l).length:Int)≤30) else false):=by
 cases b with
 | true=>rw [cond_true,cond_true,JR]
 | false=>rfl
def AK:SC:=(.seq (.reg [⟨some 1,none,.boxv 36 5 (.t 0)⟩,⟨some 2,none,.mv (.c .nil)⟩,⟨some 3,none,.mv (.c (.bool false))⟩]) (.seq (.reg [⟨some 15,none,.mkrow 60 1 [.nil] 0 []⟩,⟨some 4,none,.mv (.t 15)⟩]) (.seq (.seq (.reg [⟨some 16,none,.faddr 0 (.t 1)⟩,⟨some 17,none,.load false 1 (.t 16)⟩]) (.block 0 (.seq (.reg [⟨some 19,none,.bin .eql false (.t 17) (.c (.int .i64 2))⟩,⟨some 18,none,.mv (.t 19)⟩]) (.cond (.t 18) (.reg [⟨some 20,none,.mv (.t 4)⟩,⟨some 21,none,.build [.nil] []⟩,⟨some 22,none,.mkrow 60 1 [.nil] 1 [(0,(.t 21))]⟩,⟨some 23,none,.append 60 1 24 [.nil] (.t 20) (.t 22)⟩,⟨some 4,none,.mv (.t 23)⟩]) (.seq (.reg [⟨some 25,none,.bin .eql false (.t 17) (.c (.int .i64 3))⟩,⟨some 24,none,.mv (.t 25)⟩]) (.cond (.t 24) (.reg [⟨some 26,none,.mv (.t 4)⟩,⟨some 27,none,.faddr 1 (.t 1)⟩,⟨some 28,none,.load true 2 (.t 27)⟩,⟨(some 29),none,(.build [(.bool false),(.str ⟨#[]⟩),.nil] [(0,(1,(.c (.bool true)))),(1,(2,(.t 28)))])⟩,⟨(some 30),none,(.mkrow 122 3 [(.bool false),(.str ⟨#[]⟩),.nil] 1 [(0,(.t 29))])⟩,⟨some 31,none,.call 222 [(.t 30)]⟩,⟨some 32,none,.mkrow 60 1 [.nil] 1 [(0,(.t 31))]⟩,⟨some 33,none,.append 60 1 24 [.nil] (.t 26) (.t 32)⟩,⟨some 4,none,.mv (.t 33)⟩]) (.seq (.reg [⟨some 35,none,.bin .eql false (.t 17) (.c (.int .i64 4))⟩,⟨some 34,none,.mv (.t 35)⟩]) (.cond (.t 34) (.reg [⟨some 36,none,.mv (.t 4)⟩,⟨some 37,none,.faddr 4 (.t 1)⟩,⟨some 38,none,.load false 1 (.t 37)⟩,⟨some 39,none,.iaddr 5 (.t 38) (.c (.int .i64 0))⟩,⟨some 40,none,.faddr 1 (.t 39)⟩,⟨some 41,none,.load true 2 (.t 40)⟩,⟨(some 42),none,(.build [(.bool false),(.str ⟨#[]⟩),.nil] [(1,(2,(.t 41)))])⟩,⟨(some 43),none,(.mkrow 122 3 [(.bool false),(.str ⟨#[]⟩),.nil] 1 [(0,(.t 42))])⟩,⟨some 44,none,.call 222 [(.t 43)]⟩,⟨some 45,none,.mkrow 60 1 [.nil] 1 [(0,(.t 44))]⟩,⟨some 46,none,.append 60 1 24 [.nil] (.t 36) (.t 45)⟩,⟨some 4,none,.mv (.t 46)⟩]) (.seq (.reg [⟨some 48,none,.bin .eql false (.t 17) (.c (.int .i64 8))⟩,⟨some 47,none,.mv (.t 48)⟩]) (.cond (.t 47) (.seq (.reg [⟨some 49,none,.faddr 4 (.t 1)⟩,⟨some 50,none,.load false 1 (.t 49)⟩,⟨some 51,none,.iaddr 5 (.t 50) (.c (.int .i64 0))⟩,⟨some 52,none,.load true 5 (.t 51)⟩,⟨some 53,none,.call 162 [(.t 52)]⟩,⟨some 54,none,.ext (.t 53) 0⟩,⟨some 55,none,.ext (.t 53) 1⟩,⟨some 2,none,.mv (.t 54)⟩,⟨some 3,none,.mv (.t 55)⟩]) .ret) (.seq (.seq (.reg [⟨some 57,none,.bin .eql false (.t 17) (.c (.int .i64 5))⟩,⟨some 56,none,.mv (.t 57)⟩]) (.cond (.t 56) .skip (.reg [⟨some 58,none,.bin .eql false (.t 17) (.c (.int .i64 6))⟩,⟨some 56,none,.mv (.t 58)⟩]))) (.cond (.t 56) (.seq (.reg [⟨some 60,none,.faddr 4 (.t 1)⟩,⟨some 61,none,.load false 1 (.t 60)⟩,⟨some 62,none,.iaddr 5 (.t 61) (.c (.int .i64 0))⟩,⟨some 63,none,.load true 5 (.t 62)⟩,⟨some 64,none,.call 162 [(.t 63)]⟩,⟨some 59,none,.mv (.t 64)⟩,⟨some 65,none,.ext (.t 59) 0⟩,⟨some 66,none,.ext (.t 59) 1⟩,⟨some 5,none,.mv (.t 65)⟩,⟨some 6,none,.mv (.t 66)⟩]) (.seq (.reg [⟨some 68,none,.faddr 4 (.t 1)⟩,⟨some 69,none,.load false 1 (.t 68)⟩,⟨some 70,none,.iaddr 5 (.t 69) (.c (.int .i64 1))⟩,⟨some 71,none,.load true 5 (.t 70)⟩,⟨some 72,none,.call 162 [(.t 71)]⟩,⟨some 67,none,.mv (.t 72)⟩,⟨some 73,none,.ext (.t 67) 0⟩,⟨some 74,none,.ext (.t 67) 1⟩,⟨some 7,none,.mv (.t 73)⟩,⟨some 8,none,.mv (.t 74)⟩]) (.seq (.seq (.reg [⟨some 75,none,.mv (.t 6)⟩,⟨some 76,none,.un .not (.t 75)⟩,⟨some 77,none,.mv (.t 76)⟩,⟨(some 78),(some (77,false)),(.mv (.t 8))⟩,⟨(some 79),(some (77,false)),(.un .not (.t 78))⟩,⟨some 80,none,.pick (.t 77) (.c (.bool true)) (.t 79)⟩]) (.cond (.t 80) (.seq (.reg [⟨some 2,none,.mv (.c .nil)⟩,⟨some 3,none,.mv (.c (.bool false))⟩]) .ret) .skip)) (.seq (.seq (.reg [⟨some 81,none,.faddr 0 (.t 1)⟩,⟨some 82,none,.load false 1 (.t 81)⟩,⟨some 83,none,.bin .eql false (.t 82) (.c (.int .i64 5))⟩]) (.cond (.t 83) (.seq (.reg [⟨some 84,none,.mv (.t 5)⟩,⟨some 85,none,.mv (.t 7)⟩,⟨some 86,none,.mkrow 55 1 [.nil] 2 [(0,(.t 84)),(1,(.t 85))]⟩,⟨some 87,none,.call 224 [(.t 86)]⟩,⟨some 88,none,.call 223 [(.t 87)]⟩,⟨some 89,none,.ext (.t 88) 0⟩,⟨some 90,none,.ext (.t 88) 1⟩,⟨some 2,none,.mv (.t 89)⟩,⟨some 3,none,.mv (.t 90)⟩]) .ret) .skip)) (.seq (.reg [⟨some 91,none,.mv (.t 5)⟩,⟨some 92,none,.len false (.t 91)⟩,⟨some 93,none,.mv (.c (.int .i64 0))⟩]) (.block 1 (.loop [0,0,0,0,1,0,0,1,0,0,0,0,0,0,0,0,0,0,0,0,0,0,0,0,0,0,0,0,0,0,0,0,0,0,0,0,0,0,0,0,0,0,0,0,0,0,0,0,0,0,0,0,0,0,0,0,0,0,0,0,0,0,0,0,0,0,0,0,0,0,0,0,0,0,0,0,0,0,0,0,0,0,0,0,0,0,0,0,0,0,0,1,1,1,0,0,0,0,0,0,0,0,0,0,0,0,0,0,0,0,0,0,0,0,0,0,0,0,0,0,0] (.seq (.reg [⟨some 94,none,.bin .lss false (.t 93) (.t 92)⟩]) (.seq (.cond (.t 94) .skip (.exit 1)) (.seq (.block 2 (.seq (.reg [⟨some 95,none,.iaddr 1 (.t 91) (.t 93)⟩,⟨some 96,none,.load true 1 (.t 95)⟩,⟨some 10,none,.alloc 60 [.nil]⟩,⟨none,none,(.store 1 (.t 10) (.t 96))⟩]) (.seq (.reg [⟨some 97,none,.mv (.t 7)⟩,⟨some 98,none,.len false (.t 97)⟩,⟨some 99,none,.mv (.c (.int .i64 0))⟩]) (.block 3 (.loop [0,0,0,0,1,0,0,1,0,0,1,0,0,0,0,0,0,0,0,0,0,0,0,0,0,0,0,0,0,0,0,0,0,0,0,0,0,0,0,0,0,0,0,0,0,0,0,0,0,0,0,0,0,0,0,0,0,0,0,0,0,0,0,0,0,0,0,0,0,0,0,0,0,0,0,0,0,0,0,0,0,0,0,0,0,0,0,0,0,0,0,1,1,1,0,0,0,1,1,1,0,0,0,0,0,0,0,0,0,0,0,0,0,0,0,0,0,0,0,0,0] (.seq (.reg [⟨some 100,none,.bin .lss false (.t 99) (.t 98)⟩]) (.seq (.cond (.t 100) .skip (.exit 3)) (.seq (.block 4 (.seq (.reg [⟨some 101,none,.iaddr 1 (.t 97) (.t 99)⟩,⟨some 102,none,.load true 1 (.t 101)⟩,⟨some 12,none,.alloc 60 [.nil]⟩,⟨none,none,(.store 1 (.t 12) (.t 102))⟩]) (.seq (.reg [⟨some 104,none,.load true 1 (.t 10)⟩,⟨some 105,none,.load true 1 (.t 12)⟩,⟨some 106,none,.call 225 [(.t 104),(.t 105)]⟩,⟨some 103,none,.mv (.t 106)⟩,⟨some 107,none,.ext (.t 103) 0⟩,⟨some 108,none,.ext (.t 103) 1⟩,⟨some 13,none,.alloc 60 [.nil]⟩,⟨none,none,(.store 1 (.t 13) (.t 107))⟩,⟨some 14,none,.mv (.t 108)⟩]) (.seq (.seq (.reg [⟨some 109,none,.mv (.t 14)⟩,⟨some 110,none,.un .not (.t 109)⟩]) (.cond (.t 110) (.seq (.reg [⟨some 2,none,.mv (.c .nil)⟩,⟨some 3,none,.mv (.c (.bool false))⟩]) .ret) .skip)) (.reg [⟨some 111,none,.mv (.t 4)⟩,⟨some 112,none,.load true 1 (.t 13)⟩,⟨some 113,none,.mkrow 60 1 [.nil] 1 [(0,(.t 112))]⟩,⟨some 114,none,.append 60 1 24 [.nil] (.t 111) (.t 113)⟩,⟨some 4,none,.mv (.t 114)⟩]))))) (.reg [⟨some 115,none,.bin .add false (.t 99) (.c (.int .i64 1))⟩,⟨some 99,none,.mv (.t 115)⟩]))))))))) (.reg [⟨some 116,none,.bin .add false (.t 93) (.c (.int .i64 1))⟩,⟨some 93,none,.mv (.t 116)⟩]))))))))))) .skip)))))))))))) (.seq (.reg [⟨some 117,none,.mv (.t 4)⟩,⟨some 118,none,.call 223 [(.t 117)]⟩,⟨some 119,none,.ext (.t 118) 0⟩,⟨some 120,none,.ext (.t 118) 1⟩,⟨some 2,none,.mv (.t 119)⟩,⟨some 3,none,.mv (.t 120)⟩]) .ret))))
theorem AW:codeOf Tryz.prog 162=some ⟨121,AK,[(.tmp 2),(.tmp 3)]⟩:=by kernel_rfl
theorem Ar:modes 162=⟨[],.frz,none,false⟩:=by unfold modes; rfl
theorem Ts (x:Fm) (hx:x.forms=true) (hn:x.isN=true) (ih:∀ y∈x.parts,ClE 162 y):ClE 162 x:=by
 have hxs:x.sv=.agg [.int .i64 x.op,.str x.atom.name,.arr (x.atom.args.map Tm.d),.str x.var,.arr (x.parts.map Fm.d)]:=rfl
 have hsv:∀ d:Cl,d.sv=.agg [.arr (d.lits.map Lt.d)]:=fun d=>rfl
 have hcs:∀ d:Cl,Cl.osv d=.agg [.ref 0]:=fun d=>rfl
 have hob:∀ d:Cl,Cl.obs d=[.row 122 3 (d.lits.map Lt.o)]:=fun d=>rfl
 have hfo:=Fm.CN hx
 have hd0:([]:List Cl).map Cl.os=[]:=rfl
 by_cases h2:x.op=2
 ·have o2:dec (x.op=2)=true:=An h2
  have o3:dec (x.op=3)=false:=Aj (by omega)
  have o4:dec (x.op=4)=false:=Aj (by omega)
  have o8:dec (x.op=8)=false:=Aj (by omega)
  have o5:dec (x.op=5)=false:=Aj (by omega)
  have o6:dec (x.op=6)=false:=Aj (by omega)
  have hc:E 223 [.arr [[D.arr []]]] []=_:=GS [⟨[]⟩] (by simp) fun c hc=>by rw [zD.1 hc]; exact ZA
  refine ClE.fin (Fm.cl2 h2) ?_
  rw [hxs]
  obtain ⟨t,ht⟩:∃ t,t=Dp [] [(⟨[]⟩:Cl)]:=⟨_,rfl⟩
  rw [←ht] at hc ⊢
  refine Af AW Ar (of_decide_eq_true rfl) ?_
  simp (disch:=omega) only [AK,go_sem,Ab,o2,o3,o4,o8,o5,o6,hc,Lt.noss,Lt.fus,AE,Bk,Ar,Br,Ao]
 by_cases h3:x.op=3
 ·have o2:dec (x.op=2)=false:=Aj (by omega)
  have o3:dec (x.op=3)=true:=An h3
  have o4:dec (x.op=4)=false:=Aj (by omega)
  have o8:dec (x.op=8)=false:=Aj (by omega)
  have o5:dec (x.op=5)=false:=Aj (by omega)
  have o6:dec (x.op=6)=false:=Aj (by omega)
  have hat:=(Fm.En hfo h3).2.1
  have h8:=JI [⟨true,x.atom⟩] (by simp) fun z hz=>by rw [zD.1 hz]; exact Dk hat
  have hok:=Pu true hat
  refine ClE.fin (Fm.cl3 h3) ?_
  obtain ⟨u,hu⟩:∃ u,u=mkC [⟨true,x.atom⟩]:=⟨_,rfl⟩
  rw [←hu,hcs,hob] at h8
  rw [←hu] at hok ⊢
  simp only [zH,zL,Lt.d_eq] at h8
  have hc:=GS [u] (by simp) fun c hc=>by rw [zD.1 hc]; exact hok
  simp only [zH,zL,Cl.d_eq] at hc
  have eru:=Lt.erss u.lits
  rw [hxs]
  obtain ⟨t,ht⟩:∃ t,t=Dp [] [u]:=⟨_,rfl⟩
  rw [←ht] at hc ⊢
  refine Af AW Ar (of_decide_eq_true rfl) ?_
  simp (disch:=omega) only [AK,go_sem,Ab,o2,o3,o4,o8,o5,o6,hc,h8,eru,Lt.noss,Lt.fus,AE,Bk,Ar,Br,Ao]
 by_cases h4:x.op=4
 ·have o2:dec (x.op=2)=false:=Aj (by omega)
  have o3:dec (x.op=3)=false:=Aj (by omega)
  have o4:dec (x.op=4)=true:=An h4
  have o8:dec (x.op=8)=false:=Aj (by omega)
  have o5:dec (x.op=5)=false:=Aj (by omega)
  have o6:dec (x.op=6)=false:=Aj (by omega)
  obtain ⟨p,hp⟩:=Fm.Lr hfo h4
  have hp:x.parts=[p]:=congrArg Fm.parts hp
  have hpm:p∈x.parts:=by rw [hp]; simp
  have hat:=(Fm.En (Fm.CN (Fm.BP hx hpm)) (Fm.Wi hn h4 hp)).2.1
  have hlt:0<x.parts.length:=by rw [hp]; simp
  have hg:=get_at Fm.d hlt
  have hx0:x.parts[0]=p:=by simp [hp]
  rw [hx0,Fm.d_eq] at hg
  have h8:=JI [⟨false,p.atom⟩] (by simp) fun z hz=>by rw [zD.1 hz]; exact Dk hat
  have hok:=Pu false hat
  refine ClE.fin (Fm.cl4 h4 hp) ?_
  obtain ⟨u,hu⟩:∃ u,u=mkC [⟨false,p.atom⟩]:=⟨_,rfl⟩
  rw [←hu,hcs,hob] at h8
  rw [←hu] at hok ⊢
  simp only [zH,zL,Lt.d_eq] at h8
  have hc:=GS [u] (by simp) fun c hc=>by rw [zD.1 hc]; exact hok
  simp only [zH,zL,Cl.d_eq] at hc
  have eru:=Lt.erss u.lits
  rw [hxs]
  obtain ⟨t,ht⟩:∃ t,t=Dp [] [u]:=⟨_,rfl⟩
  rw [←ht] at hc ⊢
  refine Af AW Ar (of_decide_eq_true rfl) ?_
  simp (disch:=omega) only [AK,go_sem,Ab,o2,o3,o4,o8,o5,o6,hc,h8,eru,hg,zB,Lt.noss,Lt.fus,AE,Bk,Ar,Br,Ao]
 by_cases h8:x.op=8
 ·have o2:dec (x.op=2)=false:=Aj (by omega)
  have o3:dec (x.op=3)=false:=Aj (by omega)
  have o4:dec (x.op=4)=false:=Aj (by omega)
  have o8:dec (x.op=8)=true:=An h8
  have o5:dec (x.op=5)=false:=Aj (by omega)
  have o6:dec (x.op=6)=false:=Aj (by omega)
  obtain ⟨p,hp⟩:=Fm.Z0 hfo (.inl h8)
  have hp:x.parts=[p]:=congrArg Fm.parts hp
  have hlt:0<x.parts.length:=by rw [hp]; simp
  have hg:=get_at Fm.d hlt
  have hx0:x.parts[0]=p:=by simp [hp]
  rw [hx0,Fm.d_eq] at hg
  obtain ⟨q,hq,hqr⟩:=ih p (by rw [hp]; simp)
  have hps:p.sv=.agg [.int .i64 p.op,.str p.atom.name,.arr (p.atom.args.map Tm.d),.str p.var,.arr (p.parts.map Fm.d)]:=rfl
  rw [hps] at hq
  have hcl:=Fm.cl8 h8 hp
  refine ⟨q,?_,fun r hr=>hqr r (by rw [←hcl]; exact hr)⟩
  rw [hcl,hxs]
  obtain ⟨b,hb⟩:∃ b,b=p.cl.isSome:=⟨_,rfl⟩
  rw [←hb] at hq ⊢
  refine Af AW Ar (of_decide_eq_true rfl) ?_
  simp (disch:=omega) only [AK,go_sem,Ab,o2,o3,o4,o8,o5,o6,hg,hq,zB,Lt.noss,Lt.fus,AE,Bk,Ar,Br,Ao]
 by_cases h56:x.op=5∨x.op=6
 ·obtain ⟨p,q,hp⟩:=Fm.SA hfo (by omega)
  have hp:x.parts=[p,q]:=congrArg Fm.parts hp
  have hlt:0<x.parts.length:=by rw [hp]; simp
  have hlt1:1<x.parts.length:=by rw [hp]; simp
  have hg:=get_at Fm.d hlt
  have hg1:=get_at Fm.d hlt1
  have hx0:x.parts[0]=p:=by simp [hp]
  have hx1:x.parts[1]=q:=by simp [hp]
  rw [hx0,Fm.d_eq] at hg
  rw [hx1,Fm.d_eq] at hg1
  have hpm:p∈x.parts:=by rw [hp]; simp
  have hqm:q∈x.parts:=by rw [hp]; simp
  obtain ⟨la,hla,har⟩:=ih p hpm
  obtain ⟨lb,hlb,hbr⟩:=ih q hqm
  have hps:p.sv=.agg [.int .i64 p.op,.str p.atom.name,.arr (p.atom.args.map Tm.d),.str p.var,.arr (p.parts.map Fm.d)]:=rfl
  have hqs:q.sv=.agg [.int .i64 q.op,.str q.atom.name,.arr (q.atom.args.map Tm.d),.str q.var,.arr (q.parts.map Fm.d)]:=rfl
  rw [hps] at hla
  rw [hqs] at hlb
  have hcl:=Fm.Qfd h56 hp
  have ho:dec (x.op=5)=true∧dec (x.op=6)=false∨dec (x.op=5)=false∧dec (x.op=6)=true:=by
   rcases h56 with h | h
   ·exact .inl ⟨An h,Aj (by omega)⟩
   ·exact .inr ⟨Aj (by omega),An h⟩
  have o2:dec (x.op=2)=false:=Aj (by omega)
  have o3:dec (x.op=3)=false:=Aj (by omega)
  have o4:dec (x.op=4)=false:=Aj (by omega)
  have o8:dec (x.op=8)=false:=Aj (by omega)
  cases e1:p.cl with
  | none =>
   rw [e1] at hla hcl
   rw [show (none:Option (List Cl)).isSome=false from rfl] at hla
   refine ClE.none_ [] hcl ?_
   obtain ⟨b,hb⟩:∃ b,b=q.cl.isSome:=⟨_,rfl⟩
   rw [←hb] at hlb
   rw [hxs]
   rcases ho with ⟨o5,o6⟩ | ⟨o5,o6⟩
   ·refine Af AW Ar (of_decide_eq_true rfl) ?_
    simp (disch:=omega) only [AK,go_sem,Ab,o2,o3,o4,o8,o5,o6,hg,hg1,hla,hlb,zB,Lt.noss,Lt.fus,AE,Bk,Ar,Br,Ao]
   ·refine Af AW Ar (of_decide_eq_true rfl) ?_
    simp (disch:=omega) only [AK,go_sem,Ab,o2,o3,o4,o8,o5,o6,hg,hg1,hla,hlb,zB,Lt.noss,Lt.fus,AE,Bk,Ar,Br,Ao]
  | some a =>
  obtain rfl:=har a e1
  rw [e1] at hla hcl
  rw [show (some la:Option (List Cl)).isSome=true from rfl] at hla
  cases e2:q.cl with
  | none =>
   rw [e2] at hlb hcl
   rw [show (none:Option (List Cl)).isSome=false from rfl] at hlb
   refine ClE.none_ [] hcl ?_
   rw [hxs]
   rcases ho with ⟨o5,o6⟩ | ⟨o5,o6⟩
   ·refine Af AW Ar (of_decide_eq_true rfl) ?_
    simp (disch:=omega) only [AK,go_sem,Ab,o2,o3,o4,o8,o5,o6,hg,hg1,hla,hlb,zB,Lt.noss,Lt.fus,AE,Bk,Ar,Br,Ao]
   ·refine Af AW Ar (of_decide_eq_true rfl) ?_
    simp (disch:=omega) only [AK,go_sem,Ab,o2,o3,o4,o8,o5,o6,hg,hg1,hla,hlb,zB,Lt.noss,Lt.fus,AE,Bk,Ar,Br,Ao]
  | some b =>
  obtain rfl:=hbr b e2
  rw [e2] at hlb hcl
  rw [show (some lb:Option (List Cl)).isSome=true from rfl] at hlb
  simp only at hcl
  have k1:=Fm.Qf p (Fm.BP hx hpm) (Fm.HD hn hpm) la e1
  have k2:=Fm.Qf q (Fm.BP hx hqm) (Fm.HD hn hqm) lb e2
  obtain ⟨k1,ka⟩:=k1
  obtain ⟨k2,kb⟩:=k2
  clear har hbr e1 e2 hps hqs hp hx0 hx1 hpm hqm
  rcases ho with ⟨o5,o6⟩ | ⟨o5,o6⟩
  ·have h5:=Aq.1 o5
   rw [if_pos h5] at hcl
   have hlen:(la++lb).length≤60:=by rw [zF]; omega
   have hcc:=ZI [la,lb] (by simp) (by simp) (by simp; omega)
   have hfl:[la,lb].flatten=la++lb:=by simp
   rw [hfl] at hcc
   simp only [zH,zL] at hcc
   have her:=Cl.Lp (la++lb)
   have hfu:=Cl.Fp (la++lb)
   have hc:=GS (la++lb) (by omega) fun c hc=>by
    rcases zP.1 hc with h | h
    ·exact ka c h
    ·exact kb c h
   refine ClE.fin hcl ?_
   rw [hxs]
   generalize la++lb=l at *
   cases hno:OT.BD (l.map Cl.os) with
   | true =>
    refine Af AW Ar (of_decide_eq_true rfl) ?_
    simp (disch:=omega) only [AK,go_sem,Ab,o2,o3,o4,o8,o5,o6,hg,hg1,hla,hlb,hcc,her,hfu,hno,hc,zB,Lt.noss,Lt.fus,AE,Bk,Ar,Br,Ao]
   | false =>
    refine Af AW Ar (of_decide_eq_true rfl) ?_
    simp (disch:=omega) only [AK,go_sem,Ab,o2,o3,o4,o8,o5,o6,hg,hg1,hla,hlb,hcc,her,hfu,hno,hc,zB,Lt.noss,Lt.fus,AE,Bk,Ar,Br,Ao]
  ·have h6:=Aq.1 o6
   rw [if_neg (by omega)] at hcl
   have hlen:=U8 la lb
   have hlen2:la.length*lb.length≤900:=Nat.mul_le_mul k1 k2
   have hpok:=Yf ka kb
   refine ⟨bif Gr la lb then Dp [] (EQ la lb) else [],?_,fun r hr=>?_⟩
   ·rw [hcl,ZJ,hxs]
    have hz0:EQ [] lb=[]:=rfl
    refine Af AW Ar (of_decide_eq_true rfl) ?_
    simp (disch:=omega) only [AK,go_sem,Ab,o2,o3,o4,o8,o5,o6,hg,hg1,hla,hlb,zB,Lt.noss,Lt.fus,AE,Bk,Ar,Br,Ao]
    refine go_loop (α:=Int) (fun a=>⟨slots 121 0 [(4,.ref 0),(7,.arr (lb.map Cl.d)),(91,.arr (la.map Cl.d)),(92,.int .i64 la.length),(93,.int .i64 a)],[.row 60 1 ((EQ (la.take a.toNat) lb).map Cl.os)]⟩) (fun a=>∃ k:Nat,a=k∧k≤(la).length∧Gr (la.take k) lb=true) (fun a=>(la).length-(a).toNat) 0 ⟨0,rfl,zJ _,rfl⟩ (by simp (disch:=omega) only [go_sem,Ab,hz0,hd0]) ?_
    rintro i ⟨k,hi,hk,hR⟩
    have hni:i.toNat=k:=by omega
    have hni1:(i+1).toNat=k+1:=by omega
    rcases zI k (la).length with hlt | hge
    ·have hg:=get_at Cl.d hlt
     rw [Cl.d_eq] at hg
     have hmem:=zK hlt
     have hco:=ka _ hmem
     have hstep:=Z9 (b:=lb) hlt
     have hpb:Gr (la.take (k+1)) lb=(Gr (la.take k) lb&&lb.all (JQ la[k])):=by
      rw [zN hlt]
      unfold Gr
      rw [List.all_append,List.all_cons,List.all_nil,Bool.and_true]
     obtain ⟨c,hc⟩:∃ c,c=la[k]:=⟨_,rfl⟩
     rw [←hc] at hg hmem hco hstep hpb
     have hcsv:=hsv c
     rw [hR,Bool.true_and] at hpb
     have hio:=hi
     have hni0:=hni
     have hni10:=hni1
     have hlt0:=hlt
     have hz1:(lb.take 0).map (GK c)=[]:=rfl
     clear hc hR
     generalize i=io at *
     generalize k=ko at *
     simp (disch:=omega) only [go_sem,Ab,hni0,hg]
     refine go_loop (α:=Int) (fun a=>⟨slots 121 0 [(4,.ref 0),(7,.arr (lb.map Cl.d)),(10,.ptr 1 0),(91,.arr (la.map Cl.d)),(92,.int .i64 la.length),(93,.int .i64 io),(97,.arr (lb.map Cl.d)),(98,.int .i64 lb.length),(99,.int .i64 a)],[.row 60 1 ((EQ (la.take ko) lb++(lb.take a.toNat).map (GK c)).map Cl.os),.box 60 [.arr (c.lits.map Lt.d)]]⟩) (fun a=>∃ k:Nat,a=k∧k≤(lb).length∧(lb.take k).all (JQ c)=true) (fun a=>(lb).length-(a).toNat) 0 ⟨0,rfl,zJ _,rfl⟩ (by simp (disch:=omega) only [go_sem,Ab,hz1,List.append_nil,hni0]) ?_
     rintro i ⟨k,hi,hk,hR⟩
     have hni:i.toNat=k:=by omega
     have hni1:(i+1).toNat=k+1:=by omega
     rcases zI k (lb).length with hlt | hge
     ·have hg2:=get_at Cl.d hlt
      rw [Cl.d_eq] at hg2
      have hmem2:=zK hlt
      have hun:=Qeu c lb[k] hco (kb _ hmem2)
      have hle:(EQ (la.take ko) lb++(lb.take k).map (GK c)).length≤930:=by
       have h1:(la.take ko).length≤30:=by rw [zR]; omega
       have h2:(lb.take k).length≤30:=by rw [zR]; omega
       have h3:(la.take ko).length*lb.length≤900:=Nat.mul_le_mul h1 k2
       rw [zF,U8,zC]; omega
      rw [hsv,hsv,hsv] at hun
      cases hb:JQ c lb[k] with
      | false =>
       rw [hb] at hun
       have hoff:=Qdm hmem hmem2 hb
       rw [hoff,cond_false,cond_false]
       simp (disch:=omega) only [go_sem,Ab,hni0,hni,hg2,hun,Br]
      | true =>
       rw [hb] at hun
       have htk:=Qdn (x:=c) hlt
       have hall:(lb.take (k+1)).all (JQ c)=true:=by
        rw [zN hlt,List.all_append,hR,List.all_cons,hb]; rfl
       obtain ⟨u,hu⟩:∃ u,u=GK c lb[k]:=⟨_,rfl⟩
       rw [←hu] at hun htk
       have hap:(EQ (la.take ko) lb++(lb.take k).map (GK c)).map Cl.os++[[OT.sh (u.lits.map Lt.d)]]=(EQ (la.take ko) lb++(lb.take (k+1)).map (GK c)).map Cl.os:=by rw [htk,← List.append_assoc,zM (l₂:=[u])]; rfl
       simp (disch:=omega) only [go_sem,Ab,hni0,hni,hg2,hun,Br]
       refine ⟨i+1,⟨k+1,by omega,hlt,hall⟩,by omega,?_⟩
       simp (disch:=omega) only [go_sem,Ab,hni1,hap]
     ·have htl:lb.take k=lb:=zQ hge
      rw [htl] at hR
      rw [hR] at hpb
      simp (disch:=omega) only [go_sem,Ab,hni,htl]
      refine ⟨io+1,⟨ko+1,by omega,hlt0,hpb⟩,by omega,?_⟩
      simp (disch:=omega) only [go_sem,Ab,hni10,hstep]
    ·have htl:la.take k=la:=zQ hge
     rw [htl] at hR
     rw [hR,cond_true,cond_true]
     have her:=Cl.Lp (EQ la lb)
     have hfu:=Cl.Fp (EQ la lb)
     have hc:=GS (EQ la lb) (by omega) (hpok hR)
     simp (disch:=omega) only [go_sem,Ab,hni,htl,her,hfu,hc,Bk]
   ·cases hb:Gr la lb with
    | false=>rw [hb,cond_false] at hcl; rw [hcl] at hr; cases hr
    | true=>rw [hb,cond_true] at hcl; rw [cond_true]; exact SE (by rw [←hcl]; exact hr)
 ·have o2:dec (x.op=2)=false:=Aj (by omega)
  have o3:dec (x.op=3)=false:=Aj (by omega)
  have o4:dec (x.op=4)=false:=Aj (by omega)
  have o8:dec (x.op=8)=false:=Aj (by omega)
  have o5:dec (x.op=5)=false:=Aj (by omega)
  have o6:dec (x.op=6)=false:=Aj (by omega)
  have hc:E 223 [.arr []] []=_:=GS [] (by simp) fun c hc=>by cases hc
  refine ClE.fin (Fm.cl0 (by omega)) ?_
  rw [hxs]
  obtain ⟨t,ht⟩:∃ t,t=Dp [] ([]:List Cl):=⟨_,rfl⟩
  rw [←ht] at hc ⊢
  refine Af AW Ar (of_decide_eq_true rfl) ?_
  simp (disch:=omega) only [AK,go_sem,Ab,o2,o3,o4,o8,o5,o6,hc,Lt.noss,Lt.fus,AE,Bk,Ar,Br,Ao]
theorem JV (x:Fm) (hx:x.forms=true) (hn:x.isN=true):ClE 162 x :=
 Ts x hx hn fun y hy=>JV y (Fm.BP hx hy) (Fm.HD hn hy)
termination_by SizeOf.sizeOf x
decreasing_by exact Fm.lt_of_mem hy
def Fx:SC:=(.seq (.reg [⟨some 1,none,.boxv 36 5 (.t 0)⟩,⟨some 2,none,.mv (.c .nil)⟩,⟨some 3,none,.mv (.c (.bool false))⟩]) (.seq (.reg [⟨some 11,none,.load true 5 (.t 1)⟩,⟨some 12,none,.call 162 [(.t 11)]⟩,⟨some 10,none,.mv (.t 12)⟩,⟨some 13,none,.ext (.t 10) 0⟩,⟨some 14,none,.ext (.t 10) 1⟩,⟨some 4,none,.mv (.t 13)⟩,⟨some 5,none,.mv (.t 14)⟩]) (.seq (.seq (.reg [⟨some 15,none,.mv (.t 5)⟩,⟨some 16,none,.un .not (.t 15)⟩]) (.cond (.t 16) (.seq (.reg [⟨some 2,none,.mv (.c .nil)⟩,⟨some 3,none,.mv (.c (.bool false))⟩]) .ret) .skip)) (.seq (.reg [⟨some 17,none,.mkrow 60 1 [.nil] 0 []⟩,⟨some 6,none,.mv (.t 17)⟩]) (.seq (.seq (.reg [⟨some 18,none,.mv (.t 4)⟩,⟨some 19,none,.len false (.t 18)⟩,⟨some 20,none,.mv (.c (.int .i64 0))⟩]) (.block 0 (.loop [0,0,0,0,0,0,1,0,0,0,0,0,0,0,0,0,0,0,1,1,1,0,0,0,0,0,0,0,0,0,0,0,0,0,0,0] (.seq (.reg [⟨some 21,none,.bin .lss false (.t 20) (.t 19)⟩]) (.seq (.cond (.t 21) .skip (.exit 0)) (.seq (.block 1 (.seq (.reg [⟨some 22,none,.iaddr 1 (.t 18) (.t 20)⟩,⟨some 23,none,.load true 1 (.t 22)⟩,⟨some 8,none,.alloc 60 [.nil]⟩,⟨none,none,(.store 1 (.t 8) (.t 23))⟩]) (.seq (.reg [⟨some 24,none,.load true 1 (.t 8)⟩,⟨some 25,none,.call 163 [(.t 24)]⟩,⟨some 9,none,.alloc 60 [.nil]⟩,⟨none,none,(.store 1 (.t 9) (.t 25))⟩]) (.seq (.reg [⟨some 26,none,.mv (.t 6)⟩,⟨some 27,none,.load true 1 (.t 9)⟩,⟨some 28,none,.call 81 [(.t 26),(.t 27)]⟩,⟨some 29,none,.un .not (.t 28)⟩]) (.cond (.t 29) (.reg [⟨some 30,none,.mv (.t 6)⟩,⟨some 31,none,.load true 1 (.t 9)⟩,⟨some 32,none,.mkrow 60 1 [.nil] 1 [(0,(.t 31))]⟩,⟨some 33,none,.append 60 1 24 [.nil] (.t 30) (.t 32)⟩,⟨some 6,none,.mv (.t 33)⟩]) .skip))))) (.reg [⟨some 34,none,.bin .add false (.t 20) (.c (.int .i64 1))⟩,⟨some 20,none,.mv (.t 34)⟩]))))))) (.seq (.reg [⟨some 35,none,.mv (.t 6)⟩,⟨some 2,none,.mv (.t 35)⟩,⟨some 3,none,.mv (.c (.bool true))⟩]) .ret))))))
theorem Iv:codeOf Tryz.prog 97=some ⟨36,Fx,[(.tmp 2),(.tmp 3)]⟩:=by kernel_rfl
theorem BH:modes 97=⟨[],.own [some (60,1),none],none,false⟩:=by unfold modes; rfl
theorem Tt (x:Fm) (hx:x.forms=true) (hn:x.isN=true) (hc:x.cl=none):E 97 [x.sv] []=some (.tup [.ref 0,.bool false],[.row 60 1 []]):=by
 have hxs:x.sv=.agg [.int .i64 x.op,.str x.atom.name,.arr (x.atom.args.map Tm.d),.str x.var,.arr (x.parts.map Fm.d)]:=rfl
 obtain ⟨q,hq,_⟩:=JV x hx hn
 rw [hc] at hq
 rw [show (none:Option (List Cl)).isSome=false from rfl,hxs] at hq
 rw [hxs]
 refine Af Iv BH (of_decide_eq_true rfl) ?_
 simp (disch:=omega) only [Fx,go_sem,Ab,hq,Ar]
theorem SK (x:Fm) (hx:x.forms=true) (hn:x.isN=true) (r:List Cl) (hc:x.cl=some r):E 97 [x.sv] []=some (.tup [.ref 0,.bool true],[.row 60 1 ((G3 [] (r.map (nz 10))).map Cl.o)]):=by
 have hxs:x.sv=.agg [.int .i64 x.op,.str x.atom.name,.arr (x.atom.args.map Tm.d),.str x.var,.arr (x.parts.map Fm.d)]:=rfl
 have hsv:∀ d:Cl,d.sv=.agg [.arr (d.lits.map Lt.d)]:=fun d=>rfl
 have hcs:∀ d:Cl,Cl.osv d=.agg [.ref 0]:=fun d=>rfl
 have hob:∀ d:Cl,Cl.obs d=[.row 122 3 (d.lits.map Lt.o)]:=fun d=>rfl
 obtain ⟨q,hq,hqr⟩:=JV x hx hn
 obtain rfl:=hqr r hc
 obtain ⟨hrl,hro⟩:=Fm.Qf x hx hn q hc
 rw [hc] at hq
 rw [show (some q:Option (List Cl)).isSome=true from rfl,hxs] at hq
 rw [hxs]
 have hz0:([]:List Cl).map Cl.o=[]:=rfl
 refine Af Iv BH (of_decide_eq_true rfl) ?_
 simp (disch:=omega) only [Fx,go_sem,Ab,hq,Ar]
 refine go_loop (α:=Int × (List Cl)) (fun a=>⟨slots 36 0 [(6,.ref 0),(18,.arr (q.map Cl.d)),(19,.int .i64 q.length),(20,.int .i64 (a.1))],[.row 60 1 ((a.2).map Cl.o)]⟩) (fun a=>∃ k:Nat,a.1=k∧k≤(q).length∧G3 (a.2) ((q.drop k).map (nz 10))=G3 [] (q.map (nz 10))∧(a.2).length≤k∧∀ x∈(a.2),x.ok=true) (fun a=>(q).length-(a.1).toNat) (0,[]) ⟨0,rfl,zJ _,by rw [zG],zX _,fun x hx=>by simp at hx⟩ (by simp (disch:=omega) only [go_sem,Ab,hz0]) ?_
 rintro ⟨i,acc⟩ ⟨k,hi,hk,hR⟩
 dsimp only at hi hR
 have hni:i.toNat=k:=by omega
 have hni1:(i+1).toNat=k+1:=by omega
 rcases zI k (q).length with hlt | hge
 ·obtain ⟨hR1,hR2,hR3⟩:=hR
  rw [zA hlt,zH] at hR1
  have hg:=get_at Cl.d hlt
  rw [Cl.d_eq] at hg
  have hco:=hro _ (zK hlt)
  have h1:=Yl q[k] hco
  have hrk:=Qa4 10 hco
  rw [hsv,hcs,hob] at h1
  obtain ⟨r,hr⟩:∃ r,r=nz 10 q[k]:=⟨_,rfl⟩
  rw [←hr] at h1 hR1 hrk
  have hstep:G3 (Kz acc r) ((q.drop (k+1)).map (nz 10))=G3 [] (q.map (nz 10)):=hR1
  have hh:=Qc r (H0 hrk) acc (by omega) fun x hx=>H0 (hR3 x hx)
  rw [hsv] at hh
  have hul:acc.length≤30:=by omega
  obtain ⟨ac2,hacc⟩:∃ ac2,ac2=acc:=⟨_,rfl⟩
  have era:=Cl.erss acc
  have err:=Lt.erss r.lits
  cases hm:dec (r∈acc) with
  | true =>
   rw [hm] at hh
   rw [S9 hm] at hstep
   simp (disch:=omega) only [go_sem,Ab,hni,hg,h1,hh,era,err,Cl.noss,Lt.noss,Cl.fus,Lt.fus,FQ,CE]
   exact ⟨(i+1,acc),⟨k+1,by dsimp only; omega,hlt,hstep,by dsimp only; omega,hR3⟩,by dsimp only; omega,by first | trivial | rfl⟩
  | false =>
   rw [hm] at hh
   rw [VY hm] at hstep
   have hap:acc.map Cl.o++[[OT.ow (r.lits.map Lt.o)]]=(acc++[r]).map Cl.o:=by rw [zM]; rfl
   simp (disch:=omega) only [go_sem,Ab,hni,hg,h1,hh,era,err,Cl.noss,Lt.noss,Cl.fus,Lt.fus,hap,FQ,CE]
   refine ⟨(i+1,acc++[r]),⟨k+1,by dsimp only; omega,hlt,hstep,by simp only [zF,zS,List.length_nil]; omega,fun x hx=>?_⟩,by dsimp only; omega,by first | trivial | rfl⟩
   rcases zP.1 hx with h | h
   ·exact hR3 x h
   ·rw [zD.1 h]; exact hrk
 ·obtain ⟨hR1,hR2,hR3⟩:=hR
  rw [zE hge] at hR1
  have hR1:acc=G3 [] (q.map (nz 10)):=hR1
  rw [←hR1]
  simp (disch:=omega) only [go_sem,Ab,hni]
def Fy:SC:=(.seq (.reg [⟨some 4,none,.mv (.c (.int .i64 0))⟩]) (.seq (.seq (.reg [⟨some 6,none,.mv (.t 0)⟩,⟨some 7,none,.len false (.t 6)⟩,⟨some 8,none,.mv (.c (.int .i64 0))⟩]) (.block 0 (.loop [1,1,0,0,0,0,0,1,1,0,0,0,0,0,0,0,0,0,0] (.seq (.reg [⟨some 9,none,.bin .lss false (.t 8) (.t 7)⟩]) (.seq (.cond (.t 9) .skip (.exit 0)) (.seq (.block 1 (.seq (.reg [⟨some 10,none,.mv (.t 8)⟩,⟨some 5,none,.mv (.t 10)⟩]) (.seq (.reg [⟨some 11,none,.mv (.t 1)⟩,⟨some 12,none,.mv (.t 0)⟩,⟨some 13,none,.mv (.t 5)⟩,⟨some 14,none,.iaddr 1 (.t 12) (.t 13)⟩,⟨some 15,none,.load false 1 (.t 14)⟩,⟨some 16,none,.bin .eql false (.t 11) (.t 15)⟩]) (.cond (.t 16) (.seq (.reg [⟨some 17,none,.mv (.t 5)⟩,⟨some 4,none,.mv (.t 17)⟩]) .ret) .skip)))) (.reg [⟨some 18,none,.bin .add false (.t 8) (.c (.int .i64 1))⟩,⟨some 8,none,.mv (.t 18)⟩]))))))) (.seq (.reg [⟨some 4,none,.mv (.c (.int .i64 (-(0+1))))⟩]) .ret)))
theorem JW:codeOf Tryz.prog 192=some ⟨19,Fy,[(.tmp 4)]⟩:=by kernel_rfl
theorem Fz:modes 192=⟨[],.asis,none,false⟩:=by unfold modes; rfl
def Es:SC:=(.seq (.reg [⟨some 4,none,.mv (.c (.bool false))⟩]) (.seq (.reg [⟨some 5,none,.mv (.t 0)⟩,⟨some 6,none,.mv (.t 1)⟩,⟨some 7,none,.call 192 [(.t 5),(.t 6)]⟩,⟨some 8,none,.bin .geq false (.t 7) (.c (.int .i64 0))⟩,⟨some 4,none,.mv (.t 8)⟩]) .ret))
theorem HQ:codeOf Tryz.prog 138=some ⟨9,Es,[(.tmp 4)]⟩:=by kernel_rfl
theorem CS:modes 138=⟨[],.asis,none,false⟩:=by unfold modes; rfl
theorem QbE (xs:List Int) (n:Int) (hl:xs.length≤1099511627776):E 192 [.arr (xs.map fun s=>[D.int s]),.int .i64 n] []=some (.int .i64 (DI (fun s=>dec (n=s)) xs 0),[]):=by
 refine Af JW Fz (of_decide_eq_true rfl) ?_
 simp (disch:=omega) only [Fy,go_sem,Ab]
 refine go_loop (α:=Int) (fun a=>⟨slots 19 0 [(0,.arr (xs.map fun s=>[D.int s])),(1,.int .i64 n),(7,.int .i64 xs.length),(8,.int .i64 a)],[]⟩) (fun a=>∃ k:Nat,a=k∧k≤(xs).length∧DI (fun s=>dec (n=s)) (xs.drop k) a=DI (fun s=>dec (n=s)) xs 0) (fun a=>(xs).length-(a).toNat) 0 ⟨0,rfl,zJ _,by rw [zG]⟩ (by simp (disch:=omega) only [go_sem,Ab]) ?_
 rintro i ⟨k,hi,hk,hR⟩
 have hni:i.toNat=k:=by omega
 have hni1:(i+1).toNat=k+1:=by omega
 rcases zI k (xs).length with hlt | hge
 ·have hg:=get_at (fun s=>[D.int s]) hlt
  rw [zA hlt,DI] at hR
  cases hp:dec (n=xs[k]) with
  | true =>
   rw [hp] at hR
   simp (disch:=omega) only [go_sem,Ab,hni,hg,hp]
   simpa using hR
  | false =>
   rw [hp] at hR
   simp (disch:=omega) only [go_sem,Ab,hni,hg,hp]
   exact ⟨i+1,⟨k+1,by omega,hlt,by simpa using hR⟩,by omega,by first | trivial | rfl⟩
 ·rw [zE hge,DI] at hR
  simp (disch:=omega) only [go_sem,Ab,hni]
  exact hR
theorem Yp (n m:Int):E 138 [.arr [[D.int m]],.int .i64 n] []=some (.bool (dec (n=m)),[]):=by
 have h:=QbE [m] n (by simp)
 have hp:=IY (fun s=>dec (n=s)) [m]
 simp only [zH,zL] at h
 simp only [List.any_cons,List.any_nil,Bool.or_false] at hp
 rw [←hp]
 refine Af HQ CS (of_decide_eq_true rfl) ?_
 simp (disch:=omega) only [Es,go_sem,Ab,h,Fz]
def JX:SC:=(.seq (.reg [⟨some 2,none,.boxv 36 5 (.t 0)⟩,⟨some 3,none,.boxv 161 1 (.t 1)⟩,⟨some 4,none,.mv (.c (.bool false))⟩]) (.seq (.reg [⟨some 5,none,.load false 1 (.t 3)⟩,⟨some 6,none,.faddr 0 (.t 2)⟩,⟨some 7,none,.load false 1 (.t 6)⟩,⟨some 8,none,.call 138 [(.t 5),(.t 7)]⟩,⟨some 9,none,.mv (.t 8)⟩,⟨(some 10),(some (9,false)),(.faddr 4 (.t 2))⟩,⟨(some 11),(some (9,false)),(.load false 1 (.t 10))⟩,⟨(some 12),(some (9,false)),(.mkfn 139 [(.t 3)])⟩,⟨(some 13),(some (9,false)),(.call 121 [(.t 11),(.t 12)])⟩,⟨some 14,none,.pick (.t 9) (.c (.bool true)) (.t 13)⟩,⟨some 4,none,.mv (.t 14)⟩]) .ret))
theorem Oy:codeOf Tryz.prog 69=some ⟨15,JX,[(.tmp 4)]⟩:=by kernel_rfl
theorem C5:modes 69=⟨[],.asis,none,false⟩:=by unfold modes; rfl
def L3:SC:=(.seq (.reg [⟨some 2,none,.boxv 36 5 (.t 0)⟩,⟨some 3,none,.mv (.c (.bool false))⟩]) (.seq (.reg [⟨some 4,none,.load true 5 (.t 2)⟩,⟨some 5,none,.load false 1 (.t 1)⟩,⟨some 6,none,.call 69 [(.t 4),(.t 5)]⟩,⟨some 3,none,.mv (.t 6)⟩]) .ret))
theorem SL:codeOf Tryz.prog 139=some ⟨7,L3,[(.tmp 3)]⟩:=by kernel_rfl
theorem L4:modes 139=⟨[],.asis,none,false⟩:=by unfold modes; rfl
theorem SM:GD Tryz.prog 139=true:=by kernel_rfl
theorem Wr (n:Int) (p:Fm→Bool) (xs:List Fm) (hl:xs.length≤1099511627776) (hg:GD Tryz.prog 139=true) (hm:modes 139=⟨[],.asis,none,false⟩) (hE:∀ x∈xs,E 139 [x.sv,.ptr 0 0] [.box 161 [.arr [[D.int n]]]]=some (.bool (p x),[.box 161 [.arr [[D.int n]]]])):E 183 [.arr (xs.map Fm.d),.fn 139 [.ptr 0 0]] [.box 161 [.arr [[D.int n]]]]=some (.int .i64 (DI p xs 0),[.box 161 [.arr [[D.int n]]]]):=by
 refine Af BT AJ (of_decide_eq_true rfl) ?_
 simp (disch:=omega) only [Bu,go_sem,Ab]
 refine go_loop (α:=Int) (fun a=>⟨slots 19 0 [(0,.arr (xs.map Fm.d)),(1,.fn 139 [.ptr 0 0]),(7,.int .i64 xs.length),(8,.int .i64 a)],[.box 161 [.arr [[D.int n]]]]⟩) (fun a=>∃ k:Nat,a=k∧k≤(xs).length∧DI p (xs.drop k) a=DI p xs 0) (fun a=>(xs).length-(a).toNat) 0 ⟨0,rfl,zJ _,by rw [zG]⟩ (by simp (disch:=omega) only [go_sem,Ab]) ?_
 rintro i ⟨k,hi,hk,hR⟩
 have hni:i.toNat=k:=by omega
 have hni1:(i+1).toNat=k+1:=by omega
 rcases zI k (xs).length with hlt | hge
 ·have hg':=get_at Fm.d hlt
  rw [Fm.d_eq] at hg'
  have hc:=hE xs[k] (zK hlt)
  rw [zA hlt,DI] at hR
  cases hp:p xs[k] with
  | true =>
   rw [hp] at hc hR
   simp (disch:=omega) only [go_sem,Ab,hni,hg',hc,hg,hm]
   simpa using hR
  | false =>
   rw [hp] at hc hR
   simp (disch:=omega) only [go_sem,Ab,hni,hg',hc,hg,hm]
   exact ⟨i+1,⟨k+1,by omega,hlt,by simpa using hR⟩,by omega,by first | trivial | rfl⟩
 ·rw [zE hge,DI] at hR
  simp (disch:=omega) only [go_sem,Ab,hni]
  exact hR
theorem Q7 (n:Int) (p:Fm→Bool) (xs:List Fm) (hl:xs.length≤1099511627776) (hg:GD Tryz.prog 139=true) (hm:modes 139=⟨[],.asis,none,false⟩) (hE:∀ x∈xs,E 139 [x.sv,.ptr 0 0] [.box 161 [.arr [[D.int n]]]]=some (.bool (p x),[.box 161 [.arr [[D.int n]]]])):E 121 [.arr (xs.map Fm.d),.fn 139 [.ptr 0 0]] [.box 161 [.arr [[D.int n]]]]=some (.bool (xs.any p),[.box 161 [.arr [[D.int n]]]]):=by
 have h:=Wr n p xs hl hg hm hE
 refine Af BG Aa (of_decide_eq_true rfl) ?_
 simp (disch:=omega) only [Bi,go_sem,Ab,h,AJ]
 rw [IY]
theorem Qd2 (n:Int) (x:Fm) (h:E 69 [x.sv,.arr [[D.int n]]] []=some (.bool (x.has n),[])):E 139 [x.sv,.ptr 0 0] [.box 161 [.arr [[D.int n]]]]=some (.bool (x.has n),[.box 161 [.arr [[D.int n]]]]):=by
 have hxs:x.sv=.agg [.int .i64 x.op,.str x.atom.name,.arr (x.atom.args.map Tm.d),.str x.var,.arr (x.parts.map Fm.d)]:=rfl
 rw [hxs] at h
 rw [hxs]
 refine Af SL L4 (of_decide_eq_true rfl) ?_
 simp (disch:=omega) only [L3,go_sem,Ab,h,C5]
theorem Qd3 (n:Int) (x:Fm) (hp:x.nodes≤1099511627776) (ih:∀ y∈x.parts,E 69 [y.sv,.arr [[D.int n]]] []=some (.bool (y.has n),[])):E 69 [x.sv,.arr [[D.int n]]] []=some (.bool (x.has n),[]):=by
 have hxs:x.sv=.agg [.int .i64 x.op,.str x.atom.name,.arr (x.atom.args.map Tm.d),.str x.var,.arr (x.parts.map Fm.d)]:=rfl
 have hpl:=Fm.length_le x.parts
 have hnq:=Fm.nodes_eq x
 have hie:=Fm.has_eq n x
 have h1:=Yp x.op n
 have h2:=Q7 n (Fm.has n) x.parts (by omega) SM L4 fun y hy=>Qd2 n y (ih y hy)
 rw [hxs,hie]
 by_cases ho:x.op=n
 ·rw [An ho] at h1
  rw [An ho.symm,Bool.true_or]
  refine Af Oy C5 (of_decide_eq_true rfl) ?_
  simp (disch:=omega) only [JX,go_sem,Ab,h1,h2,CS,Aa]
 ·rw [Aj ho] at h1
  rw [Aj (fun e=>ho e.symm),z6]
  refine Af Oy C5 (of_decide_eq_true rfl) ?_
  simp (disch:=omega) only [JX,go_sem,Ab,h1,h2,CS,Aa]
theorem QaJ (n:Int) (x:Fm) (hp:x.nodes≤1099511627776):E 69 [x.sv,.arr [[D.int n]]] []=some (.bool (x.has n),[]) :=
 Qd3 n x hp fun y hy=>QaJ n y (by have:=Fm.nodes_mem hy; have:=Fm.nodes_eq x; omega)
termination_by SizeOf.sizeOf x
decreasing_by exact Fm.lt_of_mem hy
def Cb:SC:=(.seq (.reg [⟨some 1,none,.boxv 36 5 (.t 0)⟩,⟨some 2,none,.mv (.c .nil)⟩,⟨some 3,none,.mv (.c (.bool false))⟩]) (.seq (.seq (.reg [⟨some 4,none,.load true 5 (.t 1)⟩,⟨some 5,none,.call 53 [(.t 4)]⟩,⟨some 6,none,.un .not (.t 5)⟩,⟨some 7,none,.mv (.t 6)⟩,⟨(some 8),(some (7,false)),(.load true 5 (.t 1))⟩,⟨(some 9),(some (7,false)),(.call 54 [(.t 8)])⟩,⟨(some 10),(some (7,false)),(.un .not (.t 9))⟩,⟨some 11,none,.pick (.t 7) (.c (.bool true)) (.t 10)⟩,⟨some 12,none,.mv (.t 11)⟩,⟨(some 13),(some (12,false)),(.load true 5 (.t 1))⟩,⟨(some 14),(some (12,false)),(.call 55 [(.t 13)])⟩,⟨(some 15),(some (12,false)),(.un .not (.t 14))⟩,⟨some 16,none,.pick (.t 12) (.c (.bool true)) (.t 15)⟩,⟨some 17,none,.mv (.t 16)⟩,⟨(some 18),(some (17,false)),(.load true 5 (.t 1))⟩,⟨(some 19),(some (17,false)),(.mkrow 3 1 [(.int .i64 0)] 1 [(0,(.c (.int .i64 9)))])⟩,⟨(some 20),(some (17,false)),(.call 69 [(.t 18),(.t 19)])⟩,⟨some 21,none,.pick (.t 17) (.c (.bool true)) (.t 20)⟩]) (.cond (.t 21) (.seq (.reg [⟨some 2,none,.mv (.c .nil)⟩,⟨some 3,none,.mv (.c (.bool false))⟩]) .ret) .skip)) (.seq (.reg [⟨some 22,none,.load true 5 (.t 1)⟩,⟨some 23,none,.call 97 [(.t 22)]⟩,⟨some 24,none,.ext (.t 23) 0⟩,⟨some 25,none,.ext (.t 23) 1⟩,⟨some 2,none,.mv (.t 24)⟩,⟨some 3,none,.mv (.t 25)⟩]) .ret)))
theorem C0:codeOf Tryz.prog 40=some ⟨26,Cb,[(.tmp 2),(.tmp 3)]⟩:=by kernel_rfl
theorem Bw:modes 40=⟨[],.own [some (60,1),none],none,false⟩:=by unfold modes; rfl
theorem Py (x:Fm) (hta:x.tame) (hn:x.nodes≤1099511627776):E 40 [x.sv] []=some (.tup [.ref 0,.bool (Wj x)],[.row 60 1 ((SF x).map Cl.o)]):=by
 have h1:=Ps x hta hn
 have h4:=QaJ 9 x hn
 have hd0:([]:List Cl).map Cl.o=[]:=rfl
 have hxs:x.sv=.agg [.int .i64 x.op,.str x.atom.name,.arr (x.atom.args.map Tm.d),.str x.var,.arr (x.parts.map Fm.d)]:=rfl
 rw [hxs] at h1 h4
 cases hv:x.valid with
 | false =>
  rw [hv] at h1
  obtain ⟨e1,e2⟩:=Or (show cfP x=false by unfold cfP; rw [hv]; rfl)
  rw [e1,e2,hd0,hxs]
  refine Af C0 Bw (of_decide_eq_true rfl) ?_
  simp (disch:=omega) only [Cb,go_sem,Ab,h1,Bo,BQ,A7,C5,BH]
 | true =>
 rw [hv] at h1
 obtain ⟨hva1,hva2⟩:=Lz hv
 obtain ⟨b1,b2,b3,b4⟩:=Yo x hva2 hva1
 have h2:=To x hva2 (by omega) (by omega)
 have h3:=H8 x hva2 (by omega)
 rw [hxs] at h2 h3
 cases hs:x.sepd with
 | false =>
  rw [hs] at h2
  obtain ⟨e1,e2⟩:=Or (show cfP x=false by unfold cfP; rw [hv,hs]; rfl)
  rw [e1,e2,hd0,hxs]
  refine Af C0 Bw (of_decide_eq_true rfl) ?_
  simp (disch:=omega) only [Cb,go_sem,Ab,h1,h2,Bo,BQ,A7,C5,BH]
 | true =>
 rw [hs] at h2
 cases hin:x.isN with
 | false =>
  rw [hin] at h3
  obtain ⟨e1,e2⟩:=Or (show cfP x=false by unfold cfP; rw [hv,hin,Bool.false_and,Bool.and_false]; rfl)
  rw [e1,e2,hd0,hxs]
  refine Af C0 Bw (of_decide_eq_true rfl) ?_
  simp (disch:=omega) only [Cb,go_sem,Ab,h1,h2,h3,Bo,BQ,A7,C5,BH]
 | true =>
 rw [hin] at h3
 cases hh:x.has 9 with
 | true =>
  rw [hh] at h4
  obtain ⟨e1,e2⟩:=Or (show cfP x=false by unfold cfP; rw [hv,hs,hin,hh]; rfl)
  rw [e1,e2,hd0,hxs]
  refine Af C0 Bw (of_decide_eq_true rfl) ?_
  simp (disch:=omega) only [Cb,go_sem,Ab,h1,h2,h3,h4,Bo,BQ,A7,C5,BH]
 | false =>
 rw [hh] at h4
 have hP:cfP x=true:=by unfold cfP; rw [hv,hs,hin,hh]; rfl
 cases hc:x.cl with
 | none =>
  have h5:=Tt x hva2 hin hc
  obtain ⟨e1,e2⟩:=Wk hP hc
  rw [hxs] at h5
  rw [e1,e2,hd0,hxs]
  refine Af C0 Bw (of_decide_eq_true rfl) ?_
  simp (disch:=omega) only [Cb,go_sem,Ab,h1,h2,h3,h4,h5,Bo,BQ,A7,C5,BH]
 | some r =>
  have h5:=SK x hva2 hin r hc
  obtain ⟨e1,e2⟩:=Wl hP hc
  rw [hxs] at h5
  rw [e1,e2,hxs]
  refine Af C0 Bw (of_decide_eq_true rfl) ?_
  simp (disch:=omega) only [Cb,go_sem,Ab,h1,h2,h3,h4,h5,Bo,BQ,A7,C5,BH]
def Cl.wt (x:Cl):Nat:=0+Lt.wtS x.lits
theorem Cl.wt_eq (x:Cl):x.wt=0+Lt.wtS x.lits:=rfl
noncomputable def Cl.mk1 (x:Cl) (k:Int):Cl × Int:=((Cl.mk ((Lt.mkS x.lits k).1)),(Lt.mkS x.lits k).2)
theorem Cl.mk1_eq (x:Cl) (k:Int):x.mk1 k=((Cl.mk ((Lt.mkS x.lits k).1)),(Lt.mkS x.lits k).2):=rfl
def Cl.wtS:List Cl→Nat
 | []=>0
 | x :: xs=>Cl.wt x+Cl.wtS xs
noncomputable def Cl.mkS:List Cl→Int→List Cl × Int
 | [],k=>([],k)
 | x :: xs,k=>((Cl.mk1 x k).1 :: (Cl.mkS xs (Cl.mk1 x k).2).1,(Cl.mkS xs (Cl.mk1 x k).2).2)
theorem Cl.mk1_d (x:Cl) (k:Int):Cl.d (x.mk1 k).1=[.arr ((Lt.mkS x.lits k).1.map Lt.d)]:=by
 rw [Cl.mk1_eq,Cl.d_eq]
 try rfl
theorem Cl.mk1_o (x:Cl) (k:Int):Cl.o (x.mk1 k).1=[.ow ((Lt.mkS x.lits k).1.map Lt.o)]:=by
 rw [Cl.mk1_eq,Cl.o_eq]
 try rfl
theorem Cl.mk1_end (x:Cl) (k:Int):(x.mk1 k).2=k+x.wt:=by
 rw [Cl.mk1_eq,Cl.wt_eq]
 first
  |omega
  |(simp only [Lt.mkS_end]; done)
  |(simp only [Lt.mkS_end]; omega)
  |simp
theorem Cl.mkS_end:∀ (xs:List Cl) (k:Int),(Cl.mkS xs k).2=k+Cl.wtS xs
 | [],k=>by simp [Cl.mkS,Cl.wtS]
 | x :: xs,k=>by
  rw [Cl.mkS,Cl.wtS]
  have h1:=Cl.mk1_end x k
  have h2:=Cl.mkS_end xs (x.mk1 k).2
  dsimp only
  omega
theorem Cl.wt_bulk (x:Cl):x.wt≤5*(1+x.bulk):=by
 rw [Cl.wt_eq,Cl.bulk_eq]
 have h0:=Lt.wtS_bulk x.lits
 omega
theorem Cl.wtS_bulk:∀ xs:List Cl,Cl.wtS xs≤5*(xs.length+Cl.sumB xs)
 | []=>by simp [Cl.wtS]
 | x :: xs=>by
  have h1:=Cl.wt_bulk x
  have h2:=Cl.wtS_bulk xs
  rw [Cl.wtS,Cl.sumB]; simp only [zS]; omega
def HJ:SC:=(.seq (.reg [⟨some 4,none,.mv (.c (.int .i64 0))⟩]) (.seq (.seq (.reg [⟨some 5,none,.mv (.c (.int .i64 0))⟩]) (.block 0 (.loop [1,1,0,0,0,1,0,0,0,0,0,0,0,0,0,0,0,0,0,0] (.seq (.seq (.reg [⟨some 6,none,.mv (.t 5)⟩,⟨some 7,none,.mv (.t 0)⟩,⟨some 8,none,.len false (.t 7)⟩,⟨some 9,none,.bin .lss false (.t 6) (.t 8)⟩]) (.cond (.t 9) .skip (.exit 0))) (.seq (.block 1 (.reg [⟨some 12,none,.mv (.t 0)⟩,⟨some 13,none,.mv (.t 5)⟩,⟨some 14,none,.iaddr 1 (.t 12) (.t 13)⟩,⟨some 15,none,.faddr 0 (.t 14)⟩,⟨some 16,none,.load false 1 (.t 15)⟩,⟨some 17,none,.mv (.t 1)⟩,⟨some 18,none,.call 83 [(.t 16),(.t 17)]⟩,⟨some 1,none,.mv (.t 18)⟩])) (.reg [⟨some 10,none,.mv (.t 5)⟩,⟨some 11,none,.bin .add false (.t 10) (.c (.int .i64 1))⟩,⟨some 5,none,.mv (.t 11)⟩])))))) (.seq (.reg [⟨some 19,none,.mv (.t 1)⟩,⟨some 4,none,.mv (.t 19)⟩]) .ret)))
theorem Nm:codeOf Tryz.prog 32=some ⟨20,HJ,[(.tmp 4)]⟩:=by kernel_rfl
theorem CP:modes 32=⟨[true],.asis,none,true⟩:=by unfold modes; rfl
abbrev MB (xs:List Cl):Prop:=∀ (k:Int) (ob:List Ob),1≤k→k+Cl.wtS xs+xs.length≤1099511627776→toTree ob=[.tree (xs.map Cl.o) []]→E 32 [.ref 0,.int .i64 k] ob=some (.int .i64 (Cl.mkS xs k).2,[.tree ((Cl.mkS xs k).1.map Cl.o) []])
theorem Pz (xs:List Cl):MB xs:=by
 intro k0 ob h1 h2 hob
 have hlen:ob.length=1:=by rw [←F7,hob]; rfl
 have hL:=zX 0
 refine Af Nm CP (of_decide_eq_true rfl) ?_
 simp (disch:=omega) only [HJ,go_sem,Ab,hob,hlen]
 refine go_loop (α:=Int × (Int) × (List Cl)) (fun a=>⟨slots 20 0 [(0,.ref 0),(1,.int .i64 (a.2.1)),(5,.int .i64 (a.1))],[.tree (((a.2.2)++xs.drop (a.1).toNat).map Cl.o) []]⟩) (fun a=>∃ k:Nat,a.1=k∧k≤(xs).length∧(a.2.2).length=k∧1≤(a.2.1)∧(a.2.1)+Cl.wtS (xs.drop k)=k0+Cl.wtS xs∧Cl.mkS xs k0=((a.2.2)++(Cl.mkS (xs.drop k) (a.2.1)).1,(Cl.mkS (xs.drop k) (a.2.1)).2)) (fun a=>(xs).length-(a.1).toNat) (0,k0,[]) ⟨0,rfl,zJ _,rfl,h1,by rw [zG],by simp⟩ (by simp (disch:=omega) only [go_sem,Ab,zB]) ?_
 rintro ⟨i,kk,dn⟩ ⟨k,hi,hk,hR⟩
 dsimp only at hi hR
 have hni:i.toNat=k:=by omega
 have hni1:(i+1).toNat=k+1:=by omega
 rcases zI k (xs).length with hlt | hge
 ·obtain ⟨hd,hk1,hkn,hm⟩:=hR
  have hdr:xs.drop k=xs[k] :: xs.drop (k+1):=zA hlt
  have hel:(dn++xs.drop k).length=xs.length:=by simp; omega
  have hg:(List.map Cl.o (dn++xs.drop k))[k]?=some [.ow (xs[k].lits.map Lt.o)]:=by
   rw [←Cl.o_eq,hdr,List.getElem?_map,List.getElem?_append_right (by omega),hd,Nat.sub_self]; rfl
  rw [hdr,Cl.wtS] at hkn
  rw [hdr,Cl.mkS] at hm
  have hn1:=Cl.wt_eq xs[k]
  have e0:=Lt.mkS_end xs[k].lits (kk)
  have c0:=Sr xs[k].lits (kk) [.tree (xs[k].lits.map Lt.o) []] (by omega) (by omega) rfl
  have hs:=HX Cl.o dn (xs.drop (k+1)) xs[k] (xs[k].mk1 kk).1 hd
  rw [Cl.mk1_o,← hdr] at hs
  have hgs:∀ a,((List.map Cl.o (dn++xs.drop k)).set k a)[k]?=some a:=fun a=>List.getElem?_set_self (by rw [zC,hel]; exact hlt)
  have he:=Cl.mk1_end xs[k] kk
  have three:∀ z:Int,dec ((3:Int)=0)=false:=fun _=>Aj (by omega)
  simp (disch:=omega) only [go_sem,Ab,hni,hel,hg,c0,G6,C1,hgs,List.length_set,List.set_set,hs,three 0]
  refine ⟨(i+1,(xs[k].mk1 kk).2,dn++[(xs[k].mk1 kk).1]),⟨k+1,by dsimp only; omega,hlt,by dsimp only; simp [hd],by dsimp only; omega,by dsimp only; omega,by rw [hm]; simp⟩,by dsimp only; omega,?_⟩
  dsimp only
  rw [hni1,Cl.mk1_eq]
  refine ⟨⟨?_,rfl⟩,rfl⟩
  first | rfl | omega
 ·obtain ⟨hd,hk1,hkn,hm⟩:=hR
  have hdr:xs.drop k=[]:=zE hge
  rw [hdr,Cl.mkS] at hm
  rw [hm]
  simp (disch:=omega) only [go_sem,Ab,hni,hdr,List.append_nil]
theorem Tu (xs:List Cl):MB xs:=Pz xs
def HK:SC:=(.seq (.reg [⟨some 4,none,.mv (.c (.int .i64 0))⟩]) (.seq (.seq (.reg [⟨some 5,none,.mv (.c (.int .i64 0))⟩]) (.block 0 (.loop [1,1,0,0,0,1,0,0,0,0,0,0,0,0,0,0,0,0,0,0,0,0] (.seq (.seq (.reg [⟨some 6,none,.mv (.t 5)⟩,⟨some 7,none,.mv (.t 0)⟩,⟨some 8,none,.len false (.t 7)⟩,⟨some 9,none,.bin .lss false (.t 6) (.t 8)⟩]) (.cond (.t 9) .skip (.exit 0))) (.seq (.block 1 (.seq (.reg [⟨some 12,none,.mv (.t 0)⟩,⟨some 13,none,.mv (.t 5)⟩,⟨some 14,none,.iaddr 1 (.t 12) (.t 13)⟩,⟨some 15,none,.faddr 0 (.t 14)⟩,⟨some 16,none,.load false 1 (.t 15)⟩,⟨some 17,none,.mv (.t 1)⟩,⟨some 18,none,.call 84 [(.t 16),(.t 17)]⟩,⟨some 1,none,.mv (.t 18)⟩]) (.seq (.reg [⟨some 19,none,.mv (.t 1)⟩,⟨some 20,none,.bin .lss false (.t 19) (.c (.int .i64 0))⟩]) (.cond (.t 20) (.seq (.reg [⟨some 4,none,.mv (.c (.int .i64 (-(0+1))))⟩]) .ret) .skip)))) (.reg [⟨some 10,none,.mv (.t 5)⟩,⟨some 11,none,.bin .add false (.t 10) (.c (.int .i64 1))⟩,⟨some 5,none,.mv (.t 11)⟩])))))) (.seq (.reg [⟨some 21,none,.mv (.t 1)⟩,⟨some 4,none,.mv (.t 21)⟩]) .ret)))
theorem Nn:codeOf Tryz.prog 33=some ⟨22,HK,[(.tmp 4)]⟩:=by kernel_rfl
theorem CQ:modes 33=⟨[],.asis,none,false⟩:=by unfold modes; rfl
theorem Cl.mkS_len:∀ (xs:List Cl) (k:Int),(Cl.mkS xs k).1.length=xs.length
 | [],k=>by rw [Cl.mkS]
 | x :: xs,k=>by rw [Cl.mkS]; simp only [zS]; rw [Cl.mkS_len xs]
abbrev MC (xs:List Cl):Prop:=∀ k:Int,1≤k→k+Cl.wtS xs+xs.length≤1099511627776→E 33 [.arr ((Cl.mkS xs k).1.map Cl.d),.int .i64 k] []=some (.int .i64 (Cl.mkS xs k).2,[])
theorem P0 (xs:List Cl):MC xs:=by
 intro k0 h1 h2
 obtain ⟨ys,hys⟩:∃ ys,ys=(Cl.mkS xs k0).1:=⟨_,rfl⟩
 have hyl:ys.length=xs.length:=by rw [hys,Cl.mkS_len]
 rw [←hys]
 have hL:=zX 0
 refine Af Nn CQ (of_decide_eq_true rfl) ?_
 simp (disch:=omega) only [HK,go_sem,Ab]
 refine go_loop (α:=Int × (Int)) (fun a=>⟨slots 22 0 [(0,.arr (ys.map Cl.d)),(1,.int .i64 (a.2)),(5,.int .i64 (a.1))],[]⟩) (fun a=>∃ k:Nat,a.1=k∧k≤(ys).length∧1≤(a.2)∧(a.2)+Cl.wtS (xs.drop k)=k0+Cl.wtS xs∧ys.drop k=(Cl.mkS (xs.drop k) (a.2)).1∧(Cl.mkS xs k0).2=(Cl.mkS (xs.drop k) (a.2)).2) (fun a=>(ys).length-(a.1).toNat) (0,k0) ⟨0,rfl,zJ _,h1,by rw [zG],by rw [zG,zG,hys],by rw [zG]⟩ (by simp (disch:=omega) only [go_sem,Ab]) ?_
 rintro ⟨i,kk⟩ ⟨k,hi,hk,hR⟩
 dsimp only at hi hR
 have hni:i.toNat=k:=by omega
 have hni1:(i+1).toNat=k+1:=by omega
 rcases zI k (ys).length with hlt | hge
 ·obtain ⟨hk1,hkn,hy,hm⟩:=hR
  have hlx:k<xs.length:=by omega
  have hdr:xs.drop k=xs[k] :: xs.drop (k+1):=zA hlx
  have hdy:=zA hlt
  rw [hdr,Cl.wtS] at hkn
  rw [hdr,Cl.mkS] at hm
  rw [hdr,Cl.mkS,hdy] at hy
  dsimp only at hy hm
  obtain ⟨hy1,hy2⟩:=List.cons.inj hy
  have hg:=get_at Cl.d hlt
  rw [hy1,Cl.mk1_d] at hg
  have hn1:=Cl.wt_eq xs[k]
  have e0:=Lt.mkS_end xs[k].lits (kk)
  have c0:=Su xs[k].lits (kk) (by omega) (by omega)
  have he:=Cl.mk1_end xs[k] kk
  simp (disch:=omega) only [go_sem,Ab,hni,hg,C1,CU,c0,G9]
  refine ⟨(i+1,(xs[k].mk1 kk).2),⟨k+1,by dsimp only; omega,hlt,by dsimp only; omega,by dsimp only; omega,hy2,hm⟩,by dsimp only; omega,?_⟩
  dsimp only
  rw [Cl.mk1_eq]
  simp only [and_self,and_true,true_and]
  try omega
 ·obtain ⟨hk1,hkn,hy,hm⟩:=hR
  have hdr:xs.drop k=[]:=zE (by omega)
  rw [hdr,Cl.mkS] at hm
  rw [hm]
  simp (disch:=omega) only [go_sem,Ab,hni]
theorem Tv (xs:List Cl):MC xs:=P0 xs
def Da:SC:=(.seq (.reg [⟨some 1,none,.boxv 27 5 (.t 0)⟩,⟨some 2,none,.mv (.c (.bool false))⟩]) (.seq (.reg [⟨some 3,none,.mv (.c (.int .i64 1048576))⟩]) (.seq (.reg [⟨some 14,none,.load true 5 (.t 1)⟩,⟨some 15,none,.mv (.t 3)⟩,⟨some 16,none,.call 9 [(.t 14),(.t 15)]⟩,⟨some 3,none,.mv (.t 16)⟩]) (.seq (.seq (.reg [⟨some 17,none,.mv (.t 3)⟩,⟨some 18,none,.bin .lss false (.t 17) (.c (.int .i64 0))⟩]) (.cond (.t 18) (.seq (.reg [⟨some 2,none,.mv (.c (.bool true))⟩]) .ret) .skip)) (.seq (.reg [⟨some 20,none,.load true 5 (.t 1)⟩,⟨some 21,none,.call 12 [(.t 20)]⟩,⟨some 22,none,.call 39 [(.t 21)]⟩,⟨some 19,none,.mv (.t 22)⟩,⟨some 23,none,.ext (.t 19) 0⟩,⟨some 24,none,.ext (.t 19) 1⟩,⟨some 4,none,.mv (.t 23)⟩,⟨some 5,none,.mv (.t 24)⟩]) (.seq (.reg [⟨some 25,none,.load true 5 (.t 1)⟩,⟨some 26,none,.call 12 [(.t 25)]⟩,⟨(some 6),none,(.alloc 36 [(.int .i64 0),(.str ⟨#[]⟩),.nil,(.str ⟨#[]⟩),.nil])⟩,⟨none,none,(.store 5 (.t 6) (.t 26))⟩]) (.seq (.reg [⟨some 28,none,.load true 5 (.t 6)⟩,⟨some 29,none,.call 40 [(.t 28)]⟩,⟨some 27,none,.mv (.t 29)⟩,⟨some 30,none,.ext (.t 27) 0⟩,⟨some 31,none,.ext (.t 27) 1⟩,⟨some 7,none,.mv (.t 30)⟩,⟨some 8,none,.mv (.t 31)⟩]) (.seq (.seq (.reg [⟨some 32,none,.mv (.t 7)⟩,⟨some 33,none,.mv (.t 4)⟩,⟨some 34,none,.call 29 [(.t 32),(.t 33)]⟩,⟨some 35,none,.un .not (.t 34)⟩,⟨some 36,none,.mv (.t 35)⟩,⟨(some 37),(some (36,false)),(.mv (.t 8))⟩,⟨(some 38),(some (36,false)),(.mv (.t 5))⟩,⟨(some 39),(some (36,false)),(.bin .neq true (.t 37) (.t 38))⟩,⟨some 40,none,.pick (.t 36) (.c (.bool true)) (.t 39)⟩]) (.cond (.t 40) (.seq (.reg [⟨some 2,none,.mv (.c (.bool false))⟩]) .ret) .skip)) (.seq (.seq (.dreg [[],[],[1],[0,2,1],[3,0,2,1]] [⟨some 41,none,.load true 5 (.t 6)⟩,⟨some 42,none,.load true 5 (.t 1)⟩,⟨some 43,none,.call 12 [(.t 42)]⟩,⟨some 44,none,.call 15 [(.t 41),(.t 43)]⟩,⟨some 45,none,.un .not (.t 44)⟩]) (.cond (.t 45) (.seq (.reg [⟨some 2,none,.mv (.c (.bool false))⟩]) .ret) .skip)) (.seq (.reg [⟨some 9,none,.mv (.c (.int .i64 1))⟩]) (.seq (.reg [⟨some 46,none,.load true 5 (.t 6)⟩,⟨some 47,none,.mv (.t 9)⟩,⟨some 48,none,.call 17 [(.t 46),(.t 47)]⟩,⟨some 9,none,.mv (.t 48)⟩]) (.seq (.seq (.reg [⟨some 49,none,.mv (.t 9)⟩,⟨some 50,none,.bin .lss false (.t 49) (.c (.int .i64 0))⟩,⟨some 51,none,.mv (.t 50)⟩,⟨(some 52),(some (51,false)),(.mv (.t 7))⟩,⟨(some 53),(some (51,false)),(.mv (.t 4))⟩,⟨(some 54),(some (51,false)),(.call 29 [(.t 52),(.t 53)])⟩,⟨(some 55),(some (51,false)),(.un .not (.t 54))⟩,⟨some 56,none,.pick (.t 51) (.c (.bool true)) (.t 55)⟩,⟨some 57,none,.mv (.t 56)⟩,⟨(some 58),(some (57,false)),(.mv (.t 8))⟩,⟨(some 59),(some (57,false)),(.mv (.t 5))⟩,⟨(some 60),(some (57,false)),(.bin .neq true (.t 58) (.t 59))⟩,⟨some 61,none,.pick (.t 57) (.c (.bool true)) (.t 60)⟩]) (.cond (.t 61) (.seq (.reg [⟨some 2,none,.mv (.c (.bool false))⟩]) .ret) .skip)) (.seq (.reg [⟨some 10,none,.mv (.c (.int .i64 1))⟩]) (.seq (.reg [⟨some 62,none,.mv (.t 7)⟩,⟨some 63,none,.mv (.t 10)⟩,⟨some 64,none,.call 32 [(.t 62),(.t 63)]⟩,⟨some 10,none,.mv (.t 64)⟩]) (.seq (.reg [⟨some 11,none,.mv (.c (.int .i64 1))⟩]) (.seq (.reg [⟨some 65,none,.mv (.t 7)⟩,⟨some 66,none,.mv (.t 11)⟩,⟨some 67,none,.call 33 [(.t 65),(.t 66)]⟩,⟨some 11,none,.mv (.t 67)⟩]) (.seq (.seq (.reg [⟨some 68,none,.mv (.t 11)⟩,⟨some 69,none,.bin .lss false (.t 68) (.c (.int .i64 0))⟩]) (.cond (.t 69) (.seq (.reg [⟨some 2,none,.mv (.c (.bool false))⟩]) .ret) .skip)) (.seq (.seq (.reg [⟨some 70,none,.mv (.t 11)⟩,⟨some 71,none,.mv (.t 10)⟩,⟨some 72,none,.bin .neq false (.t 70) (.t 71)⟩]) (.cond (.t 72) (.seq (.reg [⟨some 2,none,.mv (.c (.bool false))⟩]) .ret) .skip)) (.seq (.reg [⟨some 74,none,.load true 5 (.t 1)⟩,⟨some 75,none,.call 12 [(.t 74)]⟩,⟨some 76,none,.call 40 [(.t 75)]⟩,⟨some 73,none,.mv (.t 76)⟩,⟨some 77,none,.ext (.t 73) 0⟩,⟨some 78,none,.ext (.t 73) 1⟩,⟨some 12,none,.mv (.t 77)⟩,⟨some 13,none,.mv (.t 78)⟩]) (.seq (.seq (.reg [⟨some 79,none,.mv (.t 12)⟩,⟨some 80,none,.mv (.t 4)⟩,⟨some 81,none,.call 29 [(.t 79),(.t 80)]⟩,⟨some 82,none,.un .not (.t 81)⟩,⟨some 83,none,.mv (.t 82)⟩,⟨(some 84),(some (83,false)),(.mv (.t 13))⟩,⟨(some 85),(some (83,false)),(.mv (.t 5))⟩,⟨(some 86),(some (83,false)),(.bin .neq true (.t 84) (.t 85))⟩,⟨some 87,none,.pick (.t 83) (.c (.bool true)) (.t 86)⟩]) (.cond (.t 87) (.seq (.reg [⟨some 2,none,.mv (.c (.bool false))⟩]) .ret) .skip)) (.seq (.reg [⟨some 11,none,.mv (.c (.int .i64 1))⟩]) (.seq (.reg [⟨some 88,none,.mv (.t 7)⟩,⟨some 89,none,.mv (.t 11)⟩,⟨some 90,none,.call 33 [(.t 88),(.t 89)]⟩,⟨some 11,none,.mv (.t 90)⟩]) (.seq (.seq (.reg [⟨some 91,none,.mv (.t 11)⟩,⟨some 92,none,.bin .lss false (.t 91) (.c (.int .i64 0))⟩]) (.cond (.t 92) (.seq (.reg [⟨some 2,none,.mv (.c (.bool false))⟩]) .ret) .skip)) (.seq (.seq (.reg [⟨some 93,none,.mv (.t 11)⟩,⟨some 94,none,.mv (.t 10)⟩,⟨some 95,none,.bin .neq false (.t 93) (.t 94)⟩]) (.cond (.t 95) (.seq (.reg [⟨some 2,none,.mv (.c (.bool false))⟩]) .ret) .skip)) (.seq (.reg [⟨some 2,none,.mv (.c (.bool true))⟩]) .ret)))))))))))))))))))))))))
theorem E6:codeOf Tryz.prog 7=some ⟨96,Da,[(.tmp 2)]⟩:=by kernel_rfl
theorem E7:modes 7=⟨[],.asis,none,false⟩:=by unfold modes; rfl
theorem QbF (x:Fm):(SF x).length+Cl.sumB (SF x)≤1048576:=by
 cases h:cfP x with
 | false=>rw [(Or h).1]; simp [Cl.sumB]
 | true =>
  cases hc:x.cl with
  | none=>rw [(Wk h hc).1]; simp [Cl.sumB]
  | some r =>
   rw [(Wl h hc).1]
   unfold cfP at h
   rw [zY,zY,zY] at h
   obtain ⟨h1,h2⟩:=Fm.Qf x (Lz h.1).2 h.2.2.1 r hc
   have h3:(G3 [] (r.map (nz 10))).length≤30:=Qer (by rw [zC]; exact h1)
   have h4:=Cl.Qa7 (G3 [] (r.map (nz 10))) (Zy fun y hy=>by
    obtain ⟨c,hc,rfl⟩:=List.mem_map.1 hy
    exact Qa4 10 (h2 c hc))
   omega
theorem Qev (x:Fm) (hfx:D.fits x.d):E 7 [x.sv] []=some (.bool true,[]):=by
 have s0:=PX x hfx 1048576 (by omega) (by omega)
 have q0:=Cg 1048576 x.bulk
 obtain ⟨l0,hl0⟩:∃ l,l=szR 1048576 (x.bulk:Nat):=⟨_,rfl⟩
 rw [←hl0] at s0 q0
 rcases Int.lt_or_le l0 0 with h0 | h0_0
 ·refine Af E6 E7 (of_decide_eq_true rfl) ?_
  simp (disch:=omega) only [Da,go_sem,Ab,s0,Cn]
 have hb_x:x.bulk≤1048576:=by omega
 have t_x:=PY x hb_x
 obtain ⟨htx,hnx⟩:=Fm.U7 x hb_x
 have a1:=Px x htx (by omega)
 have a2:=Py x htx (by omega)
 have hb_r:=QbF x
 obtain ⟨r,hr_r⟩:∃ r,r=SF x:=⟨_,rfl⟩
 rw [←hr_r] at a1 a2 hb_r
 obtain ⟨o,hr_o⟩:∃ r,r=Wj x:=⟨_,rfl⟩
 rw [←hr_o] at a1 a2
 have eq_x:=PZ x (by omega)
 have be_x:=Fm.bulk_eq x
 have be_x_atom:=Tm.bulk_eq x.atom
 have w_x_atom_args:=Tm.wtS_bulk x.atom.args
 have w_x_parts:=Fm.wtS_bulk x.parts
 have eq_r:=XH r (by omega)
 have w_r:=Cl.wtS_bulk r
 have k_x_0:=Tm.mkS_end x.atom.args (1)
 have k_x_1:=Fm.mkS_end x.parts ((Tm.mkS x.atom.args (1)).2)
 have m_x:=Tf x (1) (.row 33 2 (x.atom.args.map Tm.o)) (.row 36 5 (x.parts.map Fm.o)) (by omega) (by omega) rfl rfl
 obtain ⟨n_x,hn_x⟩:∃ n1,n1=(x.mkr (1)).2:=⟨_,rfl⟩
 have hn'_x:n_x=(Fm.mkS x.parts ((Tm.mkS x.atom.args (1)).2)).2:=hn_x
 rw [←hn_x] at m_x
 have k_r:=Cl.mkS_end r (1)
 have m_r:=Tu r (1) [.row 60 1 (r.map Cl.o)] (by omega) (by omega) rfl
 have hd_r:=Tv r (1) (by omega) (by omega)
 obtain ⟨n_r,hn_r⟩:∃ n1,n1=(Cl.mkS r (1)).2:=⟨_,rfl⟩
 rw [←hn_r] at k_r m_r hd_r
 refine Af E6 E7 (of_decide_eq_true rfl) ?_
 simp (disch:=omega) only [Da,go_sem,s0,t_x,a1,a2,eq_x,eq_r,m_x,hd_r,m_r,CU,Cn,CC,CD,Dm,CM,CQ,CP,Bv,Bw,Fm.osv,Fm.obs,Tm.osv,Tm.obs,Cl.osv,Cl.obs,Lt.osv,Lt.obs,Tm.erss,Tm.noss,Fm.erss,Fm.noss,Cl.erss,Cl.noss]
 repeat ((first | (refine A8 ?_ ?_; (focus (simp (disch:=omega) only [go_sem,s0,t_x,a1,a2,eq_x,eq_r,m_x,hd_r,m_r,CU,Cn,CC,CD,Dm,CM,CQ,CP,Bv,Bw,Fm.osv,Fm.obs,Tm.osv,Tm.obs,Cl.osv,Cl.obs,Lt.osv,Lt.obs,Tm.erss,Tm.noss,Fm.erss,Fm.noss,Cl.erss,Cl.noss]; done))) | (refine A9 ?_ ?_; (focus (simp (disch:=omega) only [go_sem,s0,t_x,a1,a2,eq_x,eq_r,m_x,hd_r,m_r,CU,Cn,CC,CD,Dm,CM,CQ,CP,Bv,Bw,Fm.osv,Fm.obs,Tm.osv,Tm.obs,Cl.osv,Cl.obs,Lt.osv,Lt.obs,Tm.erss,Tm.noss,Fm.erss,Fm.noss,Cl.erss,Cl.noss]; done)))); (try simp (disch:=omega) only [go_sem,s0,t_x,a1,a2,eq_x,eq_r,m_x,hd_r,m_r,CU,Cn,CC,CD,Dm,CM,CQ,CP,Bv,Bw,Fm.osv,Fm.obs,Tm.osv,Tm.obs,Cl.osv,Cl.obs,Lt.osv,Lt.obs,Tm.erss,Tm.noss,Fm.erss,Fm.noss,Cl.erss,Cl.noss]))
end Go.Proofs.YtepbennkcbmgoaaGreatDoor
set_option maxRecDepth 100000
set_option linter.unusedSimpArgs false
set_option linter.unusedVariables false
set_option linter.unusedSectionVars false
namespace Go.Proofs.YtepbennkcbmgoaaGreatDoor
open Go.RowKit Go.ChangeShapes Go.WideShapes Go.ChangeAt Go.Deep
section
variable {H:Type} {enc:TypeId × Value→H} {P:Program} {w:World} {base:Nat} {spare:Nat→Bool} {held:Bool}
theorem L5 {b o k:Nat}:(⟨b,o,none⟩:Addr).add k=⟨b,o+k,none⟩:=by
 unfold Addr.add; split
 ·subst_vars; rfl
 ·rfl
theorem Qew {a:Addr} {v:Value} (h:w.cell? a=some v):a.block<w.heap.size:=by
 unfold World.cell? at h
 cases hb:w.heap[a.block]? with
 | none=>rw [hb] at h; cases h
 | some o=>exact (zW.1 hb).1
end
section
variable {H:Type} {enc:TypeId × Value→H} {w:World} {base:Nat} {spare:Nat→Bool} {held:Bool}
end
end Go.Proofs.YtepbennkcbmgoaaGreatDoor
set_option maxRecDepth 100000
set_option linter.unusedSimpArgs false
set_option linter.unusedVariables false
set_option linter.unusedSectionVars false
namespace Go.Proofs.YtepbennkcbmgoaaGreatDoor
open Go.RowKit Go.ChangeShapes Go.WideShapes Go.ChangeAt Go.Deep
section
variable {H:Type} {enc:TypeId × Value→H} {P:Program} {w:World} {base:Nat} {spare:Nat→Bool} {held:Bool}
theorem Yq {t e:TypeId} {fuel:Nat} {v:Value} {x:DataW H × List MemPlace} (sz:Nat) (hsz:P.cellsOf e=sz) (h0:0<sz) (ht:P.underlying t=some (.slice e)) (h:DataW.trod enc P w base spare held fuel t [v]=some x) :
  ∃ (a:Option Addr) (len cap:Nat) (f:Nat→Nat→Value),v=.slice a len cap∧len≤cap∧cap≤9223372036854775807∧SlA w 0 sz len f a ∧
   ∀ i,i<len→∃ n x',n<fuel∧DataW.trod enc P w base spare held n e ((zT sz).map (f i))=some x':=by
 rcases DataW.trod_slice ht h with ⟨hcs,_⟩ | ⟨a,len,cap,elems,rest,n,hf,hcs,hx,hb,hl,hm,hlen,hel,_,_⟩
 ·simp only [List.cons.injEq,and_true] at hcs
  exact ⟨none,0,0,fun _ _=>undef,hcs,zX _,by omega,.inl rfl,fun i hi=>absurd hi (by omega)⟩
 ·have hi:∀ i,i<len→∃ cs' x',w.cells? base (a.add (i*sz)) sz=some cs'∧DataW.trod enc P w base spare held n e cs'=some x':=by
   intro i hi
   have h1:=hel i hi
   rw [hsz,zO (by omega)] at h1
   obtain ⟨cs',h2,h3⟩:=Option.bind_eq_some_iff.1 h1
   exact ⟨cs',_,h2,h3⟩
  have hcell:∀ i j,i<len→j<sz→∃ v,w.cell? (a.add (i*sz+j))=some v:=by
   intro i j hil hj
   obtain ⟨cs',x',hc,_⟩:=hi i hil
   obtain ⟨_,hcl,hat⟩:=World.cells?_some hc
   have h1:=hat j hj
   rw [Go.Deep.add_add,zO (by omega)] at h1
   exact ⟨_,h1⟩
  simp only [List.cons.injEq,and_true] at hcs
  refine ⟨some a,len,cap,fun i j=>(w.cell? (a.add (i*sz+j))).getD undef,hcs,hl,hm,?_,?_⟩
  ·rcases zV len with h | h
   ·exact .inl h
   ·obtain ⟨v,hv⟩:=hcell 0 0 h h0
    rw [Nat.zero_mul,Nat.zero_add] at hv
    have hsp:a.spot=none:=by simpa [Addr.add] using World.cell?_spot hv
    have hlt:=Qew hv
    obtain ⟨b,off,spot⟩:=a
    simp only at hsp
    subst hsp
    refine .inr ⟨b,off,rfl,zJ _,by simpa [Addr.add] using hlt,fun i j hil hj=>?_⟩
    obtain ⟨v',hv'⟩:=hcell i j hil hj
    rw [L5] at hv'
    show _=some ((w.cell? ((⟨b,off,none⟩:Addr).add (i*sz+j))).getD undef)
    rw [L5,Nat.add_assoc,hv']
    rfl
  ·intro i hil
   obtain ⟨cs',x',hc,ht'⟩:=hi i hil
   obtain ⟨_,hcl,hat⟩:=World.cells?_some hc
   refine ⟨n,x',by omega,?_⟩
   have hcs':(zT sz).map (fun j=>(w.cell? (a.add (i*sz+j))).getD undef)=cs':=by
    apply List.ext_getElem?
    intro j
    by_cases hj:j<sz
    ·rw [List.getElem?_map,List.getElem?_range hj]
     have h1:=hat j hj
     rw [Go.Deep.add_add] at h1
     rw [zO (by omega:j<cs'.length)] at h1 ⊢
     simp [h1]
    ·rw [List.getElem?_eq_none (by simp; omega),List.getElem?_eq_none (by omega)]
   rw [hcs']
   exact ht'
theorem Yr {t:TypeId} {fs:Array Field} {fuel:Nat} {cs:List Value} {x:DataW H × List MemPlace} (ht:P.underlying t=some (.struct fs)) (h:DataW.trod enc P w base spare held fuel t cs=some x) :
  ∃ n,n<fuel∧cs.length=P.cellsOf t∧∀ (i:Nat) (f:Field),fs[i]?=some f→∃ y,DataW.trod enc P w base spare held n f.type ((cs.drop f.offset).take (P.cellsOf f.type))=some y:=by
 obtain ⟨xs,n,hn,hx,hlen,hxl,hf⟩:=DataW.trod_struct ht h
 refine ⟨n,by omega,hlen,fun i f hi=>?_⟩
 have hil:i<fs.size:=(zW.1 hi).1
 have h1:=hf i f hi
 rw [zO (by omega:i<xs.length)] at h1
 exact ⟨_,h1⟩
end
inductive Lvs (w:World):List D→List Value→Prop
 |nil:Lvs w [] []
 |cons {d:D} {v:Value} {ds:List D} {vs:List Value} (h:DAt w d v) (hs:Lvs w ds vs):Lvs w (d :: ds) (v :: vs)
theorem Lvs.len {w:World} {ds:List D} {vs:List Value} (h:Lvs w ds vs):ds.length=vs.length:=by
 induction h with
 | nil=>rfl
 | cons h hs ih=>simp [ih]
theorem Lvs.get {w:World} {ds:List D} {vs:List Value} (h:Lvs w ds vs):∀ j (h1:j<ds.length) (h2:j<vs.length),DAt w ds[j] vs[j]:=by
 induction h with
 | nil=>intro j h1; simp at h1
 | cons h hs ih =>
  intro j h1 h2
  cases j with
  | zero=>exact h
  | succ j=>exact ih j (by simpa using h1) (by simpa using h2)
theorem Ys {α:Type} [Inhabited α] (dd:α→List D) {w:World} {m len cap:Nat} {f:Nat→Nat→Value} {a:Option Addr} (hl:len≤cap) (hm:cap≤9223372036854775807) (hS:SlA w 0 m len f a)
  (hel:∀ i,i<len→∃ X:α,Lvs w (dd X) ((zT m).map (f i))):∃ xs:List α,DAt w (.arr (xs.map dd)) (.slice a len cap):=by
 obtain ⟨g,hg⟩:∃ g:Nat→α,∀ i,i<len→Lvs w (dd (g i)) ((zT m).map (f i)) :=
  ⟨fun i=>if h:i<len then (hel i h).choose else default,fun i hi=>by simp only [hi,dif_pos]; exact (hel i hi).choose_spec⟩
 refine ⟨(zT len).map g,?_⟩
 have hlen:(((zT len).map g).map dd).length=len:=by simp
 have:=DAt.Qe9 (w:=w) (es:=((zT len).map g).map dd) (sz:=m) (cap:=cap) (a:=a) (f:=f) (by rw [hlen]; exact hl) hm (by rw [hlen]; exact hS) (fun i hi=>by
  rw [hlen] at hi
  have:=(hg i hi).len
  simpa using this) (fun i j hi hj=>by
  rw [hlen] at hi
  have h1:=hg i hi
  have h2:=h1.len
  simp only [zC,List.length_range] at h2
  simp only [List.getElem_map,List.getElem_range] at hj ⊢
  have:=h1.get j hj (by simp; omega)
  simpa using this)
 rw [hlen] at this
 exact this
instance:Inhabited Tm:=⟨Tm.zero⟩
instance:Inhabited Fm:=⟨Fm.zero⟩
section
variable {H:Type} {enc:TypeId × Value→H} {w:World} {base:Nat} {spare:Nat→Bool} {held:Bool}
end
end Go.Proofs.YtepbennkcbmgoaaGreatDoor
set_option maxRecDepth 100000
set_option linter.unusedSimpArgs false
set_option linter.unusedVariables false
set_option linter.unusedSectionVars false
namespace Go.Proofs.YtepbennkcbmgoaaGreatDoor
open Go.RowKit
theorem DRep.lt_ {own:Bool} {w:World} {S:Nat→Prop} {d:D} {v:Value} (h:DRep own w S d v):DRep own w (fun b=>S b∧b<w.heap.size) d v:=by
 induction h with
 | int S n=>exact .int _ n
 | bool S b=>exact .bool _ b
 | str S s h=>exact .str _ s h
 | arr S sz es a cap f Sub h1 h2 h3 h4 h5 h6 h7 ih =>
  refine .arr _ sz es a cap f (fun i j x=>Sub i j x∧x<w.heap.size) h1 h2 ?_ h4 (fun i j x h=>⟨h5 i j x h.1,h.2⟩) (fun ho i j i' j' x h h'=>h6 ho i j i' j' x h.1 h'.1) ih
  rcases h3 with h3 | ⟨b,off,ha,hS,hl,hc,ho⟩
  ·exact .inl h3
  ·exact .inr ⟨b,off,ha,⟨hS,hl⟩,hl,hc,fun h=>⟨fun i j hx=>(ho h).1 i j hx.1,(ho h).2⟩⟩
theorem Fun.yes {f:FuncId} {args:List SV} (h:Fun Tryz.prog f args [] (.bool true) []) {w:World} {vs:List Value} (hgl:GL w fun b=>b<w.heap.size) (hvs:RepVs w (fun b=>b<w.heap.size) (fun _=>none) args vs):Calls Tryz.prog f vs.toArray w (Ret w (.bool true)):=by
 have nl:∀ g,¬ (Ap [] g).live:=fun g hg=>by simp [Ap,Ob.live] at hg
 refine (h w (fun b=>b<w.heap.size) (fun _=>none) (fun _ _=>False) vs ⟨fun b hb=>hb,fun g hg=>absurd hg (nl g),fun g b hg=>absurd hg (nl g),fun g b hg=>absurd hg (nl g),fun g g' b hg=>absurd hg (nl g),fun g _=>rfl,hgl⟩ hvs).mono ?_
 rintro e w' ⟨v,I',V',B',rfl,hr,hp⟩
 simp only [RepV] at hr
 subst hr
 exact ⟨rfl,hp.fr.os,hp.fr.tape.1,hp.fr.output,hp.fr.size,fun b hb=>hp.fr.block b hb fun ⟨g,hg,_⟩=>absurd hg (nl g)⟩
theorem Yt {w:World} {d:D} {ds:List D} {v:Value} {vs:List Value} (h:Lvs w (d :: ds) (v :: vs)):DAt w d v∧Lvs w ds vs:=by
 cases h with
 | cons h1 h2=>exact ⟨h1,h2⟩
theorem DAt.rep_sv {w:World} {d:D} {v:Value} (h:DAt w d v):RepV w (fun b=>b<w.heap.size) (fun _=>none) d.sv v :=
 D.rep_sv ((DRep.lt_ h).up fun b hb=>hb.2)
theorem Lvs.reps {w:World} {ds:List D} {vs:List Value} (h:Lvs w ds vs):RepVs w (fun b=>b<w.heap.size) (fun _=>none) (ds.map D.sv) vs:=by
 induction h with
 | nil=>simp [RepVs]
 | cons h hs ih=>simp only [zH,RepVs]; exact ⟨_,_,rfl,h.rep_sv,ih⟩
theorem Lvs.agg {w:World} {ds:List D} {vs:List Value} (h:Lvs w ds vs):RepV w (fun b=>b<w.heap.size) (fun _=>none) (.agg (ds.map D.sv)) (.agg vs.toArray):=by
 simp only [RepV]; exact ⟨vs,rfl,h.reps⟩
theorem Lvs.fits {w:World} {ds:List D} {vs:List Value} (h:Lvs w ds vs):D.fits ds:=by
 induction h with
 | nil=>trivial
 | cons h hs ih=>exact ⟨DRep.fit h,ih⟩
theorem Qd4 {w:World} {I:Nat→Prop} {V:Nat→Option Value}:RepVs w I V [] []:=by simp [RepVs]
theorem QbG {w:World} {I:Nat→Prop} {V:Nat→Option Value} {x:SV} {xs:List SV} {v:Value} {vs:List Value} (h:RepV w I V x v) (hs:RepVs w I V xs vs):RepVs w I V (x :: xs) (v :: vs):=by
 simp only [RepVs]; exact ⟨v,vs,rfl,h,hs⟩
instance:Inhabited Lt:=⟨Lt.zero⟩
instance:Inhabited Cl:=⟨Cl.zero⟩
section
variable {H:Type} {enc:TypeId × Value→H} {w:World} {base:Nat} {spare:Nat→Bool} {held:Bool}
theorem Qh {fuel:Nat} (ih:∀ n,n<fuel→∀ v x,DataW.trod enc Tryz.prog w base spare held n 22 [v]=some x→∃ xs:List Tm,DAt w (.arr (xs.map Tm.d)) v) {cs:List Value} {x:DataW H × List MemPlace} (h:DataW.trod enc Tryz.prog w base spare held fuel 24 cs=some x):∃ X:Tm,Lvs w X.d cs:=by
 obtain ⟨n,hn,hlen,hf⟩:=Yr Tryz.underlying24 h
 rw [show Tryz.prog.cellsOf 24=2 by kernel_rfl] at hlen
 match cs,hlen with
 | [c0,c1],_ =>
  obtain ⟨y0,k0⟩:=hf 0 _ rfl
  have e0:(([c0,c1].drop 0).take (Tryz.prog.cellsOf 9))=[c0]:=by rw [show Tryz.prog.cellsOf 9=1 by kernel_rfl]; rfl
  obtain ⟨z0,q0,_,s0⟩:=DataW.trod_string Tryz.underlying9 k0
  have q0':c0=.string z0:=by
   have:[c0]=[.string z0]:=by rw [←e0]; exact q0
   simpa using this
  obtain ⟨y1,k1⟩:=hf 1 _ rfl
  have e1:(([c0,c1].drop 1).take (Tryz.prog.cellsOf 22))=[c1]:=by rw [show Tryz.prog.cellsOf 22=1 by kernel_rfl]; rfl
  have k1':DataW.trod enc Tryz.prog w base spare held n 22 [c1]=some y1:=by rw [←e1]; exact k1
  obtain ⟨z1,g1⟩:=ih n hn c1 y1 k1'
  subst q0'
  exact ⟨.mk z0 z1,by rw [Tm.d_eq]; exact (.cons (.str _ z0 s0) (.cons g1 .nil))⟩
theorem Tw:∀ (fuel:Nat) (v:Value) (x:DataW H × List MemPlace),DataW.trod enc Tryz.prog w base spare held fuel 22 [v]=some x→∃ xs:List Tm,DAt w (.arr (xs.map Tm.d)) v:=by
 intro fuel
 induction fuel using Nat.strongRecOn with
 | _ fuel ih =>
  intro v x h
  obtain ⟨a,len,cap,f,rfl,hl,hm,hS,hr⟩:=Yq (P:=Tryz.prog) 2 (by kernel_rfl) (by omega) Tryz.underlying22 h
  exact Ys Tm.d hl hm hS fun i hi=>by
   obtain ⟨n,x',hn,h1⟩:=hr i hi
   exact Qh (fun n' hn'=>ih n' (by omega)) h1
theorem Qd5 {fuel:Nat} {cs:List Value} {x:DataW H × List MemPlace} (h:DataW.trod enc Tryz.prog w base spare held fuel 24 cs=some x):∃ X:Tm,Lvs w X.d cs :=
 Qh (fun n _=>Tw n) h
theorem L6 {fuel:Nat} (ih:∀ n,n<fuel→∀ v x,DataW.trod enc Tryz.prog w base spare held n 25 [v]=some x→∃ xs:List Fm,DAt w (.arr (xs.map Fm.d)) v) {cs:List Value} {x:DataW H × List MemPlace} (h:DataW.trod enc Tryz.prog w base spare held fuel 27 cs=some x):∃ X:Fm,Lvs w X.d cs:=by
 obtain ⟨n,hn,hlen,hf⟩:=Yr Tryz.underlying27 h
 rw [show Tryz.prog.cellsOf 27=5 by kernel_rfl] at hlen
 match cs,hlen with
 | [c0,c1,c2,c3,c4],_ =>
  obtain ⟨y0,k0⟩:=hf 0 _ rfl
  have e0:(([c0,c1,c2,c3,c4].drop 0).take (Tryz.prog.cellsOf 3))=[c0]:=by rw [show Tryz.prog.cellsOf 3=1 by kernel_rfl]; rfl
  obtain ⟨z0,q0,_,_⟩:=DataW.trod_int Tryz.underlying3 k0
  have q0':c0=.int .i64 z0:=by
   have:[c0]=[.int .i64 z0]:=by rw [←e0]; exact q0
   simpa using this
  obtain ⟨y1,k1⟩:=hf 1 _ rfl
  have e1:(([c0,c1,c2,c3,c4].drop 1).take (Tryz.prog.cellsOf 24))=[c1,c2]:=by rw [show Tryz.prog.cellsOf 24=2 by kernel_rfl]; rfl
  have k1':DataW.trod enc Tryz.prog w base spare held n 24 [c1,c2]=some y1:=by rw [←e1]; exact k1
  obtain ⟨z1,g1⟩:=Qd5 k1'
  rw [Tm.d_eq] at g1
  obtain ⟨g1_0,g1⟩:=Yt g1
  obtain ⟨g1_1,g1⟩:=Yt g1
  obtain ⟨y2,k2⟩:=hf 2 _ rfl
  have e2:(([c0,c1,c2,c3,c4].drop 3).take (Tryz.prog.cellsOf 9))=[c3]:=by rw [show Tryz.prog.cellsOf 9=1 by kernel_rfl]; rfl
  obtain ⟨z2,q2,_,s2⟩:=DataW.trod_string Tryz.underlying9 k2
  have q2':c3=.string z2:=by
   have:[c3]=[.string z2]:=by rw [←e2]; exact q2
   simpa using this
  obtain ⟨y3,k3⟩:=hf 3 _ rfl
  have e3:(([c0,c1,c2,c3,c4].drop 4).take (Tryz.prog.cellsOf 25))=[c4]:=by rw [show Tryz.prog.cellsOf 25=1 by kernel_rfl]; rfl
  have k3':DataW.trod enc Tryz.prog w base spare held n 25 [c4]=some y3:=by rw [←e3]; exact k3
  obtain ⟨z3,g3⟩:=ih n hn c4 y3 k3'
  subst q0' q2'
  exact ⟨.mk z0 z1 z2 z3,by rw [Fm.d_eq]; exact (.cons (.int _ z0) (.cons g1_0 (.cons g1_1 (.cons (.str _ z2 s2) (.cons g3 .nil)))))⟩
theorem P1:∀ (fuel:Nat) (v:Value) (x:DataW H × List MemPlace),DataW.trod enc Tryz.prog w base spare held fuel 25 [v]=some x→∃ xs:List Fm,DAt w (.arr (xs.map Fm.d)) v:=by
 intro fuel
 induction fuel using Nat.strongRecOn with
 | _ fuel ih =>
  intro v x h
  obtain ⟨a,len,cap,f,rfl,hl,hm,hS,hr⟩:=Yq (P:=Tryz.prog) 5 (by kernel_rfl) (by omega) Tryz.underlying25 h
  exact Ys Fm.d hl hm hS fun i hi=>by
   obtain ⟨n,x',hn,h1⟩:=hr i hi
   exact L6 (fun n' hn'=>ih n' (by omega)) h1
theorem Yu {fuel:Nat} {cs:List Value} {x:DataW H × List MemPlace} (h:DataW.trod enc Tryz.prog w base spare held fuel 27 cs=some x):∃ X:Fm,Lvs w X.d cs :=
 L6 (fun n _=>P1 n) h
end
end Go.Proofs.YtepbennkcbmgoaaGreatDoor
