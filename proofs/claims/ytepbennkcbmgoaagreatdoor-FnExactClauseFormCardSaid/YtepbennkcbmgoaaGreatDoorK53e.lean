/-
  Texts of this claim, one behind the other, each built on those ahead of it. No condition.
-/
import Derived.Test.YtepbennkcbmgoaaGreatDoorK53c
import Derived.Test.YtepbennkcbmgoaaGreatDoorK53d
set_option maxHeartbeats 16000000
open Bool renaming false_and → zA, true_and → zF, false_or → zS, and_false → yB, and_true → yE, not_false → yF, and_eq_true → yH, or_false → yJ, not_true → yK, true_or → yQ
open Nat renaming lt_or_ge → zB, zero_le → zH, eq_zero_or_pos → zK, lt_or_eq_of_le → zN, lt_succ_iff → zP, le_refl → zT, not_lt → zV, not_lt_zero → yM
open List renaming drop_eq_getElem_cons → zC, getElem_mem → zD, drop_eq_nil_of_le → zE, length_append → zG, drop_zero → zI, length_map → zJ, length_nil → zL, eq_nil_of_length_eq_zero → zM, map_nil → zO, map_append → zQ, append_assoc → zR, append_nil → zU, length_cons → zW, map_map → zX, getElem?_eq_getElem → zY, all_eq_true → zZ, length_take → z6, mem_singleton → z7, nil_append → yA, getElem_map → yC, take_of_length_le → yD, take_zero → yG, take_length → yI, mem_append → yL, take_succ_eq_append_getElem → yN, length_singleton → yO, length → yP, pairwise_iff_getElem → yS, flatMap_cons → yT, mem_map → yU, mem_range → yV, all_cons → yW
open Int renaming tdiv_eq_ediv_of_nonneg → z8, toNat_zero → yR
set_option maxRecDepth 100000
set_option linter.unusedSimpArgs false
set_option linter.unusedVariables false
set_option linter.unusedSectionVars false
namespace Go.Proofs.YtepbennkcbmgoaaGreatDoor
open Go.RowKit
def M3:SC:=(.seq (.reg [⟨some 1,none,.boxv 36 5 (.t 0)⟩,⟨some 2,none,.mv (.c (.int .i64 0))⟩]) (.seq (.reg [⟨some 3,none,.mv (.c (.int .i64 1))⟩]) (.seq (.seq (.reg [⟨some 6,none,.faddr 4 (.t 1)⟩,⟨some 7,none,.load false 1 (.t 6)⟩,⟨some 8,none,.len false (.t 7)⟩,⟨some 9,none,.mv (.c (.int .i64 0))⟩]) (.block 0 (.loop [0,0,0,1,0,0,0,1,1,1,0,0,0,0,0,0,0,0,0,0,0,0] (.seq (.reg [⟨some 10,none,.bin .lss false (.t 9) (.t 8)⟩]) (.seq (.cond (.t 10) .skip (.exit 0)) (.seq (.block 1 (.seq (.reg [⟨some 11,none,.iaddr 5 (.t 7) (.t 9)⟩,⟨some 12,none,.load true 5 (.t 11)⟩,⟨(some 5),none,(.alloc 36 [(.int .i64 0),(.str ⟨#[]⟩),.nil,(.str ⟨#[]⟩),.nil])⟩,⟨none,none,(.store 5 (.t 5) (.t 12))⟩]) (.seq (.seq (.reg [⟨some 13,none,.mv (.t 3)⟩,⟨some 14,none,.bin .gtr false (.t 13) (.c (.int .i64 40))⟩]) (.cond (.t 14) (.seq (.reg [⟨some 15,none,.mv (.t 3)⟩,⟨some 2,none,.mv (.t 15)⟩]) .ret) .skip)) (.reg [⟨some 16,none,.mv (.t 3)⟩,⟨some 17,none,.load true 5 (.t 5)⟩,⟨some 18,none,.call 116 [(.t 17)]⟩,⟨some 19,none,.bin .add false (.t 16) (.t 18)⟩,⟨some 3,none,.mv (.t 19)⟩])))) (.reg [⟨some 20,none,.bin .add false (.t 9) (.c (.int .i64 1))⟩,⟨some 9,none,.mv (.t 20)⟩]))))))) (.seq (.reg [⟨some 21,none,.mv (.t 3)⟩,⟨some 2,none,.mv (.t 21)⟩]) .ret))))
theorem Tk:codeOf Tryz.prog 116=some ⟨22,M3,[(.tmp 2)]⟩:=by kernel_rfl
theorem E4:modes 116=⟨[],.asis,none,false⟩:=by unfold modes; rfl
theorem Qda (x:Fm) (hn:x.nodes≤1099511627776) (ih:∀ y∈x.parts,E 116 [y.sv] []=some (.int .i64 y.cap,[])):E 116 [x.sv] []=some (.int .i64 x.cap,[]):=by
 have hl:=Fm.length_le x.parts
 have hx:=Fm.nodes_eq x
 rw [Fm.cap_eq]
 refine Af Tk E4 (of_decide_eq_true rfl) ?_
 simp (disch:=omega) only [M3,go_sem,Ab]
 refine go_loop (α:=Int × Int) (fun a=>⟨slots 22 0 [(3,.int .i64 a.2),(7,.arr (x.parts.map Fm.d)),(8,.int .i64 x.parts.length),(9,.int .i64 a.1)],[]⟩) (fun a=>∃ k:Nat,a.1=k∧k≤x.parts.length∧1≤a.2∧a.2+Fm.nodeS (x.parts.drop k)≤x.nodes∧Fm.capL (x.parts.drop k) a.2=Fm.capL x.parts 1) (fun a=>x.parts.length-a.1.toNat) (0,1) ⟨0,rfl,zH _,by dsimp only; omega,by rw [zI]; dsimp only; omega,rfl⟩ (by simp (disch:=omega) only [go_sem,Ab]) ?_
 rintro ⟨i,n⟩ ⟨k,hi,hk,hn0,hn1,hs⟩
 dsimp only at hi hn0 hn1 hs
 have hni:i.toNat=k:=by omega
 rcases zB k x.parts.length with hlt | hge
 ·have hg:=get_at Fm.d hlt
  rw [Fm.d_eq] at hg
  have hd:x.parts.drop k=x.parts[k] :: x.parts.drop (k+1):=zC hlt
  have hc:=ih x.parts[k] (zD hlt)
  have hp:=Fm.cap_spec x.parts[k]
  rw [hd,Fm.capL] at hs
  rw [hd,Fm.nodeS] at hn1
  rcases Int.lt_or_le 40 n with h30 | h30
  ·rw [if_pos h30] at hs
   simp (disch:=omega) only [go_sem,Ab,hni,hg,hc,E4]
   exact hs
  ·rw [if_neg (by omega)] at hs
   simp (disch:=omega) only [go_sem,Ab,hni,hg,hc,E4]
   refine ⟨(i+1,n+x.parts[k].cap),⟨k+1,by dsimp only; omega,hlt,by dsimp only; omega,by dsimp only; omega,hs⟩,by dsimp only; omega,?_⟩
   simp only [and_self]
 ·have hd:x.parts.drop k=[]:=zE hge
  rw [hd,Fm.capL] at hs
  simp (disch:=omega) only [go_sem,Ab,hni]
  exact hs
theorem QaA (x:Fm) (hn:x.nodes≤1099511627776):E 116 [x.sv] []=some (.int .i64 x.cap,[]) :=
 Qda x hn fun y hy=>QaA y (by have:=Fm.nodes_mem hy; have:=Fm.nodes_eq x; omega)
termination_by SizeOf.sizeOf x
decreasing_by exact Fm.lt_of_mem hy
def M4:SC:=(.seq (.reg [⟨some 2,none,.boxv 36 5 (.t 0)⟩,⟨some 4,none,.mv (.c (.int .i64 0))⟩]) (.seq (.reg [⟨some 5,none,.mv (.c (.int .i64 1))⟩]) (.seq (.seq (.reg [⟨some 6,none,.mv (.c (.int .i64 0))⟩]) (.block 0 (.loop [0,1,1,0,0,1,1,0,0,0,0,0,0,0,0,0,0,0,0,0,0,0,0,0,0,0,0,0,0,0,0] (.seq (.seq (.reg [⟨some 7,none,.mv (.t 6)⟩,⟨some 8,none,.faddr 4 (.t 2)⟩,⟨some 9,none,.load false 1 (.t 8)⟩,⟨some 10,none,.len false (.t 9)⟩,⟨some 11,none,.bin .lss false (.t 7) (.t 10)⟩,⟨some 12,none,.mv (.t 11)⟩,⟨(some 13),(some (12,true)),(.mv (.t 5))⟩,⟨(some 14),(some (12,true)),(.mv (.t 1))⟩,⟨(some 15),(some (12,true)),(.bin .leq false (.t 13) (.t 14))⟩,⟨some 16,none,.pick (.t 12) (.t 15) (.c (.bool false))⟩]) (.cond (.t 16) .skip (.exit 0))) (.seq (.block 1 (.reg [⟨some 19,none,.mv (.t 5)⟩,⟨some 20,none,.faddr 4 (.t 2)⟩,⟨some 21,none,.load false 1 (.t 20)⟩,⟨some 22,none,.mv (.t 6)⟩,⟨some 23,none,.iaddr 5 (.t 21) (.t 22)⟩,⟨some 24,none,.load true 5 (.t 23)⟩,⟨some 25,none,.mv (.t 1)⟩,⟨some 26,none,.mv (.t 5)⟩,⟨some 27,none,.bin .sub false (.t 25) (.t 26)⟩,⟨some 28,none,.call 108 [(.t 24),(.t 27)]⟩,⟨some 29,none,.bin .add false (.t 19) (.t 28)⟩,⟨some 5,none,.mv (.t 29)⟩])) (.reg [⟨some 17,none,.mv (.t 6)⟩,⟨some 18,none,.bin .add false (.t 17) (.c (.int .i64 1))⟩,⟨some 6,none,.mv (.t 18)⟩])))))) (.seq (.reg [⟨some 30,none,.mv (.t 5)⟩,⟨some 4,none,.mv (.t 30)⟩]) .ret))))
theorem Tl:codeOf Tryz.prog 108=some ⟨31,M4,[(.tmp 4)]⟩:=by kernel_rfl
theorem E5:modes 108=⟨[],.asis,none,false⟩:=by unfold modes; rfl
theorem Qdb (x:Fm) (m:Int) (hm:0≤m) (hm1:m≤1099511627776) (hn:x.nodes≤1099511627776) (ih:∀ y∈x.parts,∀ m:Int,0≤m→m≤1099511627776→E 108 [y.sv,.int .i64 m] []=some (.int .i64 (y.many m),[])):E 108 [x.sv,.int .i64 m] []=some (.int .i64 (x.many m),[]):=by
 have hl:=Fm.length_le x.parts
 have hx:=Fm.nodes_eq x
 rw [Fm.many_eq]
 refine Af Tl E5 (of_decide_eq_true rfl) ?_
 simp (disch:=omega) only [M4,go_sem,Ab]
 refine go_loop (α:=Int × Int) (fun a=>⟨slots 31 0 [(1,.int .i64 m),(2,.ptr 0 0),(5,.int .i64 a.2),(6,.int .i64 a.1)],[.box 36 [.int .i64 x.op,.str x.atom.name,.arr (x.atom.args.map Tm.d),.str x.var,.arr (x.parts.map Fm.d)]]⟩) (fun a=>∃ k:Nat,a.1=k∧k≤x.parts.length∧1≤a.2∧a.2+Fm.nodeS (x.parts.drop k)≤x.nodes∧Fm.manyL (x.parts.drop k) m a.2=Fm.manyL x.parts m 1) (fun a=>x.parts.length-a.1.toNat) (0,1) ⟨0,rfl,zH _,by dsimp only; omega,by rw [zI]; dsimp only; omega,rfl⟩ (by simp (disch:=omega) only [go_sem,Ab]) ?_
 rintro ⟨i,n⟩ ⟨k,hi,hk,hn0,hn1,hs⟩
 dsimp only at hi hn0 hn1 hs
 have hni:i.toNat=k:=by omega
 rcases zB k x.parts.length with hlt | hge
 ·have hg:=get_at Fm.d hlt
  rw [Fm.d_eq] at hg
  have hd:x.parts.drop k=x.parts[k] :: x.parts.drop (k+1):=zC hlt
  rw [hd,Fm.manyL] at hs
  rw [hd,Fm.nodeS] at hn1
  rcases Int.lt_or_le m n with h30 | h30
  ·rw [if_neg (by omega)] at hs
   simp (disch:=omega) only [go_sem,Ab,hni,hg,E5]
   exact hs
  ·rw [if_pos h30] at hs
   have hc:=ih x.parts[k] (zD hlt) (m-n) (by omega) (by omega)
   have hp:=Fm.many_spec x.parts[k] (m-n)
   simp (disch:=omega) only [go_sem,Ab,hni,hg,hc,E5]
   refine ⟨(i+1,n+x.parts[k].many (m-n)),⟨k+1,by dsimp only; omega,hlt,by dsimp only; omega,by dsimp only; omega,hs⟩,by dsimp only; omega,?_⟩
   simp only [and_self]
 ·have hd:x.parts.drop k=[]:=zE hge
  rw [hd,Fm.manyL] at hs
  simp (disch:=omega) only [go_sem,Ab,hni]
  exact hs
theorem QaB (x:Fm) (m:Int) (hm:0≤m) (hm1:m≤1099511627776) (hn:x.nodes≤1099511627776):E 108 [x.sv,.int .i64 m] []=some (.int .i64 (x.many m),[]) :=
 Qdb x m hm hm1 hn fun y hy m hm hm1=>QaB y m hm hm1 (by have:=Fm.nodes_mem hy; have:=Fm.nodes_eq x; omega)
termination_by SizeOf.sizeOf x
decreasing_by exact Fm.lt_of_mem hy
def Ev:SC:=(.seq (.reg [⟨some 2,none,.mv (.c (.bool false))⟩]) (.seq (.reg [⟨some 3,none,.mv (.t 0)⟩,⟨some 4,none,.bin .eql false (.t 3) (.c (.int .i64 8))⟩,⟨some 5,none,.mv (.t 4)⟩,⟨(some 6),(some (5,false)),(.mv (.t 0))⟩,⟨(some 7),(some (5,false)),(.bin .eql false (.t 6) (.c (.int .i64 9)))⟩,⟨some 8,none,.pick (.t 5) (.c (.bool true)) (.t 7)⟩,⟨some 2,none,.mv (.t 8)⟩]) .ret))
theorem GA:codeOf Tryz.prog 175=some ⟨9,Ev,[(.tmp 2)]⟩:=by kernel_rfl
theorem Ac:modes 175=⟨[],.asis,none,false⟩:=by unfold modes; rfl
def Kq:SC:=(.seq (.reg [⟨some 2,none,.mv (.c (.bool false))⟩]) (.seq (.reg [⟨some 3,none,.mv (.t 0)⟩,⟨some 4,none,.bin .eql false (.t 3) (.c (.int .i64 5))⟩,⟨some 5,none,.mv (.t 4)⟩,⟨(some 6),(some (5,false)),(.mv (.t 0))⟩,⟨(some 7),(some (5,false)),(.bin .eql false (.t 6) (.c (.int .i64 6)))⟩,⟨some 8,none,.pick (.t 5) (.c (.bool true)) (.t 7)⟩,⟨some 9,none,.mv (.t 8)⟩,⟨(some 10),(some (9,false)),(.mv (.t 0))⟩,⟨(some 11),(some (9,false)),(.bin .eql false (.t 10) (.c (.int .i64 7)))⟩,⟨some 12,none,.pick (.t 9) (.c (.bool true)) (.t 11)⟩,⟨some 2,none,.mv (.t 12)⟩]) .ret))
theorem Q0:codeOf Tryz.prog 176=some ⟨13,Kq,[(.tmp 2)]⟩:=by kernel_rfl
theorem Ai:modes 176=⟨[],.asis,none,false⟩:=by unfold modes; rfl
def Fs:SC:=(.seq (.reg [⟨some 1,none,.boxv 33 2 (.t 0)⟩,⟨some 2,none,.mv (.c (.bool false))⟩]) (.seq (.reg [⟨some 3,none,.faddr 0 (.t 1)⟩,⟨some 4,none,.load false 1 (.t 3)⟩,⟨(some 5),none,(.bin .eql false (.t 4) (.c (.str ⟨#[]⟩)))⟩,⟨some 6,none,.mv (.t 5)⟩,⟨(some 7),(some (6,true)),(.faddr 1 (.t 1))⟩,⟨(some 8),(some (6,true)),(.load false 1 (.t 7))⟩,⟨(some 9),(some (6,true)),(.len false (.t 8))⟩,⟨(some 10),(some (6,true)),(.bin .eql false (.t 9) (.c (.int .i64 0)))⟩,⟨some 11,none,.pick (.t 6) (.t 10) (.c (.bool false))⟩,⟨some 2,none,.mv (.t 11)⟩]) .ret))
theorem Ir:codeOf Tryz.prog 179=some ⟨12,Fs,[(.tmp 2)]⟩:=by kernel_rfl
theorem Ah:modes 179=⟨[],.asis,none,false⟩:=by unfold modes; rfl
def IH:SC:=(.seq (.reg [⟨some 1,none,.boxv 33 2 (.t 0)⟩,⟨some 2,none,.mv (.c (.bool false))⟩]) (.seq (.reg [⟨some 3,none,.faddr 0 (.t 1)⟩,⟨some 4,none,.load false 1 (.t 3)⟩,⟨(some 5),none,(.bin .eql false (.t 4) (.c (.str ⟨#[]⟩)))⟩,⟨some 6,none,.mv (.t 5)⟩,⟨(some 7),(some (6,true)),(.faddr 1 (.t 1))⟩,⟨(some 8),(some (6,true)),(.load false 1 (.t 7))⟩,⟨(some 9),(some (6,true)),(.len false (.t 8))⟩,⟨(some 10),(some (6,true)),(.bin .eql false (.t 9) (.c (.int .i64 0)))⟩,⟨some 11,none,.pick (.t 6) (.t 10) (.c (.bool false))⟩,⟨some 2,none,.mv (.t 11)⟩]) .ret))
theorem M5:codeOf Tryz.prog 236=some ⟨12,IH,[(.tmp 2)]⟩:=by kernel_rfl
theorem Am:modes 236=⟨[],.asis,none,false⟩:=by unfold modes; rfl
def Bu:SC:=(.seq (.reg [⟨some 4,none,.mv (.c (.int .i64 0))⟩]) (.seq (.seq (.reg [⟨some 6,none,.mv (.t 0)⟩,⟨some 7,none,.len false (.t 6)⟩,⟨some 8,none,.mv (.c (.int .i64 0))⟩]) (.block 0 (.loop [1,1,0,0,0,0,0,1,1,0,0,0,0,0,0,0,0,0,0] (.seq (.reg [⟨some 9,none,.bin .lss false (.t 8) (.t 7)⟩]) (.seq (.cond (.t 9) .skip (.exit 0)) (.seq (.block 1 (.seq (.reg [⟨some 10,none,.mv (.t 8)⟩,⟨some 5,none,.mv (.t 10)⟩]) (.seq (.reg [⟨some 11,none,.mv (.t 1)⟩,⟨some 12,none,.mv (.t 0)⟩,⟨some 13,none,.mv (.t 5)⟩,⟨some 14,none,.iaddr 5 (.t 12) (.t 13)⟩,⟨some 15,none,.load true 5 (.t 14)⟩,⟨some 16,none,.callv (.t 11) [(.t 15)]⟩]) (.cond (.t 16) (.seq (.reg [⟨some 17,none,.mv (.t 5)⟩,⟨some 4,none,.mv (.t 17)⟩]) .ret) .skip)))) (.reg [⟨some 18,none,.bin .add false (.t 8) (.c (.int .i64 1))⟩,⟨some 8,none,.mv (.t 18)⟩]))))))) (.seq (.reg [⟨some 4,none,.mv (.c (.int .i64 (-(0+1))))⟩]) .ret)))
theorem BT:codeOf Tryz.prog 183=some ⟨19,Bu,[(.tmp 4)]⟩:=by kernel_rfl
theorem AJ:modes 183=⟨[],.asis,none,false⟩:=by unfold modes; rfl
def Bi:SC:=(.seq (.reg [⟨some 4,none,.mv (.c (.bool false))⟩]) (.seq (.reg [⟨some 5,none,.mv (.t 0)⟩,⟨some 6,none,.mv (.t 1)⟩,⟨some 7,none,.call 183 [(.t 5),(.t 6)]⟩,⟨some 8,none,.bin .geq false (.t 7) (.c (.int .i64 0))⟩,⟨some 4,none,.mv (.t 8)⟩]) .ret))
theorem BG:codeOf Tryz.prog 121=some ⟨9,Bi,[(.tmp 4)]⟩:=by kernel_rfl
theorem Aa:modes 121=⟨[],.asis,none,false⟩:=by unfold modes; rfl
theorem Q1 (fid:Nat) (p:Fm→Bool) (xs:List Fm) (hl:xs.length≤1099511627776) (hg:GD Tryz.prog fid=true) (hm:(modes fid).hand=[]) (hE:∀ x∈xs,E fid [x.sv] []=some (.bool (p x),[])):E 183 [.arr (xs.map Fm.d),.fn fid []] []=some (.int .i64 (DI p xs 0),[]):=by
 refine Af BT AJ (of_decide_eq_true rfl) ?_
 simp (disch:=omega) only [Bu,go_sem,Ab]
 refine go_loop (α:=Int) (fun a=>⟨slots 19 0 [(0,.arr (xs.map Fm.d)),(1,.fn fid []),(7,.int .i64 xs.length),(8,.int .i64 a)],[]⟩) (fun a=>∃ k:Nat,a=k∧k≤(xs).length∧DI p (xs.drop k) a=DI p xs 0) (fun a=>(xs).length-(a).toNat) 0 ⟨0,rfl,zH _,by rw [zI]⟩ (by simp (disch:=omega) only [go_sem,Ab]) ?_
 rintro i ⟨k,hi,hk,hR⟩
 have hni:i.toNat=k:=by omega
 have hni1:(i+1).toNat=k+1:=by omega
 rcases zB k (xs).length with hlt | hge
 ·have hg':=get_at Fm.d hlt
  rw [Fm.d_eq] at hg'
  have hc:=hE xs[k] (zD hlt)
  rw [zC hlt,DI] at hR
  cases hp:p xs[k] with
  | true =>
   rw [hp] at hc hR
   simp (disch:=omega) only [go_sem,Ab,hni,hg',hc,hg,hm]
   simpa using hR
  | false =>
   rw [hp] at hc hR
   simp (disch:=omega) only [go_sem,Ab,hni,hg',hc,hg,hm]
   exact ⟨i+1,⟨k+1,by omega,hlt,by simpa using hR⟩,by omega,by first | trivial | rfl⟩
 ·rw [zE hge,DI] at hR
  simp (disch:=omega) only [go_sem,Ab,hni]
  exact hR
theorem H3 (fid:Nat) (p:Fm→Bool) (xs:List Fm) (hl:xs.length≤1099511627776) (hg:GD Tryz.prog fid=true) (hm:(modes fid).hand=[]) (hE:∀ x∈xs,E fid [x.sv] []=some (.bool (p x),[])):E 121 [.arr (xs.map Fm.d),.fn fid []] []=some (.bool (xs.any p),[]):=by
 have h:=Q1 fid p xs hl hg hm hE
 refine Af BG Aa (of_decide_eq_true rfl) ?_
 simp (disch:=omega) only [Bi,go_sem,Ab,h,AJ]
 rw [IY]
def A1:SC:=(.seq (.reg [⟨some 1,none,.boxv 36 5 (.t 0)⟩,⟨some 2,none,.mv (.c (.bool false))⟩]) (.seq (.reg [⟨some 3,none,.mv (.c (.int .i64 0))⟩]) (.seq (.block 0 (.seq (.seq (.reg [⟨some 5,none,.faddr 0 (.t 1)⟩,⟨some 6,none,.load false 1 (.t 5)⟩,⟨some 7,none,.bin .eql false (.t 6) (.c (.int .i64 1))⟩,⟨some 4,none,.mv (.t 7)⟩]) (.cond (.t 4) .skip (.seq (.reg [⟨some 8,none,.faddr 0 (.t 1)⟩,⟨some 9,none,.load false 1 (.t 8)⟩,⟨some 10,none,.bin .eql false (.t 9) (.c (.int .i64 2))⟩,⟨some 4,none,.mv (.t 10)⟩]) (.cond (.t 4) .skip (.reg [⟨some 11,none,.faddr 0 (.t 1)⟩,⟨some 12,none,.load false 1 (.t 11)⟩,⟨some 13,none,.bin .eql false (.t 12) (.c (.int .i64 3))⟩,⟨some 4,none,.mv (.t 13)⟩]))))) (.cond (.t 4) .skip (.seq (.seq (.reg [⟨some 15,none,.faddr 0 (.t 1)⟩,⟨some 16,none,.load false 1 (.t 15)⟩,⟨some 17,none,.bin .eql false (.t 16) (.c (.int .i64 4))⟩,⟨some 14,none,.mv (.t 17)⟩]) (.cond (.t 14) .skip (.reg [⟨some 18,none,.faddr 0 (.t 1)⟩,⟨some 19,none,.load false 1 (.t 18)⟩,⟨some 20,none,.call 175 [(.t 19)]⟩,⟨some 14,none,.mv (.t 20)⟩]))) (.cond (.t 14) (.reg [⟨some 3,none,.mv (.c (.int .i64 1))⟩]) (.seq (.reg [⟨some 22,none,.faddr 0 (.t 1)⟩,⟨some 23,none,.load false 1 (.t 22)⟩,⟨some 24,none,.call 176 [(.t 23)]⟩,⟨some 21,none,.mv (.t 24)⟩]) (.cond (.t 21) (.reg [⟨some 3,none,.mv (.c (.int .i64 2))⟩]) (.seq (.reg [⟨some 2,none,.mv (.c (.bool false))⟩]) .ret)))))))) (.seq (.seq (.reg [⟨some 25,none,.faddr 4 (.t 1)⟩,⟨some 26,none,.load false 1 (.t 25)⟩,⟨some 27,none,.len false (.t 26)⟩,⟨some 28,none,.mv (.t 3)⟩,⟨some 29,none,.bin .neq false (.t 27) (.t 28)⟩,⟨some 30,none,.mv (.t 29)⟩,⟨(some 31),(some (30,false)),(.faddr 0 (.t 1))⟩,⟨(some 32),(some (30,false)),(.load false 1 (.t 31))⟩,⟨(some 33),(some (30,false)),(.call 175 [(.t 32)])⟩,⟨(some 34),(some (30,false)),(.mv (.t 33))⟩,⟨(some 35),(some (34,true)),(.faddr 3 (.t 1))⟩,⟨(some 36),(some (34,true)),(.load false 1 (.t 35))⟩,⟨(some 37),(some (34,true)),(.call 177 [(.t 36)])⟩,⟨(some 38),(some (34,true)),(.un .not (.t 37))⟩,⟨(some 39),(some (30,false)),(.pick (.t 34) (.t 38) (.c (.bool false)))⟩,⟨some 40,none,.pick (.t 30) (.c (.bool true)) (.t 39)⟩,⟨some 41,none,.mv (.t 40)⟩,⟨(some 42),(some (41,false)),(.faddr 0 (.t 1))⟩,⟨(some 43),(some (41,false)),(.load false 1 (.t 42))⟩,⟨(some 44),(some (41,false)),(.call 175 [(.t 43)])⟩,⟨(some 45),(some (41,false)),(.un .not (.t 44))⟩,⟨(some 46),(some (41,false)),(.mv (.t 45))⟩,⟨(some 47),(some (46,true)),(.faddr 3 (.t 1))⟩,⟨(some 48),(some (46,true)),(.load false 1 (.t 47))⟩,⟨(some 49),(some (46,true)),(.bin .neq false (.t 48) (.c (.str ⟨#[]⟩)))⟩,⟨(some 50),(some (41,false)),(.pick (.t 46) (.t 49) (.c (.bool false)))⟩,⟨some 51,none,.pick (.t 41) (.c (.bool true)) (.t 50)⟩]) (.cond (.t 51) (.seq (.reg [⟨some 2,none,.mv (.c (.bool false))⟩]) .ret) .skip)) (.seq (.seq (.reg [⟨some 52,none,.faddr 0 (.t 1)⟩,⟨some 53,none,.load false 1 (.t 52)⟩,⟨some 54,none,.bin .eql false (.t 53) (.c (.int .i64 3))⟩,⟨some 55,none,.mv (.t 54)⟩,⟨(some 56),(some (55,true)),(.faddr 1 (.t 1))⟩,⟨(some 57),(some (55,true)),(.load true 2 (.t 56))⟩,⟨(some 58),(some (55,true)),(.call 178 [(.t 57)])⟩,⟨(some 59),(some (55,true)),(.un .not (.t 58))⟩,⟨some 60,none,.pick (.t 55) (.t 59) (.c (.bool false))⟩,⟨some 61,none,.mv (.t 60)⟩,⟨(some 62),(some (61,false)),(.faddr 0 (.t 1))⟩,⟨(some 63),(some (61,false)),(.load false 1 (.t 62))⟩,⟨(some 64),(some (61,false)),(.bin .neq false (.t 63) (.c (.int .i64 3)))⟩,⟨(some 65),(some (61,false)),(.mv (.t 64))⟩,⟨(some 66),(some (65,true)),(.faddr 1 (.t 1))⟩,⟨(some 67),(some (65,true)),(.load true 2 (.t 66))⟩,⟨(some 68),(some (65,true)),(.call 179 [(.t 67)])⟩,⟨(some 69),(some (65,true)),(.un .not (.t 68))⟩,⟨(some 70),(some (61,false)),(.pick (.t 65) (.t 69) (.c (.bool false)))⟩,⟨some 71,none,.pick (.t 61) (.c (.bool true)) (.t 70)⟩]) (.cond (.t 71) (.seq (.reg [⟨some 2,none,.mv (.c (.bool false))⟩]) .ret) .skip)) (.seq (.reg [⟨some 72,none,.faddr 4 (.t 1)⟩,⟨some 73,none,.load false 1 (.t 72)⟩,⟨some 74,none,.call 121 [(.t 73),(.c (.fn 180 []))]⟩,⟨some 75,none,.un .not (.t 74)⟩,⟨some 2,none,.mv (.t 75)⟩]) .ret))))))
theorem A5:codeOf Tryz.prog 117=some ⟨76,A1,[(.tmp 2)]⟩:=by kernel_rfl
theorem Ax:modes 117=⟨[],.asis,none,false⟩:=by unfold modes; rfl
def Jr:SC:=(.seq (.reg [⟨some 1,none,.boxv 36 5 (.t 0)⟩,⟨some 2,none,.mv (.c (.bool false))⟩]) (.seq (.reg [⟨some 3,none,.load true 5 (.t 1)⟩,⟨some 4,none,.call 117 [(.t 3)]⟩,⟨some 5,none,.un .not (.t 4)⟩,⟨some 2,none,.mv (.t 5)⟩]) .ret))
theorem Pp:codeOf Tryz.prog 180=some ⟨6,Jr,[(.tmp 2)]⟩:=by kernel_rfl
theorem Js:modes 180=⟨[],.asis,none,false⟩:=by unfold modes; rfl
theorem Pq:GD Tryz.prog 180=true:=by kernel_rfl
def AT:SC:=(.seq (.reg [⟨some 1,none,.boxv 36 5 (.t 0)⟩,⟨some 2,none,.mv (.c (.bool false))⟩]) (.seq (.reg [⟨some 4,none,.faddr 4 (.t 1)⟩,⟨some 5,none,.load false 1 (.t 4)⟩,⟨some 6,none,.len false (.t 5)⟩,⟨some 3,none,.mv (.t 6)⟩]) (.seq (.seq (.reg [⟨some 7,none,.faddr 0 (.t 1)⟩,⟨some 8,none,.load false 1 (.t 7)⟩]) (.block 0 (.seq (.seq (.reg [⟨some 10,none,.bin .eql false (.t 8) (.c (.int .i64 1))⟩,⟨some 9,none,.mv (.t 10)⟩]) (.cond (.t 9) .skip (.reg [⟨some 11,none,.bin .eql false (.t 8) (.c (.int .i64 2))⟩,⟨some 9,none,.mv (.t 11)⟩]))) (.cond (.t 9) (.seq (.reg [⟨some 12,none,.mv (.t 3)⟩,⟨some 13,none,.bin .eql false (.t 12) (.c (.int .i64 0))⟩,⟨some 14,none,.mv (.t 13)⟩,⟨(some 15),(some (14,true)),(.faddr 1 (.t 1))⟩,⟨(some 16),(some (14,true)),(.load true 2 (.t 15))⟩,⟨(some 17),(some (14,true)),(.call 236 [(.t 16)])⟩,⟨some 18,none,.pick (.t 14) (.t 17) (.c (.bool false))⟩,⟨some 19,none,.mv (.t 18)⟩,⟨(some 20),(some (19,true)),(.faddr 3 (.t 1))⟩,⟨(some 21),(some (19,true)),(.load false 1 (.t 20))⟩,⟨(some 22),(some (19,true)),(.bin .eql false (.t 21) (.c (.str ⟨#[]⟩)))⟩,⟨some 23,none,.pick (.t 19) (.t 22) (.c (.bool false))⟩,⟨some 2,none,.mv (.t 23)⟩]) .ret) (.seq (.reg [⟨some 25,none,.bin .eql false (.t 8) (.c (.int .i64 3))⟩,⟨some 24,none,.mv (.t 25)⟩]) (.cond (.t 24) (.seq (.reg [⟨some 26,none,.mv (.t 3)⟩,⟨some 27,none,.bin .eql false (.t 26) (.c (.int .i64 0))⟩,⟨some 28,none,.mv (.t 27)⟩,⟨(some 29),(some (28,true)),(.faddr 1 (.t 1))⟩,⟨(some 30),(some (28,true)),(.load true 2 (.t 29))⟩,⟨(some 31),(some (28,true)),(.call 194 [(.t 30)])⟩,⟨some 32,none,.pick (.t 28) (.t 31) (.c (.bool false))⟩,⟨some 33,none,.mv (.t 32)⟩,⟨(some 34),(some (33,true)),(.faddr 3 (.t 1))⟩,⟨(some 35),(some (33,true)),(.load false 1 (.t 34))⟩,⟨(some 36),(some (33,true)),(.bin .eql false (.t 35) (.c (.str ⟨#[]⟩)))⟩,⟨some 37,none,.pick (.t 33) (.t 36) (.c (.bool false))⟩,⟨some 2,none,.mv (.t 37)⟩]) .ret) (.seq (.reg [⟨some 39,none,.bin .eql false (.t 8) (.c (.int .i64 4))⟩,⟨some 38,none,.mv (.t 39)⟩]) (.cond (.t 38) (.seq (.reg [⟨some 40,none,.mv (.t 3)⟩,⟨some 41,none,.bin .eql false (.t 40) (.c (.int .i64 1))⟩,⟨some 42,none,.mv (.t 41)⟩,⟨(some 43),(some (42,true)),(.faddr 1 (.t 1))⟩,⟨(some 44),(some (42,true)),(.load true 2 (.t 43))⟩,⟨(some 45),(some (42,true)),(.call 236 [(.t 44)])⟩,⟨some 46,none,.pick (.t 42) (.t 45) (.c (.bool false))⟩,⟨some 47,none,.mv (.t 46)⟩,⟨(some 48),(some (47,true)),(.faddr 3 (.t 1))⟩,⟨(some 49),(some (47,true)),(.load false 1 (.t 48))⟩,⟨(some 50),(some (47,true)),(.bin .eql false (.t 49) (.c (.str ⟨#[]⟩)))⟩,⟨some 51,none,.pick (.t 47) (.t 50) (.c (.bool false))⟩,⟨some 2,none,.mv (.t 51)⟩]) .ret) (.seq (.seq (.reg [⟨some 53,none,.bin .eql false (.t 8) (.c (.int .i64 5))⟩,⟨some 52,none,.mv (.t 53)⟩]) (.cond (.t 52) .skip (.seq (.reg [⟨some 54,none,.bin .eql false (.t 8) (.c (.int .i64 6))⟩,⟨some 52,none,.mv (.t 54)⟩]) (.cond (.t 52) .skip (.reg [⟨some 55,none,.bin .eql false (.t 8) (.c (.int .i64 7))⟩,⟨some 52,none,.mv (.t 55)⟩]))))) (.cond (.t 52) (.seq (.reg [⟨some 56,none,.mv (.t 3)⟩,⟨some 57,none,.bin .eql false (.t 56) (.c (.int .i64 2))⟩,⟨some 58,none,.mv (.t 57)⟩,⟨(some 59),(some (58,true)),(.faddr 1 (.t 1))⟩,⟨(some 60),(some (58,true)),(.load true 2 (.t 59))⟩,⟨(some 61),(some (58,true)),(.call 236 [(.t 60)])⟩,⟨some 62,none,.pick (.t 58) (.t 61) (.c (.bool false))⟩,⟨some 63,none,.mv (.t 62)⟩,⟨(some 64),(some (63,true)),(.faddr 3 (.t 1))⟩,⟨(some 65),(some (63,true)),(.load false 1 (.t 64))⟩,⟨(some 66),(some (63,true)),(.bin .eql false (.t 65) (.c (.str ⟨#[]⟩)))⟩,⟨some 67,none,.pick (.t 63) (.t 66) (.c (.bool false))⟩,⟨some 2,none,.mv (.t 67)⟩]) .ret) (.seq (.seq (.reg [⟨some 69,none,.bin .eql false (.t 8) (.c (.int .i64 8))⟩,⟨some 68,none,.mv (.t 69)⟩]) (.cond (.t 68) .skip (.reg [⟨some 70,none,.bin .eql false (.t 8) (.c (.int .i64 9))⟩,⟨some 68,none,.mv (.t 70)⟩]))) (.cond (.t 68) (.seq (.reg [⟨some 71,none,.mv (.t 3)⟩,⟨some 72,none,.bin .eql false (.t 71) (.c (.int .i64 1))⟩,⟨some 73,none,.mv (.t 72)⟩,⟨(some 74),(some (73,true)),(.faddr 1 (.t 1))⟩,⟨(some 75),(some (73,true)),(.load true 2 (.t 74))⟩,⟨(some 76),(some (73,true)),(.call 236 [(.t 75)])⟩,⟨some 77,none,.pick (.t 73) (.t 76) (.c (.bool false))⟩,⟨some 78,none,.mv (.t 77)⟩,⟨(some 79),(some (78,true)),(.faddr 3 (.t 1))⟩,⟨(some 80),(some (78,true)),(.load false 1 (.t 79))⟩,⟨(some 81),(some (78,true)),(.call 191 [(.t 80)])⟩,⟨some 82,none,.pick (.t 78) (.t 81) (.c (.bool false))⟩,⟨some 2,none,.mv (.t 82)⟩]) .ret) .skip)))))))))))) (.seq (.reg [⟨some 2,none,.mv (.c (.bool false))⟩]) .ret))))
theorem AX:codeOf Tryz.prog 171=some ⟨83,AT,[(.tmp 2)]⟩:=by kernel_rfl
theorem AM:modes 171=⟨[],.asis,none,false⟩:=by unfold modes; rfl
def H4:SC:=(.seq (.reg [⟨some 1,none,.boxv 36 5 (.t 0)⟩,⟨some 2,none,.mv (.c (.bool false))⟩]) (.seq (.seq (.reg [⟨some 4,none,.load true 5 (.t 1)⟩,⟨some 5,none,.call 171 [(.t 4)]⟩,⟨some 6,none,.un .not (.t 5)⟩]) (.cond (.t 6) (.seq (.reg [⟨some 2,none,.mv (.c (.bool false))⟩]) .ret) .skip)) (.seq (.seq (.reg [⟨some 3,none,.mv (.c (.int .i64 0))⟩]) (.block 0 (.loop [0,1,0,1,0,0,0,0,0,0,0,0,0,0,0,0,0,0,0,0,0] (.seq (.seq (.reg [⟨some 7,none,.mv (.t 3)⟩,⟨some 8,none,.faddr 4 (.t 1)⟩,⟨some 9,none,.load false 1 (.t 8)⟩,⟨some 10,none,.len false (.t 9)⟩,⟨some 11,none,.bin .lss false (.t 7) (.t 10)⟩]) (.cond (.t 11) .skip (.exit 0))) (.seq (.block 1 (.seq (.reg [⟨some 14,none,.faddr 4 (.t 1)⟩,⟨some 15,none,.load false 1 (.t 14)⟩,⟨some 16,none,.mv (.t 3)⟩,⟨some 17,none,.iaddr 5 (.t 15) (.t 16)⟩,⟨some 18,none,.load true 5 (.t 17)⟩,⟨some 19,none,.call 109 [(.t 18)]⟩,⟨some 20,none,.un .not (.t 19)⟩]) (.cond (.t 20) (.seq (.reg [⟨some 2,none,.mv (.c (.bool false))⟩]) .ret) .skip))) (.reg [⟨some 12,none,.mv (.t 3)⟩,⟨some 13,none,.bin .add false (.t 12) (.c (.int .i64 1))⟩,⟨some 3,none,.mv (.t 13)⟩])))))) (.seq (.reg [⟨some 2,none,.mv (.c (.bool true))⟩]) .ret))))
theorem Ls:codeOf Tryz.prog 109=some ⟨21,H4,[(.tmp 2)]⟩:=by kernel_rfl
theorem Dn:modes 109=⟨[],.asis,none,false⟩:=by unfold modes; rfl
def DJ:SC:=(.seq (.reg [⟨some 1,none,.boxv 36 5 (.t 0)⟩,⟨some 2,none,.mv (.c (.bool false))⟩]) (.seq (.reg [⟨some 3,none,.load true 5 (.t 1)⟩,⟨some 4,none,.call 116 [(.t 3)]⟩,⟨some 5,none,.bin .leq false (.t 4) (.c (.int .i64 40))⟩,⟨some 6,none,.mv (.t 5)⟩,⟨(some 7),(some (6,true)),(.load true 5 (.t 1))⟩,⟨(some 8),(some (6,true)),(.call 117 [(.t 7)])⟩,⟨some 9,none,.pick (.t 6) (.t 8) (.c (.bool false))⟩,⟨some 2,none,.mv (.t 9)⟩]) .ret))
theorem F4:codeOf Tryz.prog 53=some ⟨10,DJ,[(.tmp 2)]⟩:=by kernel_rfl
theorem Bo:modes 53=⟨[],.asis,none,false⟩:=by unfold modes; rfl
def II:SC:=(.seq (.reg [⟨some 1,none,.boxv 36 5 (.t 0)⟩,⟨some 2,none,.mv (.c (.bool false))⟩]) (.seq (.reg [⟨some 3,none,.load true 5 (.t 1)⟩,⟨some 4,none,.call 108 [(.t 3),(.c (.int .i64 40))]⟩,⟨some 5,none,.bin .leq false (.t 4) (.c (.int .i64 40))⟩,⟨some 6,none,.mv (.t 5)⟩,⟨(some 7),(some (6,true)),(.load true 5 (.t 1))⟩,⟨(some 8),(some (6,true)),(.call 109 [(.t 7)])⟩,⟨some 9,none,.pick (.t 6) (.t 8) (.c (.bool false))⟩,⟨some 2,none,.mv (.t 9)⟩]) .ret))
theorem M6:codeOf Tryz.prog 48=some ⟨10,II,[(.tmp 2)]⟩:=by kernel_rfl
theorem C9:modes 48=⟨[],.asis,none,false⟩:=by unfold modes; rfl
theorem Cv (n:Int):E 175 [.int .i64 n] []=some (.bool (dec (n=8) || dec (n=9)),[]):=by
 cases h1:dec (n=8) with
 | true =>
  refine Af GA Ac (of_decide_eq_true rfl) ?_
  simp (disch:=omega) only [Ev,go_sem,Ab,h1]
 | false =>
  refine Af GA Ac (of_decide_eq_true rfl) ?_
  simp (disch:=omega) only [Ev,go_sem,Ab,h1]
theorem FP (n:Int):E 176 [.int .i64 n] []=some (.bool (dec (n=5) || dec (n=6) || dec (n=7)),[]):=by
 cases h1:dec (n=5) <;> cases h2:dec (n=6)
 all_goals
  refine Af Q0 Ai (of_decide_eq_true rfl) ?_
  simp (disch:=omega) only [Kq,go_sem,Ab,h1,h2]
theorem GJ (x:Tm):E 179 [x.sv] []=some (.bool x.isZ,[]):=by
 unfold Tm.isZ
 have hl:dec ((x.args.length:Int)=0)=(x.args.length == 0):=by
  rw [KA]
  cases x.args <;> simp <;> omega
 cases h1:dec (x.name=⟨#[]⟩) with
 | true =>
  refine Af Ir Ah (of_decide_eq_true rfl) ?_
  simp (disch:=omega) only [Fs,go_sem,Ab,h1]
  try rw [hl]
 | false =>
  refine Af Ir Ah (of_decide_eq_true rfl) ?_
  simp (disch:=omega) only [Fs,go_sem,Ab,h1]
theorem Oq (x:Tm):E 236 [x.sv] []=some (.bool x.isZ,[]):=by
 unfold Tm.isZ
 have hl:dec ((x.args.length:Int)=0)=(x.args.length == 0):=by
  rw [KA]
  cases x.args <;> simp <;> omega
 cases h1:dec (x.name=⟨#[]⟩) with
 | true =>
  refine Af M5 Am (of_decide_eq_true rfl) ?_
  simp (disch:=omega) only [IH,go_sem,Ab,h1]
  try rw [hl]
 | false =>
  refine Af M5 Am (of_decide_eq_true rfl) ?_
  simp (disch:=omega) only [IH,go_sem,Ab,h1]
theorem XW (x:Fm) (hn:x.atom.nodes≤1099511627776) (ho:x.op=1∨x.op=2):E 171 [x.sv] []=some (.bool x.form,[]):=by
 have hf:x.form=(x.parts.length == 0&&x.atom.isZ&&dec (x.var=⟨#[]⟩)):=by unfold Fm.form; rcases ho with ho | ho <;> simp [ho]
 rcases ho with ho | ho
 all_goals
  first
   |(have o1:dec (x.op=1)=true:=An ho)
   |(have o1:dec (x.op=1)=false:=Aj (by omega))
  first
   |(have o2:dec (x.op=2)=true:=An ho)
   |(have o2:dec (x.op=2)=false:=Aj (by omega))
  have o3:dec (x.op=3)=false:=Aj (by omega)
  have o4:dec (x.op=4)=false:=Aj (by omega)
  have o5:dec (x.op=5)=false:=Aj (by omega)
  have o6:dec (x.op=6)=false:=Aj (by omega)
  have o7:dec (x.op=7)=false:=Aj (by omega)
  have o8:dec (x.op=8)=false:=Aj (by omega)
  have o9:dec (x.op=9)=false:=Aj (by omega)
  have ha:=Oq x.atom
  have hv:=Ek x.var
  rw [hf]
  by_cases hl:x.parts.length=0
  ·have hl2:dec ((x.parts.length:Int)=0)=true:=An (by omega)
   rw [hl,beq_self_eq_true,zF]
   cases hq:x.atom.isZ with
   | true =>
    rw [hq] at ha
    rw [zF]
    refine Af AX AM (of_decide_eq_true rfl) ?_
    simp (disch:=omega) only [AT,go_sem,o1,o2,o3,o4,o5,o6,o7,o8,o9,hl2,ha,hv,Al,Am,Ak]
    repeat ((first | (refine A8 ?_ ?_; (focus (simp (disch:=omega) only [go_sem,o1,o2,o3,o4,o5,o6,o7,o8,o9,hl2,ha,hv,Al,Am,Ak]; done))) | (refine A9 ?_ ?_; (focus (simp (disch:=omega) only [go_sem,o1,o2,o3,o4,o5,o6,o7,o8,o9,hl2,ha,hv,Al,Am,Ak]; done)))); (try simp (disch:=omega) only [go_sem,o1,o2,o3,o4,o5,o6,o7,o8,o9,hl2,ha,hv,Al,Am,Ak]))
   | false =>
    rw [hq] at ha
    rw [zA]
    refine Af AX AM (of_decide_eq_true rfl) ?_
    simp (disch:=omega) only [AT,go_sem,o1,o2,o3,o4,o5,o6,o7,o8,o9,hl2,ha,hv,Al,Am,Ak]
    repeat ((first | (refine A8 ?_ ?_; (focus (simp (disch:=omega) only [go_sem,o1,o2,o3,o4,o5,o6,o7,o8,o9,hl2,ha,hv,Al,Am,Ak]; done))) | (refine A9 ?_ ?_; (focus (simp (disch:=omega) only [go_sem,o1,o2,o3,o4,o5,o6,o7,o8,o9,hl2,ha,hv,Al,Am,Ak]; done)))); (try simp (disch:=omega) only [go_sem,o1,o2,o3,o4,o5,o6,o7,o8,o9,hl2,ha,hv,Al,Am,Ak]))
  ·have hl2:dec ((x.parts.length:Int)=0)=false:=Aj (by omega)
   have hl3:(x.parts.length == 0)=false:=by simpa using hl
   rw [hl3,zA,zA]
   refine Af AX AM (of_decide_eq_true rfl) ?_
   simp (disch:=omega) only [AT,go_sem,o1,o2,o3,o4,o5,o6,o7,o8,o9,hl2,ha,hv,Al,Am,Ak]
   repeat ((first | (refine A8 ?_ ?_; (focus (simp (disch:=omega) only [go_sem,o1,o2,o3,o4,o5,o6,o7,o8,o9,hl2,ha,hv,Al,Am,Ak]; done))) | (refine A9 ?_ ?_; (focus (simp (disch:=omega) only [go_sem,o1,o2,o3,o4,o5,o6,o7,o8,o9,hl2,ha,hv,Al,Am,Ak]; done)))); (try simp (disch:=omega) only [go_sem,o1,o2,o3,o4,o5,o6,o7,o8,o9,hl2,ha,hv,Al,Am,Ak]))
theorem Qdc (x:Fm) (hn:x.atom.nodes≤1099511627776) (ho:x.op=3):E 171 [x.sv] []=some (.bool x.form,[]):=by
 have hf:x.form=(x.parts.length == 0&&x.atom.atom&&dec (x.var=⟨#[]⟩)):=by unfold Fm.form; rcases ho with ho <;> simp [ho]
 rcases ho with ho
 all_goals
  have o1:dec (x.op=1)=false:=Aj (by omega)
  have o2:dec (x.op=2)=false:=Aj (by omega)
  have o3:dec (x.op=3)=true:=An ho
  have o4:dec (x.op=4)=false:=Aj (by omega)
  have o5:dec (x.op=5)=false:=Aj (by omega)
  have o6:dec (x.op=6)=false:=Aj (by omega)
  have o7:dec (x.op=7)=false:=Aj (by omega)
  have o8:dec (x.op=8)=false:=Aj (by omega)
  have o9:dec (x.op=9)=false:=Aj (by omega)
  have ha:=Xu x.atom (by omega)
  have hv:=Ek x.var
  rw [hf]
  by_cases hl:x.parts.length=0
  ·have hl2:dec ((x.parts.length:Int)=0)=true:=An (by omega)
   rw [hl,beq_self_eq_true,zF]
   cases hq:x.atom.atom with
   | true =>
    rw [hq] at ha
    rw [zF]
    refine Af AX AM (of_decide_eq_true rfl) ?_
    simp (disch:=omega) only [AT,go_sem,o1,o2,o3,o4,o5,o6,o7,o8,o9,hl2,ha,hv,Al,Am,Ak]
    repeat ((first | (refine A8 ?_ ?_; (focus (simp (disch:=omega) only [go_sem,o1,o2,o3,o4,o5,o6,o7,o8,o9,hl2,ha,hv,Al,Am,Ak]; done))) | (refine A9 ?_ ?_; (focus (simp (disch:=omega) only [go_sem,o1,o2,o3,o4,o5,o6,o7,o8,o9,hl2,ha,hv,Al,Am,Ak]; done)))); (try simp (disch:=omega) only [go_sem,o1,o2,o3,o4,o5,o6,o7,o8,o9,hl2,ha,hv,Al,Am,Ak]))
   | false =>
    rw [hq] at ha
    rw [zA]
    refine Af AX AM (of_decide_eq_true rfl) ?_
    simp (disch:=omega) only [AT,go_sem,o1,o2,o3,o4,o5,o6,o7,o8,o9,hl2,ha,hv,Al,Am,Ak]
    repeat ((first | (refine A8 ?_ ?_; (focus (simp (disch:=omega) only [go_sem,o1,o2,o3,o4,o5,o6,o7,o8,o9,hl2,ha,hv,Al,Am,Ak]; done))) | (refine A9 ?_ ?_; (focus (simp (disch:=omega) only [go_sem,o1,o2,o3,o4,o5,o6,o7,o8,o9,hl2,ha,hv,Al,Am,Ak]; done)))); (try simp (disch:=omega) only [go_sem,o1,o2,o3,o4,o5,o6,o7,o8,o9,hl2,ha,hv,Al,Am,Ak]))
  ·have hl2:dec ((x.parts.length:Int)=0)=false:=Aj (by omega)
   have hl3:(x.parts.length == 0)=false:=by simpa using hl
   rw [hl3,zA,zA]
   refine Af AX AM (of_decide_eq_true rfl) ?_
   simp (disch:=omega) only [AT,go_sem,o1,o2,o3,o4,o5,o6,o7,o8,o9,hl2,ha,hv,Al,Am,Ak]
   repeat ((first | (refine A8 ?_ ?_; (focus (simp (disch:=omega) only [go_sem,o1,o2,o3,o4,o5,o6,o7,o8,o9,hl2,ha,hv,Al,Am,Ak]; done))) | (refine A9 ?_ ?_; (focus (simp (disch:=omega) only [go_sem,o1,o2,o3,o4,o5,o6,o7,o8,o9,hl2,ha,hv,Al,Am,Ak]; done)))); (try simp (disch:=omega) only [go_sem,o1,o2,o3,o4,o5,o6,o7,o8,o9,hl2,ha,hv,Al,Am,Ak]))
theorem Qdd (x:Fm) (hn:x.atom.nodes≤1099511627776) (ho:x.op=4):E 171 [x.sv] []=some (.bool x.form,[]):=by
 have hf:x.form=(x.parts.length == 1&&x.atom.isZ&&dec (x.var=⟨#[]⟩)):=by unfold Fm.form; rcases ho with ho <;> simp [ho]
 rcases ho with ho
 all_goals
  have o1:dec (x.op=1)=false:=Aj (by omega)
  have o2:dec (x.op=2)=false:=Aj (by omega)
  have o3:dec (x.op=3)=false:=Aj (by omega)
  have o4:dec (x.op=4)=true:=An ho
  have o5:dec (x.op=5)=false:=Aj (by omega)
  have o6:dec (x.op=6)=false:=Aj (by omega)
  have o7:dec (x.op=7)=false:=Aj (by omega)
  have o8:dec (x.op=8)=false:=Aj (by omega)
  have o9:dec (x.op=9)=false:=Aj (by omega)
  have ha:=Oq x.atom
  have hv:=Ek x.var
  rw [hf]
  by_cases hl:x.parts.length=1
  ·have hl2:dec ((x.parts.length:Int)=1)=true:=An (by omega)
   rw [hl,beq_self_eq_true,zF]
   cases hq:x.atom.isZ with
   | true =>
    rw [hq] at ha
    rw [zF]
    refine Af AX AM (of_decide_eq_true rfl) ?_
    simp (disch:=omega) only [AT,go_sem,o1,o2,o3,o4,o5,o6,o7,o8,o9,hl2,ha,hv,Al,Am,Ak]
    repeat ((first | (refine A8 ?_ ?_; (focus (simp (disch:=omega) only [go_sem,o1,o2,o3,o4,o5,o6,o7,o8,o9,hl2,ha,hv,Al,Am,Ak]; done))) | (refine A9 ?_ ?_; (focus (simp (disch:=omega) only [go_sem,o1,o2,o3,o4,o5,o6,o7,o8,o9,hl2,ha,hv,Al,Am,Ak]; done)))); (try simp (disch:=omega) only [go_sem,o1,o2,o3,o4,o5,o6,o7,o8,o9,hl2,ha,hv,Al,Am,Ak]))
   | false =>
    rw [hq] at ha
    rw [zA]
    refine Af AX AM (of_decide_eq_true rfl) ?_
    simp (disch:=omega) only [AT,go_sem,o1,o2,o3,o4,o5,o6,o7,o8,o9,hl2,ha,hv,Al,Am,Ak]
    repeat ((first | (refine A8 ?_ ?_; (focus (simp (disch:=omega) only [go_sem,o1,o2,o3,o4,o5,o6,o7,o8,o9,hl2,ha,hv,Al,Am,Ak]; done))) | (refine A9 ?_ ?_; (focus (simp (disch:=omega) only [go_sem,o1,o2,o3,o4,o5,o6,o7,o8,o9,hl2,ha,hv,Al,Am,Ak]; done)))); (try simp (disch:=omega) only [go_sem,o1,o2,o3,o4,o5,o6,o7,o8,o9,hl2,ha,hv,Al,Am,Ak]))
  ·have hl2:dec ((x.parts.length:Int)=1)=false:=Aj (by omega)
   have hl3:(x.parts.length == 1)=false:=by simpa using hl
   rw [hl3,zA,zA]
   refine Af AX AM (of_decide_eq_true rfl) ?_
   simp (disch:=omega) only [AT,go_sem,o1,o2,o3,o4,o5,o6,o7,o8,o9,hl2,ha,hv,Al,Am,Ak]
   repeat ((first | (refine A8 ?_ ?_; (focus (simp (disch:=omega) only [go_sem,o1,o2,o3,o4,o5,o6,o7,o8,o9,hl2,ha,hv,Al,Am,Ak]; done))) | (refine A9 ?_ ?_; (focus (simp (disch:=omega) only [go_sem,o1,o2,o3,o4,o5,o6,o7,o8,o9,hl2,ha,hv,Al,Am,Ak]; done)))); (try simp (disch:=omega) only [go_sem,o1,o2,o3,o4,o5,o6,o7,o8,o9,hl2,ha,hv,Al,Am,Ak]))
theorem SB (x:Fm) (hn:x.atom.nodes≤1099511627776) (ho:x.op=5∨x.op=6∨x.op=7):E 171 [x.sv] []=some (.bool x.form,[]):=by
 have hf:x.form=(x.parts.length == 2&&x.atom.isZ&&dec (x.var=⟨#[]⟩)):=by unfold Fm.form; rcases ho with ho | ho | ho <;> simp [ho]
 rcases ho with ho | ho | ho
 all_goals
  have o1:dec (x.op=1)=false:=Aj (by omega)
  have o2:dec (x.op=2)=false:=Aj (by omega)
  have o3:dec (x.op=3)=false:=Aj (by omega)
  have o4:dec (x.op=4)=false:=Aj (by omega)
  first
   |(have o5:dec (x.op=5)=true:=An ho)
   |(have o5:dec (x.op=5)=false:=Aj (by omega))
  first
   |(have o6:dec (x.op=6)=true:=An ho)
   |(have o6:dec (x.op=6)=false:=Aj (by omega))
  first
   |(have o7:dec (x.op=7)=true:=An ho)
   |(have o7:dec (x.op=7)=false:=Aj (by omega))
  have o8:dec (x.op=8)=false:=Aj (by omega)
  have o9:dec (x.op=9)=false:=Aj (by omega)
  have ha:=Oq x.atom
  have hv:=Ek x.var
  rw [hf]
  by_cases hl:x.parts.length=2
  ·have hl2:dec ((x.parts.length:Int)=2)=true:=An (by omega)
   rw [hl,beq_self_eq_true,zF]
   cases hq:x.atom.isZ with
   | true =>
    rw [hq] at ha
    rw [zF]
    refine Af AX AM (of_decide_eq_true rfl) ?_
    simp (disch:=omega) only [AT,go_sem,o1,o2,o3,o4,o5,o6,o7,o8,o9,hl2,ha,hv,Al,Am,Ak]
    repeat ((first | (refine A8 ?_ ?_; (focus (simp (disch:=omega) only [go_sem,o1,o2,o3,o4,o5,o6,o7,o8,o9,hl2,ha,hv,Al,Am,Ak]; done))) | (refine A9 ?_ ?_; (focus (simp (disch:=omega) only [go_sem,o1,o2,o3,o4,o5,o6,o7,o8,o9,hl2,ha,hv,Al,Am,Ak]; done)))); (try simp (disch:=omega) only [go_sem,o1,o2,o3,o4,o5,o6,o7,o8,o9,hl2,ha,hv,Al,Am,Ak]))
   | false =>
    rw [hq] at ha
    rw [zA]
    refine Af AX AM (of_decide_eq_true rfl) ?_
    simp (disch:=omega) only [AT,go_sem,o1,o2,o3,o4,o5,o6,o7,o8,o9,hl2,ha,hv,Al,Am,Ak]
    repeat ((first | (refine A8 ?_ ?_; (focus (simp (disch:=omega) only [go_sem,o1,o2,o3,o4,o5,o6,o7,o8,o9,hl2,ha,hv,Al,Am,Ak]; done))) | (refine A9 ?_ ?_; (focus (simp (disch:=omega) only [go_sem,o1,o2,o3,o4,o5,o6,o7,o8,o9,hl2,ha,hv,Al,Am,Ak]; done)))); (try simp (disch:=omega) only [go_sem,o1,o2,o3,o4,o5,o6,o7,o8,o9,hl2,ha,hv,Al,Am,Ak]))
  ·have hl2:dec ((x.parts.length:Int)=2)=false:=Aj (by omega)
   have hl3:(x.parts.length == 2)=false:=by simpa using hl
   rw [hl3,zA,zA]
   refine Af AX AM (of_decide_eq_true rfl) ?_
   simp (disch:=omega) only [AT,go_sem,o1,o2,o3,o4,o5,o6,o7,o8,o9,hl2,ha,hv,Al,Am,Ak]
   repeat ((first | (refine A8 ?_ ?_; (focus (simp (disch:=omega) only [go_sem,o1,o2,o3,o4,o5,o6,o7,o8,o9,hl2,ha,hv,Al,Am,Ak]; done))) | (refine A9 ?_ ?_; (focus (simp (disch:=omega) only [go_sem,o1,o2,o3,o4,o5,o6,o7,o8,o9,hl2,ha,hv,Al,Am,Ak]; done)))); (try simp (disch:=omega) only [go_sem,o1,o2,o3,o4,o5,o6,o7,o8,o9,hl2,ha,hv,Al,Am,Ak]))
theorem XX (x:Fm) (hn:x.atom.nodes≤1099511627776) (ho:x.op=8∨x.op=9):E 171 [x.sv] []=some (.bool x.form,[]):=by
 have hf:x.form=(x.parts.length == 1&&x.atom.isZ&&AY x.var):=by unfold Fm.form; rcases ho with ho | ho <;> simp [ho]
 rcases ho with ho | ho
 all_goals
  have o1:dec (x.op=1)=false:=Aj (by omega)
  have o2:dec (x.op=2)=false:=Aj (by omega)
  have o3:dec (x.op=3)=false:=Aj (by omega)
  have o4:dec (x.op=4)=false:=Aj (by omega)
  have o5:dec (x.op=5)=false:=Aj (by omega)
  have o6:dec (x.op=6)=false:=Aj (by omega)
  have o7:dec (x.op=7)=false:=Aj (by omega)
  first
   |(have o8:dec (x.op=8)=true:=An ho)
   |(have o8:dec (x.op=8)=false:=Aj (by omega))
  first
   |(have o9:dec (x.op=9)=true:=An ho)
   |(have o9:dec (x.op=9)=false:=Aj (by omega))
  have ha:=Oq x.atom
  have hv:=Ek x.var
  rw [hf]
  by_cases hl:x.parts.length=1
  ·have hl2:dec ((x.parts.length:Int)=1)=true:=An (by omega)
   rw [hl,beq_self_eq_true,zF]
   cases hq:x.atom.isZ with
   | true =>
    rw [hq] at ha
    rw [zF]
    refine Af AX AM (of_decide_eq_true rfl) ?_
    simp (disch:=omega) only [AT,go_sem,o1,o2,o3,o4,o5,o6,o7,o8,o9,hl2,ha,hv,Al,Am,Ak]
    repeat ((first | (refine A8 ?_ ?_; (focus (simp (disch:=omega) only [go_sem,o1,o2,o3,o4,o5,o6,o7,o8,o9,hl2,ha,hv,Al,Am,Ak]; done))) | (refine A9 ?_ ?_; (focus (simp (disch:=omega) only [go_sem,o1,o2,o3,o4,o5,o6,o7,o8,o9,hl2,ha,hv,Al,Am,Ak]; done)))); (try simp (disch:=omega) only [go_sem,o1,o2,o3,o4,o5,o6,o7,o8,o9,hl2,ha,hv,Al,Am,Ak]))
   | false =>
    rw [hq] at ha
    rw [zA]
    refine Af AX AM (of_decide_eq_true rfl) ?_
    simp (disch:=omega) only [AT,go_sem,o1,o2,o3,o4,o5,o6,o7,o8,o9,hl2,ha,hv,Al,Am,Ak]
    repeat ((first | (refine A8 ?_ ?_; (focus (simp (disch:=omega) only [go_sem,o1,o2,o3,o4,o5,o6,o7,o8,o9,hl2,ha,hv,Al,Am,Ak]; done))) | (refine A9 ?_ ?_; (focus (simp (disch:=omega) only [go_sem,o1,o2,o3,o4,o5,o6,o7,o8,o9,hl2,ha,hv,Al,Am,Ak]; done)))); (try simp (disch:=omega) only [go_sem,o1,o2,o3,o4,o5,o6,o7,o8,o9,hl2,ha,hv,Al,Am,Ak]))
  ·have hl2:dec ((x.parts.length:Int)=1)=false:=Aj (by omega)
   have hl3:(x.parts.length == 1)=false:=by simpa using hl
   rw [hl3,zA,zA]
   refine Af AX AM (of_decide_eq_true rfl) ?_
   simp (disch:=omega) only [AT,go_sem,o1,o2,o3,o4,o5,o6,o7,o8,o9,hl2,ha,hv,Al,Am,Ak]
   repeat ((first | (refine A8 ?_ ?_; (focus (simp (disch:=omega) only [go_sem,o1,o2,o3,o4,o5,o6,o7,o8,o9,hl2,ha,hv,Al,Am,Ak]; done))) | (refine A9 ?_ ?_; (focus (simp (disch:=omega) only [go_sem,o1,o2,o3,o4,o5,o6,o7,o8,o9,hl2,ha,hv,Al,Am,Ak]; done)))); (try simp (disch:=omega) only [go_sem,o1,o2,o3,o4,o5,o6,o7,o8,o9,hl2,ha,hv,Al,Am,Ak]))
theorem Qde (x:Fm) (hn:x.atom.nodes≤1099511627776):E 171 [x.sv] []=some (.bool x.form,[]):=by
 rcases XU x.op with h | h | h | h | h | h | h | h | h | h
 ·exact XW x hn (.inl h)
 ·exact XW x hn (.inr h)
 ·exact Qdc x hn h
 ·exact Qdd x hn h
 ·exact SB x hn (.inl h)
 ·exact SB x hn (.inr (.inl h))
 ·exact SB x hn (.inr (.inr h))
 ·exact XX x hn (.inl h)
 ·exact XX x hn (.inr h)
 ·obtain ⟨h1,h2,h3,h4,h5,h6,h7,h8,h9⟩:=h
  have hf:x.form=false:=by unfold Fm.form; simp [h1,h2,h3,h4,h5,h6,h7,h8,h9]
  have o1:=Aj h1
  have o2:=Aj h2
  have o3:=Aj h3
  have o4:=Aj h4
  have o5:=Aj h5
  have o6:=Aj h6
  have o7:=Aj h7
  have o8:=Aj h8
  have o9:=Aj h9
  rw [hf]
  refine Af AX AM (of_decide_eq_true rfl) ?_
  simp (disch:=omega) only [AT,go_sem,o1,o2,o3,o4,o5,o6,o7,o8,o9]
  repeat ((first | (refine A8 ?_ ?_; (focus (simp (disch:=omega) only [go_sem,o1,o2,o3,o4,o5,o6,o7,o8,o9]; done))) | (refine A9 ?_ ?_; (focus (simp (disch:=omega) only [go_sem,o1,o2,o3,o4,o5,o6,o7,o8,o9]; done)))); (try simp (disch:=omega) only [go_sem,o1,o2,o3,o4,o5,o6,o7,o8,o9]))
theorem Z2 (x:Fm) (ht:x.tame) (hn:x.nodes≤1099511627776) (ih:∀ y∈x.parts,E 109 [y.sv] []=some (.bool y.forms,[])):E 109 [x.sv] []=some (.bool x.forms,[]):=by
 have hl:=Fm.length_le x.parts
 have hx:=Fm.nodes_eq x
 have hf:=Qde x (Fm.tame_at ht)
 rw [Fm.Fq]
 cases hq:x.form with
 | false =>
  rw [hq] at hf
  rw [zA]
  refine Af Ls Dn (of_decide_eq_true rfl) ?_
  simp (disch:=omega) only [H4,go_sem,Ab,hf,AM]
 | true =>
  rw [hq] at hf
  rw [zF]
  refine Af Ls Dn (of_decide_eq_true rfl) ?_
  simp (disch:=omega) only [H4,go_sem,Ab,hf,AM]
  refine go_loop (α:=Int) (fun a=>⟨slots 21 0 [(1,.ptr 0 0),(3,.int .i64 a)],[.box 36 [.int .i64 x.op,.str x.atom.name,.arr (x.atom.args.map Tm.d),.str x.var,.arr (x.parts.map Fm.d)]]⟩) (fun a=>∃ k:Nat,a=k∧k≤(x.parts).length∧Fm.M2 (x.parts.drop k)=Fm.M2 x.parts) (fun a=>(x.parts).length-(a).toNat) 0 ⟨0,rfl,zH _,by rw [zI]⟩ (by simp (disch:=omega) only [go_sem,Ab]) ?_
  rintro i ⟨k,hi,hk,hR⟩
  have hni:i.toNat=k:=by omega
  have hni1:(i+1).toNat=k+1:=by omega
  rcases zB k (x.parts).length with hlt | hge
  ·have hg:=get_at Fm.d hlt
   rw [Fm.d_eq] at hg
   have hc:=ih x.parts[k] (zD hlt)
   rw [zC hlt,Fm.M2] at hR
   cases hp:x.parts[k].forms with
   | true =>
    rw [hp] at hc hR
    rw [zF] at hR
    simp (disch:=omega) only [go_sem,Ab,hni,hg,hc,Dn]
    exact ⟨i+1,⟨k+1,by omega,hlt,hR⟩,by omega,by first | trivial | rfl⟩
   | false =>
    rw [hp] at hc hR
    rw [zA] at hR
    simp (disch:=omega) only [go_sem,Ab,hni,hg,hc,Dn]
    exact hR
  ·rw [zE hge,Fm.M2] at hR
   simp (disch:=omega) only [go_sem,Ab,hni]
   exact hR
theorem U1 (x:Fm) (ht:x.tame) (hn:x.nodes≤1099511627776):E 109 [x.sv] []=some (.bool x.forms,[]) :=
 Z2 x ht hn fun y hy=>U1 y (Fm.Ux ht hy) (by have:=Fm.nodes_mem hy; have:=Fm.nodes_eq x; omega)
termination_by SizeOf.sizeOf x
decreasing_by exact Fm.lt_of_mem hy
theorem U2 (x:Fm) (hn:x.atom.nodes≤1099511627776) (hl0:x.parts.length≤1099511627776) (ho:x.op=1∨x.op=2) (h2:E 121 [.arr (x.parts.map Fm.d),.fn 180 []] []=some (.bool (x.parts.any fun y=>!y.forms),[])):E 117 [x.sv] []=some (.bool x.forms,[]):=by
 have hf:x.form=(x.parts.length == 0&&x.atom.isZ&&dec (x.var=⟨#[]⟩)):=by unfold Fm.form; rcases ho with ho | ho <;> simp [ho]
 rcases ho with ho | ho
 all_goals
  first
   |(have o1:dec (x.op=1)=true:=An ho)
   |(have o1:dec (x.op=1)=false:=Aj (by omega))
  first
   |(have o2:dec (x.op=2)=true:=An ho)
   |(have o2:dec (x.op=2)=false:=Aj (by omega))
  have o3:dec (x.op=3)=false:=Aj (by omega)
  have o4:dec (x.op=4)=false:=Aj (by omega)
  have o5:dec (x.op=5)=false:=Aj (by omega)
  have o6:dec (x.op=6)=false:=Aj (by omega)
  have o7:dec (x.op=7)=false:=Aj (by omega)
  have o8:dec (x.op=8)=false:=Aj (by omega)
  have o9:dec (x.op=9)=false:=Aj (by omega)
  have ha:=GJ x.atom
  have hv:=Dv x.var
  have hb:=FP x.op
  have hu:=Cv x.op
  rw [o5,o6,o7] at hb
  rw [o8,o9] at hu
  rw [Fm.Fq,hf,← Fm.any_not]
  by_cases hl:x.parts.length=0
  ·have hl2:dec ((x.parts.length:Int)=0)=true:=An (by omega)
   rw [hl,beq_self_eq_true,zF]
   cases hw:dec (x.var=⟨#[]⟩) with
   | false =>
    try rw [hw] at hv
    rw [yB,zA]
    refine Af A5 Ax (of_decide_eq_true rfl) ?_
    simp (disch:=omega) only [A1,go_sem,o1,o2,o3,o4,o5,o6,o7,o8,o9,hl2,ha,hv,hb,hu,hw,h2,Ad,Ah,Ae,Ac,Ai,Aa]
    repeat ((first | (refine A8 ?_ ?_; (focus (simp (disch:=omega) only [go_sem,o1,o2,o3,o4,o5,o6,o7,o8,o9,hl2,ha,hv,hb,hu,hw,h2,Ad,Ah,Ae,Ac,Ai,Aa]; done))) | (refine A9 ?_ ?_; (focus (simp (disch:=omega) only [go_sem,o1,o2,o3,o4,o5,o6,o7,o8,o9,hl2,ha,hv,hb,hu,hw,h2,Ad,Ah,Ae,Ac,Ai,Aa]; done)))); (try simp (disch:=omega) only [go_sem,o1,o2,o3,o4,o5,o6,o7,o8,o9,hl2,ha,hv,hb,hu,hw,h2,Ad,Ah,Ae,Ac,Ai,Aa]))
   | true =>
    try rw [hw] at hv
    rw [yE]
    cases hq:x.atom.isZ with
    | true =>
     rw [hq] at ha
     rw [zF]
     refine Af A5 Ax (of_decide_eq_true rfl) ?_
     simp (disch:=omega) only [A1,go_sem,o1,o2,o3,o4,o5,o6,o7,o8,o9,hl2,ha,hv,hb,hu,hw,h2,Ad,Ah,Ae,Ac,Ai,Aa]
     repeat ((first | (refine A8 ?_ ?_; (focus (simp (disch:=omega) only [go_sem,o1,o2,o3,o4,o5,o6,o7,o8,o9,hl2,ha,hv,hb,hu,hw,h2,Ad,Ah,Ae,Ac,Ai,Aa]; done))) | (refine A9 ?_ ?_; (focus (simp (disch:=omega) only [go_sem,o1,o2,o3,o4,o5,o6,o7,o8,o9,hl2,ha,hv,hb,hu,hw,h2,Ad,Ah,Ae,Ac,Ai,Aa]; done)))); (try simp (disch:=omega) only [go_sem,o1,o2,o3,o4,o5,o6,o7,o8,o9,hl2,ha,hv,hb,hu,hw,h2,Ad,Ah,Ae,Ac,Ai,Aa]))
    | false =>
     rw [hq] at ha
     rw [zA]
     refine Af A5 Ax (of_decide_eq_true rfl) ?_
     simp (disch:=omega) only [A1,go_sem,o1,o2,o3,o4,o5,o6,o7,o8,o9,hl2,ha,hv,hb,hu,hw,h2,Ad,Ah,Ae,Ac,Ai,Aa]
     repeat ((first | (refine A8 ?_ ?_; (focus (simp (disch:=omega) only [go_sem,o1,o2,o3,o4,o5,o6,o7,o8,o9,hl2,ha,hv,hb,hu,hw,h2,Ad,Ah,Ae,Ac,Ai,Aa]; done))) | (refine A9 ?_ ?_; (focus (simp (disch:=omega) only [go_sem,o1,o2,o3,o4,o5,o6,o7,o8,o9,hl2,ha,hv,hb,hu,hw,h2,Ad,Ah,Ae,Ac,Ai,Aa]; done)))); (try simp (disch:=omega) only [go_sem,o1,o2,o3,o4,o5,o6,o7,o8,o9,hl2,ha,hv,hb,hu,hw,h2,Ad,Ah,Ae,Ac,Ai,Aa]))
  ·have hl2:dec ((x.parts.length:Int)=0)=false:=Aj (by omega)
   have hl3:(x.parts.length == 0)=false:=by simpa using hl
   rw [hl3,zA,zA,zA]
   refine Af A5 Ax (of_decide_eq_true rfl) ?_
   simp (disch:=omega) only [A1,go_sem,o1,o2,o3,o4,o5,o6,o7,o8,o9,hl2,ha,hv,hb,hu, h2,Ad,Ah,Ae,Ac,Ai,Aa]
   repeat ((first | (refine A8 ?_ ?_; (focus (simp (disch:=omega) only [go_sem,o1,o2,o3,o4,o5,o6,o7,o8,o9,hl2,ha,hv,hb,hu, h2,Ad,Ah,Ae,Ac,Ai,Aa]; done))) | (refine A9 ?_ ?_; (focus (simp (disch:=omega) only [go_sem,o1,o2,o3,o4,o5,o6,o7,o8,o9,hl2,ha,hv,hb,hu, h2,Ad,Ah,Ae,Ac,Ai,Aa]; done)))); (try simp (disch:=omega) only [go_sem,o1,o2,o3,o4,o5,o6,o7,o8,o9,hl2,ha,hv,hb,hu, h2,Ad,Ah,Ae,Ac,Ai,Aa]))
theorem Qb3 (x:Fm) (hn:x.atom.nodes≤1099511627776) (hl0:x.parts.length≤1099511627776) (ho:x.op=3) (h2:E 121 [.arr (x.parts.map Fm.d),.fn 180 []] []=some (.bool (x.parts.any fun y=>!y.forms),[])):E 117 [x.sv] []=some (.bool x.forms,[]):=by
 have hf:x.form=(x.parts.length == 0&&x.atom.atom&&dec (x.var=⟨#[]⟩)):=by unfold Fm.form; rcases ho with ho <;> simp [ho]
 rcases ho with ho
 all_goals
  have o1:dec (x.op=1)=false:=Aj (by omega)
  have o2:dec (x.op=2)=false:=Aj (by omega)
  have o3:dec (x.op=3)=true:=An ho
  have o4:dec (x.op=4)=false:=Aj (by omega)
  have o5:dec (x.op=5)=false:=Aj (by omega)
  have o6:dec (x.op=6)=false:=Aj (by omega)
  have o7:dec (x.op=7)=false:=Aj (by omega)
  have o8:dec (x.op=8)=false:=Aj (by omega)
  have o9:dec (x.op=9)=false:=Aj (by omega)
  have ha:=Mr x.atom (by omega)
  have hv:=Dv x.var
  have hb:=FP x.op
  have hu:=Cv x.op
  rw [o5,o6,o7] at hb
  rw [o8,o9] at hu
  rw [Fm.Fq,hf,← Fm.any_not]
  by_cases hl:x.parts.length=0
  ·have hl2:dec ((x.parts.length:Int)=0)=true:=An (by omega)
   rw [hl,beq_self_eq_true,zF]
   cases hw:dec (x.var=⟨#[]⟩) with
   | false =>
    try rw [hw] at hv
    rw [yB,zA]
    refine Af A5 Ax (of_decide_eq_true rfl) ?_
    simp (disch:=omega) only [A1,go_sem,o1,o2,o3,o4,o5,o6,o7,o8,o9,hl2,ha,hv,hb,hu,hw,h2,Ad,Ah,Ae,Ac,Ai,Aa]
    repeat ((first | (refine A8 ?_ ?_; (focus (simp (disch:=omega) only [go_sem,o1,o2,o3,o4,o5,o6,o7,o8,o9,hl2,ha,hv,hb,hu,hw,h2,Ad,Ah,Ae,Ac,Ai,Aa]; done))) | (refine A9 ?_ ?_; (focus (simp (disch:=omega) only [go_sem,o1,o2,o3,o4,o5,o6,o7,o8,o9,hl2,ha,hv,hb,hu,hw,h2,Ad,Ah,Ae,Ac,Ai,Aa]; done)))); (try simp (disch:=omega) only [go_sem,o1,o2,o3,o4,o5,o6,o7,o8,o9,hl2,ha,hv,hb,hu,hw,h2,Ad,Ah,Ae,Ac,Ai,Aa]))
   | true =>
    try rw [hw] at hv
    rw [yE]
    cases hq:x.atom.atom with
    | true =>
     rw [hq] at ha
     rw [zF]
     refine Af A5 Ax (of_decide_eq_true rfl) ?_
     simp (disch:=omega) only [A1,go_sem,o1,o2,o3,o4,o5,o6,o7,o8,o9,hl2,ha,hv,hb,hu,hw,h2,Ad,Ah,Ae,Ac,Ai,Aa]
     repeat ((first | (refine A8 ?_ ?_; (focus (simp (disch:=omega) only [go_sem,o1,o2,o3,o4,o5,o6,o7,o8,o9,hl2,ha,hv,hb,hu,hw,h2,Ad,Ah,Ae,Ac,Ai,Aa]; done))) | (refine A9 ?_ ?_; (focus (simp (disch:=omega) only [go_sem,o1,o2,o3,o4,o5,o6,o7,o8,o9,hl2,ha,hv,hb,hu,hw,h2,Ad,Ah,Ae,Ac,Ai,Aa]; done)))); (try simp (disch:=omega) only [go_sem,o1,o2,o3,o4,o5,o6,o7,o8,o9,hl2,ha,hv,hb,hu,hw,h2,Ad,Ah,Ae,Ac,Ai,Aa]))
    | false =>
     rw [hq] at ha
     rw [zA]
     refine Af A5 Ax (of_decide_eq_true rfl) ?_
     simp (disch:=omega) only [A1,go_sem,o1,o2,o3,o4,o5,o6,o7,o8,o9,hl2,ha,hv,hb,hu,hw,h2,Ad,Ah,Ae,Ac,Ai,Aa]
     repeat ((first | (refine A8 ?_ ?_; (focus (simp (disch:=omega) only [go_sem,o1,o2,o3,o4,o5,o6,o7,o8,o9,hl2,ha,hv,hb,hu,hw,h2,Ad,Ah,Ae,Ac,Ai,Aa]; done))) | (refine A9 ?_ ?_; (focus (simp (disch:=omega) only [go_sem,o1,o2,o3,o4,o5,o6,o7,o8,o9,hl2,ha,hv,hb,hu,hw,h2,Ad,Ah,Ae,Ac,Ai,Aa]; done)))); (try simp (disch:=omega) only [go_sem,o1,o2,o3,o4,o5,o6,o7,o8,o9,hl2,ha,hv,hb,hu,hw,h2,Ad,Ah,Ae,Ac,Ai,Aa]))
  ·have hl2:dec ((x.parts.length:Int)=0)=false:=Aj (by omega)
   have hl3:(x.parts.length == 0)=false:=by simpa using hl
   rw [hl3,zA,zA,zA]
   refine Af A5 Ax (of_decide_eq_true rfl) ?_
   simp (disch:=omega) only [A1,go_sem,o1,o2,o3,o4,o5,o6,o7,o8,o9,hl2,ha,hv,hb,hu, h2,Ad,Ah,Ae,Ac,Ai,Aa]
   repeat ((first | (refine A8 ?_ ?_; (focus (simp (disch:=omega) only [go_sem,o1,o2,o3,o4,o5,o6,o7,o8,o9,hl2,ha,hv,hb,hu, h2,Ad,Ah,Ae,Ac,Ai,Aa]; done))) | (refine A9 ?_ ?_; (focus (simp (disch:=omega) only [go_sem,o1,o2,o3,o4,o5,o6,o7,o8,o9,hl2,ha,hv,hb,hu, h2,Ad,Ah,Ae,Ac,Ai,Aa]; done)))); (try simp (disch:=omega) only [go_sem,o1,o2,o3,o4,o5,o6,o7,o8,o9,hl2,ha,hv,hb,hu, h2,Ad,Ah,Ae,Ac,Ai,Aa]))
theorem Qb4 (x:Fm) (hn:x.atom.nodes≤1099511627776) (hl0:x.parts.length≤1099511627776) (ho:x.op=4) (h2:E 121 [.arr (x.parts.map Fm.d),.fn 180 []] []=some (.bool (x.parts.any fun y=>!y.forms),[])):E 117 [x.sv] []=some (.bool x.forms,[]):=by
 have hf:x.form=(x.parts.length == 1&&x.atom.isZ&&dec (x.var=⟨#[]⟩)):=by unfold Fm.form; rcases ho with ho <;> simp [ho]
 rcases ho with ho
 all_goals
  have o1:dec (x.op=1)=false:=Aj (by omega)
  have o2:dec (x.op=2)=false:=Aj (by omega)
  have o3:dec (x.op=3)=false:=Aj (by omega)
  have o4:dec (x.op=4)=true:=An ho
  have o5:dec (x.op=5)=false:=Aj (by omega)
  have o6:dec (x.op=6)=false:=Aj (by omega)
  have o7:dec (x.op=7)=false:=Aj (by omega)
  have o8:dec (x.op=8)=false:=Aj (by omega)
  have o9:dec (x.op=9)=false:=Aj (by omega)
  have ha:=GJ x.atom
  have hv:=Dv x.var
  have hb:=FP x.op
  have hu:=Cv x.op
  rw [o5,o6,o7] at hb
  rw [o8,o9] at hu
  rw [Fm.Fq,hf,← Fm.any_not]
  by_cases hl:x.parts.length=1
  ·have hl2:dec ((x.parts.length:Int)=1)=true:=An (by omega)
   rw [hl,beq_self_eq_true,zF]
   cases hw:dec (x.var=⟨#[]⟩) with
   | false =>
    try rw [hw] at hv
    rw [yB,zA]
    refine Af A5 Ax (of_decide_eq_true rfl) ?_
    simp (disch:=omega) only [A1,go_sem,o1,o2,o3,o4,o5,o6,o7,o8,o9,hl2,ha,hv,hb,hu,hw,h2,Ad,Ah,Ae,Ac,Ai,Aa]
    repeat ((first | (refine A8 ?_ ?_; (focus (simp (disch:=omega) only [go_sem,o1,o2,o3,o4,o5,o6,o7,o8,o9,hl2,ha,hv,hb,hu,hw,h2,Ad,Ah,Ae,Ac,Ai,Aa]; done))) | (refine A9 ?_ ?_; (focus (simp (disch:=omega) only [go_sem,o1,o2,o3,o4,o5,o6,o7,o8,o9,hl2,ha,hv,hb,hu,hw,h2,Ad,Ah,Ae,Ac,Ai,Aa]; done)))); (try simp (disch:=omega) only [go_sem,o1,o2,o3,o4,o5,o6,o7,o8,o9,hl2,ha,hv,hb,hu,hw,h2,Ad,Ah,Ae,Ac,Ai,Aa]))
   | true =>
    try rw [hw] at hv
    rw [yE]
    cases hq:x.atom.isZ with
    | true =>
     rw [hq] at ha
     rw [zF]
     refine Af A5 Ax (of_decide_eq_true rfl) ?_
     simp (disch:=omega) only [A1,go_sem,o1,o2,o3,o4,o5,o6,o7,o8,o9,hl2,ha,hv,hb,hu,hw,h2,Ad,Ah,Ae,Ac,Ai,Aa]
     repeat ((first | (refine A8 ?_ ?_; (focus (simp (disch:=omega) only [go_sem,o1,o2,o3,o4,o5,o6,o7,o8,o9,hl2,ha,hv,hb,hu,hw,h2,Ad,Ah,Ae,Ac,Ai,Aa]; done))) | (refine A9 ?_ ?_; (focus (simp (disch:=omega) only [go_sem,o1,o2,o3,o4,o5,o6,o7,o8,o9,hl2,ha,hv,hb,hu,hw,h2,Ad,Ah,Ae,Ac,Ai,Aa]; done)))); (try simp (disch:=omega) only [go_sem,o1,o2,o3,o4,o5,o6,o7,o8,o9,hl2,ha,hv,hb,hu,hw,h2,Ad,Ah,Ae,Ac,Ai,Aa]))
    | false =>
     rw [hq] at ha
     rw [zA]
     refine Af A5 Ax (of_decide_eq_true rfl) ?_
     simp (disch:=omega) only [A1,go_sem,o1,o2,o3,o4,o5,o6,o7,o8,o9,hl2,ha,hv,hb,hu,hw,h2,Ad,Ah,Ae,Ac,Ai,Aa]
     repeat ((first | (refine A8 ?_ ?_; (focus (simp (disch:=omega) only [go_sem,o1,o2,o3,o4,o5,o6,o7,o8,o9,hl2,ha,hv,hb,hu,hw,h2,Ad,Ah,Ae,Ac,Ai,Aa]; done))) | (refine A9 ?_ ?_; (focus (simp (disch:=omega) only [go_sem,o1,o2,o3,o4,o5,o6,o7,o8,o9,hl2,ha,hv,hb,hu,hw,h2,Ad,Ah,Ae,Ac,Ai,Aa]; done)))); (try simp (disch:=omega) only [go_sem,o1,o2,o3,o4,o5,o6,o7,o8,o9,hl2,ha,hv,hb,hu,hw,h2,Ad,Ah,Ae,Ac,Ai,Aa]))
  ·have hl2:dec ((x.parts.length:Int)=1)=false:=Aj (by omega)
   have hl3:(x.parts.length == 1)=false:=by simpa using hl
   rw [hl3,zA,zA,zA]
   refine Af A5 Ax (of_decide_eq_true rfl) ?_
   simp (disch:=omega) only [A1,go_sem,o1,o2,o3,o4,o5,o6,o7,o8,o9,hl2,ha,hv,hb,hu, h2,Ad,Ah,Ae,Ac,Ai,Aa]
   repeat ((first | (refine A8 ?_ ?_; (focus (simp (disch:=omega) only [go_sem,o1,o2,o3,o4,o5,o6,o7,o8,o9,hl2,ha,hv,hb,hu, h2,Ad,Ah,Ae,Ac,Ai,Aa]; done))) | (refine A9 ?_ ?_; (focus (simp (disch:=omega) only [go_sem,o1,o2,o3,o4,o5,o6,o7,o8,o9,hl2,ha,hv,hb,hu, h2,Ad,Ah,Ae,Ac,Ai,Aa]; done)))); (try simp (disch:=omega) only [go_sem,o1,o2,o3,o4,o5,o6,o7,o8,o9,hl2,ha,hv,hb,hu, h2,Ad,Ah,Ae,Ac,Ai,Aa]))
theorem Pr (x:Fm) (hn:x.atom.nodes≤1099511627776) (hl0:x.parts.length≤1099511627776) (ho:x.op=5∨x.op=6∨x.op=7) (h2:E 121 [.arr (x.parts.map Fm.d),.fn 180 []] []=some (.bool (x.parts.any fun y=>!y.forms),[])):E 117 [x.sv] []=some (.bool x.forms,[]):=by
 have hf:x.form=(x.parts.length == 2&&x.atom.isZ&&dec (x.var=⟨#[]⟩)):=by unfold Fm.form; rcases ho with ho | ho | ho <;> simp [ho]
 rcases ho with ho | ho | ho
 all_goals
  have o1:dec (x.op=1)=false:=Aj (by omega)
  have o2:dec (x.op=2)=false:=Aj (by omega)
  have o3:dec (x.op=3)=false:=Aj (by omega)
  have o4:dec (x.op=4)=false:=Aj (by omega)
  first
   |(have o5:dec (x.op=5)=true:=An ho)
   |(have o5:dec (x.op=5)=false:=Aj (by omega))
  first
   |(have o6:dec (x.op=6)=true:=An ho)
   |(have o6:dec (x.op=6)=false:=Aj (by omega))
  first
   |(have o7:dec (x.op=7)=true:=An ho)
   |(have o7:dec (x.op=7)=false:=Aj (by omega))
  have o8:dec (x.op=8)=false:=Aj (by omega)
  have o9:dec (x.op=9)=false:=Aj (by omega)
  have ha:=GJ x.atom
  have hv:=Dv x.var
  have hb:=FP x.op
  have hu:=Cv x.op
  rw [o5,o6,o7] at hb
  rw [o8,o9] at hu
  rw [Fm.Fq,hf,← Fm.any_not]
  by_cases hl:x.parts.length=2
  ·have hl2:dec ((x.parts.length:Int)=2)=true:=An (by omega)
   rw [hl,beq_self_eq_true,zF]
   cases hw:dec (x.var=⟨#[]⟩) with
   | false =>
    try rw [hw] at hv
    rw [yB,zA]
    refine Af A5 Ax (of_decide_eq_true rfl) ?_
    simp (disch:=omega) only [A1,go_sem,o1,o2,o3,o4,o5,o6,o7,o8,o9,hl2,ha,hv,hb,hu,hw,h2,Ad,Ah,Ae,Ac,Ai,Aa]
    repeat ((first | (refine A8 ?_ ?_; (focus (simp (disch:=omega) only [go_sem,o1,o2,o3,o4,o5,o6,o7,o8,o9,hl2,ha,hv,hb,hu,hw,h2,Ad,Ah,Ae,Ac,Ai,Aa]; done))) | (refine A9 ?_ ?_; (focus (simp (disch:=omega) only [go_sem,o1,o2,o3,o4,o5,o6,o7,o8,o9,hl2,ha,hv,hb,hu,hw,h2,Ad,Ah,Ae,Ac,Ai,Aa]; done)))); (try simp (disch:=omega) only [go_sem,o1,o2,o3,o4,o5,o6,o7,o8,o9,hl2,ha,hv,hb,hu,hw,h2,Ad,Ah,Ae,Ac,Ai,Aa]))
   | true =>
    try rw [hw] at hv
    rw [yE]
    cases hq:x.atom.isZ with
    | true =>
     rw [hq] at ha
     rw [zF]
     refine Af A5 Ax (of_decide_eq_true rfl) ?_
     simp (disch:=omega) only [A1,go_sem,o1,o2,o3,o4,o5,o6,o7,o8,o9,hl2,ha,hv,hb,hu,hw,h2,Ad,Ah,Ae,Ac,Ai,Aa]
     repeat ((first | (refine A8 ?_ ?_; (focus (simp (disch:=omega) only [go_sem,o1,o2,o3,o4,o5,o6,o7,o8,o9,hl2,ha,hv,hb,hu,hw,h2,Ad,Ah,Ae,Ac,Ai,Aa]; done))) | (refine A9 ?_ ?_; (focus (simp (disch:=omega) only [go_sem,o1,o2,o3,o4,o5,o6,o7,o8,o9,hl2,ha,hv,hb,hu,hw,h2,Ad,Ah,Ae,Ac,Ai,Aa]; done)))); (try simp (disch:=omega) only [go_sem,o1,o2,o3,o4,o5,o6,o7,o8,o9,hl2,ha,hv,hb,hu,hw,h2,Ad,Ah,Ae,Ac,Ai,Aa]))
    | false =>
     rw [hq] at ha
     rw [zA]
     refine Af A5 Ax (of_decide_eq_true rfl) ?_
     simp (disch:=omega) only [A1,go_sem,o1,o2,o3,o4,o5,o6,o7,o8,o9,hl2,ha,hv,hb,hu,hw,h2,Ad,Ah,Ae,Ac,Ai,Aa]
     repeat ((first | (refine A8 ?_ ?_; (focus (simp (disch:=omega) only [go_sem,o1,o2,o3,o4,o5,o6,o7,o8,o9,hl2,ha,hv,hb,hu,hw,h2,Ad,Ah,Ae,Ac,Ai,Aa]; done))) | (refine A9 ?_ ?_; (focus (simp (disch:=omega) only [go_sem,o1,o2,o3,o4,o5,o6,o7,o8,o9,hl2,ha,hv,hb,hu,hw,h2,Ad,Ah,Ae,Ac,Ai,Aa]; done)))); (try simp (disch:=omega) only [go_sem,o1,o2,o3,o4,o5,o6,o7,o8,o9,hl2,ha,hv,hb,hu,hw,h2,Ad,Ah,Ae,Ac,Ai,Aa]))
  ·have hl2:dec ((x.parts.length:Int)=2)=false:=Aj (by omega)
   have hl3:(x.parts.length == 2)=false:=by simpa using hl
   rw [hl3,zA,zA,zA]
   refine Af A5 Ax (of_decide_eq_true rfl) ?_
   simp (disch:=omega) only [A1,go_sem,o1,o2,o3,o4,o5,o6,o7,o8,o9,hl2,ha,hv,hb,hu, h2,Ad,Ah,Ae,Ac,Ai,Aa]
   repeat ((first | (refine A8 ?_ ?_; (focus (simp (disch:=omega) only [go_sem,o1,o2,o3,o4,o5,o6,o7,o8,o9,hl2,ha,hv,hb,hu, h2,Ad,Ah,Ae,Ac,Ai,Aa]; done))) | (refine A9 ?_ ?_; (focus (simp (disch:=omega) only [go_sem,o1,o2,o3,o4,o5,o6,o7,o8,o9,hl2,ha,hv,hb,hu, h2,Ad,Ah,Ae,Ac,Ai,Aa]; done)))); (try simp (disch:=omega) only [go_sem,o1,o2,o3,o4,o5,o6,o7,o8,o9,hl2,ha,hv,hb,hu, h2,Ad,Ah,Ae,Ac,Ai,Aa]))
theorem U3 (x:Fm) (hn:x.atom.nodes≤1099511627776) (hl0:x.parts.length≤1099511627776) (ho:x.op=8∨x.op=9) (h2:E 121 [.arr (x.parts.map Fm.d),.fn 180 []] []=some (.bool (x.parts.any fun y=>!y.forms),[])):E 117 [x.sv] []=some (.bool x.forms,[]):=by
 have hf:x.form=(x.parts.length == 1&&x.atom.isZ&&AY x.var):=by unfold Fm.form; rcases ho with ho | ho <;> simp [ho]
 rcases ho with ho | ho
 all_goals
  have o1:dec (x.op=1)=false:=Aj (by omega)
  have o2:dec (x.op=2)=false:=Aj (by omega)
  have o3:dec (x.op=3)=false:=Aj (by omega)
  have o4:dec (x.op=4)=false:=Aj (by omega)
  have o5:dec (x.op=5)=false:=Aj (by omega)
  have o6:dec (x.op=6)=false:=Aj (by omega)
  have o7:dec (x.op=7)=false:=Aj (by omega)
  first
   |(have o8:dec (x.op=8)=true:=An ho)
   |(have o8:dec (x.op=8)=false:=Aj (by omega))
  first
   |(have o9:dec (x.op=9)=true:=An ho)
   |(have o9:dec (x.op=9)=false:=Aj (by omega))
  have ha:=GJ x.atom
  have hv:=Dv x.var
  have hb:=FP x.op
  have hu:=Cv x.op
  rw [o5,o6,o7] at hb
  rw [o8,o9] at hu
  rw [Fm.Fq,hf,← Fm.any_not]
  by_cases hl:x.parts.length=1
  ·have hl2:dec ((x.parts.length:Int)=1)=true:=An (by omega)
   rw [hl,beq_self_eq_true,zF]
   cases hw:AY x.var with
   | false =>
    try rw [hw] at hv
    rw [yB,zA]
    refine Af A5 Ax (of_decide_eq_true rfl) ?_
    simp (disch:=omega) only [A1,go_sem,o1,o2,o3,o4,o5,o6,o7,o8,o9,hl2,ha,hv,hb,hu, h2,Ad,Ah,Ae,Ac,Ai,Aa]
    repeat ((first | (refine A8 ?_ ?_; (focus (simp (disch:=omega) only [go_sem,o1,o2,o3,o4,o5,o6,o7,o8,o9,hl2,ha,hv,hb,hu, h2,Ad,Ah,Ae,Ac,Ai,Aa]; done))) | (refine A9 ?_ ?_; (focus (simp (disch:=omega) only [go_sem,o1,o2,o3,o4,o5,o6,o7,o8,o9,hl2,ha,hv,hb,hu, h2,Ad,Ah,Ae,Ac,Ai,Aa]; done)))); (try simp (disch:=omega) only [go_sem,o1,o2,o3,o4,o5,o6,o7,o8,o9,hl2,ha,hv,hb,hu, h2,Ad,Ah,Ae,Ac,Ai,Aa]))
   | true =>
    try rw [hw] at hv
    rw [yE]
    cases hq:x.atom.isZ with
    | true =>
     rw [hq] at ha
     rw [zF]
     refine Af A5 Ax (of_decide_eq_true rfl) ?_
     simp (disch:=omega) only [A1,go_sem,o1,o2,o3,o4,o5,o6,o7,o8,o9,hl2,ha,hv,hb,hu, h2,Ad,Ah,Ae,Ac,Ai,Aa]
     repeat ((first | (refine A8 ?_ ?_; (focus (simp (disch:=omega) only [go_sem,o1,o2,o3,o4,o5,o6,o7,o8,o9,hl2,ha,hv,hb,hu, h2,Ad,Ah,Ae,Ac,Ai,Aa]; done))) | (refine A9 ?_ ?_; (focus (simp (disch:=omega) only [go_sem,o1,o2,o3,o4,o5,o6,o7,o8,o9,hl2,ha,hv,hb,hu, h2,Ad,Ah,Ae,Ac,Ai,Aa]; done)))); (try simp (disch:=omega) only [go_sem,o1,o2,o3,o4,o5,o6,o7,o8,o9,hl2,ha,hv,hb,hu, h2,Ad,Ah,Ae,Ac,Ai,Aa]))
    | false =>
     rw [hq] at ha
     rw [zA]
     refine Af A5 Ax (of_decide_eq_true rfl) ?_
     simp (disch:=omega) only [A1,go_sem,o1,o2,o3,o4,o5,o6,o7,o8,o9,hl2,ha,hv,hb,hu, h2,Ad,Ah,Ae,Ac,Ai,Aa]
     repeat ((first | (refine A8 ?_ ?_; (focus (simp (disch:=omega) only [go_sem,o1,o2,o3,o4,o5,o6,o7,o8,o9,hl2,ha,hv,hb,hu, h2,Ad,Ah,Ae,Ac,Ai,Aa]; done))) | (refine A9 ?_ ?_; (focus (simp (disch:=omega) only [go_sem,o1,o2,o3,o4,o5,o6,o7,o8,o9,hl2,ha,hv,hb,hu, h2,Ad,Ah,Ae,Ac,Ai,Aa]; done)))); (try simp (disch:=omega) only [go_sem,o1,o2,o3,o4,o5,o6,o7,o8,o9,hl2,ha,hv,hb,hu, h2,Ad,Ah,Ae,Ac,Ai,Aa]))
  ·have hl2:dec ((x.parts.length:Int)=1)=false:=Aj (by omega)
   have hl3:(x.parts.length == 1)=false:=by simpa using hl
   rw [hl3,zA,zA,zA]
   refine Af A5 Ax (of_decide_eq_true rfl) ?_
   simp (disch:=omega) only [A1,go_sem,o1,o2,o3,o4,o5,o6,o7,o8,o9,hl2,ha,hv,hb,hu, h2,Ad,Ah,Ae,Ac,Ai,Aa]
   repeat ((first | (refine A8 ?_ ?_; (focus (simp (disch:=omega) only [go_sem,o1,o2,o3,o4,o5,o6,o7,o8,o9,hl2,ha,hv,hb,hu, h2,Ad,Ah,Ae,Ac,Ai,Aa]; done))) | (refine A9 ?_ ?_; (focus (simp (disch:=omega) only [go_sem,o1,o2,o3,o4,o5,o6,o7,o8,o9,hl2,ha,hv,hb,hu, h2,Ad,Ah,Ae,Ac,Ai,Aa]; done)))); (try simp (disch:=omega) only [go_sem,o1,o2,o3,o4,o5,o6,o7,o8,o9,hl2,ha,hv,hb,hu, h2,Ad,Ah,Ae,Ac,Ai,Aa]))
theorem Z3 (x:Fm) (ht:x.tame) (hn:x.nodes≤1099511627776) (ih:∀ y∈x.parts,E 117 [y.sv] []=some (.bool y.forms,[])):E 117 [x.sv] []=some (.bool x.forms,[]):=by
 have hl:=Fm.length_le x.parts
 have hx:=Fm.nodes_eq x
 have ha:=Fm.tame_at ht
 have h1:∀ y∈x.parts,E 180 [y.sv] []=some (.bool (!y.forms),[]):=fun y hy=>by
  have h:=ih y hy
  refine Af Pp Js (of_decide_eq_true rfl) ?_
  simp (disch:=omega) only [Jr,go_sem,Ab,h,Ax]
 have h2:=H3 180 (fun y=>!y.forms) x.parts (by omega) Pq (by rw [Js]) h1
 rcases XU x.op with h | h | h | h | h | h | h | h | h | h
 ·exact U2 x ha (by omega) (.inl h) h2
 ·exact U2 x ha (by omega) (.inr h) h2
 ·exact Qb3 x ha (by omega) h h2
 ·exact Qb4 x ha (by omega) h h2
 ·exact Pr x ha (by omega) (.inl h) h2
 ·exact Pr x ha (by omega) (.inr (.inl h)) h2
 ·exact Pr x ha (by omega) (.inr (.inr h)) h2
 ·exact U3 x ha (by omega) (.inl h) h2
 ·exact U3 x ha (by omega) (.inr h) h2
 ·obtain ⟨k1,k2,k3,k4,k5,k6,k7,k8,k9⟩:=h
  have hf:x.form=false:=by unfold Fm.form; simp [k1,k2,k3,k4,k5,k6,k7,k8,k9]
  have o1:=Aj k1
  have o2:=Aj k2
  have o3:=Aj k3
  have o4:=Aj k4
  have o5:=Aj k5
  have o6:=Aj k6
  have o7:=Aj k7
  have o8:=Aj k8
  have o9:=Aj k9
  have hb:=FP x.op
  have hu:=Cv x.op
  rw [o5,o6,o7] at hb
  rw [o8,o9] at hu
  rw [Fm.Fq,hf,zA]
  refine Af A5 Ax (of_decide_eq_true rfl) ?_
  simp (disch:=omega) only [A1,go_sem,o1,o2,o3,o4,o5,o6,o7,o8,o9,hb,hu,Ac,Ai]
  repeat ((first | (refine A8 ?_ ?_; (focus (simp (disch:=omega) only [go_sem,o1,o2,o3,o4,o5,o6,o7,o8,o9,hb,hu,Ac,Ai]; done))) | (refine A9 ?_ ?_; (focus (simp (disch:=omega) only [go_sem,o1,o2,o3,o4,o5,o6,o7,o8,o9,hb,hu,Ac,Ai]; done)))); (try simp (disch:=omega) only [go_sem,o1,o2,o3,o4,o5,o6,o7,o8,o9,hb,hu,Ac,Ai]))
theorem U4 (x:Fm) (ht:x.tame) (hn:x.nodes≤1099511627776):E 117 [x.sv] []=some (.bool x.forms,[]) :=
 Z3 x ht hn fun y hy=>U4 y (Fm.Ux ht hy) (by have:=Fm.nodes_mem hy; have:=Fm.nodes_eq x; omega)
termination_by SizeOf.sizeOf x
decreasing_by exact Fm.lt_of_mem hy
theorem Ps (x:Fm) (ht:x.tame) (hn:x.nodes≤1099511627776):E 53 [x.sv] []=some (.bool x.valid,[]):=by
 have h1:=QaA x hn
 have h2:=U4 x ht hn
 have h3:=Fm.cap_spec x
 unfold Fm.valid
 rcases zB 40 x.nodes with h5 | h5
 ·rw [decide_eq_false (by omega),zA]
  have d:dec (x.cap≤40)=false:=Aj (by omega)
  refine Af F4 Bo (of_decide_eq_true rfl) ?_
  simp (disch:=omega) only [DJ,go_sem,Ab,h1,h2,d,E4,Ax]
 ·rw [decide_eq_true h5,zF]
  have d:dec (x.cap≤40)=true:=An (by omega)
  refine Af F4 Bo (of_decide_eq_true rfl) ?_
  simp (disch:=omega) only [DJ,go_sem,Ab,h1,h2,d,E4,Ax]
theorem Qdf (x:Fm) (ht:x.tame) (hn:x.nodes≤1099511627776):E 48 [x.sv] []=some (.bool x.valid,[]):=by
 have h1:=QaB x 40 (by omega) (by omega) hn
 have h2:=U1 x ht hn
 have h3:=Fm.many_spec x 40
 unfold Fm.valid
 rcases zB 40 x.nodes with h5 | h5
 ·rw [decide_eq_false (by omega),zA]
  have d:dec ((x.many 40)≤40)=false:=Aj (by omega)
  refine Af M6 C9 (of_decide_eq_true rfl) ?_
  simp (disch:=omega) only [II,go_sem,Ab,h1,h2,d,E5,Dn]
 ·rw [decide_eq_true h5,zF]
  have d:dec ((x.many 40)≤40)=true:=An (by omega)
  refine Af M6 C9 (of_decide_eq_true rfl) ?_
  simp (disch:=omega) only [II,go_sem,Ab,h1,h2,d,E5,Dn]
theorem XY (xs:List ByteArray) (h:xs.length≤1048576):E 57 [.arr (xs.map fun s=>[D.str s])] []=some (.ref 0,[.row 9 1 (xs.map fun s=>[OT.str s])]):=by
 rw [FH (g:=OL) (by unfold modes; rfl)]
 unfold OL
 simp only
 rw [An ⟨fun e he=>by obtain ⟨s,_,rfl⟩:=yU.1 he; exact ⟨s,rfl⟩,by simpa using h⟩,cond_true,zX]
 rfl
theorem DA:modes 57=⟨[],.asis,some OL,false⟩:=by unfold modes; rfl
theorem Wc {x:Fm} (h:x.form=true) (ho:x.op=3):E 186 [x.atom.sv] []=some (.ref 0,[.row 9 1 ((C4 [] x.atom.vs).map fun s=>[OT.str s])]):=by
 have ha:=(Fm.En h ho).2.1
 have hn:=Tm.Cm ha
 have h1:=VR x.atom (Sk x.atom ha) (by omega)
 have e:x.atom.vars=C4 [] x.atom.vs:=Po _
 rw [e] at h1
 exact h1
theorem XZ (b acc:List ByteArray) (n:ByteArray) (ns:List ByteArray):BA acc ((n :: ns).filter fun m=>!dec (m∈b))=BA (bif dec (n∈b) then acc else IB acc n) (ns.filter fun m=>!dec (m∈b)):=by
 rw [List.filter_cons]
 cases dec (n∈b) with
 | true=>rfl
 | false=>rfl
def FZ:SC:=(.seq (.reg [⟨some 4,none,.boxv 36 5 (.t 1)⟩,⟨some 6,none,.mv (.c .nil)⟩]) (.seq (.seq (.reg [⟨some 11,none,.faddr 0 (.t 4)⟩,⟨some 12,none,.load false 1 (.t 11)⟩,⟨some 13,none,.bin .eql false (.t 12) (.c (.int .i64 3))⟩]) (.cond (.t 13) (.seq (.seq (.reg [⟨some 14,none,.faddr 1 (.t 4)⟩,⟨some 15,none,.load true 2 (.t 14)⟩,⟨some 16,none,.call 186 [(.t 15)]⟩,⟨some 17,none,.len false (.t 16)⟩,⟨some 18,none,.mv (.c (.int .i64 0))⟩]) (.block 0 (.loop [1,0,1,0,0,0,0,0,0,0,0,0,0,0,0,0,1,1,1,0,0,0,0,0,0,0,0,0,0,0,0,0,0,0,0,0,0,0,0,0,0,0,0,0,0,0,0,0,0,0,0,0,0,0,0,0,0,0,0,0] (.seq (.reg [⟨some 19,none,.bin .lss false (.t 18) (.t 17)⟩]) (.seq (.cond (.t 19) .skip (.exit 0)) (.seq (.block 1 (.seq (.reg [⟨some 20,none,.iaddr 1 (.t 16) (.t 18)⟩,⟨some 21,none,.load false 1 (.t 20)⟩,⟨some 8,none,.mv (.t 21)⟩]) (.seq (.reg [⟨some 22,none,.mv (.t 2)⟩,⟨some 23,none,.mv (.t 8)⟩,⟨some 24,none,.call 185 [(.t 22),(.t 23)]⟩,⟨some 25,none,.un .not (.t 24)⟩,⟨some 26,none,.mv (.t 25)⟩,⟨(some 27),(some (26,true)),(.mv (.t 0))⟩,⟨(some 28),(some (26,true)),(.mv (.t 8))⟩,⟨(some 29),(some (26,true)),(.call 185 [(.t 27),(.t 28)])⟩,⟨(some 30),(some (26,true)),(.un .not (.t 29))⟩,⟨some 31,none,.pick (.t 26) (.t 30) (.c (.bool false))⟩]) (.cond (.t 31) (.reg [⟨some 32,none,.mv (.t 0)⟩,⟨some 33,none,.mv (.t 8)⟩,⟨(some 34),none,(.mkrow 9 1 [(.str ⟨#[]⟩)] 1 [(0,(.t 33))])⟩,⟨(some 35),none,(.append 9 1 16 [(.str ⟨#[]⟩)] (.t 32) (.t 34))⟩,⟨some 0,none,.mv (.t 35)⟩]) .skip)))) (.reg [⟨some 36,none,.bin .add false (.t 18) (.c (.int .i64 1))⟩,⟨some 18,none,.mv (.t 36)⟩]))))))) (.seq (.reg [⟨some 37,none,.mv (.t 0)⟩,⟨some 6,none,.mv (.t 37)⟩]) .ret)) .skip)) (.seq (.seq (.reg [⟨some 38,none,.faddr 0 (.t 4)⟩,⟨some 39,none,.load false 1 (.t 38)⟩,⟨some 40,none,.call 175 [(.t 39)]⟩]) (.cond (.t 40) (.dreg [[],[0],[],[2],[3,2],[1,0,4,3,2],[5,1,0,4,3,2]] [⟨some 41,none,.mv (.t 2)⟩,⟨some 42,none,.call 57 [(.t 41)]⟩,⟨some 43,none,.faddr 3 (.t 4)⟩,⟨some 44,none,.load false 1 (.t 43)⟩,⟨(some 45),none,(.mkrow 9 1 [(.str ⟨#[]⟩)] 1 [(0,(.t 44))])⟩,⟨(some 46),none,(.append 9 1 16 [(.str ⟨#[]⟩)] (.t 42) (.t 45))⟩,⟨some 2,none,.mv (.t 46)⟩]) .skip)) (.seq (.seq (.reg [⟨some 47,none,.faddr 4 (.t 4)⟩,⟨some 48,none,.load false 1 (.t 47)⟩,⟨some 49,none,.len false (.t 48)⟩,⟨some 50,none,.mv (.c (.int .i64 0))⟩]) (.block 2 (.loop [1,0,1,0,0,0,0,0,0,0,0,0,0,0,0,0,0,0,0,0,0,0,0,0,0,0,0,0,0,0,0,0,0,0,0,0,0,0,0,0,0,0,0,0,0,0,0,0,1,1,1,0,0,0,0,0,0,0,0,0] (.seq (.reg [⟨some 51,none,.bin .lss false (.t 50) (.t 49)⟩]) (.seq (.cond (.t 51) .skip (.exit 2)) (.seq (.block 3 (.seq (.reg [⟨some 52,none,.iaddr 5 (.t 48) (.t 50)⟩,⟨some 53,none,.load true 5 (.t 52)⟩,⟨(some 10),none,(.alloc 36 [(.int .i64 0),(.str ⟨#[]⟩),.nil,(.str ⟨#[]⟩),.nil])⟩,⟨none,none,(.store 5 (.t 10) (.t 53))⟩]) (.reg [⟨some 54,none,.mv (.t 0)⟩,⟨some 55,none,.load true 5 (.t 10)⟩,⟨some 56,none,.mv (.t 2)⟩,⟨some 57,none,.call 125 [(.t 54),(.t 55),(.t 56)]⟩,⟨some 0,none,.mv (.t 57)⟩]))) (.reg [⟨some 58,none,.bin .add false (.t 50) (.c (.int .i64 1))⟩,⟨some 50,none,.mv (.t 58)⟩]))))))) (.seq (.reg [⟨some 59,none,.mv (.t 0)⟩,⟨some 6,none,.mv (.t 59)⟩]) .ret)))))
theorem IJ:codeOf Tryz.prog 125=some ⟨60,FZ,[(.tmp 6)]⟩:=by kernel_rfl
theorem CY:modes 125=⟨[true],.asis,none,false⟩:=by unfold modes; rfl
def Lu:SC:=(.seq (.reg [⟨some 1,none,.boxv 36 5 (.t 0)⟩,⟨some 2,none,.mv (.c .nil)⟩]) (.seq (.reg [⟨(some 4),none,(.mkrow 9 1 [(.str ⟨#[]⟩)] 0 [])⟩,⟨some 5,none,.load true 5 (.t 1)⟩,⟨some 6,none,.call 125 [(.t 4),(.t 5),(.c .nil)]⟩,⟨some 3,none,.mv (.t 6)⟩]) (.seq (.reg [⟨some 7,none,.mv (.t 3)⟩,⟨some 8,none,.call 119 [(.t 7)]⟩]) (.seq (.reg [⟨some 9,none,.mv (.t 3)⟩,⟨some 2,none,.mv (.t 9)⟩]) .ret))))
theorem Qe:codeOf Tryz.prog 58=some ⟨10,Lu,[(.tmp 2)]⟩:=by kernel_rfl
theorem Lv:modes 58=⟨[],.frz,none,false⟩:=by unfold modes; rfl
abbrev QeZ (x:Fm):Prop:=∀ l b:List ByteArray,l.length+x.vn≤1048576→b.length+x.nodes≤1048576→E 125 [.ref 0,x.sv,.arr (b.map fun s=>[D.str s])] [.row 9 1 (l.map fun s=>[OT.str s])]=some ((bif dec (l.length<(BA l (x.fv b)).length) then .ref 1 else .ref 0),(bif dec (l.length<(BA l (x.fv b)).length) then [.gone,.row 9 1 ((BA l (x.fv b)).map fun s=>[OT.str s])] else [.row 9 1 ((BA l (x.fv b)).map fun s=>[OT.str s])]))
theorem Qb5 (x:Fm) (hx:x.forms=true) (ih:∀ y∈x.parts,QeZ y):QeZ x:=by
 intro l b hn hb
 have hfo:=Fm.CN hx
 have hvn:=Fm.U0 x
 have hnd:=Fm.nodes_eq x
 have hpl:=Fm.length_le x.parts
 have hfv:=Fm.QcY x b
 have hat:=Fm.Wb hfo
 have hgl:dec (l.length<l.length)=false:=Aj (by omega)
 have hxs:x.sv=.agg [.int .i64 x.op,.str x.atom.name,.arr (x.atom.args.map Tm.d),.str x.var,.arr (x.parts.map Fm.d)]:=rfl
 have has:x.atom.sv=.agg [.str x.atom.name,.arr (x.atom.args.map Tm.d)]:=rfl
 cases ho:dec (x.op=3) with
 | true =>
  rw [ho] at hfv
  simp only [cond_true] at hfv
  have hv:=Wc hfo (Aq.1 ho)
  have hil:=E3 x.atom.vs []
  have hvl:=Tm.vs_len x.atom
  simp only [zL] at hil
  obtain ⟨ns,hns⟩:∃ ns,ns=C4 [] x.atom.vs:=⟨_,rfl⟩
  rw [←hns] at hv hfv hil
  rw [hfv]
  refine Af IJ CY (of_decide_eq_true rfl) ?_
  simp (disch:=omega) only [FZ,go_sem,Ab,ho,hv,FN]
  refine go_loop (α:=Int × (List ByteArray)) (fun a=>⟨slots 60 0 [(0,(bif dec (l.length<(a.2).length) then .ref 1 else .ref 0)),(2,.arr (b.map fun s=>[D.str s])),(16,(bif dec (l.length<(a.2).length) then .ref 2 else .ref 1)),(17,.int .i64 ns.length),(18,.int .i64 (a.1))],(bif dec (l.length<(a.2).length) then [.gone,.row 9 1 ((a.2).map fun s=>[OT.str s]),.row 9 1 (ns.map fun s=>[OT.str s])] else [.row 9 1 ((a.2).map fun s=>[OT.str s]),.row 9 1 (ns.map fun s=>[OT.str s])])⟩) (fun a=>∃ k:Nat,a.1=k∧k≤(ns).length∧BA (a.2) ((ns.drop k).filter fun m=>!dec (m∈b))=BA l (ns.filter fun m=>!dec (m∈b))∧(a.2).length+(ns.length-k)≤1048576∧l.length≤(a.2).length) (fun a=>(ns).length-(a.1).toNat) (0,l) ⟨0,rfl,zH _,by rw [zI],by dsimp only; omega,zT _⟩ (by simp (disch:=omega) only [go_sem,Ab,hgl]) ?_
  rintro ⟨i,acc⟩ ⟨k,hi,hk,hR⟩
  dsimp only at hi hR
  have hni:i.toNat=k:=by omega
  have hni1:(i+1).toNat=k+1:=by omega
  rcases zB k (ns).length with hlt | hge
  ·have hg:(ns.map fun s=>[OT.str s])[k]?=some [OT.str ns[k]]:=by rw [List.getElem?_map,zY hlt]; rfl
   obtain ⟨hR1,hR2,hR3⟩:=hR
   rw [zC hlt,XZ] at hR1
   have c1:=KY b ns[k] (by omega)
   have c2:=KY acc ns[k] (by omega)
   rcases zB l.length acc.length with q1 | q1
   all_goals
    cases hq:dec (ns[k]∈b) with
    | true =>
     rw [hq] at c1 hR1
     simp only [cond_true] at hR1
     simp (disch:=omega) only [go_sem,Ab,hni,hg,c1,c2,AQ]
     refine ⟨(i+1,acc),⟨k+1,by dsimp only; omega,hlt,hR1,by dsimp only; omega,by dsimp only; omega⟩,by dsimp only; omega,?_⟩
     first | done | simp (disch:=omega) only [go_sem,Ab]
    | false =>
     rw [hq] at c1 hR1
     simp only [cond_false] at hR1
     cases hm:dec (ns[k]∈acc) with
     | true =>
      have e2:IB acc ns[k]=acc:=by unfold IB; rw [hm]; rfl
      rw [hm] at c2
      rw [e2] at hR1
      simp (disch:=omega) only [go_sem,Ab,hni,hg,c1,c2,AQ]
      refine ⟨(i+1,acc),⟨k+1,by dsimp only; omega,hlt,hR1,by dsimp only; omega,by dsimp only; omega⟩,by dsimp only; omega,?_⟩
      first | done | simp (disch:=omega) only [go_sem,Ab]
     | false =>
      have e2:IB acc ns[k]=acc++[ns[k]]:=by unfold IB; rw [hm]; rfl
      have hl1:(acc.map fun s=>[OT.str s])++[[OT.str ns[k]]]=(acc++[ns[k]]).map fun s=>[OT.str s]:=by simp
      have q2:dec (l.length<(acc++[ns[k]]).length)=true:=An (by simp; omega)
      rw [hm] at c2
      rw [e2] at hR1
      simp (disch:=omega) only [go_sem,Ab,hni,hg,c1,c2,hl1,AQ]
      refine ⟨(i+1,acc++[ns[k]]),⟨k+1,by dsimp only; omega,hlt,hR1,by simp; omega,by simp; omega⟩,by dsimp only; omega,?_⟩
      first | done | simp (disch:=omega) only [go_sem,Ab,q2,hl1]
  ·rw [zE hge] at hR
   obtain ⟨hR1,hR2,hR3⟩:=hR
   have hR1:acc=_:=hR1
   rw [←hR1]
   rcases zB l.length acc.length with q1 | q1
   ·simp (disch:=omega) only [go_sem,Ab,hni]
   ·simp (disch:=omega) only [go_sem,Ab,hni]
 | false =>
  rw [ho] at hfv
  simp only [cond_false] at hfv
  have hu:=Cv x.op
  cases hq:qB x.op with
  | false =>
   rw [hq] at hfv
   simp only [cond_false] at hfv
   rw [hfv]
   unfold qB at hq
   rw [hq] at hu
   obtain ⟨b',hb'⟩:∃ b',b'=b:=⟨_,rfl⟩
   have hbl:b'.length≤b.length+1:=by rw [hb']; omega
   rw [←hb']
   refine Af IJ CY (of_decide_eq_true rfl) ?_
   simp (disch:=omega) only [FZ,go_sem,Ab,ho,hu,Ac]
   refine go_loop (α:=Int × (List ByteArray)) (fun a=>⟨slots 60 0 [(0,(bif dec (l.length<(a.2).length) then .ref 1 else .ref 0)),(2,.arr (b'.map fun s=>[D.str s])),(48,.arr (x.parts.map Fm.d)),(49,.int .i64 x.parts.length),(50,.int .i64 (a.1))],(bif dec (l.length<(a.2).length) then [.gone,.row 9 1 ((a.2).map fun s=>[OT.str s])] else [.row 9 1 ((a.2).map fun s=>[OT.str s])])⟩) (fun a=>∃ k:Nat,a.1=k∧k≤(x.parts).length∧BA (a.2) (Fm.fvL (x.parts.drop k) b')=BA l (Fm.fvL x.parts b')∧(a.2).length+Fm.vnS (x.parts.drop k)≤1048576∧l.length≤(a.2).length) (fun a=>(x.parts).length-(a.1).toNat) (0,l) ⟨0,rfl,zH _,by rw [zI],by rw [zI]; dsimp only; omega,zT _⟩ (by simp (disch:=omega) only [go_sem,Ab,hgl]) ?_
   rintro ⟨i,acc⟩ ⟨k,hi,hk,hR⟩
   dsimp only at hi hR
   have hni:i.toNat=k:=by omega
   have hni1:(i+1).toNat=k+1:=by omega
   rcases zB k (x.parts).length with hlt | hge
   ·have hg:=get_at Fm.d hlt
    rw [Fm.d_eq] at hg
    obtain ⟨hR1,hR2,hR3⟩:=hR
    rw [zC hlt,Fm.fvL,Je] at hR1
    rw [zC hlt,Fm.vnS] at hR2
    have hnm:=Fm.nodes_le x.parts k hlt
    have hc:=ih x.parts[k] (zD hlt) acc b' (by omega) (by omega)
    have hlen:=E2 (x.parts[k].fv b') acc
    have hgr:=Jf (x.parts[k].fv b') acc
    have hvl:=Fm.JP x.parts[k] b'
    obtain ⟨acc2,ha2⟩:∃ a,a=BA acc (x.parts[k].fv b'):=⟨_,rfl⟩
    rw [←ha2] at hc hlen hgr hR1
    rcases zB l.length acc.length with q1 | q1 <;> rcases zB acc.length acc2.length with q2 | q2
    all_goals
     first
      |rw [An q2] at hc
      |rw [Aj (zV.2 q2)] at hc
     simp only [cond_true,cond_false] at hc
     simp (disch:=omega) only [go_sem,Ab,hni,hg,hc,CY]
     refine ⟨(i+1,acc2),⟨k+1,by dsimp only; omega,hlt,hR1,by dsimp only; omega,by dsimp only; omega⟩,by dsimp only; omega,?_⟩
     first | done | simp (disch:=omega) only [go_sem,Ab]
   ·rw [zE hge,Fm.fvL] at hR
    obtain ⟨hR1,hR2,hR3⟩:=hR
    have hR1:acc=_:=hR1
    rw [←hR1]
    rcases zB l.length acc.length with q1 | q1
    ·simp (disch:=omega) only [go_sem,Ab,hni]
    ·simp (disch:=omega) only [go_sem,Ab,hni]
  | true =>
   rw [hq] at hfv
   simp only [cond_true] at hfv
   rw [hfv]
   unfold qB at hq
   rw [hq] at hu
   have hcl:=XY b (by omega)
   have hl1:(b.map fun s=>[OT.str s])++[[OT.str x.var]]=(b++[x.var]).map fun s=>[OT.str s]:=by simp
   obtain ⟨b',hb'⟩:∃ b',b'=b++[x.var]:=⟨_,rfl⟩
   have hbl:b'.length≤b.length+1:=by rw [hb']; simp
   rw [←hb'] at hl1
   rw [←hb']
   refine Af IJ CY (of_decide_eq_true rfl) ?_
   simp (disch:=omega) only [FZ,go_sem,Ab,ho,hu,hcl,hl1,Ac,DA]
   refine go_loop (α:=Int × (List ByteArray)) (fun a=>⟨slots 60 0 [(0,(bif dec (l.length<(a.2).length) then .ref 1 else .ref 0)),(2,(bif dec (l.length<(a.2).length) then .ref 2 else .ref 1)),(48,.arr (x.parts.map Fm.d)),(49,.int .i64 x.parts.length),(50,.int .i64 (a.1))],(bif dec (l.length<(a.2).length) then [.gone,.row 9 1 ((a.2).map fun s=>[OT.str s]),.row 9 1 (b'.map fun s=>[OT.str s])] else [.row 9 1 ((a.2).map fun s=>[OT.str s]),.row 9 1 (b'.map fun s=>[OT.str s])])⟩) (fun a=>∃ k:Nat,a.1=k∧k≤(x.parts).length∧BA (a.2) (Fm.fvL (x.parts.drop k) b')=BA l (Fm.fvL x.parts b')∧(a.2).length+Fm.vnS (x.parts.drop k)≤1048576∧l.length≤(a.2).length) (fun a=>(x.parts).length-(a.1).toNat) (0,l) ⟨0,rfl,zH _,by rw [zI],by rw [zI]; dsimp only; omega,zT _⟩ (by simp (disch:=omega) only [go_sem,Ab,hgl]) ?_
   rintro ⟨i,acc⟩ ⟨k,hi,hk,hR⟩
   dsimp only at hi hR
   have hni:i.toNat=k:=by omega
   have hni1:(i+1).toNat=k+1:=by omega
   rcases zB k (x.parts).length with hlt | hge
   ·have hg:=get_at Fm.d hlt
    rw [Fm.d_eq] at hg
    obtain ⟨hR1,hR2,hR3⟩:=hR
    rw [zC hlt,Fm.fvL,Je] at hR1
    rw [zC hlt,Fm.vnS] at hR2
    have hnm:=Fm.nodes_le x.parts k hlt
    have hc:=ih x.parts[k] (zD hlt) acc b' (by omega) (by omega)
    have hlen:=E2 (x.parts[k].fv b') acc
    have hgr:=Jf (x.parts[k].fv b') acc
    have hvl:=Fm.JP x.parts[k] b'
    obtain ⟨acc2,ha2⟩:∃ a,a=BA acc (x.parts[k].fv b'):=⟨_,rfl⟩
    rw [←ha2] at hc hlen hgr hR1
    rcases zB l.length acc.length with q1 | q1 <;> rcases zB acc.length acc2.length with q2 | q2
    all_goals
     first
      |rw [An q2] at hc
      |rw [Aj (zV.2 q2)] at hc
     simp only [cond_true,cond_false] at hc
     simp (disch:=omega) only [go_sem,Ab,hni,hg,hc,CY]
     refine ⟨(i+1,acc2),⟨k+1,by dsimp only; omega,hlt,hR1,by dsimp only; omega,by dsimp only; omega⟩,by dsimp only; omega,?_⟩
     first | done | simp (disch:=omega) only [go_sem,Ab]
   ·rw [zE hge,Fm.fvL] at hR
    obtain ⟨hR1,hR2,hR3⟩:=hR
    have hR1:acc=_:=hR1
    rw [←hR1]
    rcases zB l.length acc.length with q1 | q1
    ·simp (disch:=omega) only [go_sem,Ab,hni]
    ·simp (disch:=omega) only [go_sem,Ab,hni]
theorem Ya (x:Fm) (hx:x.forms=true):QeZ x :=
 Qb5 x hx fun y hy=>Ya y (Fm.BP hx hy)
termination_by SizeOf.sizeOf x
decreasing_by exact Fm.lt_of_mem hy
theorem Qfa (x:Fm) (hx:x.forms=true) (hv:x.vn≤1048576) (hn:x.nodes≤1048576):E 58 [x.sv] []=some (.arr (x.free.map fun s=>[D.str s]),[]):=by
 have h1:=Ya x hx [] [] (by simpa using hv) (by simpa using hn)
 have hl:=E2 (x.fv []) []
 have hfl:=Fm.JP x []
 rw [zL,Nat.zero_add] at hl
 have h2:=VQ (BA [] (x.fv [])) (by omega)
 rw [Po] at h2
 rw [zO,zO,zL] at h1
 unfold Fm.free
 have hxs:x.sv=.agg [.int .i64 x.op,.str x.atom.name,.arr (x.atom.args.map Tm.d),.str x.var,.arr (x.parts.map Fm.d)]:=rfl
 rcases zB 0 (BA [] (x.fv [])).length with q | q
 ·rw [An q] at h1
  simp only [cond_true] at h1
  refine Af Qe Lv (of_decide_eq_true rfl) ?_
  simp (disch:=omega) only [Lu,go_sem,Ab,h1,h2,CY,Bm,J5,NL,OT.erss,OT.AO]
 ·rw [Aj (by omega)] at h1
  simp only [cond_false] at h1
  refine Af Qe Lv (of_decide_eq_true rfl) ?_
  simp (disch:=omega) only [Lu,go_sem,Ab,h1,h2,CY,Bm,J5,NL,OT.erss,OT.AO]
def Ga:SC:=(.seq (.reg [⟨some 4,none,.boxv 36 5 (.t 1)⟩,⟨some 6,none,.mv (.c .nil)⟩]) (.seq (.seq (.reg [⟨some 10,none,.faddr 0 (.t 4)⟩,⟨some 11,none,.load false 1 (.t 10)⟩,⟨some 12,none,.bin .eql false (.t 11) (.c (.int .i64 3))⟩]) (.cond (.t 12) (.seq (.reg [⟨some 13,none,.faddr 1 (.t 4)⟩,⟨some 14,none,.load true 2 (.t 13)⟩,⟨some 15,none,.call 237 [(.t 14)]⟩,⟨some 7,none,.mv (.t 15)⟩]) (.seq (.reg [⟨some 8,none,.mv (.c (.int .i64 0))⟩]) (.block 0 (.loop [1,0,1,0,1,0,0,1,1,0,0,0,0,0,0,0,0,0,0,0,0,0,0,0,0,0,0,0,0,0,0,0,0,0,0,0,0,0,0,0,0,0,0,0,0,0,0,0,0,0,0,0,0,0,0,0,0,0,0,0,0,0,0,0,0,0] (.seq (.seq (.reg [⟨some 16,none,.mv (.t 8)⟩,⟨some 17,none,.mv (.t 7)⟩,⟨some 18,none,.len false (.t 17)⟩,⟨some 19,none,.bin .lss false (.t 16) (.t 18)⟩]) (.cond (.t 19) .skip (.exit 0))) (.seq (.block 1 (.seq (.reg [⟨some 22,none,.mv (.t 2)⟩,⟨some 23,none,.mv (.t 7)⟩,⟨some 24,none,.mv (.t 8)⟩,⟨some 25,none,.iaddr 1 (.t 23) (.t 24)⟩,⟨some 26,none,.load false 1 (.t 25)⟩,⟨some 27,none,.call 112 [(.t 22),(.t 26)]⟩,⟨some 28,none,.un .not (.t 27)⟩]) (.cond (.t 28) (.reg [⟨some 29,none,.mv (.t 0)⟩,⟨some 30,none,.mv (.t 7)⟩,⟨some 31,none,.mv (.t 8)⟩,⟨some 32,none,.iaddr 1 (.t 30) (.t 31)⟩,⟨some 33,none,.load false 1 (.t 32)⟩,⟨some 34,none,.call 238 [(.t 29),(.t 33)]⟩,⟨some 0,none,.mv (.t 34)⟩]) .skip))) (.reg [⟨some 20,none,.mv (.t 8)⟩,⟨some 21,none,.bin .add false (.t 20) (.c (.int .i64 1))⟩,⟨some 8,none,.mv (.t 21)⟩]))))))) .skip)) (.seq (.seq (.reg [⟨some 35,none,.faddr 0 (.t 4)⟩,⟨some 36,none,.load false 1 (.t 35)⟩,⟨some 37,none,.bin .eql false (.t 36) (.c (.int .i64 8))⟩,⟨some 38,none,.mv (.t 37)⟩,⟨(some 39),(some (38,false)),(.faddr 0 (.t 4))⟩,⟨(some 40),(some (38,false)),(.load false 1 (.t 39))⟩,⟨(some 41),(some (38,false)),(.bin .eql false (.t 40) (.c (.int .i64 9)))⟩,⟨some 42,none,.pick (.t 38) (.c (.bool true)) (.t 41)⟩]) (.cond (.t 42) (.dreg [[],[],[0,1],[],[3],[4,3],[2,0,1,5,4,3],[6,2,0,1,5,4,3]] [⟨(some 43),none,(.mkrow 9 1 [(.str ⟨#[]⟩)] 0 [])⟩,⟨some 44,none,.mv (.t 2)⟩,⟨(some 45),none,(.append 9 1 16 [(.str ⟨#[]⟩)] (.t 43) (.t 44))⟩,⟨some 46,none,.faddr 3 (.t 4)⟩,⟨some 47,none,.load false 1 (.t 46)⟩,⟨(some 48),none,(.mkrow 9 1 [(.str ⟨#[]⟩)] 1 [(0,(.t 47))])⟩,⟨(some 49),none,(.append 9 1 16 [(.str ⟨#[]⟩)] (.t 45) (.t 48))⟩,⟨some 2,none,.mv (.t 49)⟩]) .skip)) (.seq (.seq (.reg [⟨some 9,none,.mv (.c (.int .i64 0))⟩]) (.block 2 (.loop [1,0,1,0,1,0,0,0,0,1,0,0,0,0,0,0,0,0,0,0,0,0,0,0,0,0,0,0,0,0,0,0,0,0,0,0,0,0,0,0,0,0,0,0,0,0,0,0,0,0,0,0,0,0,0,0,0,0,0,0,0,0,0,0,0,0] (.seq (.seq (.reg [⟨some 50,none,.mv (.t 9)⟩,⟨some 51,none,.faddr 4 (.t 4)⟩,⟨some 52,none,.load false 1 (.t 51)⟩,⟨some 53,none,.len false (.t 52)⟩,⟨some 54,none,.bin .lss false (.t 50) (.t 53)⟩]) (.cond (.t 54) .skip (.exit 2))) (.seq (.block 3 (.reg [⟨some 57,none,.mv (.t 0)⟩,⟨some 58,none,.faddr 4 (.t 4)⟩,⟨some 59,none,.load false 1 (.t 58)⟩,⟨some 60,none,.mv (.t 9)⟩,⟨some 61,none,.iaddr 5 (.t 59) (.t 60)⟩,⟨some 62,none,.load true 5 (.t 61)⟩,⟨some 63,none,.mv (.t 2)⟩,⟨some 64,none,.call 172 [(.t 57),(.t 62),(.t 63)]⟩,⟨some 0,none,.mv (.t 64)⟩])) (.reg [⟨some 55,none,.mv (.t 9)⟩,⟨some 56,none,.bin .add false (.t 55) (.c (.int .i64 1))⟩,⟨some 9,none,.mv (.t 56)⟩])))))) (.seq (.reg [⟨some 65,none,.mv (.t 0)⟩,⟨some 6,none,.mv (.t 65)⟩]) .ret)))))
theorem IK:codeOf Tryz.prog 172=some ⟨66,Ga,[(.tmp 6)]⟩:=by kernel_rfl
theorem CZ:modes 172=⟨[true],.asis,none,false⟩:=by unfold modes; rfl
def IL:SC:=(.seq (.reg [⟨some 1,none,.boxv 36 5 (.t 0)⟩,⟨some 2,none,.mv (.c .nil)⟩]) (.seq (.reg [⟨(some 3),none,(.mkrow 9 1 [(.str ⟨#[]⟩)] 0 [])⟩,⟨some 4,none,.load true 5 (.t 1)⟩,⟨(some 5),none,(.mkrow 9 1 [(.str ⟨#[]⟩)] 0 [])⟩,⟨some 6,none,.call 172 [(.t 3),(.t 4),(.t 5)]⟩,⟨some 2,none,.mv (.t 6)⟩]) .ret))
theorem M7:codeOf Tryz.prog 110=some ⟨7,IL,[(.tmp 2)]⟩:=by kernel_rfl
theorem IM:modes 110=⟨[],.asis,none,false⟩:=by unfold modes; rfl
theorem Yb (b acc:List ByteArray) (n:ByteArray) (ns:List ByteArray):C4 acc ((n :: ns).filter fun m=>!dec (m∈b))=C4 (bif dec (n∈b) then acc else CW acc n) (ns.filter fun m=>!dec (m∈b)):=by
 rw [List.filter_cons]
 cases dec (n∈b) with
 | true=>rfl
 | false=>rfl
abbrev Qfb (x:Fm):Prop:=∀ l b:List ByteArray,l.length+x.vn≤1048576→b.length+x.nodes≤1048576→E 172 [.ref 0,x.sv,.arr (b.map fun s=>[D.str s])] [.row 9 1 (l.map fun s=>[OT.str s])]=some ((bif dec (l.length<(C4 l (x.fv b)).length) then .ref 1 else .ref 0),(bif dec (l.length<(C4 l (x.fv b)).length) then [.gone,.row 9 1 ((C4 l (x.fv b)).map fun s=>[OT.str s])] else [.row 9 1 ((C4 l (x.fv b)).map fun s=>[OT.str s])]))
theorem Qb6 (x:Fm) (hx:x.forms=true) (ih:∀ y∈x.parts,Qfb y):Qfb x:=by
  intro l b hn hb
  have hfo:=Fm.CN hx
  have hvn:=Fm.U0 x
  have hnd:=Fm.nodes_eq x
  have hpl:=Fm.length_le x.parts
  have hfv:=Fm.QcY x b
  have hat:=Fm.Wb hfo
  have hgl:dec (l.length < l.length)=false:=Aj (by omega)
  have hxs:x.sv=.agg [.int .i64 x.op,.str x.atom.name,.arr (x.atom.args.map Tm.d),.str x.var,.arr (x.parts.map Fm.d)]:=rfl
  have has:x.atom.sv=.agg [.str x.atom.name,.arr (x.atom.args.map Tm.d)]:=rfl
  cases ho:dec (x.op=3) with
  | true =>
    rw [ho] at hfv
    simp only [cond_true] at hfv
    have ho3:=Aq.1 ho
    have hp0:=(Fm.En hfo ho3).1
    have o8:dec (x.op=8)=false:=Aj (by omega)
    have o9:dec (x.op=9)=false:=Aj (by omega)
    have hv:=QcR x.atom (by omega)
    have hil:=E3 x.atom.vs []
    have hvl:=Tm.vs_len x.atom
    simp only [zL] at hil
    obtain ⟨ns,hns⟩:∃ ns,ns=C4 [] x.atom.vs:=⟨_,rfl⟩
    rw [←hns] at hv hfv hil
    rw [hfv]
    refine Af IK CZ (of_decide_eq_true rfl) ?_
    simp (disch:=omega) only [Ga,go_sem,Ab,ho,hv,IF]
    refine go_loop (α:=Int × (List ByteArray)) (fun a=>⟨slots 66 0 [(0,(bif dec (l.length < (a.2).length) then .ref 1 else .ref 0)),(2,.arr (b.map fun s=>[D.str s])),(4,(bif dec (l.length < (a.2).length) then .ptr 2 0 else .ptr 1 0)),(7,.arr (ns.map fun s=>[D.str s])),(8,.int .i64 (a.1))],(bif dec (l.length < (a.2).length) then [.gone,.row 9 1 ((a.2).map fun s=>[OT.str s]),.box 36 [.int .i64 x.op,.str x.atom.name,.arr (x.atom.args.map Tm.d),.str x.var,.arr (x.parts.map Fm.d)]] else [.row 9 1 ((a.2).map fun s=>[OT.str s]),.box 36 [.int .i64 x.op,.str x.atom.name,.arr (x.atom.args.map Tm.d),.str x.var,.arr (x.parts.map Fm.d)]])⟩) (fun a=>∃ k:Nat,a.1=k∧k≤(ns).length∧C4 (a.2) ((ns.drop k).filter fun m=>!dec (m∈b))=C4 l (ns.filter fun m=>!dec (m∈b))∧(a.2).length+(ns.length - k)≤1048576∧l.length≤(a.2).length) (fun a=>(ns).length - (a.1).toNat) (0,l) ⟨0,rfl,zH _,by rw [zI],by dsimp only; omega,zT _⟩ (by simp (disch:=omega) only [go_sem,Ab,hgl]) ?_
    rintro ⟨i,acc⟩ ⟨k,hi,hk,hR⟩
    dsimp only at hi hR
    have hni:i.toNat=k:=by omega
    have hni1:(i+1).toNat=k+1:=by omega
    rcases zB k (ns).length with hlt | hge
    · have hg:=get_at (fun s=>[D.str s]) hlt
      obtain ⟨hR1,hR2,hR3⟩:=hR
      rw [zC hlt,Yb] at hR1
      have c1:=Zw b ns[k] (by omega)
      cases hq:dec (ns[k]∈b) with
      | true =>
        rw [hq] at c1 hR1
        simp only [cond_true] at hR1
        rcases zB l.length acc.length with q1 | q1
        all_goals
          first
            | have d1:=An q1
            | have d1:=Aj (zV.2 q1)
          simp (disch:=omega) only [go_sem,Ab,hni,hg,c1,d1,Ee]
          refine ⟨(i+1,acc),⟨k+1,by dsimp only; omega,hlt,hR1,by dsimp only; omega,by dsimp only; omega⟩,by dsimp only; omega,?_⟩
          first | done | simp (disch:=omega) only [go_sem,Ab,d1]
      | false =>
        rw [hq] at c1 hR1
        simp only [cond_false] at hR1
        have c2:=XI acc ns[k] (by omega)
        have hul:=S6 acc ns[k]
        have hug:=Uu acc ns[k]
        obtain ⟨acc2,ha2⟩:∃ a,a=CW acc ns[k]:=⟨_,rfl⟩
        rw [←ha2] at c2 hul hug hR1
        rcases zB l.length acc.length with q1 | q1 <;> rcases zB acc.length acc2.length with q2 | q2
        all_goals
          first
            | rw [An q2] at c2
            | rw [Aj (zV.2 q2)] at c2
          simp only [cond_true,cond_false] at c2
          first
            | have d1:=An q1
            | have d1:=Aj (zV.2 q1)
          first
            | have d2:dec (l.length < acc2.length)=true:=An (by omega)
            | have d2:dec (l.length < acc2.length)=false:=Aj (by omega)
          simp (disch:=omega) only [go_sem,Ab,hni,hg,c1,c2,d1,Ee,Dy]
          refine ⟨(i+1,acc2),⟨k+1,by dsimp only; omega,hlt,hR1,by dsimp only; omega,by dsimp only; omega⟩,by dsimp only; omega,?_⟩
          first
            | done
            | (simp (disch:=omega) only [go_sem,Ab,d2]; done)
            | (have e2:acc2=acc:=by rw [ha2]; exact Uv (by rw [←ha2]; exact q2)
               simp (disch:=omega) only [go_sem,Ab,d2]
               rw [e2])
    · rw [zE hge] at hR
      obtain ⟨hR1,hR2,hR3⟩:=hR
      have hR1:acc=_:=hR1
      rw [←hR1]
      rcases zB l.length acc.length with q1 | q1
      all_goals
        first
          | have d1:=An q1
          | have d1:=Aj (zV.2 q1)
        simp (disch:=omega) only [go_sem,Ab,hni,d1,o8,o9]
        clear hi hni hni1 hk hge
        refine go_loop (α:=Int) (fun a=>⟨slots 66 0 [(0,(bif dec (l.length < acc.length) then .ref 1 else .ref 0)),(2,.arr (b.map fun s=>[D.str s])),(4,(bif dec (l.length < acc.length) then .ptr 2 0 else .ptr 1 0)),(9,.int .i64 a)],(bif dec (l.length < acc.length) then [.gone,.row 9 1 (acc.map fun s=>[OT.str s]),.box 36 [.int .i64 x.op,.str x.atom.name,.arr (x.atom.args.map Tm.d),.str x.var,.arr (x.parts.map Fm.d)]] else [.row 9 1 (acc.map fun s=>[OT.str s]),.box 36 [.int .i64 x.op,.str x.atom.name,.arr (x.atom.args.map Tm.d),.str x.var,.arr (x.parts.map Fm.d)]])⟩) (fun a=>∃ k:Nat,a=k∧k≤(x.parts).length) (fun a=>(x.parts).length - (a).toNat) 0 ⟨0,rfl,zH _⟩ (by simp (disch:=omega) only [go_sem,Ab,d1]) ?_
        rintro i ⟨k,hi,hk⟩
        have hni:i.toNat=k:=by omega
        have hni1:(i+1).toNat=k+1:=by omega
        rcases zB k (x.parts).length with hlt | hge
        · rw [hp0] at hlt
          simp at hlt
        · simp (disch:=omega) only [go_sem,Ab,hni,d1]
  | false =>
    rw [ho] at hfv
    simp only [cond_false] at hfv
    cases o8:dec (x.op=8) <;> cases o9:dec (x.op=9)
    all_goals
      have hq:qB x.op=(dec (x.op=8) || dec (x.op=9)):=rfl
      rw [o8,o9] at hq
      simp only [Bool.or_self,Bool.or_true,yJ,yQ,zS] at hq
      rw [hq] at hfv
      simp only [cond_true,cond_false] at hfv
      rw [hfv]
    · obtain ⟨b',hb'⟩:∃ b',b'=b:=⟨_,rfl⟩
      have hbl:b'.length≤b.length+1:=by rw [hb']; omega
      rw [←hb']
      refine Af IK CZ (of_decide_eq_true rfl) ?_
      simp (disch:=omega) only [Ga,go_sem,Ab,ho,o8,o9]
      refine go_loop (α:=Int × (List ByteArray)) (fun a=>⟨slots 66 0 [(0,(bif dec (l.length < (a.2).length) then .ref 1 else .ref 0)),(2,.arr (b'.map fun s=>[D.str s])),(4,(bif dec (l.length < (a.2).length) then .ptr 2 0 else .ptr 1 0)),(9,.int .i64 (a.1))],(bif dec (l.length < (a.2).length) then [.gone,.row 9 1 ((a.2).map fun s=>[OT.str s]),.box 36 [.int .i64 x.op,.str x.atom.name,.arr (x.atom.args.map Tm.d),.str x.var,.arr (x.parts.map Fm.d)]] else [.row 9 1 ((a.2).map fun s=>[OT.str s]),.box 36 [.int .i64 x.op,.str x.atom.name,.arr (x.atom.args.map Tm.d),.str x.var,.arr (x.parts.map Fm.d)]])⟩) (fun a=>∃ k:Nat,a.1=k∧k≤(x.parts).length∧C4 (a.2) (Fm.fvL (x.parts.drop k) b')=C4 l (Fm.fvL x.parts b')∧(a.2).length+Fm.vnS (x.parts.drop k)≤1048576∧l.length≤(a.2).length) (fun a=>(x.parts).length - (a.1).toNat) (0,l) ⟨0,rfl,zH _,by rw [zI],by rw [zI]; dsimp only; omega,zT _⟩ (by simp (disch:=omega) only [go_sem,Ab,hgl]) ?_
      rintro ⟨i,acc⟩ ⟨k,hi,hk,hR⟩
      dsimp only at hi hR
      have hni:i.toNat=k:=by omega
      have hni1:(i+1).toNat=k+1:=by omega
      rcases zB k (x.parts).length with hlt | hge
      · have hg:=get_at Fm.d hlt
        rw [Fm.d_eq] at hg
        obtain ⟨hR1,hR2,hR3⟩:=hR
        rw [zC hlt,Fm.fvL,S7] at hR1
        rw [zC hlt,Fm.vnS] at hR2
        have hnm:=Fm.nodes_le x.parts k hlt
        have hc:=ih x.parts[k] (zD hlt) acc b' (by omega) (by omega)
        have hlen:=E3 (x.parts[k].fv b') acc
        have hgr:=LT (x.parts[k].fv b') acc
        have hvl:=Fm.JP x.parts[k] b'
        obtain ⟨acc2,ha2⟩:∃ a,a=C4 acc (x.parts[k].fv b'):=⟨_,rfl⟩
        rw [←ha2] at hc hlen hgr hR1
        rcases zB l.length acc.length with q1 | q1 <;> rcases zB acc.length acc2.length with q2 | q2
        all_goals
          first
            | rw [An q2] at hc
            | rw [Aj (zV.2 q2)] at hc
          simp only [cond_true,cond_false] at hc
          first
            | have d1:=An q1
            | have d1:=Aj (zV.2 q1)
          first
            | have d2:dec (l.length < acc2.length)=true:=An (by omega)
            | have d2:dec (l.length < acc2.length)=false:=Aj (by omega)
          simp (disch:=omega) only [go_sem,Ab,hni,hg,hc,d1,J5,CZ]
          refine ⟨(i+1,acc2),⟨k+1,by dsimp only; omega,hlt,hR1,by dsimp only; omega,by dsimp only; omega⟩,by dsimp only; omega,?_⟩
          first | done | simp (disch:=omega) only [go_sem,Ab,d2]
      · rw [zE hge,Fm.fvL] at hR
        obtain ⟨hR1,hR2,hR3⟩:=hR
        have hR1:acc=_:=hR1
        rw [←hR1]
        rcases zB l.length acc.length with q1 | q1
        · have d1:=An q1
          simp (disch:=omega) only [go_sem,Ab,hni,d1]
        · have d1:=Aj (zV.2 q1)
          simp (disch:=omega) only [go_sem,Ab,hni,d1]
    all_goals
      have hbm:((b.map fun s=>[D.str s]).map fun x=>x.map D.ot)=b.map fun s=>[OT.str s]:=by rw [zX]; rfl
      have hal:=Jp b
      have hal2:=GI b
      have hl1:(b.map fun s=>[OT.str s])++[[OT.str x.var]]=(b++[x.var]).map fun s=>[OT.str s]:=by simp
      obtain ⟨b',hb'⟩:∃ b',b'=b++[x.var]:=⟨_,rfl⟩
      have hbl:b'.length≤b.length+1:=by rw [hb']; simp
      rw [←hb'] at hl1
      rw [←hb']
      refine Af IK CZ (of_decide_eq_true rfl) ?_
      simp (disch:=omega) only [Ga,go_sem,Ab,ho,o8,o9,hbm,hal,hal2,hl1,yA]
      refine go_loop (α:=Int × (List ByteArray)) (fun a=>⟨slots 66 0 [(0,(bif dec (l.length < (a.2).length) then .ref 1 else .ref 0)),(2,(bif dec (l.length < (a.2).length) then .ref 2 else .ref 1)),(4,(bif dec (l.length < (a.2).length) then .ptr 3 0 else .ptr 2 0)),(9,.int .i64 (a.1))],(bif dec (l.length < (a.2).length) then [.gone,.row 9 1 ((a.2).map fun s=>[OT.str s]),.row 9 1 (b'.map fun s=>[OT.str s]),.box 36 [.int .i64 x.op,.str x.atom.name,.arr (x.atom.args.map Tm.d),.str x.var,.arr (x.parts.map Fm.d)]] else [.row 9 1 ((a.2).map fun s=>[OT.str s]),.row 9 1 (b'.map fun s=>[OT.str s]),.box 36 [.int .i64 x.op,.str x.atom.name,.arr (x.atom.args.map Tm.d),.str x.var,.arr (x.parts.map Fm.d)]])⟩) (fun a=>∃ k:Nat,a.1=k∧k≤(x.parts).length∧C4 (a.2) (Fm.fvL (x.parts.drop k) b')=C4 l (Fm.fvL x.parts b')∧(a.2).length+Fm.vnS (x.parts.drop k)≤1048576∧l.length≤(a.2).length) (fun a=>(x.parts).length - (a.1).toNat) (0,l) ⟨0,rfl,zH _,by rw [zI],by rw [zI]; dsimp only; omega,zT _⟩ (by simp (disch:=omega) only [go_sem,Ab,hgl]) ?_
      rintro ⟨i,acc⟩ ⟨k,hi,hk,hR⟩
      dsimp only at hi hR
      have hni:i.toNat=k:=by omega
      have hni1:(i+1).toNat=k+1:=by omega
      rcases zB k (x.parts).length with hlt | hge
      · have hg:=get_at Fm.d hlt
        rw [Fm.d_eq] at hg
        obtain ⟨hR1,hR2,hR3⟩:=hR
        rw [zC hlt,Fm.fvL,S7] at hR1
        rw [zC hlt,Fm.vnS] at hR2
        have hnm:=Fm.nodes_le x.parts k hlt
        have hc:=ih x.parts[k] (zD hlt) acc b' (by omega) (by omega)
        have hlen:=E3 (x.parts[k].fv b') acc
        have hgr:=LT (x.parts[k].fv b') acc
        have hvl:=Fm.JP x.parts[k] b'
        obtain ⟨acc2,ha2⟩:∃ a,a=C4 acc (x.parts[k].fv b'):=⟨_,rfl⟩
        rw [←ha2] at hc hlen hgr hR1
        rcases zB l.length acc.length with q1 | q1 <;> rcases zB acc.length acc2.length with q2 | q2
        all_goals
          first
            | rw [An q2] at hc
            | rw [Aj (zV.2 q2)] at hc
          simp only [cond_true,cond_false] at hc
          first
            | have d1:=An q1
            | have d1:=Aj (zV.2 q1)
          first
            | have d2:dec (l.length < acc2.length)=true:=An (by omega)
            | have d2:dec (l.length < acc2.length)=false:=Aj (by omega)
          simp (disch:=omega) only [go_sem,Ab,hni,hg,hc,d1,J5,CZ]
          refine ⟨(i+1,acc2),⟨k+1,by dsimp only; omega,hlt,hR1,by dsimp only; omega,by dsimp only; omega⟩,by dsimp only; omega,?_⟩
          first | done | simp (disch:=omega) only [go_sem,Ab,d2]
      · rw [zE hge,Fm.fvL] at hR
        obtain ⟨hR1,hR2,hR3⟩:=hR
        have hR1:acc=_:=hR1
        rw [←hR1]
        rcases zB l.length acc.length with q1 | q1
        · have d1:=An q1
          simp (disch:=omega) only [go_sem,Ab,hni,d1]
        · have d1:=Aj (zV.2 q1)
          simp (disch:=omega) only [go_sem,Ab,hni,d1]
theorem Yc (x:Fm) (hx:x.forms=true):Qfb x :=
 Qb6 x hx fun y hy=>Yc y (Fm.BP hx hy)
termination_by SizeOf.sizeOf x
decreasing_by exact Fm.lt_of_mem hy
theorem Qdg (x:Fm) (hx:x.forms=true) (hv:x.vn≤1048576) (hn:x.nodes≤1048576):E 110 [x.sv] []=some (.ref 0,[.row 9 1 (x.free.map fun s=>[OT.str s])]):=by
 have h1:=Yc x hx [] [] (by simpa using hv) (by simpa using hn)
 rw [zO,zO,zL] at h1
 unfold Fm.free
 have hxs:x.sv=.agg [.int .i64 x.op,.str x.atom.name,.arr (x.atom.args.map Tm.d),.str x.var,.arr (x.parts.map Fm.d)]:=rfl
 obtain ⟨ns,hns⟩:∃ ns,ns=C4 [] (x.fv []):=⟨_,rfl⟩
 rw [←hns] at h1 ⊢
 rcases zB 0 ns.length with q | q
 ·rw [An q] at h1
  simp only [cond_true] at h1
  refine Af M7 IM (of_decide_eq_true rfl) ?_
  simp (disch:=omega) only [IL,go_sem,Ab,h1,CZ]
 ·rw [Aj (by omega)] at h1
  simp only [cond_false] at h1
  refine Af M7 IM (of_decide_eq_true rfl) ?_
  simp (disch:=omega) only [IL,go_sem,Ab,h1,CZ]
mutual
noncomputable def Fm.qs:Fm→List ByteArray
 | .mk op _ var parts=>(bif qB op then [var] else [])++Fm.qsL parts
noncomputable def Fm.qsL:List Fm→List ByteArray
 | []=>[]
 | x :: xs=>Fm.qs x++Fm.qsL xs
end
theorem Fm.Qdh (x:Fm):x.qs=(bif qB x.op then [x.var] else [])++Fm.qsL x.parts:=by
 obtain ⟨op,atom,var,parts⟩:=x
 rw [Fm.qs]; rfl
theorem Fm.SD (x:Fm):x.qs.length≤x.nodes:=by
 have key:∀ xs:List Fm,(∀ y∈xs,y.qs.length≤y.nodes)→(Fm.qsL xs).length≤Fm.nodeS xs:=by
  intro xs
  induction xs with
  | nil=>intro _; simp [Fm.qsL]
  | cons y ys ih =>
   intro h
   have h1:=h y (by simp)
   have h2:=ih fun z hz=>h z (by simp [hz])
   rw [Fm.qsL,Fm.nodeS,zG]; omega
 have h:=key x.parts fun y hy=>Fm.SD y
 rw [Fm.Qdh,Fm.nodes_eq,zG]
 cases qB x.op with
 | true=>simp only [cond_true,yO]; omega
 | false=>simp only [cond_false,zL]; omega
termination_by SizeOf.sizeOf x
decreasing_by exact Fm.lt_of_mem hy
noncomputable def Fm.sepd (x:Fm):Bool:=dec ((x.qs++x.free).Nodup)
theorem We {zs:List (List UInt8)} (hs:zs.Pairwise fun x y=>x≤y):(Lib.compact zs).length=zs.length ↔ zs.Nodup:=by
 have hk:(Lib.compact zs).length=zs.length ↔ ∀ j,j<zs.length→Lib.keeps zs.toArray j=true:=by
  unfold Lib.compact Lib.compactUpTo
  rw [zJ]
  have h:=List.length_filter_eq_length_iff (p:=Lib.keeps zs.toArray) (l:=List.range zs.length)
  rw [List.length_range] at h
  rw [h]
  simp only [yV]
 have at_:∀ j (h:j<zs.length),zs.toArray[j]! = zs[j]:=fun j h=>by
  rw [getElem!_pos zs.toArray j (by simpa using h)]; simp
 rw [hk]
 constructor
 ·intro h
  unfold List.Nodup
  rw [yS] at hs ⊢
  intro i j hi hj hij e
  have h1:=h j hj
  unfold Lib.keeps at h1
  rw [decide_eq_true_eq,at_ j hj,at_ (j-1) (by omega)] at h1
  rcases h1 with h1 | h1
  ·omega
  ·refine h1 ?_
   rcases zB i (j-1) with h2 | h2
   ·have a1:=hs i (j-1) hi (by omega) h2
    have a2:=hs (j-1) j (by omega) hj (by omega)
    rw [e] at a1
    exact List.le_antisymm a1 a2
   ·have:i=j-1:=by omega
    subst this
    exact e.symm
 ·intro h j hj
  unfold Lib.keeps
  rw [decide_eq_true_eq]
  rcases zK j with h0 | h0
  ·exact .inl h0
  ·right
   rw [at_ j hj,at_ (j-1) (by omega)]
   intro e
   unfold List.Nodup at h
   exact yS.1 h (j-1) j (by omega) hj (by omega) e.symm
theorem Qes {a b:ByteArray} (h:a.toList=b.toList):a=b:=by rw [←EH a,← EH b,h]
noncomputable def Tn (l:List ByteArray):List ByteArray:=(Lib.compact (l.map (·.toList))).map fun x=>⟨x.toArray⟩
theorem Qb7 (l:List ByteArray):(Tn (JK l)).length=(JK l).length ↔ l.Nodup:=by
 have e1:(JK l).map (·.toList)=srt (l.map (·.toList)):=by
  unfold JK
  rw [zX]
  have:((fun x:ByteArray=>x.toList) ∘ fun x:List UInt8=>(⟨x.toArray⟩:ByteArray))=id:=by
   funext x
   show (ByteArray.mk x.toArray).toList=x
   rw [ByteArray.toList_eq]
  rw [this,List.map_id]
 have hso:(srt (l.map (·.toList))).Pairwise fun x y=>x≤y:=by
  have:=List.pairwise_mergeSort (le:=fun x y:List UInt8=>decide (x≤y)) (fun a b c h k=>by
   rw [decide_eq_true_eq] at h k ⊢; exact List.le_trans h k) (fun a b=>by
   rw [Bool.or_eq_true,decide_eq_true_eq,decide_eq_true_eq]; exact List.le_total a b) (l.map (·.toList))
  exact this.imp fun h=>by rwa [decide_eq_true_eq] at h
 have hp:(srt (l.map (·.toList))).Perm (l.map (·.toList)):=List.mergeSort_perm _ _
 have h2:(JK l).length=(srt (l.map (·.toList))).length:=by rw [←e1,zJ]
 unfold Tn
 rw [zJ,e1,h2,We hso,hp.nodup_iff]
 constructor
 ·intro h
  exact List.Pairwise.of_map (fun x:ByteArray=>x.toList) (fun a b hab e=>hab (by rw [e])) h
 ·intro h
  unfold List.Nodup at h ⊢
  rw [List.pairwise_map]
  exact h.imp fun hab e=>hab (Qes e)
def Ef:SC:=(.seq (.reg [⟨some 1,none,.boxv 36 5 (.t 0)⟩,⟨some 2,none,.mv (.c .nil)⟩]) (.seq (.reg [⟨(some 6),none,(.mkrow 9 1 [(.str ⟨#[]⟩)] 0 [])⟩,⟨some 3,none,.mv (.t 6)⟩]) (.seq (.seq (.reg [⟨some 7,none,.faddr 0 (.t 1)⟩,⟨some 8,none,.load false 1 (.t 7)⟩,⟨some 9,none,.call 175 [(.t 8)]⟩]) (.cond (.t 9) (.reg [⟨some 10,none,.mv (.t 3)⟩,⟨some 11,none,.faddr 3 (.t 1)⟩,⟨some 12,none,.load false 1 (.t 11)⟩,⟨(some 13),none,(.mkrow 9 1 [(.str ⟨#[]⟩)] 1 [(0,(.t 12))])⟩,⟨(some 14),none,(.append 9 1 16 [(.str ⟨#[]⟩)] (.t 10) (.t 13))⟩,⟨some 3,none,.mv (.t 14)⟩]) .skip)) (.seq (.seq (.reg [⟨some 15,none,.faddr 4 (.t 1)⟩,⟨some 16,none,.load false 1 (.t 15)⟩,⟨some 17,none,.len false (.t 16)⟩,⟨some 18,none,.mv (.c (.int .i64 0))⟩]) (.block 0 (.loop [0,0,0,1,0,0,0,0,0,0,0,0,0,0,0,0,1,1,1,0,0,0,0,0,0,0,0,0] (.seq (.reg [⟨some 19,none,.bin .lss false (.t 18) (.t 17)⟩]) (.seq (.cond (.t 19) .skip (.exit 0)) (.seq (.block 1 (.seq (.reg [⟨some 20,none,.iaddr 5 (.t 16) (.t 18)⟩,⟨some 21,none,.load true 5 (.t 20)⟩,⟨(some 5),none,(.alloc 36 [(.int .i64 0),(.str ⟨#[]⟩),.nil,(.str ⟨#[]⟩),.nil])⟩,⟨none,none,(.store 5 (.t 5) (.t 21))⟩]) (.reg [⟨some 22,none,.mv (.t 3)⟩,⟨some 23,none,.load true 5 (.t 5)⟩,⟨some 24,none,.call 118 [(.t 23)]⟩,⟨(some 25),none,(.append 9 1 16 [(.str ⟨#[]⟩)] (.t 22) (.t 24))⟩,⟨some 3,none,.mv (.t 25)⟩]))) (.reg [⟨some 26,none,.bin .add false (.t 18) (.c (.int .i64 1))⟩,⟨some 18,none,.mv (.t 26)⟩]))))))) (.seq (.reg [⟨some 27,none,.mv (.t 3)⟩,⟨some 2,none,.mv (.t 27)⟩]) .ret)))))
theorem Gp:codeOf Tryz.prog 118=some ⟨28,Ef,[(.tmp 2)]⟩:=by kernel_rfl
theorem Cw:modes 118=⟨[],.asis,none,false⟩:=by unfold modes; rfl
def H5:SC:=(.seq (.reg [⟨some 1,none,.boxv 36 5 (.t 0)⟩,⟨some 2,none,.mv (.c (.bool false))⟩]) (.seq (.dreg [[],[0],[],[2,1,0],[1,0,3,2],[4,1,0,3,2]] [⟨some 4,none,.load true 5 (.t 1)⟩,⟨some 5,none,.call 118 [(.t 4)]⟩,⟨some 6,none,.load true 5 (.t 1)⟩,⟨some 7,none,.call 58 [(.t 6)]⟩,⟨(some 8),none,(.append 9 1 16 [(.str ⟨#[]⟩)] (.t 5) (.t 7))⟩,⟨some 3,none,.mv (.t 8)⟩]) (.seq (.reg [⟨some 9,none,.mv (.t 3)⟩,⟨some 10,none,.call 119 [(.t 9)]⟩]) (.seq (.reg [⟨some 11,none,.mv (.t 3)⟩,⟨some 12,none,.call 57 [(.t 11)]⟩,⟨some 13,none,.call 120 [(.t 12)]⟩,⟨some 14,none,.len false (.t 13)⟩,⟨some 15,none,.mv (.t 3)⟩,⟨some 16,none,.len false (.t 15)⟩,⟨some 17,none,.bin .eql false (.t 14) (.t 16)⟩,⟨some 2,none,.mv (.t 17)⟩]) .ret))))
theorem Ni:codeOf Tryz.prog 54=some ⟨18,H5,[(.tmp 2)]⟩:=by kernel_rfl
theorem BQ:modes 54=⟨[],.asis,none,false⟩:=by unfold modes; rfl
theorem Do:modes 120=⟨[true],.asis,some FG,false⟩:=by unfold modes; rfl
theorem Z4 (l:List ByteArray) (hl:l.length≤1099511627776):E 120 [.ref 0] [.row 9 1 (l.map fun s=>[OT.str s])]=some (.ref 1,[.gone,.row 9 1 ((Tn l).map fun s=>[OT.str s])]):=by
 rw [FH (g:=FG) (congrArg FM.ext Do)]
 unfold FG
 simp only
 rw [An ⟨by first | trivial | rfl,fun e he=>by obtain ⟨s,_,rfl⟩:=yU.1 he; exact ⟨s,rfl⟩,by simpa using hl⟩,cond_true]
 have e1:(l.map fun s=>[OT.str s]).map (fun e=>(KJ e).toList)=l.map (·.toList):=by rw [zX]; rfl
 rw [e1]
 unfold Tn
 rw [zX]
 rfl
abbrev QsC (x:Fm):Prop:=E 118 [x.sv] []=some (.ref 0,[.row 9 1 (x.qs.map (fun s=>[OT.str s]))])
theorem Pt (x:Fm) (hn:x.nodes≤1048576) (ih:∀ y∈x.parts,QsC y):QsC x:=by
 unfold QsC
 have hpl:=Fm.length_le x.parts
 have hnq:=Fm.nodes_eq x
 have hql:=Fm.SD x
 have hqs:=(Fm.Qdh x).symm
 have hxs:x.sv=.agg [.int .i64 x.op,.str x.atom.name,.arr (x.atom.args.map Tm.d),.str x.var,.arr (x.parts.map Fm.d)]:=rfl
 have hq0:=Cv x.op
 cases hq:qB x.op with
 | true =>
  rw [hq,cond_true] at hqs
  unfold qB at hq
  rw [hq] at hq0
  have hz0:[[OT.str x.var]]=[x.var].map (fun s=>[OT.str s]):=rfl
  refine Af Gp Cw (of_decide_eq_true rfl) ?_
  simp (disch:=omega) only [Ef,go_sem,Ab,hq0,Ac]
  refine go_loop (α:=Int × (List ByteArray)) (fun a=>⟨slots 28 0 [(3,.ref 0),(16,.arr (x.parts.map Fm.d)),(17,.int .i64 x.parts.length),(18,.int .i64 (a.1))],[.row 9 1 ((a.2).map (fun s=>[OT.str s]))]⟩) (fun a=>∃ k:Nat,a.1=k∧k≤(x.parts).length∧(a.2)++Fm.qsL (x.parts.drop k)=x.qs) (fun a=>(x.parts).length-(a.1).toNat) (0,[x.var]) ⟨0,rfl,zH _,by rw [zI,hqs]⟩ (by simp (disch:=omega) only [go_sem,Ab]) ?_
  rintro ⟨i,acc⟩ ⟨k,hi,hk,hR⟩
  dsimp only at hi hR
  have hni:i.toNat=k:=by omega
  have hni1:(i+1).toNat=k+1:=by omega
  rcases zB k (x.parts).length with hlt | hge
  ·have hg:=get_at Fm.d hlt
   rw [Fm.d_eq] at hg
   rw [zC hlt,Fm.qsL,← zR] at hR
   have hc:=ih x.parts[k] (zD hlt)
   unfold QsC at hc
   have hps:x.parts[k].sv=.agg [.int .i64 x.parts[k].op,.str x.parts[k].atom.name,.arr (x.parts[k].atom.args.map Tm.d),.str x.parts[k].var,.arr (x.parts[k].parts.map Fm.d)]:=rfl
   rw [hps] at hc
   have hap:acc.map (fun s=>[OT.str s])++x.parts[k].qs.map (fun s=>[OT.str s])=(acc++x.parts[k].qs).map (fun s=>[OT.str s]):=by rw [zQ]
   have hlen:=congrArg yP hR
   rw [zG,zG] at hlen
   have hal:=GI x.parts[k].qs
   simp (disch:=omega) only [go_sem,Ab,hni,hg,hc,hap,hal,Cw]
   refine ⟨(i+1,acc++x.parts[k].qs),⟨k+1,by dsimp only; omega,hlt,hR⟩,by dsimp only; omega,?_⟩
   first | trivial | rfl | simp (disch:=omega) only [go_sem,Ab]
  ·rw [zE hge,Fm.qsL,zU] at hR
   have hR:acc=x.qs:=hR
   rw [←hR]
   simp (disch:=omega) only [go_sem,Ab,hni]
 | false =>
  rw [hq,cond_false] at hqs
  unfold qB at hq
  rw [hq] at hq0
  have hz0:([]:List ByteArray).map (fun s=>[OT.str s])=[]:=rfl
  refine Af Gp Cw (of_decide_eq_true rfl) ?_
  simp (disch:=omega) only [Ef,go_sem,Ab,hq0,Ac]
  refine go_loop (α:=Int × (List ByteArray)) (fun a=>⟨slots 28 0 [(3,.ref 0),(16,.arr (x.parts.map Fm.d)),(17,.int .i64 x.parts.length),(18,.int .i64 (a.1))],[.row 9 1 ((a.2).map (fun s=>[OT.str s]))]⟩) (fun a=>∃ k:Nat,a.1=k∧k≤(x.parts).length∧(a.2)++Fm.qsL (x.parts.drop k)=x.qs) (fun a=>(x.parts).length-(a.1).toNat) (0,[]) ⟨0,rfl,zH _,by rw [zI,hqs]⟩ (by simp (disch:=omega) only [go_sem,Ab]) ?_
  rintro ⟨i,acc⟩ ⟨k,hi,hk,hR⟩
  dsimp only at hi hR
  have hni:i.toNat=k:=by omega
  have hni1:(i+1).toNat=k+1:=by omega
  rcases zB k (x.parts).length with hlt | hge
  ·have hg:=get_at Fm.d hlt
   rw [Fm.d_eq] at hg
   rw [zC hlt,Fm.qsL,← zR] at hR
   have hc:=ih x.parts[k] (zD hlt)
   unfold QsC at hc
   have hps:x.parts[k].sv=.agg [.int .i64 x.parts[k].op,.str x.parts[k].atom.name,.arr (x.parts[k].atom.args.map Tm.d),.str x.parts[k].var,.arr (x.parts[k].parts.map Fm.d)]:=rfl
   rw [hps] at hc
   have hap:acc.map (fun s=>[OT.str s])++x.parts[k].qs.map (fun s=>[OT.str s])=(acc++x.parts[k].qs).map (fun s=>[OT.str s]):=by rw [zQ]
   have hlen:=congrArg yP hR
   rw [zG,zG] at hlen
   have hal:=GI x.parts[k].qs
   simp (disch:=omega) only [go_sem,Ab,hni,hg,hc,hap,hal,Cw]
   refine ⟨(i+1,acc++x.parts[k].qs),⟨k+1,by dsimp only; omega,hlt,hR⟩,by dsimp only; omega,?_⟩
   first | trivial | rfl | simp (disch:=omega) only [go_sem,Ab]
  ·rw [zE hge,Fm.qsL,zU] at hR
   have hR:acc=x.qs:=hR
   rw [←hR]
   simp (disch:=omega) only [go_sem,Ab,hni]
theorem Kr (x:Fm) (hn:x.nodes≤1048576):QsC x :=
 Pt x hn fun y hy=>Kr y (by have:=Fm.nodes_mem hy; have:=Fm.nodes_eq x; omega)
termination_by SizeOf.sizeOf x
decreasing_by exact Fm.lt_of_mem hy
theorem To (x:Fm) (hx:x.forms=true) (hv:x.vn≤100000) (hn:x.nodes≤100000):E 54 [x.sv] []=some (.bool x.sepd,[]):=by
 have h1:=Kr x (by omega)
 unfold QsC at h1
 have h2:=Qfa x hx (by omega) (by omega)
 have hql:=Fm.SD x
 have hfl:=Fm.JP x []
 have hil:=E3 (x.fv []) []
 rw [zL,Nat.zero_add] at hil
 have hfr:x.free.length≤100000:=by unfold Fm.free; omega
 have ha:x.qs.map (fun s=>[OT.str s])++x.free.map (fun s=>[OT.str s])=(x.qs++x.free).map (fun s=>[OT.str s]):=by rw [zQ]
 have hbf:(x.free.map fun s=>[D.str s]).map (fun x=>x.map D.ot)=x.free.map (fun s=>[OT.str s]):=by rw [zX]; rfl
 have hal:=GI x.free
 have hadl:=Jp x.free
 have hcb:=Qb7 (x.qs++x.free)
 have hlen:(x.qs++x.free).length≤200000:=by rw [zG]; omega
 have h3:=VQ (x.qs++x.free) (by omega)
 have hpl:=(Pb (x.qs++x.free)).length_eq
 have hsd:x.sepd=dec ((Tn (JK (x.qs++x.free))).length=(JK (x.qs++x.free)).length):=by
  unfold Fm.sepd
  rw [show ((x.qs++x.free).Nodup)=((Tn (JK (x.qs++x.free))).length=(JK (x.qs++x.free)).length) from propext hcb.symm]
 rw [hsd]
 clear hcb hsd
 have hqf:(x.qs.map (fun s=>[OT.str s])).length=x.qs.length:=zJ _
 obtain ⟨qf,hqf2⟩:∃ qf,qf=x.qs++x.free:=⟨_,rfl⟩
 rw [←hqf2] at ha hlen h3 hpl ⊢
 obtain ⟨so,hso⟩:∃ so,so=JK qf:=⟨_,rfl⟩
 rw [←hso] at h3 hpl ⊢
 have h4:=XY so (by omega)
 have h5:=Z4 so (by omega)
 have hdec:dec (((Tn so).length:Int)=(so.length:Int))=dec ((Tn so).length=so.length):=by
  rw [show (((Tn so).length:Int)=(so.length:Int))=((Tn so).length=so.length) from propext ⟨fun h=>by omega,fun h=>by omega⟩]
 have hxs:x.sv=.agg [.int .i64 x.op,.str x.atom.name,.arr (x.atom.args.map Tm.d),.str x.var,.arr (x.parts.map Fm.d)]:=rfl
 refine Af Ni BQ (of_decide_eq_true rfl) ?_
 simp (disch:=omega) only [H5,go_sem,Ab,h1,h2,ha,hbf,hal,hadl,h3,h4,h5,hdec,Cw,Lv,Bm,DA,Do]
def Ft:SC:=(.seq (.reg [⟨some 1,none,.boxv 36 5 (.t 0)⟩,⟨some 2,none,.mv (.c .nil)⟩]) (.seq (.reg [⟨(some 5),none,(.mkrow 9 1 [(.str ⟨#[]⟩)] 0 [])⟩,⟨some 3,none,.mv (.t 5)⟩]) (.seq (.seq (.reg [⟨some 6,none,.faddr 0 (.t 1)⟩,⟨some 7,none,.load false 1 (.t 6)⟩,⟨some 8,none,.bin .eql false (.t 7) (.c (.int .i64 8))⟩,⟨some 9,none,.mv (.t 8)⟩,⟨(some 10),(some (9,false)),(.faddr 0 (.t 1))⟩,⟨(some 11),(some (9,false)),(.load false 1 (.t 10))⟩,⟨(some 12),(some (9,false)),(.bin .eql false (.t 11) (.c (.int .i64 9)))⟩,⟨some 13,none,.pick (.t 9) (.c (.bool true)) (.t 12)⟩]) (.cond (.t 13) (.reg [⟨some 14,none,.mv (.t 3)⟩,⟨some 15,none,.faddr 3 (.t 1)⟩,⟨some 16,none,.load false 1 (.t 15)⟩,⟨(some 17),none,(.mkrow 9 1 [(.str ⟨#[]⟩)] 1 [(0,(.t 16))])⟩,⟨(some 18),none,(.append 9 1 16 [(.str ⟨#[]⟩)] (.t 14) (.t 17))⟩,⟨some 3,none,.mv (.t 18)⟩]) .skip)) (.seq (.seq (.reg [⟨some 4,none,.mv (.c (.int .i64 0))⟩]) (.block 0 (.loop [0,1,0,1,1,0,0,0,0,0,0,0,0,0,0,0,0,0,0,0,0,0,0,0,0,0,0,0,0,0,0,0,0,0,0] (.seq (.seq (.reg [⟨some 19,none,.mv (.t 4)⟩,⟨some 20,none,.faddr 4 (.t 1)⟩,⟨some 21,none,.load false 1 (.t 20)⟩,⟨some 22,none,.len false (.t 21)⟩,⟨some 23,none,.bin .lss false (.t 19) (.t 22)⟩]) (.cond (.t 23) .skip (.exit 0))) (.seq (.block 1 (.reg [⟨some 26,none,.mv (.t 3)⟩,⟨some 27,none,.faddr 4 (.t 1)⟩,⟨some 28,none,.load false 1 (.t 27)⟩,⟨some 29,none,.mv (.t 4)⟩,⟨some 30,none,.iaddr 5 (.t 28) (.t 29)⟩,⟨some 31,none,.load true 5 (.t 30)⟩,⟨some 32,none,.call 111 [(.t 31)]⟩,⟨(some 33),none,(.append 9 1 16 [(.str ⟨#[]⟩)] (.t 26) (.t 32))⟩,⟨some 3,none,.mv (.t 33)⟩])) (.reg [⟨some 24,none,.mv (.t 4)⟩,⟨some 25,none,.bin .add false (.t 24) (.c (.int .i64 1))⟩,⟨some 4,none,.mv (.t 25)⟩])))))) (.seq (.reg [⟨some 34,none,.mv (.t 3)⟩,⟨some 2,none,.mv (.t 34)⟩]) .ret)))))
theorem H6:codeOf Tryz.prog 111=some ⟨35,Ft,[(.tmp 2)]⟩:=by kernel_rfl
theorem CO:modes 111=⟨[],.frz,none,false⟩:=by unfold modes; rfl
def H7:SC:=(.seq (.reg [⟨some 1,none,.boxv 36 5 (.t 0)⟩,⟨some 2,none,.mv (.c (.bool false))⟩]) (.seq (.reg [⟨some 6,none,.load true 5 (.t 1)⟩,⟨some 7,none,.call 110 [(.t 6)]⟩,⟨some 3,none,.mv (.t 7)⟩]) (.seq (.reg [⟨some 8,none,.load true 5 (.t 1)⟩,⟨some 9,none,.call 111 [(.t 8)]⟩,⟨some 4,none,.mv (.t 9)⟩]) (.seq (.seq (.reg [⟨some 5,none,.mv (.c (.int .i64 0))⟩]) (.block 0 (.loop [0,0,0,1,1,1,0,0,0,0,0,0,0,0,0,0,0,0,0,0,0,0,0,0,0,0,0,0,0] (.seq (.seq (.reg [⟨some 10,none,.mv (.t 5)⟩,⟨some 11,none,.mv (.t 4)⟩,⟨some 12,none,.len false (.t 11)⟩,⟨some 13,none,.bin .lss false (.t 10) (.t 12)⟩]) (.cond (.t 13) .skip (.exit 0))) (.seq (.block 1 (.seq (.seq (.reg [⟨some 16,none,.mv (.t 3)⟩,⟨some 17,none,.mv (.t 4)⟩,⟨some 18,none,.mv (.t 5)⟩,⟨some 19,none,.iaddr 1 (.t 17) (.t 18)⟩,⟨some 20,none,.load false 1 (.t 19)⟩,⟨some 21,none,.call 112 [(.t 16),(.t 20)]⟩]) (.cond (.t 21) (.seq (.reg [⟨some 2,none,.mv (.c (.bool false))⟩]) .ret) .skip)) (.reg [⟨some 22,none,.mv (.t 3)⟩,⟨some 23,none,.mv (.t 4)⟩,⟨some 24,none,.mv (.t 5)⟩,⟨some 25,none,.iaddr 1 (.t 23) (.t 24)⟩,⟨some 26,none,.load false 1 (.t 25)⟩,⟨(some 27),none,(.mkrow 9 1 [(.str ⟨#[]⟩)] 1 [(0,(.t 26))])⟩,⟨(some 28),none,(.append 9 1 16 [(.str ⟨#[]⟩)] (.t 22) (.t 27))⟩,⟨some 3,none,.mv (.t 28)⟩]))) (.reg [⟨some 14,none,.mv (.t 5)⟩,⟨some 15,none,.bin .add false (.t 14) (.c (.int .i64 1))⟩,⟨some 5,none,.mv (.t 15)⟩])))))) (.seq (.reg [⟨some 2,none,.mv (.c (.bool true))⟩]) .ret)))))
theorem Nj:codeOf Tryz.prog 50=some ⟨29,H7,[(.tmp 2)]⟩:=by kernel_rfl
theorem BR:modes 50=⟨[],.asis,none,false⟩:=by unfold modes; rfl
abbrev QbC (x:Fm):Prop:=E 111 [x.sv] []=some (.arr (x.qs.map fun s=>[D.str s]),[])
theorem Z5 (x:Fm) (hn:x.nodes≤1048576) (ih:∀ y∈x.parts,QbC y):QbC x:=by
 unfold QbC
 have hpl:=Fm.length_le x.parts
 have hnq:=Fm.nodes_eq x
 have hql:=Fm.SD x
 have hqs:=(Fm.Qdh x).symm
 have hxs:x.sv=.agg [.int .i64 x.op,.str x.atom.name,.arr (x.atom.args.map Tm.d),.str x.var,.arr (x.parts.map Fm.d)]:=rfl
 cases hq:qB x.op with
 | true =>
  rw [hq,cond_true] at hqs
  have hz0:[[OT.str x.var]]=[x.var].map (fun s=>[OT.str s]):=rfl
  rcases hq8:dec (x.op=8) with _ | _
  ·have hq9:dec (x.op=9)=true:=by unfold qB at hq; rw [hq8,zS] at hq; exact hq
   refine Af H6 CO (of_decide_eq_true rfl) ?_
   simp (disch:=omega) only [Ft,go_sem,Ab,hq8,hq9]
   refine go_loop (α:=Int × (List ByteArray)) (fun a=>⟨slots 35 0 [(1,.ptr 0 0),(3,.ref 1),(4,.int .i64 (a.1))],[.box 36 [.int .i64 x.op,.str x.atom.name,.arr (x.atom.args.map Tm.d),.str x.var,.arr (x.parts.map Fm.d)],.row 9 1 ((a.2).map (fun s=>[OT.str s]))]⟩) (fun a=>∃ k:Nat,a.1=k∧k≤(x.parts).length∧(a.2)++Fm.qsL (x.parts.drop k)=x.qs) (fun a=>(x.parts).length-(a.1).toNat) (0,[x.var]) ⟨0,rfl,zH _,by rw [zI,hqs]⟩ (by simp (disch:=omega) only [go_sem,Ab]) ?_
   rintro ⟨i,acc⟩ ⟨k,hi,hk,hR⟩
   dsimp only at hi hR
   have hni:i.toNat=k:=by omega
   have hni1:(i+1).toNat=k+1:=by omega
   rcases zB k (x.parts).length with hlt | hge
   ·have hg:=get_at Fm.d hlt
    rw [Fm.d_eq] at hg
    rw [zC hlt,Fm.qsL,← zR] at hR
    have hc:=ih x.parts[k] (zD hlt)
    unfold QbC at hc
    have hps:x.parts[k].sv=.agg [.int .i64 x.parts[k].op,.str x.parts[k].atom.name,.arr (x.parts[k].atom.args.map Tm.d),.str x.parts[k].var,.arr (x.parts[k].parts.map Fm.d)]:=rfl
    rw [hps] at hc
    have hap:acc.map (fun s=>[OT.str s])++x.parts[k].qs.map (fun s=>[OT.str s])=(acc++x.parts[k].qs).map (fun s=>[OT.str s]):=by rw [zQ]
    have hbf:(x.parts[k].qs.map fun s=>[D.str s]).map (fun x=>x.map D.ot)=x.parts[k].qs.map (fun s=>[OT.str s]):=by rw [zX]; rfl
    have hlen:=congrArg yP hR
    rw [zG,zG] at hlen
    have hal:=GI x.parts[k].qs
    have hadl:=Jp x.parts[k].qs
    simp (disch:=omega) only [go_sem,Ab,hni,hg,hc,hap,hbf,hal,hadl,CO]
    refine ⟨(i+1,acc++x.parts[k].qs),⟨k+1,by dsimp only; omega,hlt,hR⟩,by dsimp only; omega,?_⟩
    first | trivial | rfl | simp (disch:=omega) only [go_sem,Ab]
   ·rw [zE hge,Fm.qsL,zU] at hR
    have hR:acc=x.qs:=hR
    rw [←hR]
    simp (disch:=omega) only [go_sem,Ab,hni]
  ·refine Af H6 CO (of_decide_eq_true rfl) ?_
   simp (disch:=omega) only [Ft,go_sem,Ab,hq8]
   refine go_loop (α:=Int × (List ByteArray)) (fun a=>⟨slots 35 0 [(1,.ptr 0 0),(3,.ref 1),(4,.int .i64 (a.1))],[.box 36 [.int .i64 x.op,.str x.atom.name,.arr (x.atom.args.map Tm.d),.str x.var,.arr (x.parts.map Fm.d)],.row 9 1 ((a.2).map (fun s=>[OT.str s]))]⟩) (fun a=>∃ k:Nat,a.1=k∧k≤(x.parts).length∧(a.2)++Fm.qsL (x.parts.drop k)=x.qs) (fun a=>(x.parts).length-(a.1).toNat) (0,[x.var]) ⟨0,rfl,zH _,by rw [zI,hqs]⟩ (by simp (disch:=omega) only [go_sem,Ab]) ?_
   rintro ⟨i,acc⟩ ⟨k,hi,hk,hR⟩
   dsimp only at hi hR
   have hni:i.toNat=k:=by omega
   have hni1:(i+1).toNat=k+1:=by omega
   rcases zB k (x.parts).length with hlt | hge
   ·have hg:=get_at Fm.d hlt
    rw [Fm.d_eq] at hg
    rw [zC hlt,Fm.qsL,← zR] at hR
    have hc:=ih x.parts[k] (zD hlt)
    unfold QbC at hc
    have hps:x.parts[k].sv=.agg [.int .i64 x.parts[k].op,.str x.parts[k].atom.name,.arr (x.parts[k].atom.args.map Tm.d),.str x.parts[k].var,.arr (x.parts[k].parts.map Fm.d)]:=rfl
    rw [hps] at hc
    have hap:acc.map (fun s=>[OT.str s])++x.parts[k].qs.map (fun s=>[OT.str s])=(acc++x.parts[k].qs).map (fun s=>[OT.str s]):=by rw [zQ]
    have hbf:(x.parts[k].qs.map fun s=>[D.str s]).map (fun x=>x.map D.ot)=x.parts[k].qs.map (fun s=>[OT.str s]):=by rw [zX]; rfl
    have hlen:=congrArg yP hR
    rw [zG,zG] at hlen
    have hal:=GI x.parts[k].qs
    have hadl:=Jp x.parts[k].qs
    simp (disch:=omega) only [go_sem,Ab,hni,hg,hc,hap,hbf,hal,hadl,CO]
    refine ⟨(i+1,acc++x.parts[k].qs),⟨k+1,by dsimp only; omega,hlt,hR⟩,by dsimp only; omega,?_⟩
    first | trivial | rfl | simp (disch:=omega) only [go_sem,Ab]
   ·rw [zE hge,Fm.qsL,zU] at hR
    have hR:acc=x.qs:=hR
    rw [←hR]
    simp (disch:=omega) only [go_sem,Ab,hni]
 | false =>
  rw [hq,cond_false] at hqs
  unfold qB at hq
  rw [Bool.or_eq_false_iff] at hq
  obtain ⟨hq8,hq9⟩:=hq
  have hz0:([]:List ByteArray).map (fun s=>[OT.str s])=[]:=rfl
  refine Af H6 CO (of_decide_eq_true rfl) ?_
  simp (disch:=omega) only [Ft,go_sem,Ab,hq8,hq9]
  refine go_loop (α:=Int × (List ByteArray)) (fun a=>⟨slots 35 0 [(1,.ptr 0 0),(3,.ref 1),(4,.int .i64 (a.1))],[.box 36 [.int .i64 x.op,.str x.atom.name,.arr (x.atom.args.map Tm.d),.str x.var,.arr (x.parts.map Fm.d)],.row 9 1 ((a.2).map (fun s=>[OT.str s]))]⟩) (fun a=>∃ k:Nat,a.1=k∧k≤(x.parts).length∧(a.2)++Fm.qsL (x.parts.drop k)=x.qs) (fun a=>(x.parts).length-(a.1).toNat) (0,[]) ⟨0,rfl,zH _,by rw [zI,hqs]⟩ (by simp (disch:=omega) only [go_sem,Ab]) ?_
  rintro ⟨i,acc⟩ ⟨k,hi,hk,hR⟩
  dsimp only at hi hR
  have hni:i.toNat=k:=by omega
  have hni1:(i+1).toNat=k+1:=by omega
  rcases zB k (x.parts).length with hlt | hge
  ·have hg:=get_at Fm.d hlt
   rw [Fm.d_eq] at hg
   rw [zC hlt,Fm.qsL,← zR] at hR
   have hc:=ih x.parts[k] (zD hlt)
   unfold QbC at hc
   have hps:x.parts[k].sv=.agg [.int .i64 x.parts[k].op,.str x.parts[k].atom.name,.arr (x.parts[k].atom.args.map Tm.d),.str x.parts[k].var,.arr (x.parts[k].parts.map Fm.d)]:=rfl
   rw [hps] at hc
   have hap:acc.map (fun s=>[OT.str s])++x.parts[k].qs.map (fun s=>[OT.str s])=(acc++x.parts[k].qs).map (fun s=>[OT.str s]):=by rw [zQ]
   have hbf:(x.parts[k].qs.map fun s=>[D.str s]).map (fun x=>x.map D.ot)=x.parts[k].qs.map (fun s=>[OT.str s]):=by rw [zX]; rfl
   have hlen:=congrArg yP hR
   rw [zG,zG] at hlen
   have hal:=GI x.parts[k].qs
   have hadl:=Jp x.parts[k].qs
   simp (disch:=omega) only [go_sem,Ab,hni,hg,hc,hap,hbf,hal,hadl,CO]
   refine ⟨(i+1,acc++x.parts[k].qs),⟨k+1,by dsimp only; omega,hlt,hR⟩,by dsimp only; omega,?_⟩
   first | trivial | rfl | simp (disch:=omega) only [go_sem,Ab]
  ·rw [zE hge,Fm.qsL,zU] at hR
   have hR:acc=x.qs:=hR
   rw [←hR]
   simp (disch:=omega) only [go_sem,Ab,hni]
theorem U5 (x:Fm) (hn:x.nodes≤1048576):QbC x :=
 Z5 x hn fun y hy=>U5 y (by have:=Fm.nodes_mem hy; have:=Fm.nodes_eq x; omega)
termination_by SizeOf.sizeOf x
decreasing_by exact Fm.lt_of_mem hy
theorem Z6 (x:Fm):x.free.Nodup:=by
 unfold Fm.free
 rw [←Po,(Pb _).nodup_iff]
 exact JJ List.nodup_nil
theorem Qb8 (x:Fm):x.sepd=dec ((x.free++x.qs).Nodup):=by
 unfold Fm.sepd
 rw [show ((x.qs++x.free).Nodup)=((x.free++x.qs).Nodup) from propext List.perm_append_comm.nodup_iff]
theorem Tp (x:Fm) (hx:x.forms=true) (hv:x.vn≤100000) (hn:x.nodes≤100000):E 50 [x.sv] []=some (.bool x.sepd,[]):=by
 have h1:=U5 x (by omega)
 unfold QbC at h1
 have h2:=Qdg x hx (by omega) (by omega)
 have hql:=Fm.SD x
 have hfl:=Fm.JP x []
 have hil:=E3 (x.fv []) []
 rw [zL,Nat.zero_add] at hil
 have hfr:x.free.length≤100000:=by unfold Fm.free; omega
 have hfn:=Z6 x
 rw [Qb8]
 obtain ⟨fr,hfr2⟩:∃ fr,fr=x.free:=⟨_,rfl⟩
 obtain ⟨qs,hqs2⟩:∃ qs,qs=x.qs:=⟨_,rfl⟩
 rw [←hfr2] at h2 hfr hfn ⊢
 rw [←hqs2] at h1 hql ⊢
 have hxs:x.sv=.agg [.int .i64 x.op,.str x.atom.name,.arr (x.atom.args.map Tm.d),.str x.var,.arr (x.parts.map Fm.d)]:=rfl
 refine Af Nj BR (of_decide_eq_true rfl) ?_
 simp (disch:=omega) only [H7,go_sem,Ab,h1,h2,CO,IM]
 refine go_loop (α:=Int × (List ByteArray)) (fun a=>⟨slots 29 0 [(3,.ref 0),(4,.arr (qs.map fun s=>[D.str s])),(5,.int .i64 (a.1))],[.row 9 1 ((a.2).map (fun s=>[OT.str s]))]⟩) (fun a=>∃ k:Nat,a.1=k∧k≤(qs).length∧(a.2)++qs.drop k=fr++qs∧(a.2).length≤100000+k∧(a.2).Nodup) (fun a=>(qs).length-(a.1).toNat) (0,fr) ⟨0,rfl,zH _,by rw [zI],by dsimp only; omega,hfn⟩ (by simp (disch:=omega) only [go_sem,Ab]) ?_
 rintro ⟨i,acc⟩ ⟨k,hi,hk,hR⟩
 dsimp only at hi hR
 have hni:i.toNat=k:=by omega
 have hni1:(i+1).toNat=k+1:=by omega
 rcases zB k (qs).length with hlt | hge
 ·have hg:=get_at (fun s=>[D.str s]) hlt
  obtain ⟨hR1,hR2,hR3⟩:=hR
  have hin:=Zw acc qs[k] (by omega)
  by_cases hm:qs[k]∈acc
  ·rw [An hm] at hin
   have hno:dec ((fr++qs).Nodup)=false:=Aj fun h=>by
    rw [←hR1,zC hlt,List.nodup_append] at h
    exact h.2.2 qs[k] hm qs[k] List.mem_cons_self rfl
   rw [hno]
   have hap:True:=trivial
   simp (disch:=omega) only [go_sem,Ab,hni,hg,hin,hap,Ee]
  ·rw [Aj hm] at hin
   have hap:acc.map (fun s=>[OT.str s])++[[OT.str qs[k]]]=(acc++[qs[k]]).map (fun s=>[OT.str s]):=by simp
   simp (disch:=omega) only [go_sem,Ab,hni,hg,hin,hap,Ee]
   refine ⟨(i+1,acc++[qs[k]]),⟨k+1,by dsimp only; omega,hlt,by rw [zR,← hR1,zC hlt]; rfl,by simp; omega,?_⟩,by dsimp only; omega,?_⟩
   ·rw [List.nodup_append]
    exact ⟨hR3,by simp,fun a ha b hb e=>hm (by simp at hb; rw [←hb,← e]; exact ha)⟩
   ·simp (disch:=omega) only [go_sem,Ab]
 ·obtain ⟨hR1,hR2,hR3⟩:=hR
  rw [zE hge,zU] at hR1
  rw [←hR1,An hR3]
  simp (disch:=omega) only [go_sem,Ab,hni]
mutual
noncomputable def Fm.isN:Fm→Bool
 | .mk op _ _ parts=>!(dec (op=7) || (dec (op=4)&&!dec ((XV parts).op=3)))&&Fm.Qdi parts
noncomputable def Fm.Qdi:List Fm→Bool
 | []=>true
 | x :: xs=>Fm.isN x&&Fm.Qdi xs
end
theorem Fm.Yd:∀ xs:List Fm,Fm.Qdi xs=xs.all Fm.isN
 | []=>by rw [Fm.Qdi]; rfl
 | x :: xs=>by rw [Fm.Qdi,Fm.Yd xs]; rfl
theorem Fm.Wg (x:Fm):x.isN=(!(dec (x.op=7) || (dec (x.op=4)&&!dec ((XV x.parts).op=3)))&&x.parts.all Fm.isN):=by
 obtain ⟨op,atom,var,parts⟩:=x
 rw [Fm.isN,Fm.Yd]; rfl
def BU:SC:=(.seq (.reg [⟨some 1,none,.boxv 36 5 (.t 0)⟩,⟨some 2,none,.mv (.c (.bool false))⟩]) (.seq (.seq (.reg [⟨some 3,none,.faddr 0 (.t 1)⟩,⟨some 4,none,.load false 1 (.t 3)⟩,⟨some 5,none,.bin .eql false (.t 4) (.c (.int .i64 7))⟩,⟨some 6,none,.mv (.t 5)⟩,⟨(some 7),(some (6,false)),(.faddr 0 (.t 1))⟩,⟨(some 8),(some (6,false)),(.load false 1 (.t 7))⟩,⟨(some 9),(some (6,false)),(.bin .eql false (.t 8) (.c (.int .i64 4)))⟩,⟨(some 10),(some (6,false)),(.mv (.t 9))⟩,⟨(some 11),(some (10,true)),(.faddr 4 (.t 1))⟩,⟨(some 12),(some (10,true)),(.load false 1 (.t 11))⟩,⟨(some 13),(some (10,true)),(.iaddr 5 (.t 12) (.c (.int .i64 0)))⟩,⟨(some 14),(some (10,true)),(.faddr 0 (.t 13))⟩,⟨(some 15),(some (10,true)),(.load false 1 (.t 14))⟩,⟨(some 16),(some (10,true)),(.bin .neq false (.t 15) (.c (.int .i64 3)))⟩,⟨(some 17),(some (6,false)),(.pick (.t 10) (.t 16) (.c (.bool false)))⟩,⟨some 18,none,.pick (.t 6) (.c (.bool true)) (.t 17)⟩]) (.cond (.t 18) (.seq (.reg [⟨some 2,none,.mv (.c (.bool false))⟩]) .ret) .skip)) (.seq (.reg [⟨some 19,none,.faddr 4 (.t 1)⟩,⟨some 20,none,.load false 1 (.t 19)⟩,⟨some 21,none,.call 121 [(.t 20),(.c (.fn 122 []))]⟩,⟨some 22,none,.un .not (.t 21)⟩,⟨some 2,none,.mv (.t 22)⟩]) .ret)))
theorem Cy:codeOf Tryz.prog 55=some ⟨23,BU,[(.tmp 2)]⟩:=by kernel_rfl
theorem A7:modes 55=⟨[],.asis,none,false⟩:=by unfold modes; rfl
def Ep:SC:=(.seq (.reg [⟨some 1,none,.boxv 36 5 (.t 0)⟩,⟨some 2,none,.mv (.c (.bool false))⟩]) (.seq (.reg [⟨some 3,none,.load true 5 (.t 1)⟩,⟨some 4,none,.call 55 [(.t 3)]⟩,⟨some 5,none,.un .not (.t 4)⟩,⟨some 2,none,.mv (.t 5)⟩]) .ret))
theorem HO:codeOf Tryz.prog 122=some ⟨6,Ep,[(.tmp 2)]⟩:=by kernel_rfl
theorem Er:modes 122=⟨[],.asis,none,false⟩:=by unfold modes; rfl
theorem HP:GD Tryz.prog 122=true:=by kernel_rfl
def Eg:SC:=(.seq (.reg [⟨some 1,none,.boxv 36 5 (.t 0)⟩,⟨some 2,none,.mv (.c (.bool false))⟩]) (.seq (.seq (.reg [⟨some 4,none,.faddr 0 (.t 1)⟩,⟨some 5,none,.load false 1 (.t 4)⟩,⟨some 6,none,.bin .eql false (.t 5) (.c (.int .i64 7))⟩,⟨some 7,none,.mv (.t 6)⟩,⟨(some 8),(some (7,false)),(.faddr 0 (.t 1))⟩,⟨(some 9),(some (7,false)),(.load false 1 (.t 8))⟩,⟨(some 10),(some (7,false)),(.bin .eql false (.t 9) (.c (.int .i64 4)))⟩,⟨(some 11),(some (7,false)),(.mv (.t 10))⟩,⟨(some 12),(some (11,true)),(.faddr 4 (.t 1))⟩,⟨(some 13),(some (11,true)),(.load false 1 (.t 12))⟩,⟨(some 14),(some (11,true)),(.iaddr 5 (.t 13) (.c (.int .i64 0)))⟩,⟨(some 15),(some (11,true)),(.faddr 0 (.t 14))⟩,⟨(some 16),(some (11,true)),(.load false 1 (.t 15))⟩,⟨(some 17),(some (11,true)),(.bin .neq false (.t 16) (.c (.int .i64 3)))⟩,⟨(some 18),(some (7,false)),(.pick (.t 11) (.t 17) (.c (.bool false)))⟩,⟨some 19,none,.pick (.t 7) (.c (.bool true)) (.t 18)⟩]) (.cond (.t 19) (.seq (.reg [⟨some 2,none,.mv (.c (.bool false))⟩]) .ret) .skip)) (.seq (.seq (.reg [⟨some 3,none,.mv (.c (.int .i64 0))⟩]) (.block 0 (.loop [0,1,0,1,0,0,0,0,0,0,0,0,0,0,0,0,0,0,0,0,0,0,0,0,0,0,0,0,0,0,0,0,0,0] (.seq (.seq (.reg [⟨some 20,none,.mv (.t 3)⟩,⟨some 21,none,.faddr 4 (.t 1)⟩,⟨some 22,none,.load false 1 (.t 21)⟩,⟨some 23,none,.len false (.t 22)⟩,⟨some 24,none,.bin .lss false (.t 20) (.t 23)⟩]) (.cond (.t 24) .skip (.exit 0))) (.seq (.block 1 (.seq (.reg [⟨some 27,none,.faddr 4 (.t 1)⟩,⟨some 28,none,.load false 1 (.t 27)⟩,⟨some 29,none,.mv (.t 3)⟩,⟨some 30,none,.iaddr 5 (.t 28) (.t 29)⟩,⟨some 31,none,.load true 5 (.t 30)⟩,⟨some 32,none,.call 49 [(.t 31)]⟩,⟨some 33,none,.un .not (.t 32)⟩]) (.cond (.t 33) (.seq (.reg [⟨some 2,none,.mv (.c (.bool false))⟩]) .ret) .skip))) (.reg [⟨some 25,none,.mv (.t 3)⟩,⟨some 26,none,.bin .add false (.t 25) (.c (.int .i64 1))⟩,⟨some 3,none,.mv (.t 26)⟩])))))) (.seq (.reg [⟨some 2,none,.mv (.c (.bool true))⟩]) .ret))))
theorem Fu:codeOf Tryz.prog 49=some ⟨34,Eg,[(.tmp 2)]⟩:=by kernel_rfl
theorem Bj:modes 49=⟨[],.asis,none,false⟩:=by unfold modes; rfl
theorem Qfc (x:Fm) (h:E 55 [x.sv] []=some (.bool x.isN,[])):E 122 [x.sv] []=some (.bool (!x.isN),[]):=by
 have hxs:x.sv=.agg [.int .i64 x.op,.str x.atom.name,.arr (x.atom.args.map Tm.d),.str x.var,.arr (x.parts.map Fm.d)]:=rfl
 refine Af HO Er (of_decide_eq_true rfl) ?_
 simp (disch:=omega) only [Ep,go_sem,Ab,h,A7]
theorem Mc (x:Fm) (hx:x.forms=true) (hn:x.nodes≤1099511627776) (ih:∀ y∈x.parts,E 55 [y.sv] []=some (.bool y.isN,[])):E 55 [x.sv] []=some (.bool x.isN,[]):=by
 have hxs:x.sv=.agg [.int .i64 x.op,.str x.atom.name,.arr (x.atom.args.map Tm.d),.str x.var,.arr (x.parts.map Fm.d)]:=rfl
 have hfo:=Fm.CN hx
 have hpl:=Fm.length_le x.parts
 have hnq:=Fm.nodes_eq x
 have hie:=Fm.Wg x
 have hcf:=H3 122 (fun y=>!y.isN) x.parts (by omega) HP (by rw [Er]) fun y hy=>Qfc y (ih y hy)
 have hna:(x.parts.any fun y=>!y.isN)=!(x.parts.all Fm.isN):=by rw [List.not_all_eq_any_not]
 rw [hna] at hcf
 by_cases h7:x.op=7
 ·have o7:dec (x.op=7)=true:=An h7
  rw [hie,o7]
  simp only [yQ,yK,zA]
  refine Af Cy A7 (of_decide_eq_true rfl) ?_
  simp (disch:=omega) only [BU,go_sem,Ab,o7,hcf,Aa]
 have o7:dec (x.op=7)=false:=Aj h7
 by_cases h4:x.op=4
 ·have o4:dec (x.op=4)=true:=An h4
  obtain ⟨p,hp⟩:=Fm.Lr hfo h4
  have hp:x.parts=[p]:=congrArg Fm.parts hp
  have hlt:0<x.parts.length:=by rw [hp]; simp
  have hg:=get_at Fm.d hlt
  have hx0:x.parts[0]=p:=by simp [hp]
  rw [hx0,Fm.d_eq] at hg
  have hh:(XV x.parts).op=p.op:=by rw [hp]; rfl
  rw [hh,o7,o4] at hie
  by_cases hp3:p.op=3
  ·have hq3:(p.op=3)=True:=eq_true hp3
   have hd3:dec (p.op=3)=true:=An hp3
   rw [hd3] at hie
   simp only [yK,yB,yJ,yF,zF] at hie
   rw [hie]
   refine Af Cy A7 (of_decide_eq_true rfl) ?_
   simp (disch:=omega) only [BU,go_sem,Ab,o7,o4,hg,hq3,hd3,yR,hcf,Aa]
   all_goals first | done | (rw [Bool.not_not])
  ·have hq3:(p.op=3)=False:=eq_false hp3
   have hd3:dec (p.op=3)=false:=Aj hp3
   rw [hd3] at hie
   simp only [yF,yE,Bool.or_true,yK,zA] at hie
   rw [hie]
   refine Af Cy A7 (of_decide_eq_true rfl) ?_
   simp (disch:=omega) only [BU,go_sem,Ab,o7,o4,hg,hq3,hd3,yR,hcf,Aa]
 have o4:dec (x.op=4)=false:=Aj h4
 rw [o7,o4] at hie
 simp only [zA,yJ,yF,zF] at hie
 rw [hie]
 refine Af Cy A7 (of_decide_eq_true rfl) ?_
 simp (disch:=omega) only [BU,go_sem,Ab,o7,o4,hcf,Aa]
 all_goals first | done | (rw [Bool.not_not])
theorem H8 (x:Fm) (hx:x.forms=true) (hn:x.nodes≤1099511627776):E 55 [x.sv] []=some (.bool x.isN,[]) :=
 Mc x hx hn fun y hy=>H8 y (Fm.BP hx hy) (by have:=Fm.nodes_mem hy; have:=Fm.nodes_eq x; omega)
termination_by SizeOf.sizeOf x
decreasing_by exact Fm.lt_of_mem hy
theorem Z7 (x:Fm) (hx:x.forms=true) (hn:x.nodes≤1099511627776) (ih:∀ y∈x.parts,E 49 [y.sv] []=some (.bool y.isN,[])):E 49 [x.sv] []=some (.bool x.isN,[]):=by
 have hxs:x.sv=.agg [.int .i64 x.op,.str x.atom.name,.arr (x.atom.args.map Tm.d),.str x.var,.arr (x.parts.map Fm.d)]:=rfl
 have hfo:=Fm.CN hx
 have hpl:=Fm.length_le x.parts
 have hnq:=Fm.nodes_eq x
 have hie:=Fm.Wg x
 by_cases h7:x.op=7
 ·have o7:dec (x.op=7)=true:=An h7
  rw [hie,o7]
  simp only [yQ,yK,zA]
  refine Af Fu Bj (of_decide_eq_true rfl) ?_
  simp (disch:=omega) only [Eg,go_sem,Ab,o7]
 have o7:dec (x.op=7)=false:=Aj h7
 by_cases h4:x.op=4
 ·have o4:dec (x.op=4)=true:=An h4
  obtain ⟨p,hp⟩:=Fm.Lr hfo h4
  have hp:x.parts=[p]:=congrArg Fm.parts hp
  have hlt:0<x.parts.length:=by rw [hp]; simp
  have hg:=get_at Fm.d hlt
  have hx0:x.parts[0]=p:=by simp [hp]
  rw [hx0,Fm.d_eq] at hg
  have hh:(XV x.parts).op=p.op:=by rw [hp]; rfl
  rw [hh,o7,o4] at hie
  by_cases hp3:p.op=3
  ·have hq3:(p.op=3)=True:=eq_true hp3
   have hd3:dec (p.op=3)=true:=An hp3
   rw [hd3] at hie
   simp only [yK,yB,yJ,yF,zF] at hie
   rw [hie]
   refine Af Fu Bj (of_decide_eq_true rfl) ?_
   simp (disch:=omega) only [Eg,go_sem,Ab,o7,o4,hg,hq3,hd3,yR]
   refine go_loop (α:=Int) (fun a=>⟨slots 34 0 [(1,.ptr 0 0),(3,.int .i64 a)],[.box 36 [.int .i64 x.op,.str x.atom.name,.arr (x.atom.args.map Tm.d),.str x.var,.arr (x.parts.map Fm.d)]]⟩) (fun a=>∃ k:Nat,a=k∧k≤(x.parts).length∧(x.parts.drop k).all Fm.isN=x.parts.all Fm.isN) (fun a=>(x.parts).length-(a).toNat) 0 ⟨0,rfl,zH _,by rw [zI]⟩ (by simp (disch:=omega) only [go_sem,Ab]) ?_
   rintro i ⟨k,hi,hk,hR⟩
   have hni:i.toNat=k:=by omega
   have hni1:(i+1).toNat=k+1:=by omega
   rcases zB k (x.parts).length with hlt | hge
   ·have hg:=get_at Fm.d hlt
    rw [Fm.d_eq] at hg
    have hc:=ih x.parts[k] (zD hlt)
    rw [zC hlt,yW] at hR
    cases hp:x.parts[k].isN with
    | true =>
     rw [hp] at hc hR
     rw [zF] at hR
     simp (disch:=omega) only [go_sem,Ab,hni,hg,hc,Bj]
     exact ⟨i+1,⟨k+1,by omega,hlt,hR⟩,by omega,by first | trivial | rfl⟩
    | false =>
     rw [hp] at hc hR
     rw [zA] at hR
     rw [←hR]
     simp (disch:=omega) only [go_sem,Ab,hni,hg,hc,Bj]
   ·rw [zE hge,List.all_nil] at hR
    rw [←hR]
    simp (disch:=omega) only [go_sem,Ab,hni]
  ·have hq3:(p.op=3)=False:=eq_false hp3
   have hd3:dec (p.op=3)=false:=Aj hp3
   rw [hd3] at hie
   simp only [yF,yE,Bool.or_true,yK,zA] at hie
   rw [hie]
   refine Af Fu Bj (of_decide_eq_true rfl) ?_
   simp (disch:=omega) only [Eg,go_sem,Ab,o7,o4,hg,hq3,hd3,yR]
 have o4:dec (x.op=4)=false:=Aj h4
 rw [o7,o4] at hie
 simp only [zA,yJ,yF,zF] at hie
 rw [hie]
 refine Af Fu Bj (of_decide_eq_true rfl) ?_
 simp (disch:=omega) only [Eg,go_sem,Ab,o7,o4]
 refine go_loop (α:=Int) (fun a=>⟨slots 34 0 [(1,.ptr 0 0),(3,.int .i64 a)],[.box 36 [.int .i64 x.op,.str x.atom.name,.arr (x.atom.args.map Tm.d),.str x.var,.arr (x.parts.map Fm.d)]]⟩) (fun a=>∃ k:Nat,a=k∧k≤(x.parts).length∧(x.parts.drop k).all Fm.isN=x.parts.all Fm.isN) (fun a=>(x.parts).length-(a).toNat) 0 ⟨0,rfl,zH _,by rw [zI]⟩ (by simp (disch:=omega) only [go_sem,Ab]) ?_
 rintro i ⟨k,hi,hk,hR⟩
 have hni:i.toNat=k:=by omega
 have hni1:(i+1).toNat=k+1:=by omega
 rcases zB k (x.parts).length with hlt | hge
 ·have hg:=get_at Fm.d hlt
  rw [Fm.d_eq] at hg
  have hc:=ih x.parts[k] (zD hlt)
  rw [zC hlt,yW] at hR
  cases hp:x.parts[k].isN with
  | true =>
   rw [hp] at hc hR
   rw [zF] at hR
   simp (disch:=omega) only [go_sem,Ab,hni,hg,hc,Bj]
   exact ⟨i+1,⟨k+1,by omega,hlt,hR⟩,by omega,by first | trivial | rfl⟩
  | false =>
   rw [hp] at hc hR
   rw [zA] at hR
   rw [←hR]
   simp (disch:=omega) only [go_sem,Ab,hni,hg,hc,Bj]
 ·rw [zE hge,List.all_nil] at hR
  rw [←hR]
  simp (disch:=omega) only [go_sem,Ab,hni]
theorem U6 (x:Fm) (hx:x.forms=true) (hn:x.nodes≤1099511627776):E 49 [x.sv] []=some (.bool x.isN,[]) :=
 Z7 x hx hn fun y hy=>U6 y (Fm.BP hx hy) (by have:=Fm.nodes_mem hy; have:=Fm.nodes_eq x; omega)
termination_by SizeOf.sizeOf x
decreasing_by exact Fm.lt_of_mem hy
theorem Fm.U7 (x:Fm) (h:x.bulk≤1048576):x.tame∧x.nodes≤1+x.bulk:=by
 have hb:=Fm.bulk_eq x
 have ha:=Tm.Sg x.atom
 have key:∀ xs:List Fm,(∀ y∈xs,y.bulk≤1048576→y.tame∧y.nodes≤1+y.bulk)→Fm.sumB xs≤1048576→Fm.Qd xs∧Fm.nodeS xs≤xs.length+Fm.sumB xs:=by
  intro xs
  induction xs with
  | nil=>intro _ _; rw [Fm.Qd,Fm.nodeS]; exact ⟨trivial,by simp⟩
  | cons y ys ih =>
   intro hh hs
   rw [Fm.sumB] at hs
   have h1:=hh y (by simp) (by omega)
   have h2:=ih (fun z hz=>hh z (by simp [hz])) (by omega)
   rw [Fm.Qd,Fm.nodeS,Fm.sumB,zW]
   exact ⟨⟨h1.1,h2.1⟩,by omega⟩
 have hk:=key x.parts (fun y hy hby=>Fm.U7 y hby) (by omega)
 rw [Fm.VZ,Fm.nodes_eq]
 exact ⟨⟨by omega,hk.1⟩,by omega⟩
termination_by SizeOf.sizeOf x
decreasing_by exact Fm.lt_of_mem hy
noncomputable def Z8 (ls:List Lt) (k:Nat):Bool:=match ls[k]? with
 | none=>false
 | some x=>(x.pos&&(x.atom.eqn&&dec (x.atom.args[0]?=x.atom.args[1]?))) || (dec (0 < k)&&dec ((ls[k - 1]?).map Lt.atom=some x.atom))
noncomputable def Cl.taut (c:Cl):Bool:=(List.range c.lits.length).any (Z8 c.lits)
theorem QaC {ls:List Lt} {k:Nat} (h:k<ls.length):Z8 ls k=((ls[k].pos&&(ls[k].atom.eqn&&dec (ls[k].atom.args[0]?=ls[k].atom.args[1]?))) || (dec (0<k)&&dec ((ls[k-1]?).map Lt.atom=some ls[k].atom))):=by
 unfold Z8
 rw [zY h]
theorem QaD {c:Cl} (h:∀ j,j<c.lits.length→Z8 c.lits j=false):c.taut=false:=by
 unfold Cl.taut
 rw [List.any_eq_false]
 intro j hj
 rw [h j (yV.1 hj)]; simp
theorem Gq {c:Cl} {k:Nat} (hk:k<c.lits.length) (h:Z8 c.lits k=true):c.taut=true:=List.any_eq_true.2 ⟨k,yV.2 hk,h⟩
noncomputable def Nk (l:List Cl) (c:Cl):List Cl:=bif c.taut then l else Kz l c
noncomputable def Dp (l cs:List Cl):List Cl:=cs.foldl Nk l
theorem Qdj {l:List Cl} {c d:Cl} (h:d∈Nk l c):d∈l∨d=c:=by
 unfold Nk at h
 cases ht:c.taut with
 | true=>rw [ht] at h; exact .inl h
 | false=>rw [ht] at h; exact XM.1 h
theorem Qdk (l:List Cl) (c:Cl):(Nk l c).length≤l.length+1:=by
 unfold Nk
 cases c.taut with
 | true=>rw [cond_true]; omega
 | false=>rw [cond_false]; exact XN l c
theorem Ye:∀ {cs l:List Cl} {d:Cl},d∈Dp l cs→d∈l∨d∈cs
 | [],l,d,h=>.inl h
 | c :: cs,l,d,h=>by
  rcases Ye (cs:=cs) (l:=Nk l c) h with h | h
  ·rcases Qdj h with h | h
   ·exact .inl h
   ·exact .inr (by rw [h]; simp)
  ·exact .inr (List.mem_cons_of_mem _ h)
theorem Qdl:∀ (cs l:List Cl),(Dp l cs).length≤l.length+cs.length
 | [],l=>zT _
 | c :: cs,l=>by
  have h:=Qdl cs (Nk l c)
  have h2:=Qdk l c
  show (Dp (Nk l c) cs).length≤_
  rw [zW]; omega
noncomputable def GK (x y:Cl):Cl:=mkC (x.lits++y.lits)
noncomputable def JQ (x y:Cl):Bool:=dec (((GK x y).lits.length:Int)≤8)
noncomputable def EQ (a b:List Cl):List Cl:=a.flatMap fun x=>b.map (GK x)
noncomputable def Gr (a b:List Cl):Bool:=a.all fun x=>b.all (JQ x)
theorem Wh {x y:Cl} (hx:x.ok=true) (hy:y.ok=true):(GK x y).ok=JQ x y:=by
 unfold JQ
 by_cases h:((GK x y).lits.length:Int)≤8
 ·rw [An h]
  refine Cl.QcM (show (GK x y).lits.length≤8 by omega) (fun z hz=>?_) (JH _)
  have hz:=(NV _ z).1 hz
  rcases yL.1 hz with hz | hz
  ·exact Cl.Ci hx z hz
  ·exact Cl.Ci hy z hz
 ·rw [Aj h]
  refine Bool.eq_false_iff.2 fun ho=>h (by have:=Cl.Dx ho; omega)
theorem Qdm {a b:List Cl} {x y:Cl} (hx:x∈a) (hy:y∈b) (h:JQ x y=false):Gr a b=false:=by
 refine Bool.eq_false_iff.2 fun hp=>?_
 have h2:=zZ.1 (zZ.1 hp x hx) y hy
 rw [h] at h2; cases h2
theorem Z9 {a b:List Cl} {k:Nat} (h:k<a.length):EQ (a.take (k+1)) b=EQ (a.take k) b++b.map (GK a[k]):=by
 unfold EQ
 rw [yN h,List.flatMap_append,yT,List.flatMap_nil,zU]
theorem Qdn {b:List Cl} {x:Cl} {k:Nat} (h:k<b.length):(b.take (k+1)).map (GK x)=(b.take k).map (GK x)++[GK x b[k]]:=by
 rw [yN h,zQ]; rfl
theorem U8 (a b:List Cl):(EQ a b).length=a.length*b.length:=by
 unfold EQ
 induction a with
 | nil=>simp
 | cons x a ih=>rw [yT,zG,ih,zJ,zW,Nat.succ_mul,Nat.add_comm]
theorem Qb9 {a b:List Cl} {z:Cl} (h:z∈EQ a b):∃ x∈a,∃ y∈b,GK x y=z:=by
 obtain ⟨x,hx,hz⟩:=List.mem_flatMap.1 h
 obtain ⟨y,hy,rfl⟩:=yU.1 hz
 exact ⟨x,hx,y,hy,rfl⟩
theorem Yf {a b:List Cl} (ha:∀ c∈a,c.ok=true) (hb:∀ c∈b,c.ok=true) (h:Gr a b=true):∀ c∈EQ a b,c.ok=true:=fun z hz=>by
 obtain ⟨x,hx,y,hy,rfl⟩:=Qb9 hz
 rw [Wh (ha x hx) (hb y hy)]
 exact zZ.1 (zZ.1 h x hx) y hy
noncomputable def Jt (x:Cl):List Cl→List Cl→List Cl × Bool
 | [],acc=>(acc,true)
 | y :: ys,acc=>bif JQ x y then Jt x ys (acc++[GK x y]) else (acc,false)
noncomputable def H9 (lb:List Cl):List Cl→List Cl→List Cl × Bool
 | [],acc=>(acc,true)
 | x :: xs,acc=>bif (Jt x lb acc).2 then H9 lb xs (Jt x lb acc).1 else ((Jt x lb acc).1,false)
theorem Yg (x:Cl):∀ ys acc:List Cl,(Jt x ys acc).1.length≤acc.length+ys.length
 | [],acc=>zT _
 | y :: ys,acc=>by
  rw [Jt]
  cases JQ x y with
  | true=>rw [cond_true]; have:=Yg x ys (acc++[GK x y]); simp only [zG,zW,zL] at this ⊢; omega
  | false=>rw [cond_false]; show acc.length≤_; omega
theorem QaE {x:Cl} (hx:x.ok=true):∀ {ys acc:List Cl},(∀ c∈ys,c.ok=true)→(∀ c∈acc,c.ok=true)→∀ c∈(Jt x ys acc).1,c.ok=true
 | [],acc,_,h=>h
 | y :: ys,acc,hy,h=>by
  rw [Jt]
  cases hb:JQ x y with
  | true =>
   rw [cond_true]
   refine QaE hx (fun c hc=>hy c (by simp [hc])) fun c hc=>?_
   rcases yL.1 hc with hc | hc
   ·exact h c hc
   ·rw [z7.1 hc,Wh hx (hy y (by simp)),hb]
  | false=>rw [cond_false]; exact h
theorem QaF (x:Cl):∀ ys acc:List Cl,(Jt x ys acc).2=ys.all (JQ x)∧(ys.all (JQ x)=true→(Jt x ys acc).1=acc++ys.map (GK x))
 | [],acc=>⟨rfl,fun _=>by rw [zO,zU]; rfl⟩
 | y :: ys,acc=>by
  rw [Jt,yW]
  cases hb:JQ x y with
  | true =>
   rw [cond_true,zF]
   obtain ⟨h1,h2⟩:=QaF x ys (acc++[GK x y])
   exact ⟨h1,fun h=>by rw [h2 h,zR]; rfl⟩
  | false=>rw [cond_false,zA]; exact ⟨rfl,fun h=>by cases h⟩
theorem U9 {lb:List Cl} (hb:lb.length≤30):∀ xs acc:List Cl,(H9 lb xs acc).1.length≤acc.length+30*xs.length
 | [],acc=>Nat.le_add_right _ _
 | x :: xs,acc=>by
  have h1:=Yg x lb acc
  rw [H9,zW]
  cases (Jt x lb acc).2 with
  | true=>rw [cond_true]; have:=U9 hb xs (Jt x lb acc).1; omega
  | false=>rw [cond_false]; show (Jt x lb acc).1.length≤_; omega
theorem Yh {lb:List Cl} (hb:∀ c∈lb,c.ok=true):∀ {xs acc:List Cl},(∀ c∈xs,c.ok=true)→(∀ c∈acc,c.ok=true)→∀ c∈(H9 lb xs acc).1,c.ok=true
 | [],acc,_,h=>h
 | x :: xs,acc,hx,h=>by
  have h1:=QaE (hx x (by simp)) hb h
  rw [H9]
  cases (Jt x lb acc).2 with
  | true=>rw [cond_true]; exact Yh hb (fun c hc=>hx c (by simp [hc])) h1
  | false=>rw [cond_false]; exact h1
theorem Yi (lb:List Cl):∀ xs acc:List Cl,(H9 lb xs acc).2=Gr xs lb∧(Gr xs lb=true→(H9 lb xs acc).1=acc++EQ xs lb)
 | [],acc=>⟨rfl,fun _=>by show acc=acc++[]; rw [zU]⟩
 | x :: xs,acc=>by
  obtain ⟨h1,h2⟩:=QaF x lb acc
  have hc:Gr (x :: xs) lb=(lb.all (JQ x)&&Gr xs lb):=rfl
  rw [H9,h1,hc]
  cases hb:lb.all (JQ x) with
  | true =>
   rw [cond_true,zF]
   obtain ⟨h3,h4⟩:=Yi lb xs (Jt x lb acc).1
   exact ⟨h3,fun h=>by rw [h4 h,h2 hb,zR]; rfl⟩
  | false=>rw [cond_false,zA]; exact ⟨rfl,fun h=>by cases h⟩
noncomputable def ER (l:List Cl):Option (List Cl):=bif dec (((Dp [] l).length:Int)≤30) then some (Dp [] l) else none
noncomputable def Lw (op:Int) (a:Tm) (ps:List Fm) (rs:List (Option (List Cl))):Option (List Cl) :=
 if op=2 then ER [⟨[]⟩]
 else if op=3 then ER [mkC [⟨true,a⟩]]
 else if op=4 then ER [mkC [⟨false,(XV ps).atom⟩]]
 else if op=8 then (rs[0]?).getD none
 else if op=5∨op=6 then
  match (rs[0]?).getD none,(rs[1]?).getD none with
  | some p,some q=>if op=5 then ER (p++q) else bif Gr p q then ER (EQ p q) else none
  | _,_=>none
 else ER []
mutual
noncomputable def Fm.cl:Fm→Option (List Cl)
 | .mk op a _ ps=>Lw op a ps (Fm.clL ps)
noncomputable def Fm.clL:List Fm→List (Option (List Cl))
 | []=>[]
 | x :: xs=>Fm.cl x :: Fm.clL xs
end
theorem Fm.QaG:∀ xs:List Fm,Fm.clL xs=xs.map Fm.cl
 | []=>by rw [Fm.clL]; rfl
 | x :: xs=>by rw [Fm.clL,Fm.QaG xs]; rfl
theorem Fm.UA (x:Fm):x.cl=Lw x.op x.atom x.parts (x.parts.map Fm.cl):=by
 obtain ⟨op,a,v,ps⟩:=x
 rw [Fm.cl,Fm.QaG]; rfl
theorem Fm.cl2 {x:Fm} (h:x.op=2):x.cl=ER [⟨[]⟩]:=by rw [Fm.UA]; unfold Lw; rw [if_pos h]
theorem Fm.cl3 {x:Fm} (h:x.op=3):x.cl=ER [mkC [⟨true,x.atom⟩]]:=by rw [Fm.UA]; unfold Lw; rw [if_neg (by omega),if_pos h]
theorem Fm.cl4 {x p:Fm} (h:x.op=4) (hp:x.parts=[p]):x.cl=ER [mkC [⟨false,p.atom⟩]]:=by
 rw [Fm.UA]; unfold Lw
 rw [if_neg (by omega),if_neg (by omega),if_pos h,hp]; rfl
theorem Fm.cl8 {x p:Fm} (h:x.op=8) (hp:x.parts=[p]):x.cl=p.cl:=by
 rw [Fm.UA]; unfold Lw
 rw [if_neg (by omega),if_neg (by omega),if_neg (by omega),if_pos h,hp]; rfl
theorem Fm.Qfd {x p q:Fm} (h:x.op=5∨x.op=6) (hp:x.parts=[p,q]):x.cl=match p.cl,q.cl with
  | some p,some q=>if x.op=5 then ER (p++q) else bif Gr p q then ER (EQ p q) else none
  | _,_=>none:=by
 rw [Fm.UA]; unfold Lw
 rw [if_neg (by omega),if_neg (by omega),if_neg (by omega),if_neg (by omega),if_pos h,hp]; rfl
theorem Fm.cl0 {x:Fm} (h:x.op≠2∧x.op≠3∧x.op≠4∧x.op≠5∧x.op≠6∧x.op≠8):x.cl=ER []:=by
 rw [Fm.UA]; unfold Lw
 rw [if_neg (by omega),if_neg (by omega),if_neg (by omega),if_neg (by omega),if_neg (by omega)]
theorem Ju {l r:List Cl} (h:ER l=some r) (hl:∀ c∈l,c.ok=true):r.length≤30∧∀ c∈r,c.ok=true:=by
 unfold ER at h
 cases hd:dec (((Dp [] l).length:Int)≤30) with
 | false=>rw [hd] at h; cases h
 | true =>
  rw [hd] at h
  obtain rfl:=Option.some.inj h
  have:=Aq.1 hd
  refine ⟨by omega,fun c hc=>?_⟩
  rcases Ye hc with h | h
  ·cases h
  ·exact hl c h
theorem JR (l:List Cl):(ER l).isSome=dec (((Dp [] l).length:Int)≤30):=by
 unfold ER
 cases dec (((Dp [] l).length:Int)≤30) <;> rfl
theorem SE {l r:List Cl} (h:ER l=some r):Dp [] l=r:=by
 unfold ER at h
 cases hd:dec (((Dp [] l).length:Int)≤30) with
 | false=>rw [hd] at h; cases h
 | true=>rw [hd] at h; exact Option.some.inj h
theorem Pu (b:Bool) {a:Tm} (h:a.atom=true):(mkC [⟨b,a⟩]).ok=true:=QcN (by simp) fun z hz=>by rw [z7.1 hz]; exact h
theorem ZA:(Cl.mk []).ok=true:=Cl.QcM (by simp) (fun z hz=>by cases hz) List.Pairwise.nil
theorem Fm.HD {x y:Fm} (h:x.isN=true) (hy:y∈x.parts):y.isN=true:=by
 rw [Fm.Wg,yH] at h
 exact zZ.1 h.2 y hy
theorem Fm.Wi {x p:Fm} (h:x.isN=true) (h4:x.op=4) (hp:x.parts=[p]):p.op=3:=by
 rw [Fm.Wg,yH,hp,An h4,Aj (by omega:¬ x.op=7)] at h
 have h1:=h.1
 simp only [zS,zF,Bool.not_not] at h1
 exact Aq.1 h1
theorem Fm.Qf (x:Fm) (hx:x.forms=true) (hn:x.isN=true):∀ r,x.cl=some r→r.length≤30∧∀ c∈r,c.ok=true:=by
 intro r hr
 have ih:∀ y∈x.parts,∀ r,y.cl=some r→r.length≤30∧∀ c∈r,c.ok=true:=fun y hy=>Fm.Qf y (Fm.BP hx hy) (Fm.HD hn hy)
 have hfo:=Fm.CN hx
 by_cases h2:x.op=2
 ·rw [Fm.cl2 h2] at hr
  exact Ju hr fun c hc=>by rw [z7.1 hc]; exact ZA
 by_cases h3:x.op=3
 ·rw [Fm.cl3 h3] at hr
  exact Ju hr fun c hc=>by rw [z7.1 hc]; exact Pu true (Fm.En hfo h3).2.1
 by_cases h4:x.op=4
 ·obtain ⟨p,hp⟩:=Fm.Lr hfo h4
  have hp:x.parts=[p]:=congrArg Fm.parts hp
  rw [Fm.cl4 h4 hp] at hr
  have hpf:=Fm.CN (Fm.BP hx (show p∈x.parts by rw [hp]; simp))
  exact Ju hr fun c hc=>by rw [z7.1 hc]; exact Pu false (Fm.En hpf (Fm.Wi hn h4 hp)).2.1
 by_cases h8:x.op=8
 ·obtain ⟨p,hp⟩:=Fm.Z0 hfo (.inl h8)
  have hp:x.parts=[p]:=congrArg Fm.parts hp
  rw [Fm.cl8 h8 hp] at hr
  exact ih p (by rw [hp]; simp) r hr
 by_cases h56:x.op=5∨x.op=6
 ·obtain ⟨p,q,hp⟩:=Fm.SA hfo (by omega)
  have hp:x.parts=[p,q]:=congrArg Fm.parts hp
  rw [Fm.Qfd h56 hp] at hr
  cases e1:p.cl with
  | none=>rw [e1] at hr; cases hr
  | some a =>
   cases e2:q.cl with
   | none=>rw [e1,e2] at hr; cases hr
   | some b =>
    rw [e1,e2] at hr
    simp only at hr
    have k1:=ih p (by rw [hp]; simp) a e1
    have k2:=ih q (by rw [hp]; simp) b e2
    by_cases h5:x.op=5
    ·rw [if_pos h5] at hr
     exact Ju hr fun c hc=>by
      rcases yL.1 hc with h | h
      ·exact k1.2 c h
      ·exact k2.2 c h
    ·rw [if_neg h5] at hr
     cases hb:Gr a b with
     | false=>rw [hb] at hr; cases hr
     | true=>rw [hb] at hr; exact Ju hr (Yf k1.2 k2.2 hb)
 ·rw [Fm.cl0 (by omega)] at hr
  exact Ju hr fun c hc=>by cases hc
termination_by SizeOf.sizeOf x
decreasing_by exact Fm.lt_of_mem hy
mutual
noncomputable def Fm.has (n:Int):Fm→Bool
 | .mk op _ _ ps=>dec (n=op) || Fm.Qdo n ps
noncomputable def Fm.Qdo (n:Int):List Fm→Bool
 | []=>false
 | x :: xs=>Fm.has n x || Fm.Qdo n xs
end
theorem Fm.Yj (n:Int):∀ xs:List Fm,Fm.Qdo n xs=xs.any (Fm.has n)
 | []=>by rw [Fm.Qdo]; rfl
 | x :: xs=>by rw [Fm.Qdo,Fm.Yj n xs]; rfl
theorem Fm.has_eq (n:Int) (x:Fm):x.has n=(dec (n=x.op) || x.parts.any (Fm.has n)):=by
 obtain ⟨op,a,v,ps⟩:=x
 rw [Fm.has,Fm.Yj]; rfl
noncomputable def ClE (f:FuncId) (x:Fm):Prop:=∃ q:List Cl,E f [x.sv] []=some (.tup [.arr (q.map Cl.d),.bool x.cl.isSome],[])∧∀ r,x.cl=some r→q=r
theorem ClE.fin {f:FuncId} {x:Fm} {l:List Cl} (hc:x.cl=ER l) (h:E f [x.sv] []=some (.tup [.arr ((Dp [] l).map Cl.d),.bool (dec (((Dp [] l).length:Int)≤30))],[])):ClE f x :=
 ⟨Dp [] l,by rw [hc,JR]; exact h,fun r hr=>SE (by rw [←hc]; exact hr)⟩
theorem ClE.none_ {f:FuncId} {x:Fm} (q:List Cl) (hc:x.cl=none) (h:E f [x.sv] []=some (.tup [.arr (q.map Cl.d),.bool false],[])):ClE f x :=
 ⟨q,by rw [hc]; exact h,fun r hr=>by rw [hc] at hr; cases hr⟩
noncomputable def cfP (x:Fm):Bool:=x.valid&&(x.sepd&&(x.isN&&!x.has 9))
noncomputable def Wj (x:Fm):Bool:=cfP x&&x.cl.isSome
noncomputable def SF (x:Fm):List Cl:=bif cfP x then G3 [] ((x.cl.getD []).map (nz 10)) else []
theorem Or {x:Fm} (h:cfP x=false):SF x=[]∧Wj x=false:=by unfold SF Wj; rw [h]; exact ⟨rfl,rfl⟩
theorem Wk {x:Fm} (h:cfP x=true) (hc:x.cl=none):SF x=[]∧Wj x=false:=by unfold SF Wj; rw [h,hc]; exact ⟨rfl,rfl⟩
theorem Wl {x:Fm} {r:List Cl} (h:cfP x=true) (hc:x.cl=some r):SF x=G3 [] (r.map (nz 10))∧Wj x=true:=by unfold SF Wj; rw [h,hc]; exact ⟨rfl,rfl⟩
theorem Jv {ls:List Lt} {k:Nat} (h:k-1<ls.length) (x:Tm):dec ((ls[k-1]?).map Lt.atom=some x)=dec (ls[k-1].atom=x):=by
 rw [zY h]
 exact Hw (by rw [Option.map_some]; exact Option.some_inj)
theorem Yk {xs:List Tm} (h0:0<xs.length) (h1:1<xs.length):dec (xs[0]?=xs[1]?)=dec (xs[0]=xs[1]):=by
 rw [zY h0,zY h1]
 exact Hw Option.some_inj
theorem Tm.UC {x:Tm} (hx:x.atom=true) (he:x.eqn=true):x.args.length=2:=by
 unfold Tm.atom at hx
 rw [he,if_pos rfl,yH,yH] at hx
 simpa using hx.1.1
def HF:SC:=(.seq (.reg [⟨some 1,none,.boxv 60 1 (.t 0)⟩,⟨some 2,none,.mv (.c (.bool false))⟩]) (.seq (.seq (.reg [⟨some 5,none,.faddr 0 (.t 1)⟩,⟨some 6,none,.load false 1 (.t 5)⟩,⟨some 7,none,.len false (.t 6)⟩,⟨some 8,none,.mv (.c (.int .i64 0))⟩]) (.block 0 (.loop [0,1,0,0,0,0,1,1,1,0,0,0,0,0,0,0,0,0,0,0,0,0,0,0,0,0,0,0,0,0,0,0,0,0,0,0,0,0,0,0,0,0,0,0,0,0,0,0,0,0] (.seq (.reg [⟨some 9,none,.bin .lss false (.t 8) (.t 7)⟩]) (.seq (.cond (.t 9) .skip (.exit 0)) (.seq (.block 1 (.seq (.reg [⟨some 10,none,.mv (.t 8)⟩,⟨some 11,none,.iaddr 3 (.t 6) (.t 8)⟩,⟨some 12,none,.load true 3 (.t 11)⟩,⟨(some 4),none,(.alloc 122 [(.bool false),(.str ⟨#[]⟩),.nil])⟩,⟨some 3,none,.mv (.t 10)⟩,⟨none,none,(.store 3 (.t 4) (.t 12))⟩]) (.seq (.dreg [[],[0],[1,0],[2,1,0],[3,2,1,0],[4,3,2,1,0],[2,1,0,5,4,3],[6,2,1,0,5,4,3],[7,6,2,1,0,5,4,3],[8,7,6,2,1,0,5,4,3],[9,8,7,6,2,1,0,5,4,3],[10,9,8,7,6,2,1,0,5,4,3],[11,10,9,8,7,6,2,1,0,5,4,3],[7,6,2,1,0,5,4,3],[13,7,6,2,1,0,5,4,3],[14,13,7,6,2,1,0,5,4,3],[15,14,13,7,6,2,1,0,5,4,3],[16,15,14,13,7,6,2,1,0,5,4,3],[12,11,10,9,8,7,6,2,1,0,5,4,3,17,16,15,14,13],[7,6,2,1,0,5,4,3,18,12,11,10,9,8,17,16,15,14,13],[19,7,6,2,1,0,5,4,3,18,12,11,10,9,8,17,16,15,14,13],[20,19,7,6,2,1,0,5,4,3,18,12,11,10,9,8,17,16,15,14,13],[21,20,19,7,6,2,1,0,5,4,3,18,12,11,10,9,8,17,16,15,14,13],[22,21,20,19,7,6,2,1,0,5,4,3,18,12,11,10,9,8,17,16,15,14,13],[23,22,21,20,19,7,6,2,1,0,5,4,3,18,12,11,10,9,8,17,16,15,14,13],[24,23,22,21,20,19,7,6,2,1,0,5,4,3,18,12,11,10,9,8,17,16,15,14,13],[23,22,21,20,19,7,6,2,1,0,5,4,3,18,12,11,10,9,8,17,16,15,14,13],[26,23,22,21,20,19,7,6,2,1,0,5,4,3,18,12,11,10,9,8,17,16,15,14,13],[25,24,23,22,21,20,19,7,6,2,1,0,5,4,3,18,12,11,10,9,8,17,16,15,14,13,27,26],[28,25,24,23,22,21,20,19,7,6,2,1,0,5,4,3,18,12,11,10,9,8,17,16,15,14,13,27,26],[29,28,25,24,23,22,21,20,19,7,6,2,1,0,5,4,3,18,12,11,10,9,8,17,16,15,14,13,27,26],[23,22,21,20,19,7,6,2,1,0,5,4,3,18,12,11,10,9,8,17,16,15,14,13],[31,23,22,21,20,19,7,6,2,1,0,5,4,3,18,12,11,10,9,8,17,16,15,14,13],[30,29,28,25,24,23,22,21,20,19,7,6,2,1,0,5,4,3,18,12,11,10,9,8,17,16,15,14,13,27,26,32,31],[23,22,21,20,19,7,6,2,1,0,5,4,3,18,12,11,10,9,8,17,16,15,14,13,33,30,29,28,25,24,27,26,32,31],[20,19,7,6,2,1,0,5,4,3,18,12,11,10,9,8,17,16,15,14,13,34,23,22,21,33,30,29,28,25,24,27,26,32,31]] [⟨some 13,none,.faddr 0 (.t 4)⟩,⟨some 14,none,.load false 1 (.t 13)⟩,⟨some 15,none,.mv (.t 14)⟩,⟨(some 16),(some (15,true)),(.faddr 1 (.t 4))⟩,⟨(some 17),(some (15,true)),(.load true 2 (.t 16))⟩,⟨(some 18),(some (15,true)),(.call 243 [(.t 17)])⟩,⟨some 19,none,.pick (.t 15) (.t 18) (.c (.bool false))⟩,⟨some 20,none,.mv (.t 19)⟩,⟨(some 21),(some (20,true)),(.faddr 1 (.t 4))⟩,⟨(some 22),(some (20,true)),(.faddr 1 (.t 21))⟩,⟨(some 23),(some (20,true)),(.load false 1 (.t 22))⟩,⟨(some 24),(some (20,true)),(.iaddr 2 (.t 23) (.c (.int .i64 0)))⟩,⟨(some 25),(some (20,true)),(.load true 2 (.t 24))⟩,⟨(some 26),(some (20,true)),(.faddr 1 (.t 4))⟩,⟨(some 27),(some (20,true)),(.faddr 1 (.t 26))⟩,⟨(some 28),(some (20,true)),(.load false 1 (.t 27))⟩,⟨(some 29),(some (20,true)),(.iaddr 2 (.t 28) (.c (.int .i64 1)))⟩,⟨(some 30),(some (20,true)),(.load true 2 (.t 29))⟩,⟨(some 31),(some (20,true)),(.call 208 [(.t 25),(.t 30)])⟩,⟨some 32,none,.pick (.t 20) (.t 31) (.c (.bool false))⟩,⟨some 33,none,.mv (.t 32)⟩,⟨(some 34),(some (33,false)),(.mv (.t 3))⟩,⟨(some 35),(some (33,false)),(.bin .gtr false (.t 34) (.c (.int .i64 0)))⟩,⟨(some 36),(some (33,false)),(.mv (.t 35))⟩,⟨(some 37),(some (36,true)),(.faddr 0 (.t 1))⟩,⟨(some 38),(some (36,true)),(.load false 1 (.t 37))⟩,⟨(some 39),(some (36,true)),(.mv (.t 3))⟩,⟨(some 40),(some (36,true)),(.bin .sub false (.t 39) (.c (.int .i64 1)))⟩,⟨(some 41),(some (36,true)),(.iaddr 3 (.t 38) (.t 40))⟩,⟨(some 42),(some (36,true)),(.faddr 1 (.t 41))⟩,⟨(some 43),(some (36,true)),(.load true 2 (.t 42))⟩,⟨(some 44),(some (36,true)),(.faddr 1 (.t 4))⟩,⟨(some 45),(some (36,true)),(.load true 2 (.t 44))⟩,⟨(some 46),(some (36,true)),(.call 208 [(.t 43),(.t 45)])⟩,⟨(some 47),(some (33,false)),(.pick (.t 36) (.t 46) (.c (.bool false)))⟩,⟨some 48,none,.pick (.t 33) (.c (.bool true)) (.t 47)⟩]) (.cond (.t 48) (.seq (.reg [⟨some 2,none,.mv (.c (.bool true))⟩]) .ret) .skip)))) (.reg [⟨some 49,none,.bin .add false (.t 8) (.c (.int .i64 1))⟩,⟨some 8,none,.mv (.t 49)⟩]))))))) (.seq (.reg [⟨some 2,none,.mv (.c (.bool false))⟩]) .ret)))
theorem Nl:codeOf Tryz.prog 289=some ⟨50,HF,[(.tmp 2)]⟩:=by kernel_rfl
theorem D0:modes 289=⟨[],.asis,none,false⟩:=by unfold modes; rfl
theorem Tq (c:Cl) (hc:c.ok=true):E 289 [c.sv] []=some (.bool c.taut,[]):=by
 have hl:=Cl.Dx hc
 have hnd:∀ x∈c.lits,x.atom.nodes≤1099511627776:=fun x hx=>by have:=Tm.Cm (Cl.Ci hc x hx); omega
 have hsv:c.sv=.agg [.arr (c.lits.map Lt.d)]:=rfl
 rw [hsv]
 refine Af Nl D0 (of_decide_eq_true rfl) ?_
 simp (disch:=omega) only [HF,go_sem,Ab]
 refine go_loop (α:=Int) (fun a=>⟨slots 50 0 [(1,.ptr 0 0),(6,.arr (c.lits.map Lt.d)),(7,.int .i64 c.lits.length),(8,.int .i64 a)],[.box 60 [.arr (c.lits.map Lt.d)]]⟩) (fun a=>∃ k:Nat,a=k∧k≤(c.lits).length∧∀ (j:Nat),j<k→Z8 c.lits j=false) (fun a=>(c.lits).length-(a).toNat) 0 ⟨0,rfl,zH _,fun j hj=>absurd hj (yM _)⟩ (by simp (disch:=omega) only [go_sem,Ab]) ?_
 rintro i ⟨k,hi,hk,hR⟩
 have hni:i.toNat=k:=by omega
 have hni1:(i+1).toNat=k+1:=by omega
 rcases zB k (c.lits).length with hlt | hge
 ·have hg:=get_at Lt.d hlt
  rw [Lt.d_eq] at hg
  have has:c.lits[k].atom.sv=.agg [.str c.lits[k].atom.name,.arr (c.lits[k].atom.args.map Tm.d)]:=rfl
  have hq:=JE c.lits[k].atom
  rw [has] at hq
  have hT:=QaC hlt
  cases hp:c.lits[k].pos with
  | false =>
   rw [hp,zA,zS] at hT
   rcases zK k with h0 | h0
   ·have hd0:dec ((0:Int)<i)=false:=Aj (by omega)
    rw [Aj (by omega:¬ 0<k),zA] at hT
    simp (disch:=omega) only [go_sem,Ab,hni,hg,hd0,hp,A4]
    exact ⟨i+1,⟨k+1,by omega,hlt,fun j hj=>(zN (zP.1 hj)).elim (hR j) fun e=>by rw [e,hT]⟩,by omega,by first | trivial | rfl⟩
   have hd0:dec ((0:Int)<i)=true:=An (by omega)
   have him:(i-1).toNat=k-1:=by omega
   have hkp:k-1<c.lits.length:=by omega
   have hgp:=get_at Lt.d hkp
   rw [Lt.d_eq] at hgp
   have hE2:=Em c.lits[k-1].atom c.lits[k].atom (hnd _ (zD hkp)) (hnd _ (zD hlt))
   have hs1:c.lits[k-1].atom.sv=.agg [.str c.lits[k-1].atom.name,.arr (c.lits[k-1].atom.args.map Tm.d)]:=rfl
   rw [hs1,has] at hE2
   rw [An h0,zF,Jv hkp] at hT
   cases hb:dec (c.lits[k-1].atom=c.lits[k].atom) with
   | true =>
    rw [hb] at hT
    rw [hb] at hE2
    rw [Gq hlt hT]
    simp (disch:=omega) only [go_sem,Ab,hni,him,hg,hgp,hd0,hE2,AB,hp,A4]
   | false =>
    rw [hb] at hT
    rw [hb] at hE2
    simp (disch:=omega) only [go_sem,Ab,hni,him,hg,hgp,hd0,hE2,AB,hp,A4]
    exact ⟨i+1,⟨k+1,by omega,hlt,fun j hj=>(zN (zP.1 hj)).elim (hR j) fun e=>by rw [e,hT]⟩,by omega,by first | trivial | rfl⟩
  | true =>
  rw [hp,zF] at hT
  cases he:c.lits[k].atom.eqn with
  | false =>
   rw [he,zA,zS] at hT
   rw [he] at hq
   rcases zK k with h0 | h0
   ·have hd0:dec ((0:Int)<i)=false:=Aj (by omega)
    rw [Aj (by omega:¬ 0<k),zA] at hT
    simp (disch:=omega) only [go_sem,Ab,hni,hg,hd0,hp,hq,A4]
    exact ⟨i+1,⟨k+1,by omega,hlt,fun j hj=>(zN (zP.1 hj)).elim (hR j) fun e=>by rw [e,hT]⟩,by omega,by first | trivial | rfl⟩
   have hd0:dec ((0:Int)<i)=true:=An (by omega)
   have him:(i-1).toNat=k-1:=by omega
   have hkp:k-1<c.lits.length:=by omega
   have hgp:=get_at Lt.d hkp
   rw [Lt.d_eq] at hgp
   have hE2:=Em c.lits[k-1].atom c.lits[k].atom (hnd _ (zD hkp)) (hnd _ (zD hlt))
   have hs1:c.lits[k-1].atom.sv=.agg [.str c.lits[k-1].atom.name,.arr (c.lits[k-1].atom.args.map Tm.d)]:=rfl
   rw [hs1,has] at hE2
   rw [An h0,zF,Jv hkp] at hT
   cases hb:dec (c.lits[k-1].atom=c.lits[k].atom) with
   | true =>
    rw [hb] at hT
    rw [hb] at hE2
    rw [Gq hlt hT]
    simp (disch:=omega) only [go_sem,Ab,hni,him,hg,hgp,hd0,hE2,AB,hp,hq,A4]
   | false =>
    rw [hb] at hT
    rw [hb] at hE2
    simp (disch:=omega) only [go_sem,Ab,hni,him,hg,hgp,hd0,hE2,AB,hp,hq,A4]
    exact ⟨i+1,⟨k+1,by omega,hlt,fun j hj=>(zN (zP.1 hj)).elim (hR j) fun e=>by rw [e,hT]⟩,by omega,by first | trivial | rfl⟩
  | true =>
  have hal:=Tm.UC (Cl.Ci hc _ (zD hlt)) he
  have hl0:0<c.lits[k].atom.args.length:=by omega
  have hl1:1<c.lits[k].atom.args.length:=by omega
  have hg0:=get_at Tm.d hl0
  have hg1:=get_at Tm.d hl1
  rw [Tm.d_eq] at hg0 hg1
  have hk:=hnd _ (zD hlt)
  have hb0:=Tm.nodes_le c.lits[k].atom.args 0 hl0
  have hb1:=Tm.nodes_le c.lits[k].atom.args 1 hl1
  have hne:=Tm.nodes_eq c.lits[k].atom
  have hE:=Em c.lits[k].atom.args[0] c.lits[k].atom.args[1] (by omega) (by omega)
  have s0:c.lits[k].atom.args[0].sv=.agg [.str c.lits[k].atom.args[0].name,.arr (c.lits[k].atom.args[0].args.map Tm.d)]:=rfl
  have s1:c.lits[k].atom.args[1].sv=.agg [.str c.lits[k].atom.args[1].name,.arr (c.lits[k].atom.args[1].args.map Tm.d)]:=rfl
  rw [s0,s1] at hE
  rw [he,zF,Yk hl0 hl1] at hT
  rw [he] at hq
  cases hb2:dec (c.lits[k].atom.args[0]=c.lits[k].atom.args[1]) with
  | true =>
   rw [hb2,yQ] at hT
   rw [hb2] at hE
   rw [Gq hlt hT]
   simp (disch:=omega) only [go_sem,Ab,hni,hg,hp,hq,hE,hg0,hg1,AB,A4]
  | false =>
   rw [hb2,zS] at hT
   rw [hb2] at hE
   rcases zK k with h0 | h0
   ·have hd0:dec ((0:Int)<i)=false:=Aj (by omega)
    rw [Aj (by omega:¬ 0<k),zA] at hT
    simp (disch:=omega) only [go_sem,Ab,hni,hg,hd0,hp,hq,hE,hg0,hg1,AB,A4]
    exact ⟨i+1,⟨k+1,by omega,hlt,fun j hj=>(zN (zP.1 hj)).elim (hR j) fun e=>by rw [e,hT]⟩,by omega,by first | trivial | rfl⟩
   have hd0:dec ((0:Int)<i)=true:=An (by omega)
   have him:(i-1).toNat=k-1:=by omega
   have hkp:k-1<c.lits.length:=by omega
   have hgp:=get_at Lt.d hkp
   rw [Lt.d_eq] at hgp
   have hE2:=Em c.lits[k-1].atom c.lits[k].atom (hnd _ (zD hkp)) (hnd _ (zD hlt))
   have hs1:c.lits[k-1].atom.sv=.agg [.str c.lits[k-1].atom.name,.arr (c.lits[k-1].atom.args.map Tm.d)]:=rfl
   rw [hs1,has] at hE2
   rw [An h0,zF,Jv hkp] at hT
   cases hb:dec (c.lits[k-1].atom=c.lits[k].atom) with
   | true =>
    rw [hb] at hT
    rw [hb] at hE2
    rw [Gq hlt hT]
    simp (disch:=omega) only [go_sem,Ab,hni,him,hg,hgp,hd0,hE2,AB,hp,hq,hE,hg0,hg1,AB,A4]
   | false =>
    rw [hb] at hT
    rw [hb] at hE2
    simp (disch:=omega) only [go_sem,Ab,hni,him,hg,hgp,hd0,hE2,AB,hp,hq,hE,hg0,hg1,AB,A4]
    exact ⟨i+1,⟨k+1,by omega,hlt,fun j hj=>(zN (zP.1 hj)).elim (hR j) fun e=>by rw [e,hT]⟩,by omega,by first | trivial | rfl⟩
 ·rw [QaD fun j hj=>hR j (by omega)]
  simp (disch:=omega) only [go_sem,Ab,hni]
def M8:SC:=(.seq (.reg [⟨some 1,none,.boxv 60 1 (.t 0)⟩,⟨some 2,none,.mv (.c (.bool false))⟩]) (.seq (.seq (.reg [⟨some 3,none,.mv (.c (.int .i64 0))⟩]) (.block 0 (.loop [0,1,0,1,0,0,0,0,0,0,0,0,0,0,0,0,0,0,0,0,0,0,0,0,0,0,0,0,0,0,0,0,0,0,0,0,0,0,0,0,0,0,0,0,0,0,0,0,0,0,0,0,0] (.seq (.seq (.reg [⟨some 5,none,.mv (.t 3)⟩,⟨some 6,none,.faddr 0 (.t 1)⟩,⟨some 7,none,.load false 1 (.t 6)⟩,⟨some 8,none,.len false (.t 7)⟩,⟨some 9,none,.bin .lss false (.t 5) (.t 8)⟩]) (.cond (.t 9) .skip (.exit 0))) (.seq (.block 1 (.seq (.reg [⟨some 12,none,.faddr 0 (.t 1)⟩,⟨some 13,none,.load false 1 (.t 12)⟩,⟨some 14,none,.mv (.t 3)⟩,⟨some 15,none,.iaddr 3 (.t 13) (.t 14)⟩,⟨some 16,none,.faddr 1 (.t 15)⟩,⟨some 17,none,.load true 2 (.t 16)⟩,⟨(some 4),none,(.alloc 33 [(.str ⟨#[]⟩),.nil])⟩,⟨none,none,(.store 2 (.t 4) (.t 17))⟩]) (.seq (.seq (.dreg [[],[0],[],[1,0,2],[3,1,0,2],[4,3,1,0,2],[5,4,3,1,0,2],[6,5,4,3,1,0,2],[7,6,5,4,3,1,0,2],[8,7,6,5,4,3,1,0,2],[6,5,4,3,1,0,2,9,8,7],[10,6,5,4,3,1,0,2,9,8,7],[11,10,6,5,4,3,1,0,2,9,8,7],[12,11,10,6,5,4,3,1,0,2,9,8,7],[13,12,11,10,6,5,4,3,1,0,2,9,8,7],[14,13,12,11,10,6,5,4,3,1,0,2,9,8,7],[11,10,6,5,4,3,1,0,2,9,8,7],[16,11,10,6,5,4,3,1,0,2,9,8,7],[17,16,11,10,6,5,4,3,1,0,2,9,8,7],[18,17,16,11,10,6,5,4,3,1,0,2,9,8,7],[15,14,13,12,11,10,6,5,4,3,1,0,2,9,8,7,19,18,17,16],[11,10,6,5,4,3,1,0,2,9,8,7,20,15,14,13,12,19,18,17,16]] [⟨some 18,none,.faddr 0 (.t 1)⟩,⟨some 19,none,.load false 1 (.t 18)⟩,⟨some 20,none,.mv (.t 3)⟩,⟨some 21,none,.iaddr 3 (.t 19) (.t 20)⟩,⟨some 22,none,.faddr 0 (.t 21)⟩,⟨some 23,none,.load false 1 (.t 22)⟩,⟨some 24,none,.mv (.t 23)⟩,⟨(some 25),(some (24,true)),(.faddr 0 (.t 4))⟩,⟨(some 26),(some (24,true)),(.load false 1 (.t 25))⟩,⟨(some 27),(some (24,true)),(.bin .eql false (.t 26) (.c (.str ⟨#[61]⟩)))⟩,⟨some 28,none,.pick (.t 24) (.t 27) (.c (.bool false))⟩,⟨some 29,none,.mv (.t 28)⟩,⟨(some 30),(some (29,true)),(.faddr 1 (.t 4))⟩,⟨(some 31),(some (29,true)),(.load false 1 (.t 30))⟩,⟨(some 32),(some (29,true)),(.iaddr 2 (.t 31) (.c (.int .i64 0)))⟩,⟨(some 33),(some (29,true)),(.load true 2 (.t 32))⟩,⟨(some 34),(some (29,true)),(.faddr 1 (.t 4))⟩,⟨(some 35),(some (29,true)),(.load false 1 (.t 34))⟩,⟨(some 36),(some (29,true)),(.iaddr 2 (.t 35) (.c (.int .i64 1)))⟩,⟨(some 37),(some (29,true)),(.load true 2 (.t 36))⟩,⟨(some 38),(some (29,true)),(.call 230 [(.t 33),(.t 37)])⟩,⟨some 39,none,.pick (.t 29) (.t 38) (.c (.bool false))⟩]) (.cond (.t 39) (.seq (.reg [⟨some 2,none,.mv (.c (.bool true))⟩]) .ret) .skip)) (.seq (.dreg [[],[0],[1,0],[2,1,0],[3,2,1,0],[2,1,0],[5,2,1,0],[4,3,2,1,0,6,5],[7,4,3,2,1,0,6,5],[8,7,4,3,2,1,0,6,5],[2,1,0],[9,8,7,4,3,2,1,0,6,5,10],[2,1,0,11,9,8,7,4,3,6,5,10]] [⟨some 40,none,.mv (.t 3)⟩,⟨some 41,none,.bin .gtr false (.t 40) (.c (.int .i64 0))⟩,⟨some 42,none,.mv (.t 41)⟩,⟨(some 43),(some (42,true)),(.faddr 0 (.t 1))⟩,⟨(some 44),(some (42,true)),(.load false 1 (.t 43))⟩,⟨(some 45),(some (42,true)),(.mv (.t 3))⟩,⟨(some 46),(some (42,true)),(.bin .sub false (.t 45) (.c (.int .i64 1)))⟩,⟨(some 47),(some (42,true)),(.iaddr 3 (.t 44) (.t 46))⟩,⟨(some 48),(some (42,true)),(.faddr 1 (.t 47))⟩,⟨(some 49),(some (42,true)),(.load true 2 (.t 48))⟩,⟨(some 50),(some (42,true)),(.load true 2 (.t 4))⟩,⟨(some 51),(some (42,true)),(.call 230 [(.t 49),(.t 50)])⟩,⟨some 52,none,.pick (.t 42) (.t 51) (.c (.bool false))⟩]) (.cond (.t 52) (.seq (.reg [⟨some 2,none,.mv (.c (.bool true))⟩]) .ret) .skip))))) (.reg [⟨some 10,none,.mv (.t 3)⟩,⟨some 11,none,.bin .add false (.t 10) (.c (.int .i64 1))⟩,⟨some 3,none,.mv (.t 11)⟩])))))) (.seq (.reg [⟨some 2,none,.mv (.c (.bool false))⟩]) .ret)))
theorem Tr:codeOf Tryz.prog 285=some ⟨53,M8,[(.tmp 2)]⟩:=by kernel_rfl
theorem M9:modes 285=⟨[],.asis,none,false⟩:=by unfold modes; rfl
theorem Qdp (c:Cl) (hc:c.ok=true):E 285 [c.sv] []=some (.bool c.taut,[]):=by
 have hl:=Cl.Dx hc
 have hnd:∀ x∈c.lits,x.atom.nodes≤1099511627776:=fun x hx=>by have:=Tm.Cm (Cl.Ci hc x hx); omega
 have hsv:c.sv=.agg [.arr (c.lits.map Lt.d)]:=rfl
 rw [hsv]
 refine Af Tr M9 (of_decide_eq_true rfl) ?_
 simp (disch:=omega) only [M8,go_sem,Ab]
 refine go_loop (α:=Int) (fun a=>⟨slots 53 0 [(1,.ptr 0 0),(3,.int .i64 a)],[.box 60 [.arr (c.lits.map Lt.d)]]⟩) (fun a=>∃ k:Nat,a=k∧k≤(c.lits).length∧∀ (j:Nat),j<k→Z8 c.lits j=false) (fun a=>(c.lits).length-(a).toNat) 0 ⟨0,rfl,zH _,fun j hj=>absurd hj (yM _)⟩ (by simp (disch:=omega) only [go_sem,Ab]) ?_
 rintro i ⟨k,hi,hk,hR⟩
 have hni:i.toNat=k:=by omega
 have hni1:(i+1).toNat=k+1:=by omega
 rcases zB k (c.lits).length with hlt | hge
 ·have hg:=get_at Lt.d hlt
  rw [Lt.d_eq] at hg
  have has:c.lits[k].atom.sv=.agg [.str c.lits[k].atom.name,.arr (c.lits[k].atom.args.map Tm.d)]:=rfl
  have hq:=(show dec (c.lits[k].atom.name=⟨#[61]⟩)=c.lits[k].atom.eqn from rfl)
  have hT:=QaC hlt
  cases hp:c.lits[k].pos with
  | false =>
   rw [hp,zA,zS] at hT
   rcases zK k with h0 | h0
   ·have hd0:dec ((0:Int)<i)=false:=Aj (by omega)
    rw [Aj (by omega:¬ 0<k),zA] at hT
    simp (disch:=omega) only [go_sem,Ab,hni,hg,hd0,hp]
    exact ⟨i+1,⟨k+1,by omega,hlt,fun j hj=>(zN (zP.1 hj)).elim (hR j) fun e=>by rw [e,hT]⟩,by omega,by first | trivial | rfl⟩
   have hd0:dec ((0:Int)<i)=true:=An (by omega)
   have him:(i-1).toNat=k-1:=by omega
   have hkp:k-1<c.lits.length:=by omega
   have hgp:=get_at Lt.d hkp
   rw [Lt.d_eq] at hgp
   have hE2:=Ja c.lits[k-1].atom c.lits[k].atom (hnd _ (zD hkp)) (hnd _ (zD hlt))
   have hs1:c.lits[k-1].atom.sv=.agg [.str c.lits[k-1].atom.name,.arr (c.lits[k-1].atom.args.map Tm.d)]:=rfl
   rw [hs1,has] at hE2
   rw [An h0,zF,Jv hkp] at hT
   cases hb:dec (c.lits[k-1].atom=c.lits[k].atom) with
   | true =>
    rw [hb] at hT
    rw [hb] at hE2
    rw [Gq hlt hT]
    simp (disch:=omega) only [go_sem,Ab,hni,him,hg,hgp,hd0,hE2,AL,hp]
   | false =>
    rw [hb] at hT
    rw [hb] at hE2
    simp (disch:=omega) only [go_sem,Ab,hni,him,hg,hgp,hd0,hE2,AL,hp]
    exact ⟨i+1,⟨k+1,by omega,hlt,fun j hj=>(zN (zP.1 hj)).elim (hR j) fun e=>by rw [e,hT]⟩,by omega,by first | trivial | rfl⟩
  | true =>
  rw [hp,zF] at hT
  cases he:c.lits[k].atom.eqn with
  | false =>
   rw [he,zA,zS] at hT
   rw [he] at hq
   rcases zK k with h0 | h0
   ·have hd0:dec ((0:Int)<i)=false:=Aj (by omega)
    rw [Aj (by omega:¬ 0<k),zA] at hT
    simp (disch:=omega) only [go_sem,Ab,hni,hg,hd0,hp,hq]
    exact ⟨i+1,⟨k+1,by omega,hlt,fun j hj=>(zN (zP.1 hj)).elim (hR j) fun e=>by rw [e,hT]⟩,by omega,by first | trivial | rfl⟩
   have hd0:dec ((0:Int)<i)=true:=An (by omega)
   have him:(i-1).toNat=k-1:=by omega
   have hkp:k-1<c.lits.length:=by omega
   have hgp:=get_at Lt.d hkp
   rw [Lt.d_eq] at hgp
   have hE2:=Ja c.lits[k-1].atom c.lits[k].atom (hnd _ (zD hkp)) (hnd _ (zD hlt))
   have hs1:c.lits[k-1].atom.sv=.agg [.str c.lits[k-1].atom.name,.arr (c.lits[k-1].atom.args.map Tm.d)]:=rfl
   rw [hs1,has] at hE2
   rw [An h0,zF,Jv hkp] at hT
   cases hb:dec (c.lits[k-1].atom=c.lits[k].atom) with
   | true =>
    rw [hb] at hT
    rw [hb] at hE2
    rw [Gq hlt hT]
    simp (disch:=omega) only [go_sem,Ab,hni,him,hg,hgp,hd0,hE2,AL,hp,hq]
   | false =>
    rw [hb] at hT
    rw [hb] at hE2
    simp (disch:=omega) only [go_sem,Ab,hni,him,hg,hgp,hd0,hE2,AL,hp,hq]
    exact ⟨i+1,⟨k+1,by omega,hlt,fun j hj=>(zN (zP.1 hj)).elim (hR j) fun e=>by rw [e,hT]⟩,by omega,by first | trivial | rfl⟩
  | true =>
  have hal:=Tm.UC (Cl.Ci hc _ (zD hlt)) he
  have hl0:0<c.lits[k].atom.args.length:=by omega
  have hl1:1<c.lits[k].atom.args.length:=by omega
  have hg0:=get_at Tm.d hl0
  have hg1:=get_at Tm.d hl1
  rw [Tm.d_eq] at hg0 hg1
  have hk:=hnd _ (zD hlt)
  have hb0:=Tm.nodes_le c.lits[k].atom.args 0 hl0
  have hb1:=Tm.nodes_le c.lits[k].atom.args 1 hl1
  have hne:=Tm.nodes_eq c.lits[k].atom
  have hE:=Ja c.lits[k].atom.args[0] c.lits[k].atom.args[1] (by omega) (by omega)
  have s0:c.lits[k].atom.args[0].sv=.agg [.str c.lits[k].atom.args[0].name,.arr (c.lits[k].atom.args[0].args.map Tm.d)]:=rfl
  have s1:c.lits[k].atom.args[1].sv=.agg [.str c.lits[k].atom.args[1].name,.arr (c.lits[k].atom.args[1].args.map Tm.d)]:=rfl
  rw [s0,s1] at hE
  rw [he,zF,Yk hl0 hl1] at hT
  rw [he] at hq
  cases hb2:dec (c.lits[k].atom.args[0]=c.lits[k].atom.args[1]) with
  | true =>
   rw [hb2,yQ] at hT
   rw [hb2] at hE
   rw [Gq hlt hT]
   simp (disch:=omega) only [go_sem,Ab,hni,hg,hp,hq,hE,hg0,hg1,AL]
  | false =>
   rw [hb2,zS] at hT
   rw [hb2] at hE
   rcases zK k with h0 | h0
   ·have hd0:dec ((0:Int)<i)=false:=Aj (by omega)
    rw [Aj (by omega:¬ 0<k),zA] at hT
    simp (disch:=omega) only [go_sem,Ab,hni,hg,hd0,hp,hq,hE,hg0,hg1,AL]
    exact ⟨i+1,⟨k+1,by omega,hlt,fun j hj=>(zN (zP.1 hj)).elim (hR j) fun e=>by rw [e,hT]⟩,by omega,by first | trivial | rfl⟩
   have hd0:dec ((0:Int)<i)=true:=An (by omega)
   have him:(i-1).toNat=k-1:=by omega
   have hkp:k-1<c.lits.length:=by omega
   have hgp:=get_at Lt.d hkp
   rw [Lt.d_eq] at hgp
   have hE2:=Ja c.lits[k-1].atom c.lits[k].atom (hnd _ (zD hkp)) (hnd _ (zD hlt))
   have hs1:c.lits[k-1].atom.sv=.agg [.str c.lits[k-1].atom.name,.arr (c.lits[k-1].atom.args.map Tm.d)]:=rfl
   rw [hs1,has] at hE2
   rw [An h0,zF,Jv hkp] at hT
   cases hb:dec (c.lits[k-1].atom=c.lits[k].atom) with
   | true =>
    rw [hb] at hT
    rw [hb] at hE2
    rw [Gq hlt hT]
    simp (disch:=omega) only [go_sem,Ab,hni,him,hg,hgp,hd0,hE2,AL,hp,hq,hE,hg0,hg1,AL]
   | false =>
    rw [hb] at hT
    rw [hb] at hE2
    simp (disch:=omega) only [go_sem,Ab,hni,him,hg,hgp,hd0,hE2,AL,hp,hq,hE,hg0,hg1,AL]
    exact ⟨i+1,⟨k+1,by omega,hlt,fun j hj=>(zN (zP.1 hj)).elim (hR j) fun e=>by rw [e,hT]⟩,by omega,by first | trivial | rfl⟩
 ·rw [QaD fun j hj=>hR j (by omega)]
  simp (disch:=omega) only [go_sem,Ab,hni]
def Fv:SC:=(.seq (.reg [⟨some 2,none,.boxv 33 2 (.t 0)⟩,⟨(some 4),none,(.alloc 33 [(.str ⟨#[]⟩),.nil])⟩]) (.seq (.reg [⟨some 10,none,.faddr 0 (.t 2)⟩,⟨some 11,none,.load false 1 (.t 10)⟩,⟨(some 12),none,(.build [(.str ⟨#[]⟩),.nil] [(0,(1,(.t 11)))])⟩,⟨(some 5),none,(.alloc 33 [(.str ⟨#[]⟩),.nil])⟩,⟨none,none,(.store 2 (.t 5) (.t 12))⟩]) (.seq (.seq (.reg [⟨some 14,none,.mv (.t 1)⟩,⟨some 15,none,.faddr 0 (.t 2)⟩,⟨some 16,none,.load false 1 (.t 15)⟩,⟨(some 17),none,(.mget true true false [(.str ⟨#[]⟩)] (.t 14) (.t 16))⟩,⟨some 13,none,.mv (.t 17)⟩,⟨some 18,none,.ext (.t 13) 0⟩,⟨some 19,none,.ext (.t 13) 1⟩,⟨some 6,none,.mv (.t 18)⟩,⟨some 7,none,.mv (.t 19)⟩]) (.seq (.reg [⟨some 20,none,.mv (.t 7)⟩,⟨some 21,none,.mv (.t 20)⟩,⟨(some 22),(some (21,true)),(.faddr 1 (.t 2))⟩,⟨(some 23),(some (21,true)),(.load false 1 (.t 22))⟩,⟨(some 24),(some (21,true)),(.len false (.t 23))⟩,⟨(some 25),(some (21,true)),(.bin .eql false (.t 24) (.c (.int .i64 0)))⟩,⟨some 26,none,.pick (.t 21) (.t 25) (.c (.bool false))⟩]) (.cond (.t 26) (.reg [⟨some 27,none,.mv (.t 6)⟩,⟨some 28,none,.faddr 0 (.t 5)⟩,⟨none,none,(.store 1 (.t 28) (.t 27))⟩]) .skip))) (.seq (.seq (.reg [⟨some 29,none,.faddr 1 (.t 2)⟩,⟨some 30,none,.load false 1 (.t 29)⟩,⟨some 31,none,.len false (.t 30)⟩,⟨some 32,none,.mv (.c (.int .i64 0))⟩]) (.block 0 (.loop [0,1,0,0,1,1,0,0,0,0,0,0,0,0,0,0,0,0,0,0,0,0,0,0,0,0,0,0,0,0,1,1,1,0,0,0,0,0,0,0,0,0,0,0,0,0] (.seq (.reg [⟨some 33,none,.bin .lss false (.t 32) (.t 31)⟩]) (.seq (.cond (.t 33) .skip (.exit 0)) (.seq (.block 1 (.seq (.reg [⟨some 34,none,.iaddr 2 (.t 30) (.t 32)⟩,⟨some 35,none,.load true 2 (.t 34)⟩,⟨(some 9),none,(.alloc 33 [(.str ⟨#[]⟩),.nil])⟩,⟨none,none,(.store 2 (.t 9) (.t 35))⟩]) (.dreg [[],[0],[],[],[2,3],[4,2,3],[1,0,5,4,2,3],[0,1,2,3,4,5,6],[7,0,1,2,3,4,5,6]] [⟨some 36,none,.faddr 1 (.t 5)⟩,⟨some 37,none,.load false 1 (.t 36)⟩,⟨some 38,none,.load true 2 (.t 9)⟩,⟨some 39,none,.mv (.t 1)⟩,⟨some 40,none,.call 275 [(.t 38),(.t 39)]⟩,⟨(some 41),none,(.mkrow 33 2 [(.str ⟨#[]⟩),.nil] 1 [(0,(.t 40))])⟩,⟨(some 42),none,(.append 33 2 40 [(.str ⟨#[]⟩),.nil] (.t 37) (.t 41))⟩,⟨some 43,none,.faddr 1 (.t 5)⟩,⟨none,none,(.store 1 (.t 43) (.t 42))⟩]))) (.reg [⟨some 44,none,.bin .add false (.t 32) (.c (.int .i64 1))⟩,⟨some 32,none,.mv (.t 44)⟩]))))))) (.seq (.reg [⟨some 45,none,.load true 2 (.t 5)⟩,⟨none,none,(.store 2 (.t 4) (.t 45))⟩]) .ret)))))
theorem HG:codeOf Tryz.prog 275=some ⟨46,Fv,[(.cell 4 true 2)]⟩:=by kernel_rfl
theorem BJ:modes 275=⟨[],.own [none,some (33,2)],none,false⟩:=by unfold modes; rfl
abbrev RnC (e:SEnv) (x:Tm):Prop:=E 275 [x.sv,.mp true (Gn e)] []=some ((x.rn e).osv,(x.rn e).obs)
theorem ZB (e:SEnv) (x:Tm) (hn:x.args.length≤1099511627776) (ih:∀ y∈x.args,RnC e y):RnC e x:=by
 unfold RnC
 obtain ⟨nm,hnm⟩:∃ nm,nm=bif x.args.isEmpty then (e x.name).getD x.name else x.name:=⟨_,rfl⟩
 have e0:x.rn e=.mk nm (x.args.map (Tm.rn e)):=by rw [Tm.Sm,hnm]
 have e1:(Tm.mk nm (x.args.map (Tm.rn e))).osv=.agg [.str nm,.ref 0]:=rfl
 have e2:(Tm.mk nm (x.args.map (Tm.rn e))).obs=[.row 33 2 ((x.args.map (Tm.rn e)).map Tm.o)]:=rfl
 rw [e0,e1,e2]
 have h10:((1:Int)=0)=False:=by simp
 cases he:e x.name with
 | none =>
  have hme:Gn e (.str x.name)=none:=by rw [LS,he]
  have hnn:nm=x.name:=by
   rw [hnm,he]
   cases x.args.isEmpty <;> rfl
  rw [hnn]
  clear hnm e0 e1 e2 hnn nm
  obtain ⟨nm,hnm⟩:∃ nm,nm=x.name:=⟨_,rfl⟩
  rw [←hnm] at hme ⊢
  refine Af HG BJ (of_decide_eq_true rfl) ?_
  simp (disch:=omega) only [Fv,go_sem,Ab,hme,← hnm]
  refine go_loop (α:=Int) (fun a=>⟨slots 46 0 [(1,.mp true (Gn e)),(4,.ptr 0 0),(5,.ptr 1 0),(30,.arr (x.args.map Tm.d)),(31,.int .i64 x.args.length),(32,.int .i64 a)],(if a=0 then [.box 33 [.str ⟨#[]⟩,.nil],.box 33 [.str nm,.nil]] else [.box 33 [.str ⟨#[]⟩,.nil],.box 33 [.str nm,.ref 2],.row 33 2 (((x.args.map (Tm.rn e)).take a.toNat).map Tm.o)])⟩) (fun a=>∃ k:Nat,a=k∧k≤(x.args).length) (fun a=>(x.args).length-(a).toNat) 0 ⟨0,rfl,zH _⟩ (by simp (disch:=omega) only [go_sem,Ab,eq_self,if_true]) ?_
  rintro i ⟨k,hi,hk⟩
  have hni:i.toNat=k:=by omega
  have hni1:(i+1).toNat=k+1:=by omega
  rcases zB k (x.args).length with hlt | hge
  ·have hg:=get_at Tm.d hlt
   rw [Tm.d_eq] at hg
   have hc:=ih x.args[k] (zD hlt)
   have hlm:k<(x.args.map (Tm.rn e)).length:=by rw [zJ]; exact hlt
   have hs:=Fh Tm.o hlm
   rw [Tm.o_eq,yC] at hs
   rcases zK k with h0 | h0
   ·subst h0
    obtain rfl:i=0:=hi
    rw [yG,zO,yA] at hs
    simp (disch:=omega) only [go_sem,Ab,hni,hg,hc,Tm.osv,Tm.obs,BJ,eq_self,if_true]
    refine ⟨1,⟨1,rfl,hlt⟩,by omega,?_⟩
    simp (disch:=omega) only [go_sem,Ab,h10,if_false,hs]
   ·have hi0:(i=0)=False:=by simp; omega
    have hi1:(i+1=0)=False:=by simp; omega
    have htl:((x.args.map (Tm.rn e)).take k).length=k:=by rw [z6,zJ]; omega
    simp (disch:=omega) only [go_sem,Ab,hni,hg,hc,Tm.osv,Tm.obs,BJ,hi0,if_false,htl]
    refine ⟨i+1,⟨k+1,by omega,hlt⟩,by omega,?_⟩
    simp (disch:=omega) only [go_sem,Ab,hni1,hi1,if_false,hs]
  ·obtain rfl:k=x.args.length:=by omega
   have ht:(x.args.map (Tm.rn e)).take x.args.length=x.args.map (Tm.rn e):=by rw [←zJ (f:=Tm.rn e)]; exact yI
   rcases zK x.args.length with h0 | h0
   ·have hx:x.args=[]:=zM h0
    obtain rfl:i=0:=by omega
    first | omega | simp (disch:=omega) only [go_sem,Ab,hni,hx,eq_self,if_true,zO,zL]
   ·have hi0:(i=0)=False:=by simp; omega
    first | omega | simp (disch:=omega) only [go_sem,Ab,hni,hi0,if_false,ht]
 | some v =>
  have hme:Gn e (.str x.name)=some (false,[.str v]):=by rw [LS,he]
  rcases zK x.args.length with hz | hz
  ·have hx:x.args=[]:=zM hz
   have hz0:((x.args.length:Int)=0)=True:=by rw [hx]; simp
   have hnn:nm=v:=by rw [hnm,he,hx]; rfl
   rw [hnn]
   clear hnm e0 e1 e2 hnn nm
   obtain ⟨nm,hnm⟩:∃ nm,nm=v:=⟨_,rfl⟩
   rw [←hnm] at hme ⊢
   refine Af HG BJ (of_decide_eq_true rfl) ?_
   simp (disch:=omega) only [Fv,go_sem,Ab,hme,hz0,Qar]
   refine go_loop (α:=Int) (fun a=>⟨slots 46 0 [(1,.mp true (Gn e)),(4,.ptr 0 0),(5,.ptr 1 0),(30,.arr (x.args.map Tm.d)),(31,.int .i64 x.args.length),(32,.int .i64 a)],(if a=0 then [.box 33 [.str ⟨#[]⟩,.nil],.box 33 [.str nm,.nil]] else [.box 33 [.str ⟨#[]⟩,.nil],.box 33 [.str nm,.ref 2],.row 33 2 (((x.args.map (Tm.rn e)).take a.toNat).map Tm.o)])⟩) (fun a=>∃ k:Nat,a=k∧k≤(x.args).length) (fun a=>(x.args).length-(a).toNat) 0 ⟨0,rfl,zH _⟩ (by simp (disch:=omega) only [go_sem,Ab,eq_self,if_true]) ?_
   rintro i ⟨k,hi,hk⟩
   have hni:i.toNat=k:=by omega
   have hni1:(i+1).toNat=k+1:=by omega
   rcases zB k (x.args).length with hlt | hge
   ·have hg:=get_at Tm.d hlt
    rw [Tm.d_eq] at hg
    have hc:=ih x.args[k] (zD hlt)
    have hlm:k<(x.args.map (Tm.rn e)).length:=by rw [zJ]; exact hlt
    have hs:=Fh Tm.o hlm
    rw [Tm.o_eq,yC] at hs
    rcases zK k with h0 | h0
    ·subst h0
     obtain rfl:i=0:=hi
     rw [yG,zO,yA] at hs
     simp (disch:=omega) only [go_sem,Ab,hni,hg,hc,Tm.osv,Tm.obs,BJ,eq_self,if_true]
     refine ⟨1,⟨1,rfl,hlt⟩,by omega,?_⟩
     simp (disch:=omega) only [go_sem,Ab,h10,if_false,hs]
    ·have hi0:(i=0)=False:=by simp; omega
     have hi1:(i+1=0)=False:=by simp; omega
     have htl:((x.args.map (Tm.rn e)).take k).length=k:=by rw [z6,zJ]; omega
     simp (disch:=omega) only [go_sem,Ab,hni,hg,hc,Tm.osv,Tm.obs,BJ,hi0,if_false,htl]
     refine ⟨i+1,⟨k+1,by omega,hlt⟩,by omega,?_⟩
     simp (disch:=omega) only [go_sem,Ab,hni1,hi1,if_false,hs]
   ·obtain rfl:k=x.args.length:=by omega
    have ht:(x.args.map (Tm.rn e)).take x.args.length=x.args.map (Tm.rn e):=by rw [←zJ (f:=Tm.rn e)]; exact yI
    rcases zK x.args.length with h0 | h0
    ·have hx:x.args=[]:=zM h0
     obtain rfl:i=0:=by omega
     first | omega | simp (disch:=omega) only [go_sem,Ab,hni,hx,eq_self,if_true,zO,zL]
    ·have hi0:(i=0)=False:=by simp; omega
     first | omega | simp (disch:=omega) only [go_sem,Ab,hni,hi0,if_false,ht]
  ·have hz0:((x.args.length:Int)=0)=False:=eq_false (by omega)
   have hnn:nm=x.name:=by
    rw [hnm]
    cases hx:x.args with
    | nil=>rw [hx] at hz; simp at hz
    | cons a r=>rfl
   rw [hnn]
   clear hnm e0 e1 e2 hnn nm
   obtain ⟨nm,hnm⟩:∃ nm,nm=x.name:=⟨_,rfl⟩
   rw [←hnm] at hme ⊢
   refine Af HG BJ (of_decide_eq_true rfl) ?_
   simp (disch:=omega) only [Fv,go_sem,Ab,hme,hz0,Qas,← hnm]
   refine go_loop (α:=Int) (fun a=>⟨slots 46 0 [(1,.mp true (Gn e)),(4,.ptr 0 0),(5,.ptr 1 0),(30,.arr (x.args.map Tm.d)),(31,.int .i64 x.args.length),(32,.int .i64 a)],(if a=0 then [.box 33 [.str ⟨#[]⟩,.nil],.box 33 [.str nm,.nil]] else [.box 33 [.str ⟨#[]⟩,.nil],.box 33 [.str nm,.ref 2],.row 33 2 (((x.args.map (Tm.rn e)).take a.toNat).map Tm.o)])⟩) (fun a=>∃ k:Nat,a=k∧k≤(x.args).length) (fun a=>(x.args).length-(a).toNat) 0 ⟨0,rfl,zH _⟩ (by simp (disch:=omega) only [go_sem,Ab,eq_self,if_true]) ?_
   rintro i ⟨k,hi,hk⟩
   have hni:i.toNat=k:=by omega
   have hni1:(i+1).toNat=k+1:=by omega
   rcases zB k (x.args).length with hlt | hge
   ·have hg:=get_at Tm.d hlt
    rw [Tm.d_eq] at hg
    have hc:=ih x.args[k] (zD hlt)
    have hlm:k<(x.args.map (Tm.rn e)).length:=by rw [zJ]; exact hlt
    have hs:=Fh Tm.o hlm
    rw [Tm.o_eq,yC] at hs
    rcases zK k with h0 | h0
    ·subst h0
     obtain rfl:i=0:=hi
     rw [yG,zO,yA] at hs
     simp (disch:=omega) only [go_sem,Ab,hni,hg,hc,Tm.osv,Tm.obs,BJ,eq_self,if_true]
     refine ⟨1,⟨1,rfl,hlt⟩,by omega,?_⟩
     simp (disch:=omega) only [go_sem,Ab,h10,if_false,hs]
    ·have hi0:(i=0)=False:=by simp; omega
     have hi1:(i+1=0)=False:=by simp; omega
     have htl:((x.args.map (Tm.rn e)).take k).length=k:=by rw [z6,zJ]; omega
     simp (disch:=omega) only [go_sem,Ab,hni,hg,hc,Tm.osv,Tm.obs,BJ,hi0,if_false,htl]
     refine ⟨i+1,⟨k+1,by omega,hlt⟩,by omega,?_⟩
     simp (disch:=omega) only [go_sem,Ab,hni1,hi1,if_false,hs]
   ·obtain rfl:k=x.args.length:=by omega
    have ht:(x.args.map (Tm.rn e)).take x.args.length=x.args.map (Tm.rn e):=by rw [←zJ (f:=Tm.rn e)]; exact yI
    rcases zK x.args.length with h0 | h0
    ·have hx:x.args=[]:=zM h0
     obtain rfl:i=0:=by omega
     first | omega | simp (disch:=omega) only [go_sem,Ab,hni,hx,eq_self,if_true,zO,zL]
    ·have hi0:(i=0)=False:=by simp; omega
     first | omega | simp (disch:=omega) only [go_sem,Ab,hni,hi0,if_false,ht]
theorem UD (e:SEnv) (x:Tm) (hn:x.nodes≤1099511627776):RnC e x :=
 ZB e x (by have:=Tm.length_le x.args; have:=Tm.nodes_eq x; omega) fun y hy=>UD e y (by have:=Tm.nodes_mem hy; have:=Tm.nodes_eq x; omega)
termination_by SizeOf.sizeOf x
decreasing_by exact Tm.lt_of_mem hy
def JS:SC:=(.seq (.reg [⟨(some 2),none,(.mv (.c (.str ⟨#[]⟩)))⟩]) (.seq (.seq (.reg [⟨some 3,none,.mv (.t 0)⟩,⟨some 4,none,.bin .lss false (.t 3) (.c (.int .i64 0))⟩]) (.cond (.t 4) (.seq (.reg [⟨some 5,none,.mv (.t 0)⟩,⟨some 6,none,.un .neg (.t 5)⟩,⟨some 7,none,.call 190 [(.t 6)]⟩,⟨(some 8),none,(.bin .add false (.c (.str ⟨#[45]⟩)) (.t 7))⟩,⟨some 2,none,.mv (.t 8)⟩]) .ret) .skip)) (.seq (.seq (.reg [⟨some 9,none,.mv (.t 0)⟩,⟨some 10,none,.bin .lss false (.t 9) (.c (.int .i64 10))⟩]) (.cond (.t 10) (.seq (.reg [⟨some 11,none,.mv (.t 0)⟩,⟨some 12,none,.mv (.t 0)⟩,⟨some 13,none,.bin .add false (.t 12) (.c (.int .i64 1))⟩,⟨(some 14),none,(.slice true 0 (.c (.str ⟨#[48,49,50,51,52,53,54,55,56,57]⟩)) (some (.t 11)) (some (.t 13)))⟩,⟨some 2,none,.mv (.t 14)⟩]) .ret) .skip)) (.seq (.dreg [[],[0],[1,0],[],[3],[],[5],[6,5],[4,3,7,6,5],[2,1,0,8,4,3,7,6,5],[9,2,1,0,8,4,3,7,6,5]] [⟨some 15,none,.mv (.t 0)⟩,⟨some 16,none,.bin .quo false (.t 15) (.c (.int .i64 10))⟩,⟨some 17,none,.call 190 [(.t 16)]⟩,⟨some 18,none,.mv (.t 0)⟩,⟨some 19,none,.bin .rem false (.t 18) (.c (.int .i64 10))⟩,⟨some 20,none,.mv (.t 0)⟩,⟨some 21,none,.bin .rem false (.t 20) (.c (.int .i64 10))⟩,⟨some 22,none,.bin .add false (.t 21) (.c (.int .i64 1))⟩,⟨(some 23),none,(.slice true 0 (.c (.str ⟨#[48,49,50,51,52,53,54,55,56,57]⟩)) (some (.t 19)) (some (.t 22)))⟩,⟨some 24,none,.bin .add false (.t 17) (.t 23)⟩,⟨some 2,none,.mv (.t 24)⟩]) .ret))))
theorem Ot:codeOf Tryz.prog 190=some ⟨25,JS,[(.tmp 2)]⟩:=by kernel_rfl
theorem D1:modes 190=⟨[],.asis,none,false⟩:=by unfold modes; rfl
theorem Qe4 (d:Nat) (h:d<10):(⟨#[48,49,50,51,52,53,54,55,56,57]⟩:ByteArray).extract d (d+1)=⟨#[UInt8.ofNat (48+d)]⟩:=by
 have key:∀ d:_root_.Fin 10,(⟨#[48,49,50,51,52,53,54,55,56,57]⟩:ByteArray).extract d.val (d.val+1)=⟨#[UInt8.ofNat (48+d.val)]⟩:=by decide +kernel
 exact key ⟨d,h⟩
theorem Qdq (n:Int) (h0:0≤n) (h1:n≤1099511627776) (ih:10≤n→E 190 [.int .i64 (n.tdiv 10)] []=some (.str (GF (n.tdiv 10)),[])):E 190 [.int .i64 n] []=some (.str (GF n),[]):=by
 have hsz:(⟨#[48,49,50,51,52,53,54,55,56,57]⟩:ByteArray).size=10:=rfl
 rcases Int.lt_or_le n 10 with h | h
 ·have e1:=Qe4 n.toNat (by omega)
  have e2:(n+1).toNat=n.toNat+1:=by omega
  rw [Zt h0 h]
  refine Af Ot D1 (of_decide_eq_true rfl) ?_
  simp (disch:=omega) only [JS,go_sem,Ab,e1,e2,hsz]
 ·have hc:=ih h
  have hq:n.tdiv 10=n / 10:=z8 h0
  have hr:n.tmod 10=n % 10:=Int.tmod_eq_emod_of_nonneg h0
  have hq2:0≤n.tdiv 10∧n.tdiv 10≤n:=by omega
  have hr2:0≤n.tmod 10∧n.tmod 10<10:=by omega
  have hs:=GQ hq2.1 (by omega:n.tdiv 10≤1099511627776)
  have e1:=Qe4 (n.tmod 10).toNat (by omega)
  have e2:(n.tmod 10+1).toNat=(n.tmod 10).toNat+1:=by omega
  rw [QcG h]
  clear hq hr
  have hs1:(⟨#[UInt8.ofNat (48+(n.tmod 10).toNat)]⟩:ByteArray).size=1:=rfl
  refine Af Ot D1 (of_decide_eq_true rfl) ?_
  simp (disch:=omega) only [JS,go_sem,Ab,hc,e1,e2,hsz,hs1,D1]
theorem Wm (n:Int) (h0:0≤n) (h1:n≤1099511627776):E 190 [.int .i64 n] []=some (.str (GF n),[]) :=
 Qdq n h0 h1 fun h=>Wm (n.tdiv 10) (by rw [z8 h0]; omega) (by rw [z8 h0]; omega)
termination_by n.toNat
decreasing_by rw [z8 h0]; omega
def Is:SC:=(.seq (.reg [⟨some 1,none,.boxv 60 1 (.t 0)⟩,⟨some 2,none,.alloc 60 [.nil]⟩]) (.seq (.reg [⟨some 6,none,.build [.nil] []⟩,⟨some 3,none,.alloc 60 [.nil]⟩,⟨none,none,(.store 1 (.t 3) (.t 6))⟩]) (.seq (.seq (.reg [⟨some 7,none,.faddr 0 (.t 1)⟩,⟨some 8,none,.load false 1 (.t 7)⟩,⟨some 9,none,.len false (.t 8)⟩,⟨some 10,none,.mv (.c (.int .i64 0))⟩]) (.block 0 (.loop [0,0,1,1,0,0,0,0,1,1,1,0,0,0,0,0,0,0,0,0,0,0,0] (.seq (.reg [⟨some 11,none,.bin .lss false (.t 10) (.t 9)⟩]) (.seq (.cond (.t 11) .skip (.exit 0)) (.seq (.block 1 (.seq (.reg [⟨some 12,none,.iaddr 3 (.t 8) (.t 10)⟩,⟨some 13,none,.load true 3 (.t 12)⟩,⟨(some 5),none,(.alloc 122 [(.bool false),(.str ⟨#[]⟩),.nil])⟩,⟨none,none,(.store 3 (.t 5) (.t 13))⟩]) (.dreg [[],[0],[],[2],[3,2],[1,0,4,3,2],[0,1,2,3,4,5],[6,0,1,2,3,4,5]] [⟨some 14,none,.faddr 0 (.t 3)⟩,⟨some 15,none,.load false 1 (.t 14)⟩,⟨some 16,none,.load true 3 (.t 5)⟩,⟨some 17,none,.call 159 [(.t 16)]⟩,⟨(some 18),none,(.mkrow 122 3 [(.bool false),(.str ⟨#[]⟩),.nil] 1 [(0,(.t 17))])⟩,⟨(some 19),none,(.append 122 3 48 [(.bool false),(.str ⟨#[]⟩),.nil] (.t 15) (.t 18))⟩,⟨some 20,none,.faddr 0 (.t 3)⟩,⟨none,none,(.store 1 (.t 20) (.t 19))⟩]))) (.reg [⟨some 21,none,.bin .add false (.t 10) (.c (.int .i64 1))⟩,⟨some 10,none,.mv (.t 21)⟩]))))))) (.seq (.reg [⟨some 22,none,.load true 1 (.t 3)⟩,⟨none,none,(.store 1 (.t 2) (.t 22))⟩]) .ret))))
theorem Ou:codeOf Tryz.prog 93=some ⟨23,Is,[(.cell 2 true 1)]⟩:=by kernel_rfl
theorem It:modes 93=⟨[],.own [some (122,3)],none,false⟩:=by unfold modes; rfl
theorem Wn (c:Cl) (hl:c.lits.length≤1048576) (hf:∀ x∈c.lits,x.atom.nodes≤1099511627776):E 93 [c.sv] []=some (c.osv,c.obs):=by
 have h10:((1:Int)=0)=False:=by simp
 obtain ⟨l,hcl⟩:∃ l,l=c.lits:=⟨_,rfl⟩
 have e0:c.sv=.agg [.arr (l.map Lt.d)]:=by rw [hcl]; first | done | rfl
 have e1:c.osv=.agg [.ref 0]:=rfl
 have e2:c.obs=[.row 122 3 (l.map Lt.o)]:=by rw [hcl]; first | done | rfl
 rw [e0,e1,e2]
 rw [←hcl] at hl hf
 clear hcl e0 e1 e2
 refine Af Ou It (of_decide_eq_true rfl) ?_
 simp (disch:=omega) only [Is,go_sem,Ab]
 refine go_loop (α:=Int) (fun a=>⟨slots 23 0 [(2,.ptr 0 0),(3,.ptr 1 0),(8,.arr (l.map Lt.d)),(9,.int .i64 l.length),(10,.int .i64 a)],(if a=0 then [.box 60 [.nil],.box 60 [.nil]] else [.box 60 [.nil],.box 60 [.ref 2],.row 122 3 ((l.take a.toNat).map Lt.o)])⟩) (fun a=>∃ k:Nat,a=k∧k≤(l).length) (fun a=>(l).length-(a).toNat) 0 ⟨0,rfl,zH _⟩ (by simp (disch:=omega) only [go_sem,Ab,eq_self,if_true]) ?_
 rintro i ⟨k,hi,hk⟩
 have hni:i.toNat=k:=by omega
 have hni1:(i+1).toNat=k+1:=by omega
 rcases zB k (l).length with hlt | hge
 ·have hg:=get_at Lt.d hlt
  rw [Lt.d_eq] at hg
  have hc:=Mu l[k] (hf _ (zD hlt))
  have hs:=Fh Lt.o hlt
  rw [Lt.o_eq] at hs
  rcases zK k with h0 | h0
  ·subst h0
   obtain rfl:i=0:=hi
   rw [yG,zO,yA] at hs
   simp (disch:=omega) only [go_sem,Ab,hni,hg,hc,CL,eq_self,if_true]
   refine ⟨1,⟨1,rfl,hlt⟩,by omega,?_⟩
   simp (disch:=omega) only [go_sem,Ab,h10,if_false,hs]
  ·have hi0:(i=0)=False:=by simp; omega
   have hi1:(i+1=0)=False:=by simp; omega
   have htl:(l.take k).length=k:=by rw [z6]; omega
   simp (disch:=omega) only [go_sem,Ab,hni,hg,hc,CL,hi0,if_false,htl]
   refine ⟨i+1,⟨k+1,by omega,hlt⟩,by omega,?_⟩
   simp (disch:=omega) only [go_sem,Ab,hni1,hi1,if_false,hs]
 ·obtain rfl:k=l.length:=by omega
  have ht:l.take l.length=l:=yI
  rcases zK l.length with h0 | h0
  ·have hx:l=[]:=zM h0
   obtain rfl:i=0:=by omega
   rw [hx]
   simp (disch:=omega) only [go_sem,Ab,hni,eq_self,if_true,zO]
  ·have hi0:(i=0)=False:=by simp; omega
   simp (disch:=omega) only [go_sem,Ab,hni,hi0,if_false,ht]
def GB:SC:=(.seq (.reg [⟨some 1,none,.boxv 60 1 (.t 0)⟩,⟨some 2,none,.mv (.c (.bool false))⟩]) (.seq (.seq (.reg [⟨some 5,none,.load true 1 (.t 1)⟩,⟨some 6,none,.call 204 [(.t 5)]⟩,⟨some 7,none,.len false (.t 6)⟩,⟨some 8,none,.mv (.c (.int .i64 0))⟩]) (.block 0 (.loop [0,0,0,0,0,0,1,1,1,0,0,0,0,0,0,0,0,0,0] (.seq (.reg [⟨some 9,none,.bin .lss false (.t 8) (.t 7)⟩]) (.seq (.cond (.t 9) .skip (.exit 0)) (.seq (.block 1 (.seq (.reg [⟨some 10,none,.mv (.t 8)⟩,⟨some 11,none,.iaddr 1 (.t 6) (.t 8)⟩,⟨some 12,none,.load false 1 (.t 11)⟩,⟨some 3,none,.mv (.t 10)⟩,⟨some 4,none,.mv (.t 12)⟩]) (.seq (.reg [⟨some 13,none,.mv (.t 4)⟩,⟨some 14,none,.mv (.t 3)⟩,⟨some 15,none,.call 189 [(.t 14)]⟩,⟨(some 16),none,(.bin .add false (.c (.str ⟨#[88]⟩)) (.t 15))⟩,⟨some 17,none,.bin .neq false (.t 13) (.t 16)⟩]) (.cond (.t 17) (.seq (.reg [⟨some 2,none,.mv (.c (.bool false))⟩]) .ret) .skip)))) (.reg [⟨some 18,none,.bin .add false (.t 8) (.c (.int .i64 1))⟩,⟨some 8,none,.mv (.t 18)⟩]))))))) (.seq (.reg [⟨some 2,none,.mv (.c (.bool true))⟩]) .ret)))
theorem Md:codeOf Tryz.prog 148=some ⟨19,GB,[(.tmp 2)]⟩:=by kernel_rfl
theorem Dg:modes 148=⟨[],.asis,none,false⟩:=by unfold modes; rfl
theorem SG (c:Cl) (hc:c.ok=true):E 148 [c.sv] []=some (.bool c.norm,[]):=by
 have h1:=Uo c hc
 have hn:=Cl.Sn hc
 have hcs:c.sv=.agg [.arr (c.lits.map Lt.d)]:=rfl
 obtain ⟨ns,hns⟩:∃ ns,ns=c.ns:=⟨_,rfl⟩
 rw [show BA [] (Lt.vsL c.lits)=ns from hns.symm] at h1
 have hnm:c.norm=dec (Sq ns):=by unfold Cl.norm; rw [hns]
 rw [←hns] at hn
 rw [hnm]
 refine Af Md Dg (of_decide_eq_true rfl) ?_
 simp (disch:=omega) only [GB,go_sem,Ab,h1,Ed]
 refine go_loop (α:=Int) (fun a=>⟨slots 19 0 [(6,.ref 0),(7,.int .i64 ns.length),(8,.int .i64 a)],[.row 9 1 (ns.map fun s=>[OT.str s])]⟩) (fun a=>∃ k:Nat,a=k∧k≤(ns).length∧∀ (j:Nat),j<k→∀ hj:j<ns.length,ns[j]=pre Te (j:Nat)) (fun a=>(ns).length-(a).toNat) 0 ⟨0,rfl,zH _,fun j hj=>absurd hj (yM _)⟩ (by simp (disch:=omega) only [go_sem,Ab]) ?_
 rintro i ⟨k,hi,hk,hR⟩
 have hni:i.toNat=k:=by omega
 have hni1:(i+1).toNat=k+1:=by omega
 rcases zB k (ns).length with hlt | hge
 ·have hg:=get_at (fun s=>[OT.str s]) hlt
  have hit:=QcH i (by omega) (by omega)
  have hz:=GQ (show 0≤i by omega) (show i≤1099511627776 by omega)
  have hb:dec ((#[88]:Array UInt8).size+(GF i).size≤9223372036854775807)=true:=An (by simp; omega)
  by_cases he:ns[k]=pre Te (k:Nat)
  ·have he':dec (ns[k]=(⟨#[88]⟩:ByteArray)++GF i)=true:=An (by rw [he,hi]; rfl)
   simp (disch:=omega) only [go_sem,Ab,hni,hg,hit,hb,he',Fk]
   refine ⟨i+1,⟨k+1,by omega,hlt,fun j hj hjl=>?_⟩,by omega,by first | trivial | rfl⟩
   rcases zB j k with h2 | h2
   ·exact hR j h2 hjl
   ·obtain rfl:j=k:=by omega
    exact he
  ·have he':dec (ns[k]=(⟨#[88]⟩:ByteArray)++GF i)=false:=Aj (fun e=>he (by rw [e,hi]; rfl))
   have hno:dec (Sq ns)=false:=Aj fun h=>he (h k hlt)
   rw [hno]
   simp (disch:=omega) only [go_sem,Ab,hni,hg,hit,hb,he',Fk]
 ·have hy:dec (Sq ns)=true:=An fun j hj=>hR j (by omega) hj
  rw [hy]
  simp (disch:=omega) only [go_sem,Ab,hni]
def Ks:SC:=(.seq (.reg [⟨some 4,none,.mv (.c (.mp true nomap))⟩]) (.seq (.reg [⟨some 8,none,.mkmap true none⟩,⟨some 5,none,.mv (.t 8)⟩]) (.seq (.seq (.reg [⟨some 9,none,.mv (.t 0)⟩,⟨some 10,none,.len false (.t 9)⟩,⟨some 11,none,.mv (.c (.int .i64 0))⟩]) (.block 0 (.loop [0,1,0,0,0,1,0,0,0,1,1,1,0,0,0,0,0,0,0,0,0,0,0,0] (.seq (.reg [⟨some 12,none,.bin .lss false (.t 11) (.t 10)⟩]) (.seq (.cond (.t 12) .skip (.exit 0)) (.seq (.block 1 (.seq (.reg [⟨some 13,none,.mv (.t 11)⟩,⟨some 14,none,.iaddr 1 (.t 9) (.t 11)⟩,⟨some 15,none,.load false 1 (.t 14)⟩,⟨some 6,none,.mv (.t 13)⟩,⟨some 7,none,.mv (.t 15)⟩]) (.reg [⟨some 16,none,.mv (.t 5)⟩,⟨some 17,none,.mv (.t 7)⟩,⟨some 18,none,.mv (.t 1)⟩,⟨some 19,none,.mv (.t 6)⟩,⟨some 20,none,.call 189 [(.t 19)]⟩,⟨some 21,none,.bin .add false (.t 18) (.t 20)⟩,⟨none,none,(.mset true (.t 16) (.t 17) (.t 21))⟩]))) (.reg [⟨some 22,none,.bin .add false (.t 11) (.c (.int .i64 1))⟩,⟨some 11,none,.mv (.t 22)⟩]))))))) (.seq (.reg [⟨some 23,none,.mv (.t 5)⟩,⟨some 4,none,.mv (.t 23)⟩]) .ret))))
theorem Q2:codeOf Tryz.prog 226=some ⟨24,Ks,[(.tmp 4)]⟩:=by kernel_rfl
theorem EC:modes 226=⟨[],.frz,none,false⟩:=by unfold modes; rfl
theorem Qdr (p:ByteArray):Gn (Ht p [])=nomap:=Zs
theorem ZC (ns:List ByteArray) (hn:ns.length≤1048576) (p:ByteArray) (hp:p.size≤1048576):E 226 [.arr (ns.map fun s=>[D.str s]),.str p] []=some (.mp true (Gn (Ht p ns)),[]):=by
 have h0:=Qdr p
 refine Af Q2 EC (of_decide_eq_true rfl) ?_
 simp (disch:=omega) only [Ks,go_sem,Ab]
 refine go_loop (α:=Int) (fun a=>⟨slots 24 0 [(1,.str p),(5,.ref 0),(9,.arr (ns.map fun s=>[D.str s])),(10,.int .i64 ns.length),(11,.int .i64 a)],[.mp true (Gn (Ht p (ns.take a.toNat)))]⟩) (fun a=>∃ k:Nat,a=k∧k≤(ns).length) (fun a=>(ns).length-(a).toNat) 0 ⟨0,rfl,zH _⟩ (by simp (disch:=omega) only [go_sem,Ab,h0]) ?_
 rintro i ⟨k,hi,hk⟩
 have hni:i.toNat=k:=by omega
 have hni1:(i+1).toNat=k+1:=by omega
 rcases zB k (ns).length with hlt | hge
 ·have hg:=get_at (fun s=>[D.str s]) hlt
  have hit:=QcH i (by omega) (by omega)
  have hz:=GQ (show 0≤i by omega) (show i≤1099511627776 by omega)
  have hb:dec (p.size+(GF i).size≤9223372036854775807)=true:=An (by omega)
  have hs:Qj (Gn (Ht p (ns.take k))) (.str ns[k]) (false,[.str (p++GF i)])=Gn (Ht p (ns.take (k+1))):=by
   rw [Qbx,Pc p hlt,hi]; rfl
  simp (disch:=omega) only [go_sem,Ab,hni,hg,hit,hb,hs,Fk]
  refine ⟨i+1,⟨k+1,by omega,hlt⟩,by omega,?_⟩
  simp (disch:=omega) only [go_sem,Ab,hni1]
 ·have ht:ns.take k=ns:=yD hge
  simp (disch:=omega) only [go_sem,Ab,hni,ht]
def Gs:SC:=(.seq (.reg [⟨some 2,none,.boxv 60 1 (.t 0)⟩,⟨some 4,none,.alloc 60 [.nil]⟩]) (.seq (.reg [⟨(some 8),none,(.mkrow 122 3 [(.bool false),(.str ⟨#[]⟩),.nil] 0 [])⟩,⟨some 5,none,.mv (.t 8)⟩]) (.seq (.seq (.reg [⟨some 9,none,.faddr 0 (.t 2)⟩,⟨some 10,none,.load false 1 (.t 9)⟩,⟨some 11,none,.len false (.t 10)⟩,⟨some 12,none,.mv (.c (.int .i64 0))⟩]) (.block 0 (.loop [0,1,0,0,1,1,0,0,0,0,1,1,1,0,0,0,0,0,0,0,0,0,0,0,0,0,0,0,0] (.seq (.reg [⟨some 13,none,.bin .lss false (.t 12) (.t 11)⟩]) (.seq (.cond (.t 13) .skip (.exit 0)) (.seq (.block 1 (.seq (.reg [⟨some 14,none,.iaddr 3 (.t 10) (.t 12)⟩,⟨some 15,none,.load true 3 (.t 14)⟩,⟨(some 7),none,(.alloc 122 [(.bool false),(.str ⟨#[]⟩),.nil])⟩,⟨none,none,(.store 3 (.t 7) (.t 15))⟩]) (.dreg [[],[],[1],[],[3],[],[4,3,5],[2,1,6,4,3,5],[7,2,1,6,4,3,5],[0,8,7,2,1,6,4,3,5],[9,0,8,7,2,1,6,4,3,5]] [⟨some 16,none,.mv (.t 5)⟩,⟨some 17,none,.faddr 0 (.t 7)⟩,⟨some 18,none,.load false 1 (.t 17)⟩,⟨some 19,none,.faddr 1 (.t 7)⟩,⟨some 20,none,.load true 2 (.t 19)⟩,⟨some 21,none,.mv (.t 1)⟩,⟨some 22,none,.call 275 [(.t 20),(.t 21)]⟩,⟨(some 23),none,(.build [(.bool false),(.str ⟨#[]⟩),.nil] [(0,(1,(.t 18))),(1,(2,(.t 22)))])⟩,⟨(some 24),none,(.mkrow 122 3 [(.bool false),(.str ⟨#[]⟩),.nil] 1 [(0,(.t 23))])⟩,⟨(some 25),none,(.append 122 3 48 [(.bool false),(.str ⟨#[]⟩),.nil] (.t 16) (.t 24))⟩,⟨some 5,none,.mv (.t 25)⟩]))) (.reg [⟨some 26,none,.bin .add false (.t 12) (.c (.int .i64 1))⟩,⟨some 12,none,.mv (.t 26)⟩]))))))) (.seq (.reg [⟨some 27,none,.mv (.t 5)⟩,⟨some 28,none,.call 222 [(.t 27)]⟩,⟨none,none,(.store 1 (.t 4) (.t 28))⟩]) .ret))))
theorem Lx:codeOf Tryz.prog 206=some ⟨29,Gs,[(.cell 4 true 1)]⟩:=by kernel_rfl
theorem CV:modes 206=⟨[],.own [some (122,3)],none,false⟩:=by unfold modes; rfl
theorem Q3 (c:Cl) (hc:c.ok=true) (e:SEnv) (he:VS e):E 206 [c.sv,.mp true (Gn e)] []=some ((c.rn e).osv,(c.rn e).obs):=by
 have hl:=Cl.Dx hc
 have hcs:c.sv=.agg [.arr (c.lits.map Lt.d)]:=rfl
 have hat:=Lt.Sp he (Cl.Ci hc)
 have hco:=JI (c.lits.map (Lt.rn e)) (by rw [zJ]; omega) (fun x hx=>Dk (hat x hx))
 rw [show mkC (c.lits.map (Lt.rn e))=c.rn e from rfl] at hco
 have her:=Lt.erss (c.lits.map (Lt.rn e))
 refine Af Lx CV (of_decide_eq_true rfl) ?_
 simp (disch:=omega) only [Gs,go_sem,Ab]
 refine go_loop (α:=Int) (fun a=>⟨slots 29 0 [(1,.mp true (Gn e)),(4,.ptr 0 0),(5,.ref 1),(10,.arr (c.lits.map Lt.d)),(11,.int .i64 c.lits.length),(12,.int .i64 a)],[.box 60 [.nil],.row 122 3 (((c.lits.map (Lt.rn e)).take a.toNat).map Lt.o)]⟩) (fun a=>∃ k:Nat,a=k∧k≤(c.lits).length) (fun a=>(c.lits).length-(a).toNat) 0 ⟨0,rfl,zH _⟩ (by simp (disch:=omega) only [go_sem,Ab]) ?_
 rintro i ⟨k,hi,hk⟩
 have hni:i.toNat=k:=by omega
 have hni1:(i+1).toNat=k+1:=by omega
 rcases zB k (c.lits).length with hlt | hge
 ·have hg:=get_at Lt.d hlt
  rw [Lt.d_eq] at hg
  have hnn:=Tm.Cm (Cl.JL hc hlt)
  have hr:=UD e c.lits[k].atom (by omega)
  unfold RnC at hr
  have hrs:c.lits[k].atom.sv=.agg [.str c.lits[k].atom.name,.arr (c.lits[k].atom.args.map Tm.d)]:=rfl
  have hlm:k<(c.lits.map (Lt.rn e)).length:=by rw [zJ]; exact hlt
  have hs:=Fh Lt.o hlm
  rw [Lt.o_eq,yC] at hs
  have hs':((c.lits.map (Lt.rn e)).take k).map Lt.o++[[OT.bool c.lits[k].pos,OT.str (c.lits[k].atom.rn e).name,OT.ow ((c.lits[k].atom.rn e).args.map Tm.o)]]=((c.lits.map (Lt.rn e)).take (k+1)).map Lt.o:=hs
  have htl:((c.lits.map (Lt.rn e)).take k).length=k:=by rw [z6,zJ]; omega
  simp (disch:=omega) only [go_sem,Ab,hni,hg,hr,hrs,htl,Tm.osv,Tm.obs,BJ]
  refine ⟨i+1,⟨k+1,by omega,hlt⟩,by omega,?_⟩
  simp (disch:=omega) only [go_sem,Ab,hni1,hs']
 ·have ht:(c.lits.map (Lt.rn e)).take k=c.lits.map (Lt.rn e):=yD (by rw [zJ]; exact hge)
  simp (disch:=omega) only [go_sem,Ab,hni,ht,hco,her,Lt.noss,Lt.fus,AE]
def Jw:SC:=(.seq (.reg [⟨some 1,none,.boxv 60 1 (.t 0)⟩,⟨some 2,none,.alloc 60 [.nil]⟩]) (.seq (.reg [⟨some 5,none,.load true 1 (.t 1)⟩,⟨some 6,none,.call 93 [(.t 5)]⟩,⟨some 3,none,.alloc 60 [.nil]⟩,⟨none,none,(.store 1 (.t 3) (.t 6))⟩]) (.seq (.seq (.reg [⟨some 4,none,.mv (.c (.int .i64 0))⟩]) (.block 0 (.loop [0,0,1,1,1,0,0,0,0,0,0,0,0,0,0,0,0,0,0,0,0,0] (.seq (.seq (.reg [⟨some 7,none,.mv (.t 4)⟩,⟨some 8,none,.bin .lss false (.t 7) (.c (.int .i64 10))⟩,⟨some 9,none,.mv (.t 8)⟩,⟨(some 10),(some (9,true)),(.load true 1 (.t 3))⟩,⟨(some 11),(some (9,true)),(.call 148 [(.t 10)])⟩,⟨(some 12),(some (9,true)),(.un .not (.t 11))⟩,⟨some 13,none,.pick (.t 9) (.t 12) (.c (.bool false))⟩]) (.cond (.t 13) .skip (.exit 0))) (.seq (.block 1 (.dreg [[],[],[1],[2,1],[0,3,2,1],[4,0,3,2,1]] [⟨some 16,none,.load true 1 (.t 3)⟩,⟨some 17,none,.load true 1 (.t 3)⟩,⟨some 18,none,.call 204 [(.t 17)]⟩,⟨(some 19),none,(.call 226 [(.t 18),(.c (.str ⟨#[88]⟩))])⟩,⟨some 20,none,.call 206 [(.t 16),(.t 19)]⟩,⟨none,none,(.store 1 (.t 3) (.t 20))⟩])) (.reg [⟨some 14,none,.mv (.t 4)⟩,⟨some 15,none,.bin .add false (.t 14) (.c (.int .i64 1))⟩,⟨some 4,none,.mv (.t 15)⟩])))))) (.seq (.reg [⟨some 21,none,.load true 1 (.t 3)⟩,⟨none,none,(.store 1 (.t 2) (.t 21))⟩]) .ret))))
theorem Pv:codeOf Tryz.prog 163=some ⟨22,Jw,[(.cell 2 true 1)]⟩:=by kernel_rfl
theorem FQ:modes 163=⟨[],.own [some (122,3)],none,false⟩:=by unfold modes; rfl
theorem Yl (c:Cl) (hc:c.ok=true):E 163 [c.sv] []=some ((nz 10 c).osv,(nz 10 c).obs):=by
 have hl:=Cl.Dx hc
 have h1:=Wn c (by omega) (fun x hx=>by have:=Tm.Cm (Cl.Ci hc x hx); omega)
 have hcs:∀ d:Cl,Cl.osv d=.agg [.ref 0]:=fun d=>rfl
 have hob:∀ d:Cl,Cl.obs d=[.row 122 3 (d.lits.map Lt.o)]:=fun d=>rfl
 have hsv:∀ d:Cl,d.sv=.agg [.arr (d.lits.map Lt.d)]:=fun d=>rfl
 rw [hcs,hob] at h1
 rw [hcs,hob]
 refine Af Pv FQ (of_decide_eq_true rfl) ?_
 simp (disch:=omega) only [Jw,go_sem,Ab,h1,It]
 refine go_loop (α:=Int × Cl) (fun a=>⟨slots 22 0 [(2,.ptr 0 0),(3,.ptr 1 0),(4,.int .i64 a.1)],[.box 60 [.nil],.box 60 [.ref 2],.row 122 3 (a.2.lits.map Lt.o)]⟩) (fun a=>∃ k:Nat,a.1=k∧k≤10∧a.2.ok=true∧nz (10-k) a.2=nz 10 c) (fun a=>10-a.1.toNat) (0,c) ⟨0,rfl,zH _,hc,rfl⟩ (by simp (disch:=omega) only [go_sem,Ab]) ?_
 rintro ⟨i,d⟩ ⟨k,hi,hk,hd,hR⟩
 dsimp only at hi hd hR
 have n1:=SG d hd
 have n2:=Uo d hd
 have n3:=ZC d.ns (by have:=Cl.Sn hd; omega) ⟨#[88]⟩ (by decide +kernel)
 have n4:=Q3 d hd (Ht ⟨#[88]⟩ d.ns) (Cl.xE hd)
 rw [show BA [] (Lt.vsL d.lits)=d.ns from rfl] at n2
 rw [hcs,hob] at n4
 rw [hsv] at n1 n2 n4
 have her:=Lt.erss d.lits
 rcases zB k 10 with hlt | hge
 ·obtain ⟨m,hm⟩:∃ m,10-k=m+1:=⟨9-k,by omega⟩
  rw [hm,nz] at hR
  cases hn:d.norm with
  | true =>
   rw [hn,cond_true] at hR
   rw [hn] at n1
   rw [←hR]
   simp (disch:=omega) only [go_sem,Ab,n1,n2,n3,n4,her,Lt.noss,Lt.fus,Dg,Ed,EC,CV]
  | false =>
   rw [hn,cond_false] at hR
   rw [hn] at n1
   simp (disch:=omega) only [go_sem,Ab,n1,n2,n3,n4,her,Lt.noss,Lt.fus,Dg,Ed,EC,CV]
   refine ⟨(i+1,d.rn (Ht Te d.ns)),⟨k+1,by dsimp only; omega,by omega,Cl.QcP (Cl.xE hd) hd,by rw [show 10-(k+1)=m by omega]; exact hR⟩,by dsimp only; omega,?_⟩
   first | trivial | rfl
 ·obtain rfl:k=10:=by omega
  have hR:d=nz 10 c:=hR
  rw [←hR]
  simp (disch:=omega) only [go_sem,Ab,n1,n2,n3,n4,her,Lt.noss,Lt.fus,Dg,Ed,EC,CV]
noncomputable def Lt.ds (l:List Lt):List (List OT):=l.map fun b=>b.d.map D.ot
theorem Lt.Qe5 (l:List Lt):OT.erss (Lt.ds l)=l.map Lt.d:=Lt.der l
theorem Lt.Qe6 (l:List Lt):OT.AO (Lt.ds l)=true:=Lt.dfu l
theorem Lt.Qds (a b:List Lt):Lt.ds a++Lt.ds b=Lt.ds (a++b):=by unfold Lt.ds; rw [zQ]
theorem Lt.Wo (a:List Lt):(Lt.ds a).length=a.length:=by unfold Lt.ds; rw [zJ]
theorem Lt.ZD (a:List Lt):((Lt.ds a).all fun l=>l.length == 3)=true:=by
 unfold Lt.ds
 rw [zZ]
 intro e he
 obtain ⟨b,_,rfl⟩:=yU.1 he
 rfl
theorem Lt.Qfe (a:List Lt):((a.map Lt.d).map fun x=>x.map D.ot)=Lt.ds a:=by unfold Lt.ds; rw [zX]; rfl
theorem AZ:modes 213=⟨[true],.asis,some PP,false⟩:=by unfold modes; rfl
theorem Qdt:E 213 [.nil,.int .i64 0] []=some (.nil,[]):=by
 rw [FH (g:=PP) (congrArg FM.ext AZ)]
 unfold PP
 simp only
 rw [An trivial,cond_true]
theorem Qdu (n:Int) (h:0<n) (h1:n≤1048576):E 213 [.nil,.int .i64 n] []=some (.ref 0,[.row 122 3 []]):=by
 rw [FH (g:=PP) (congrArg FM.ext AZ)]
 unfold PP
 simp only
 rw [Aj (by omega),cond_false,An ⟨h,h1⟩,cond_true]
def Ce:SC:=(.seq (.reg [⟨some 2,none,.mv (.c .nil)⟩]) (.seq (.reg [⟨some 3,none,.mv (.c (.int .i64 0))⟩]) (.seq (.seq (.reg [⟨some 9,none,.mv (.t 0)⟩,⟨some 10,none,.len false (.t 9)⟩,⟨some 11,none,.mv (.c (.int .i64 0))⟩]) (.block 0 (.loop [1,0,0,1,0,0,0,0,0,1,1,1,0,0,0,0,0,0,0,0,0,0,0,0,0,0,0,0,0,0,0,0,0,0,0,0] (.seq (.reg [⟨some 12,none,.bin .lss false (.t 11) (.t 10)⟩]) (.seq (.cond (.t 12) .skip (.exit 0)) (.seq (.block 1 (.seq (.reg [⟨some 13,none,.iaddr 1 (.t 9) (.t 11)⟩,⟨some 14,none,.load false 1 (.t 13)⟩,⟨some 5,none,.mv (.t 14)⟩]) (.seq (.reg [⟨some 15,none,.mv (.t 3)⟩,⟨some 16,none,.mv (.t 5)⟩,⟨some 17,none,.len false (.t 16)⟩,⟨some 18,none,.bin .add false (.t 15) (.t 17)⟩,⟨some 3,none,.mv (.t 18)⟩]) (.seq (.reg [⟨some 19,none,.mv (.t 3)⟩,⟨some 20,none,.bin .lss false (.t 19) (.c (.int .i64 0))⟩]) (.cond (.t 20) (.reg [⟨some 21,none,.un .neg (.c .nil)⟩,⟨none,none,(.un .neg (.c .nil))⟩]) .skip))))) (.reg [⟨some 22,none,.bin .add false (.t 11) (.c (.int .i64 1))⟩,⟨some 11,none,.mv (.t 22)⟩]))))))) (.seq (.reg [⟨some 23,none,.mv (.t 3)⟩,⟨some 24,none,.call 213 [(.c .nil),(.t 23)]⟩,⟨some 6,none,.mv (.t 24)⟩]) (.seq (.seq (.reg [⟨some 25,none,.mv (.t 0)⟩,⟨some 26,none,.len false (.t 25)⟩,⟨some 27,none,.mv (.c (.int .i64 0))⟩]) (.block 2 (.loop [0,0,0,0,0,0,1,0,0,0,0,0,0,0,0,0,0,0,0,0,0,0,0,0,0,1,1,1,0,0,0,0,0,0,0,0] (.seq (.reg [⟨some 28,none,.bin .lss false (.t 27) (.t 26)⟩]) (.seq (.cond (.t 28) .skip (.exit 2)) (.seq (.block 3 (.seq (.reg [⟨some 29,none,.iaddr 1 (.t 25) (.t 27)⟩,⟨some 30,none,.load false 1 (.t 29)⟩,⟨some 8,none,.mv (.t 30)⟩]) (.reg [⟨some 31,none,.mv (.t 6)⟩,⟨some 32,none,.mv (.t 8)⟩,⟨(some 33),none,(.append 122 3 48 [(.bool false),(.str ⟨#[]⟩),.nil] (.t 31) (.t 32))⟩,⟨some 6,none,.mv (.t 33)⟩]))) (.reg [⟨some 34,none,.bin .add false (.t 27) (.c (.int .i64 1))⟩,⟨some 27,none,.mv (.t 34)⟩]))))))) (.seq (.reg [⟨some 35,none,.mv (.t 6)⟩,⟨some 2,none,.mv (.t 35)⟩]) .ret))))))
theorem DB:codeOf Tryz.prog 153=some ⟨36,Ce,[(.tmp 2)]⟩:=by kernel_rfl
theorem B0:modes 153=⟨[],.own [some (122,3)],none,false⟩:=by unfold modes; rfl
theorem Qdv (xs:List (List Lt)) (hx:xs.length≤1024) (hs:xs.flatten.length≤1048576):E 153 [.arr (xs.map fun l=>[D.arr (l.map Lt.d)])] []=some (.ref 0,[.row 122 3 (Lt.ds xs.flatten)]):=by
 have hd0:Lt.ds []=[]:=rfl
 refine Af DB B0 (of_decide_eq_true rfl) ?_
 simp (disch:=omega) only [Ce,go_sem,Ab]
 refine go_loop (α:=Int × (Int)) (fun a=>⟨slots 36 0 [(0,.arr (xs.map fun l=>[D.arr (l.map Lt.d)])),(3,.int .i64 (a.2)),(9,.arr (xs.map fun l=>[D.arr (l.map Lt.d)])),(10,.int .i64 xs.length),(11,.int .i64 (a.1))],[]⟩) (fun a=>∃ k:Nat,a.1=k∧k≤(xs).length∧(a.2)+((xs.drop k).flatten.length:Int)=xs.flatten.length∧0≤(a.2)) (fun a=>(xs).length-(a.1).toNat) (0,0) ⟨0,rfl,zH _,by rw [zI]; dsimp only; omega,Int.le_refl _⟩ (by simp (disch:=omega) only [go_sem,Ab]) ?_
 rintro ⟨i,n⟩ ⟨k,hi,hk,hR⟩
 dsimp only at hi hR
 have hni:i.toNat=k:=by omega
 have hni1:(i+1).toNat=k+1:=by omega
 rcases zB k (xs).length with hlt | hge
 ·have hg:=get_at (fun l:List Lt=>[D.arr (l.map Lt.d)]) hlt
  rw [zC hlt,List.flatten_cons,zG] at hR
  obtain ⟨hR1,hR2⟩:=hR
  have hge:dec (n+(xs[k].length:Int)<0)=false:=Aj (by omega)
  simp (disch:=omega) only [go_sem,Ab,hni,hg,hge]
  refine ⟨(i+1,n+xs[k].length),⟨k+1,by dsimp only; omega,hlt,by dsimp only; omega,by dsimp only; omega⟩,by dsimp only; omega,?_⟩
  first | trivial | rfl
 ·rw [zE hge] at hR
  obtain ⟨hR1,hR2⟩:=hR
  have hn:n=xs.flatten.length:=by simpa using hR1
  clear hR1 hR2
  rcases zK xs.flatten.length with hz | hz
  ·have hxe:∀ l∈xs,l=[]:=by
    have:=zM hz
    rwa [List.flatten_eq_nil_iff] at this
   have hfe:xs.flatten=[]:=zM hz
   obtain rfl:n=0:=by omega
   have hgr:=Qdt
   rw [hfe]
   simp (disch:=omega) only [go_sem,Ab,hni,hgr,AZ]
   clear hi hni hni1 hk hge
   refine go_loop (α:=Int) (fun a=>⟨slots 36 0 [(6,(if a=0 then .nil else .ref 0)),(25,.arr (xs.map fun l=>[D.arr (l.map Lt.d)])),(26,.int .i64 xs.length),(27,.int .i64 a)],(if a=0 then [] else [.row 122 3 []])⟩) (fun a=>∃ k:Nat,a=k∧k≤(xs).length) (fun a=>(xs).length-(a).toNat) 0 ⟨0,rfl,zH _⟩ (by simp (disch:=omega) only [go_sem,Ab,eq_self,if_true]) ?_
   rintro i ⟨k,hi,hk⟩
   have hni:i.toNat=k:=by omega
   have hni1:(i+1).toNat=k+1:=by omega
   rcases zB k (xs).length with hlt | hge
   ·have hg:=get_at (fun l:List Lt=>[D.arr (l.map Lt.d)]) hlt
    rw [hxe _ (zD hlt)] at hg
    rcases zK k with h0 | h0
    ·subst h0
     obtain rfl:i=0:=hi
     simp (disch:=omega) only [go_sem,Ab,hg,eq_self,if_true]
     exact ⟨1,⟨1,rfl,hlt⟩,by omega,by first | trivial | rfl⟩
    ·have hi0:(i=0)=False:=by simp; omega
     have hi1:(i+1=0)=False:=by simp; omega
     simp (disch:=omega) only [go_sem,Ab,hni,hg,hi0,if_false]
     exact ⟨i+1,⟨k+1,by omega,hlt⟩,by omega,by simp only [hi1,if_false,and_self]⟩
   ·rcases zK k with h0 | h0
    ·subst h0
     obtain rfl:i=0:=hi
     simp (disch:=omega) only [go_sem,Ab,eq_self,if_true,hd0]
    ·have hi0:(i=0)=False:=by simp; omega
     simp (disch:=omega) only [go_sem,Ab,hni,hi0,if_false,hd0]
  ·have hgr:=Qdu n (by omega) (by omega)
   simp (disch:=omega) only [go_sem,Ab,hni,hgr,AZ]
   clear hi hni hni1 hk hge
   refine go_loop (α:=Int × (List Lt)) (fun a=>⟨slots 36 0 [(6,.ref 0),(25,.arr (xs.map fun l=>[D.arr (l.map Lt.d)])),(26,.int .i64 xs.length),(27,.int .i64 (a.1))],[.row 122 3 (Lt.ds (a.2))]⟩) (fun a=>∃ k:Nat,a.1=k∧k≤(xs).length∧(a.2)++(xs.drop k).flatten=xs.flatten) (fun a=>(xs).length-(a.1).toNat) (0,[]) ⟨0,rfl,zH _,by rw [zI]; rfl⟩ (by simp (disch:=omega) only [go_sem,Ab,hd0]) ?_
   rintro ⟨i,acc⟩ ⟨k,hi,hk,hR⟩
   dsimp only at hi hR
   have hni:i.toNat=k:=by omega
   have hni1:(i+1).toNat=k+1:=by omega
   rcases zB k (xs).length with hlt | hge
   ·have hg:=get_at (fun l:List Lt=>[D.arr (l.map Lt.d)]) hlt
    rw [zC hlt,List.flatten_cons,← zR] at hR
    have hlen:=congrArg yP hR
    rw [zG,zG] at hlen
    have hap:Lt.ds acc++Lt.ds xs[k]=Lt.ds (acc++xs[k]):=Lt.Qds _ _
    have h1:=Lt.Qfe xs[k]
    have h2:=Lt.Wo xs[k]
    have h3:=Lt.Wo acc
    have h4:=Lt.ZD xs[k]
    simp (disch:=omega) only [go_sem,Ab,hni,hg,hap,h1,h2,h3,h4]
    refine ⟨(i+1,acc++xs[k]),⟨k+1,by dsimp only; omega,hlt,hR⟩,by dsimp only; omega,?_⟩
    first | trivial | rfl | simp only [hap]
   ·rw [zE hge] at hR
    have hR:acc=xs.flatten:=by simpa using hR
    rw [←hR]
    simp (disch:=omega) only [go_sem,Ab,hni]
theorem Qdw {l:List Cl} {c:Cl} (h:(c.taut || dec (c∈l))=true):Nk l c=l:=by
 unfold Nk
 cases ht:c.taut with
 | true=>rfl
 | false=>rw [ht,zS] at h; rw [cond_false,S9 h]
theorem Qdx {l:List Cl} {c:Cl} (h:(c.taut || dec (c∈l))=false):Nk l c=l++[c]:=by
 unfold Nk
 cases ht:c.taut with
 | true=>rw [ht] at h; cases h
 | false=>rw [ht,zS] at h; rw [cond_false,VY h]
theorem Cl.Qf6 (xs:List Cl):((xs.map Cl.os).all fun l=>l.length == 1)=true:=by rw [List.all_map,zZ]; intro x _; rfl
theorem Cl.Qe7 (a:List Cl):((a.map Cl.d).map fun x=>x.map D.ot)=a.map Cl.os:=by rw [zX]; rfl
def Kt:SC:=(.seq (.reg [⟨some 2,none,.mv (.c .nil)⟩]) (.seq (.reg [⟨some 7,none,.mkrow 60 1 [.nil] 0 []⟩,⟨some 3,none,.mv (.t 7)⟩]) (.seq (.seq (.reg [⟨some 4,none,.mv (.c (.int .i64 0))⟩]) (.block 0 (.loop [1,0,0,1,1,0,0,0,0,0,0,0,0,0,0,0,0,0,0,0,0,0,0,0,0,0,0,0,0,0,0,0,0,0,0,0,0,0,0,0,0,0,0,0,0,0,0] (.seq (.seq (.reg [⟨some 8,none,.mv (.t 4)⟩,⟨some 9,none,.mv (.t 0)⟩,⟨some 10,none,.len false (.t 9)⟩,⟨some 11,none,.bin .lss false (.t 8) (.t 10)⟩]) (.cond (.t 11) .skip (.exit 0))) (.seq (.block 1 (.seq (.reg [⟨some 14,none,.mv (.t 0)⟩,⟨some 15,none,.mv (.t 4)⟩,⟨some 16,none,.iaddr 1 (.t 14) (.t 15)⟩,⟨some 17,none,.load true 1 (.t 16)⟩,⟨some 18,none,.call 285 [(.t 17)]⟩,⟨some 5,none,.mv (.t 18)⟩]) (.seq (.seq (.reg [⟨some 6,none,.mv (.c (.int .i64 0))⟩]) (.block 2 (.loop [1,0,0,1,1,1,1,0,0,0,0,0,0,0,0,0,0,0,0,0,0,0,0,0,0,0,0,0,0,0,0,0,0,0,0,0,0,0,0,0,0,0,0,0,0,0,0] (.seq (.seq (.reg [⟨some 19,none,.mv (.t 6)⟩,⟨some 20,none,.mv (.t 3)⟩,⟨some 21,none,.len false (.t 20)⟩,⟨some 22,none,.bin .lss false (.t 19) (.t 21)⟩]) (.cond (.t 22) .skip (.exit 2))) (.seq (.block 3 (.dreg [[],[0],[1,0],[1,0],[2,1,0,3],[4,2,1,0,3],[1,0],[1,0],[6,1,0,7],[8,6,1,0,7],[5,4,2,1,0,3,9,8,6,7],[1,0,10,5,4,2,3,9,8,6,7],[11,1,0,10,5,4,2,3,9,8,6,7]] [⟨some 25,none,.mv (.t 5)⟩,⟨some 26,none,.mv (.t 25)⟩,⟨(some 27),(some (26,false)),(.mv (.t 3))⟩,⟨(some 28),(some (26,false)),(.mv (.t 6))⟩,⟨(some 29),(some (26,false)),(.iaddr 1 (.t 27) (.t 28))⟩,⟨(some 30),(some (26,false)),(.load true 1 (.t 29))⟩,⟨(some 31),(some (26,false)),(.mv (.t 0))⟩,⟨(some 32),(some (26,false)),(.mv (.t 4))⟩,⟨(some 33),(some (26,false)),(.iaddr 1 (.t 31) (.t 32))⟩,⟨(some 34),(some (26,false)),(.load true 1 (.t 33))⟩,⟨(some 35),(some (26,false)),(.call 167 [(.t 30),(.t 34)])⟩,⟨some 36,none,.pick (.t 26) (.c (.bool true)) (.t 35)⟩,⟨some 5,none,.mv (.t 36)⟩])) (.reg [⟨some 23,none,.mv (.t 6)⟩,⟨some 24,none,.bin .add false (.t 23) (.c (.int .i64 1))⟩,⟨some 6,none,.mv (.t 24)⟩])))))) (.seq (.reg [⟨some 37,none,.mv (.t 5)⟩,⟨some 38,none,.un .not (.t 37)⟩]) (.cond (.t 38) (.reg [⟨some 39,none,.mv (.t 3)⟩,⟨some 40,none,.mv (.t 0)⟩,⟨some 41,none,.mv (.t 4)⟩,⟨some 42,none,.iaddr 1 (.t 40) (.t 41)⟩,⟨some 43,none,.load true 1 (.t 42)⟩,⟨some 44,none,.mkrow 60 1 [.nil] 1 [(0,(.t 43))]⟩,⟨some 45,none,.append 60 1 24 [.nil] (.t 39) (.t 44)⟩,⟨some 3,none,.mv (.t 45)⟩]) .skip))))) (.reg [⟨some 12,none,.mv (.t 4)⟩,⟨some 13,none,.bin .add false (.t 12) (.c (.int .i64 1))⟩,⟨some 4,none,.mv (.t 13)⟩])))))) (.seq (.reg [⟨some 46,none,.mv (.t 3)⟩,⟨some 2,none,.mv (.t 46)⟩]) .ret))))
theorem Q4:codeOf Tryz.prog 220=some ⟨47,Kt,[(.tmp 2)]⟩:=by kernel_rfl
theorem Be:modes 220=⟨[],.frz,none,false⟩:=by unfold modes; rfl
theorem FR (cs:List Cl) (hl:cs.length≤1048576) (hx:∀ x∈cs,x.ok=true):E 220 [.arr (cs.map Cl.d)] []=some (.arr ((Dp [] cs).map Cl.d),[]):=by
 have hd0:([]:List Cl).map Cl.os=[]:=rfl
 refine Af Q4 Be (of_decide_eq_true rfl) ?_
 simp (disch:=omega) only [Kt,go_sem,Ab]
 refine go_loop (α:=Int × (List Cl)) (fun a=>⟨slots 47 0 [(0,.arr (cs.map Cl.d)),(3,.ref 0),(4,.int .i64 (a.1))],[.row 60 1 ((a.2).map Cl.os)]⟩) (fun a=>∃ k:Nat,a.1=k∧k≤(cs).length∧Dp (a.2) (cs.drop k)=Dp [] cs∧(a.2).length≤k∧∀ x∈(a.2),x.ok=true) (fun a=>(cs).length-(a.1).toNat) (0,[]) ⟨0,rfl,zH _,by rw [zI],zT _,fun x hx=>by simp at hx⟩ (by simp (disch:=omega) only [go_sem,Ab,hd0]) ?_
 rintro ⟨i,acc⟩ ⟨k,hi,hk,hR⟩
 dsimp only at hi hR
 have hni:i.toNat=k:=by omega
 have hni1:(i+1).toNat=k+1:=by omega
 rcases zB k (cs).length with hlt | hge
 ·obtain ⟨hR1,hR2,hR3⟩:=hR
  rw [zC hlt] at hR1
  have hg0:=get_at Cl.d hlt
  rw [Cl.d_eq] at hg0
  have hcm:=hx _ (zD hlt)
  obtain ⟨c,hc⟩:∃ c,c=cs[k]:=⟨_,rfl⟩
  rw [←hc] at hR1 hg0 hcm
  have hstep:Dp (Nk acc c) (cs.drop (k+1))=Dp [] cs:=hR1
  have e2:c.sv=.agg [.arr (c.lits.map Lt.d)]:=rfl
  have h1:=Qdp c hcm
  rw [e2] at h1
  obtain ⟨tc,htc⟩:∃ tc,tc=c.taut:=⟨_,rfl⟩
  rw [←htc] at h1
  have hio:=hi
  have hni0:=hni
  have hni10:=hni1
  generalize i=io at *
  simp (disch:=omega) only [go_sem,Ab,hni0,hg0,h1,M9]
  refine go_loop (α:=Int × (Bool)) (fun a=>⟨slots 47 0 [(0,.arr (cs.map Cl.d)),(3,.ref 0),(4,.int .i64 io),(5,.bool (a.2)),(6,.int .i64 (a.1))],[.row 60 1 (acc.map Cl.os)]⟩) (fun a=>∃ k:Nat,a.1=k∧k≤(acc).length∧(a.2)=(tc || dec (c∈acc.take k))) (fun a=>(acc).length-(a.1).toNat) (0,tc) ⟨0,rfl,zH _,by rw [yG,Aj (by simp),yJ]⟩ (by simp (disch:=omega) only [go_sem,Ab]) ?_
  rintro ⟨i,fd⟩ ⟨k,hi,hk,hR⟩
  dsimp only at hi hR
  have hni:i.toNat=k:=by omega
  have hni1:(i+1).toNat=k+1:=by omega
  rcases zB k (acc).length with hlt | hge
  ·have hg:=get_at Cl.os hlt
   rw [Cl.os_eq] at hg
   have hcs:=XS acc[k] c (H0 (hR3 _ (zD hlt))) (H0 hcm)
   have e1:acc[k].sv=.agg [.arr (acc[k].lits.map Lt.d)]:=rfl
   rw [e1,e2] at hcs
   have ht:=XT c hlt
   cases fd with
   | true =>
    simp (disch:=omega) only [go_sem,Ab,hni0,hni,hg,hg0,hcs,DG]
    exact ⟨(i+1,true),⟨k+1,by dsimp only; omega,hlt,by rw [ht,← Bool.or_assoc,← hR]; rfl⟩,by dsimp only; omega,by first | trivial | rfl⟩
   | false =>
    obtain ⟨b,hb⟩:∃ b,b=dec (acc[k]=c):=⟨_,rfl⟩
    rw [←hb] at hcs ht
    simp (disch:=omega) only [go_sem,Ab,hni0,hni,hg,hg0,hcs,DG]
    exact ⟨(i+1,b),⟨k+1,by dsimp only; omega,hlt,by rw [ht,← Bool.or_assoc,← hR]; rfl⟩,by dsimp only; omega,by first | trivial | rfl⟩
  ·rw [yD hge,htc] at hR
   cases fd with
   | true =>
    rw [Qdw hR.symm] at hstep
    simp (disch:=omega) only [go_sem,Ab,hni0,hni,hg0]
    exact ⟨(io+1,acc),⟨_,by dsimp only; omega,by assumption,hstep,by dsimp only; omega,hR3⟩,by dsimp only; omega,by first | trivial | rfl⟩
   | false =>
    rw [Qdx hR.symm] at hstep
    have hap:acc.map Cl.os++[[OT.sh (c.lits.map Lt.d)]]=(acc++[c]).map Cl.os:=by rw [zQ]; rfl
    simp (disch:=omega) only [go_sem,Ab,hni0,hni,hg0,hap]
    refine ⟨(io+1,acc++[c]),⟨_,by dsimp only; omega,by assumption,hstep,by simp only [zG,zW,zL]; omega,fun x hx=>?_⟩,by dsimp only; omega,by first | trivial | rfl⟩
    rcases yL.1 hx with h | h
    ·exact hR3 x h
    ·rw [z7.1 h]; exact hcm
 ·obtain ⟨hR1,hR2,hR3⟩:=hR
  rw [zE hge] at hR1
  have hR1:acc=Dp [] cs:=hR1
  have her:=Cl.Lp acc
  have hfu:=Cl.Fp acc
  rw [←hR1]
  simp (disch:=omega) only [go_sem,Ab,hni,her,hfu]
def Jx:SC:=(.seq (.reg [⟨some 4,none,.mv (.c .nil)⟩,⟨some 5,none,.mv (.c (.bool false))⟩]) (.seq (.reg [⟨some 10,none,.mkrow 60 1 [.nil] 0 []⟩,⟨some 6,none,.mv (.t 10)⟩]) (.seq (.seq (.reg [⟨some 7,none,.mv (.c (.int .i64 0))⟩]) (.block 0 (.loop [1,1,0,0,0,0,1,1,0,0,0,0,0,0,0,0,0,0,0,0,0,0,0,0,0,0,0,0,0,0,0,0,0,0,0,0,0,0,0,0,0,0,0,0,0,0] (.seq (.seq (.reg [⟨some 11,none,.mv (.t 7)⟩,⟨some 12,none,.mv (.t 0)⟩,⟨some 13,none,.len false (.t 12)⟩,⟨some 14,none,.bin .lss false (.t 11) (.t 13)⟩]) (.cond (.t 14) .skip (.exit 0))) (.seq (.block 1 (.seq (.reg [⟨some 8,none,.mv (.c (.int .i64 0))⟩]) (.block 2 (.loop [1,1,0,0,0,0,1,1,1,0,0,0,0,0,0,0,0,0,0,0,0,0,0,0,0,0,0,0,0,0,0,0,0,0,0,0,0,0,0,0,0,0,0,0,0,0] (.seq (.seq (.reg [⟨some 17,none,.mv (.t 8)⟩,⟨some 18,none,.mv (.t 1)⟩,⟨some 19,none,.len false (.t 18)⟩,⟨some 20,none,.bin .lss false (.t 17) (.t 19)⟩]) (.cond (.t 20) .skip (.exit 2))) (.seq (.block 3 (.seq (.dreg [[],[],[],[1,2],[3,1,2],[4,3,1,2],[0,5,4,3,1,2],[],[],[7,8],[9,7,8],[10,9,7,8],[6,0,5,4,3,1,2,11,10,9,7,8],[12,6,0,5,4,3,1,2,11,10,9,7,8],[],[14,13,12,6,0,5,4,3,1,2,11,10,9,7,8]] [⟨(some 23),none,(.mkrow 122 3 [(.bool false),(.str ⟨#[]⟩),.nil] 0 [])⟩,⟨some 24,none,.mv (.t 0)⟩,⟨some 25,none,.mv (.t 7)⟩,⟨some 26,none,.iaddr 1 (.t 24) (.t 25)⟩,⟨some 27,none,.faddr 0 (.t 26)⟩,⟨some 28,none,.load false 1 (.t 27)⟩,⟨(some 29),none,(.append 122 3 48 [(.bool false),(.str ⟨#[]⟩),.nil] (.t 23) (.t 28))⟩,⟨some 30,none,.mv (.t 1)⟩,⟨some 31,none,.mv (.t 8)⟩,⟨some 32,none,.iaddr 1 (.t 30) (.t 31)⟩,⟨some 33,none,.faddr 0 (.t 32)⟩,⟨some 34,none,.load false 1 (.t 33)⟩,⟨(some 35),none,(.append 122 3 48 [(.bool false),(.str ⟨#[]⟩),.nil] (.t 29) (.t 34))⟩,⟨some 36,none,.call 218 [(.t 35)]⟩,⟨some 9,none,.alloc 60 [.nil]⟩,⟨none,none,(.store 1 (.t 9) (.t 36))⟩]) (.seq (.seq (.reg [⟨some 37,none,.load true 1 (.t 9)⟩,⟨some 38,none,.call 143 [(.t 37)]⟩,⟨some 39,none,.un .not (.t 38)⟩]) (.cond (.t 39) (.seq (.reg [⟨some 40,none,.mv (.t 6)⟩,⟨some 4,none,.mv (.t 40)⟩,⟨some 5,none,.mv (.c (.bool false))⟩]) .ret) .skip)) (.reg [⟨some 41,none,.mv (.t 6)⟩,⟨some 42,none,.load true 1 (.t 9)⟩,⟨some 43,none,.mkrow 60 1 [.nil] 1 [(0,(.t 42))]⟩,⟨some 44,none,.append 60 1 24 [.nil] (.t 41) (.t 43)⟩,⟨some 6,none,.mv (.t 44)⟩])))) (.reg [⟨some 21,none,.mv (.t 8)⟩,⟨some 22,none,.bin .add false (.t 21) (.c (.int .i64 1))⟩,⟨some 8,none,.mv (.t 22)⟩]))))))) (.reg [⟨some 15,none,.mv (.t 7)⟩,⟨some 16,none,.bin .add false (.t 15) (.c (.int .i64 1))⟩,⟨some 7,none,.mv (.t 16)⟩])))))) (.seq (.reg [⟨some 45,none,.mv (.t 6)⟩,⟨some 4,none,.mv (.t 45)⟩,⟨some 5,none,.mv (.c (.bool true))⟩]) .ret))))
theorem Pw:codeOf Tryz.prog 219=some ⟨46,Jx,[(.tmp 4),(.tmp 5)]⟩:=by kernel_rfl
theorem AU:modes 219=⟨[],.frz,none,false⟩:=by unfold modes; rfl
theorem Ym (la lb:List Cl) (k1:la.length≤30) (k2:lb.length≤30) (ka:∀ c∈la,c.ok=true) (kb:∀ c∈lb,c.ok=true):E 219 [.arr (la.map Cl.d),.arr (lb.map Cl.d)] []=some (.tup [.arr ((H9 lb la []).1.map Cl.d),.bool (H9 lb la []).2],[]):=by
 have hd0:([]:List Cl).map Cl.os=[]:=rfl
 have hsv:∀ d:Cl,d.sv=.agg [.arr (d.lits.map Lt.d)]:=fun d=>rfl
 obtain ⟨t,ht⟩:∃ t,t=H9 lb la []:=⟨_,rfl⟩
 rw [←ht]
 refine Af Pw AU (of_decide_eq_true rfl) ?_
 simp (disch:=omega) only [Jx,go_sem,Ab]
 refine go_loop (α:=Int × (List Cl)) (fun a=>⟨slots 46 0 [(0,.arr (la.map Cl.d)),(1,.arr (lb.map Cl.d)),(6,.ref 0),(7,.int .i64 (a.1))],[.row 60 1 ((a.2).map Cl.os)]⟩) (fun a=>∃ k:Nat,a.1=k∧k≤(la).length∧H9 lb (la.drop k) (a.2)=t∧(a.2).length≤30*k) (fun a=>(la).length-(a.1).toNat) (0,[]) ⟨0,rfl,zH _,by rw [zI,ht],zT _⟩ (by simp (disch:=omega) only [go_sem,Ab,hd0]) ?_
 rintro ⟨i,acc⟩ ⟨k,hi,hk,hR⟩
 dsimp only at hi hR
 have hni:i.toNat=k:=by omega
 have hni1:(i+1).toNat=k+1:=by omega
 rcases zB k (la).length with hlt | hge
 ·obtain ⟨hR1,hR2⟩:=hR
  rw [zC hlt,H9] at hR1
  have hg:=get_at Cl.d hlt
  rw [Cl.d_eq] at hg
  have hco:=ka _ (zD hlt)
  obtain ⟨c,hc⟩:∃ c,c=la[k]:=⟨_,rfl⟩
  rw [←hc] at hg hco hR1
  have hcl:=Cl.Dx hco
  have hio:=hi
  have hni0:=hni
  have hni10:=hni1
  have hlt0:=hlt
  obtain ⟨rest,hrest⟩:∃ rest,rest=la.drop (k+1):=⟨_,rfl⟩
  rw [←hrest] at hR1
  obtain ⟨acc0,hacc0⟩:∃ acc0,acc0=acc:=⟨_,rfl⟩
  rw [←hacc0] at hR1 hR2 ⊢
  clear hc hacc0
  generalize i=io at *
  simp (disch:=omega) only [go_sem,Ab,hni0,hg]
  refine go_loop (α:=Int × (List Cl)) (fun a=>⟨slots 46 0 [(0,.arr (la.map Cl.d)),(1,.arr (lb.map Cl.d)),(6,.ref 0),(7,.int .i64 io),(8,.int .i64 (a.1))],[.row 60 1 ((a.2).map Cl.os)]⟩) (fun a=>∃ k:Nat,a.1=k∧k≤(lb).length∧Jt c (lb.drop k) (a.2)=Jt c lb acc0∧(a.2).length≤acc0.length+k) (fun a=>(lb).length-(a.1).toNat) (0,acc0) ⟨0,rfl,zH _,by rw [zI],zT _⟩ (by simp (disch:=omega) only [go_sem,Ab]) ?_
  rintro ⟨i,acc⟩ ⟨k,hi,hk,hR⟩
  dsimp only at hi hR
  have hni:i.toNat=k:=by omega
  have hni1:(i+1).toNat=k+1:=by omega
  rcases zB k (lb).length with hlt | hge
  ·obtain ⟨hQ1,hQ2⟩:=hR
   rw [zC hlt,Jt] at hQ1
   have hg2:=get_at Cl.d hlt
   rw [Cl.d_eq] at hg2
   have hmo:=kb _ (zD hlt)
   have hml:=Cl.Dx hmo
   have hll:(c.lits++lb[k].lits).length≤16:=by rw [zG]; omega
   have hfine:∀ z∈c.lits++lb[k].lits,z.fine:=fun z hz=>by
    rcases yL.1 hz with h | h
    ·exact Dk (Cl.Ci hco z h)
    ·exact Dk (Cl.Ci hmo z h)
   have h5:=KX (c.lits++lb[k].lits) (by omega) hfine
   have h6:=Xx (GK c lb[k]) (QcB (by omega) hfine)
   rw [Wh hco hmo] at h6
   obtain ⟨u,hu⟩:∃ u,u=GK c lb[k]:=⟨_,rfl⟩
   have hu2:mkC (c.lits++lb[k].lits)=u:=hu.symm
   rw [hu2,hsv] at h5
   rw [←hu,hsv] at h6
   rw [←hu] at hQ1
   have a1:=Lt.Qfe c.lits
   have a2:=Lt.Qfe lb[k].lits
   have a3:=Lt.Qds c.lits lb[k].lits
   have a4:=Lt.Wo c.lits
   have a5:=Lt.Wo lb[k].lits
   have a6:=Lt.ZD c.lits
   have a7:=Lt.ZD lb[k].lits
   have a8:=Lt.Qe5 (c.lits++lb[k].lits)
   have a9:=Lt.Qe6 (c.lits++lb[k].lits)
   have a10:([]:List (List OT))++Lt.ds c.lits=Lt.ds c.lits:=yA _
   cases hb:JQ c lb[k] with
   | false =>
    rw [hb] at h6
    rw [hb,cond_false] at hQ1
    rw [←hQ1,cond_false] at hR1
    rw [←hR1]
    have her:=Cl.Lp acc
    have hfu:=Cl.Fp acc
    cases hno:OT.BD (Lt.ds (c.lits++lb[k].lits)) with
    | true =>
     simp (disch:=omega) only [go_sem,Ab,hni0,hni,hg,hg2,h5,h6,a1,a2,a3,a4,a5,a6,a7,a8,a9,a10,hno,her,hfu,AF,Cq]
    | false =>
     simp (disch:=omega) only [go_sem,Ab,hni0,hni,hg,hg2,h5,h6,a1,a2,a3,a4,a5,a6,a7,a8,a9,a10,hno,her,hfu,AF,Cq]
   | true =>
    rw [hb] at h6
    rw [hb,cond_true] at hQ1
    have hap:acc.map Cl.os++[[OT.sh (u.lits.map Lt.d)]]=(acc++[u]).map Cl.os:=by rw [zQ]; rfl
    cases hno:OT.BD (Lt.ds (c.lits++lb[k].lits)) with
    | true =>
     simp (disch:=omega) only [go_sem,Ab,hni0,hni,hg,hg2,h5,h6,a1,a2,a3,a4,a5,a6,a7,a8,a9,a10,hno,hap,AF,Cq]
     exact ⟨(i+1,acc++[u]),⟨k+1,by dsimp only; omega,hlt,hQ1,by simp only [zG,zW,zL]; omega⟩,by dsimp only; omega,by first | trivial | rfl⟩
    | false =>
     simp (disch:=omega) only [go_sem,Ab,hni0,hni,hg,hg2,h5,h6,a1,a2,a3,a4,a5,a6,a7,a8,a9,a10,hno,hap,AF,Cq]
     exact ⟨(i+1,acc++[u]),⟨k+1,by dsimp only; omega,hlt,hQ1,by simp only [zG,zW,zL]; omega⟩,by dsimp only; omega,by first | trivial | rfl⟩
  ·obtain ⟨hQ1,hQ2⟩:=hR
   rw [zE hge,Jt] at hQ1
   rw [←hQ1,cond_true] at hR1
   simp (disch:=omega) only [go_sem,Ab,hni,hni0]
   refine ⟨(io+1,acc),⟨_,by dsimp only; omega,hlt0,by rw [←hrest]; exact hR1,by dsimp only; omega⟩,by dsimp only; omega,by first | trivial | rfl⟩
 ·obtain ⟨hR1,hR2⟩:=hR
  rw [zE hge,H9] at hR1
  rw [←hR1]
  have her:=Cl.Lp acc
  have hfu:=Cl.Fp acc
  simp (disch:=omega) only [go_sem,Ab,hni,her,hfu]
def Fw:SC:=(.seq (.reg [⟨some 2,none,.boxv 33 2 (.t 0)⟩,⟨some 4,none,.mv (.c .nil)⟩]) (.seq (.seq (.reg [⟨some 6,none,.faddr 0 (.t 2)⟩,⟨some 7,none,.load false 1 (.t 6)⟩,⟨some 8,none,.call 191 [(.t 7)]⟩]) (.cond (.t 8) (.seq (.seq (.reg [⟨some 9,none,.mv (.t 1)⟩,⟨some 10,none,.faddr 0 (.t 2)⟩,⟨some 11,none,.load false 1 (.t 10)⟩,⟨some 12,none,.call 112 [(.t 9),(.t 11)]⟩]) (.cond (.t 12) (.seq (.reg [⟨some 13,none,.mv (.t 1)⟩,⟨some 4,none,.mv (.t 13)⟩]) .ret) .skip)) (.seq (.reg [⟨some 14,none,.mv (.t 1)⟩,⟨some 15,none,.faddr 0 (.t 2)⟩,⟨some 16,none,.load false 1 (.t 15)⟩,⟨(some 17),none,(.mkrow 9 1 [(.str ⟨#[]⟩)] 1 [(0,(.t 16))])⟩,⟨(some 18),none,(.append 9 1 16 [(.str ⟨#[]⟩)] (.t 14) (.t 17))⟩,⟨some 4,none,.mv (.t 18)⟩]) .ret)) .skip)) (.seq (.seq (.reg [⟨some 5,none,.mv (.c (.int .i64 0))⟩]) (.block 0 (.loop [0,1,1,0,0,1,0,0,0,0,0,0,0,0,0,0,0,0,0,0,0,0,0,0,0,0,0,0,0,0,0,0,0,0] (.seq (.seq (.reg [⟨some 19,none,.mv (.t 5)⟩,⟨some 20,none,.faddr 1 (.t 2)⟩,⟨some 21,none,.load false 1 (.t 20)⟩,⟨some 22,none,.len false (.t 21)⟩,⟨some 23,none,.bin .lss false (.t 19) (.t 22)⟩]) (.cond (.t 23) .skip (.exit 0))) (.seq (.block 1 (.reg [⟨some 26,none,.faddr 1 (.t 2)⟩,⟨some 27,none,.load false 1 (.t 26)⟩,⟨some 28,none,.mv (.t 5)⟩,⟨some 29,none,.iaddr 2 (.t 27) (.t 28)⟩,⟨some 30,none,.load true 2 (.t 29)⟩,⟨some 31,none,.mv (.t 1)⟩,⟨some 32,none,.call 268 [(.t 30),(.t 31)]⟩,⟨some 1,none,.mv (.t 32)⟩])) (.reg [⟨some 24,none,.mv (.t 5)⟩,⟨some 25,none,.bin .add false (.t 24) (.c (.int .i64 1))⟩,⟨some 5,none,.mv (.t 25)⟩])))))) (.seq (.reg [⟨some 33,none,.mv (.t 1)⟩,⟨some 4,none,.mv (.t 33)⟩]) .ret))))
theorem HH:codeOf Tryz.prog 268=some ⟨34,Fw,[(.tmp 4)]⟩:=by kernel_rfl
theorem Eh:modes 268=⟨[false,true],.asis,none,false⟩:=by unfold modes; rfl
def Ly:SC:=(.seq (.reg [⟨some 1,none,.boxv 60 1 (.t 0)⟩,⟨some 2,none,.mv (.c .nil)⟩]) (.seq (.reg [⟨(some 5),none,(.mkrow 9 1 [(.str ⟨#[]⟩)] 0 [])⟩,⟨some 3,none,.mv (.t 5)⟩]) (.seq (.seq (.reg [⟨some 4,none,.mv (.c (.int .i64 0))⟩]) (.block 0 (.loop [0,1,0,1,1,0,0,0,0,0,0,0,0,0,0,0,0,0,0,0,0,0] (.seq (.seq (.reg [⟨some 6,none,.mv (.t 4)⟩,⟨some 7,none,.faddr 0 (.t 1)⟩,⟨some 8,none,.load false 1 (.t 7)⟩,⟨some 9,none,.len false (.t 8)⟩,⟨some 10,none,.bin .lss false (.t 6) (.t 9)⟩]) (.cond (.t 10) .skip (.exit 0))) (.seq (.block 1 (.reg [⟨some 13,none,.faddr 0 (.t 1)⟩,⟨some 14,none,.load false 1 (.t 13)⟩,⟨some 15,none,.mv (.t 4)⟩,⟨some 16,none,.iaddr 3 (.t 14) (.t 15)⟩,⟨some 17,none,.faddr 1 (.t 16)⟩,⟨some 18,none,.load true 2 (.t 17)⟩,⟨some 19,none,.mv (.t 3)⟩,⟨some 20,none,.call 268 [(.t 18),(.t 19)]⟩,⟨some 3,none,.mv (.t 20)⟩])) (.reg [⟨some 11,none,.mv (.t 4)⟩,⟨some 12,none,.bin .add false (.t 11) (.c (.int .i64 1))⟩,⟨some 4,none,.mv (.t 12)⟩])))))) (.seq (.reg [⟨some 21,none,.mv (.t 3)⟩,⟨some 2,none,.mv (.t 21)⟩]) .ret))))
theorem SH:codeOf Tryz.prog 196=some ⟨22,Ly,[(.tmp 2)]⟩:=by kernel_rfl
theorem Ei:modes 196=⟨[],.asis,none,false⟩:=by unfold modes; rfl
def Iu:SC:=(.seq (.reg [⟨some 1,none,.boxv 60 1 (.t 0)⟩,⟨some 2,none,.mv (.c (.bool false))⟩]) (.seq (.reg [⟨some 5,none,.load true 1 (.t 1)⟩,⟨some 6,none,.call 196 [(.t 5)]⟩,⟨some 3,none,.mv (.t 6)⟩]) (.seq (.seq (.reg [⟨some 4,none,.mv (.c (.int .i64 0))⟩]) (.block 0 (.loop [0,0,0,1,1,0,0,0,0,0,0,0,0,0,0,0,0,0,0,0,0] (.seq (.seq (.reg [⟨some 7,none,.mv (.t 4)⟩,⟨some 8,none,.mv (.t 3)⟩,⟨some 9,none,.len false (.t 8)⟩,⟨some 10,none,.bin .lss false (.t 7) (.t 9)⟩]) (.cond (.t 10) .skip (.exit 0))) (.seq (.block 1 (.seq (.dreg [[],[],[0,1],[2,0,1],[],[4],[5,4],[3,2,0,1,6,5,4]] [⟨some 13,none,.mv (.t 3)⟩,⟨some 14,none,.mv (.t 4)⟩,⟨some 15,none,.iaddr 1 (.t 13) (.t 14)⟩,⟨some 16,none,.load false 1 (.t 15)⟩,⟨some 17,none,.mv (.t 4)⟩,⟨some 18,none,.call 190 [(.t 17)]⟩,⟨(some 19),none,(.bin .add false (.c (.str ⟨#[88]⟩)) (.t 18))⟩,⟨some 20,none,.bin .neq false (.t 16) (.t 19)⟩]) (.cond (.t 20) (.seq (.reg [⟨some 2,none,.mv (.c (.bool false))⟩]) .ret) .skip))) (.reg [⟨some 11,none,.mv (.t 4)⟩,⟨some 12,none,.bin .add false (.t 11) (.c (.int .i64 1))⟩,⟨some 4,none,.mv (.t 12)⟩])))))) (.seq (.reg [⟨some 2,none,.mv (.c (.bool true))⟩]) .ret))))
theorem Ov:codeOf Tryz.prog 144=some ⟨21,Iu,[(.tmp 2)]⟩:=by kernel_rfl
theorem DN:modes 144=⟨[],.asis,none,false⟩:=by unfold modes; rfl
abbrev Qff (x:Tm):Prop:=∀ l:List ByteArray,l.length+x.nodes≤1048576→E 268 [x.sv,.ref 0] [.row 9 1 (l.map fun s=>[OT.str s])]=some ((bif dec (l.length<(BA l x.vs).length) then .ref 1 else .ref 0),(bif dec (l.length<(BA l x.vs).length) then [.gone,.row 9 1 ((BA l x.vs).map fun s=>[OT.str s])] else [.row 9 1 ((BA l x.vs).map fun s=>[OT.str s])]))
theorem ZE (x:Tm) (ih:∀ y∈x.args,Qff y):Qff x:=by
 intro l hn
 have hl:=Tm.length_le x.args
 have hne:=Tm.nodes_eq x
 have hvs:=Tm.Qay x
 have hv:=Ek x.name
 cases hvv:AY x.name with
 | true =>
  rw [hvv] at hvs hv
  have h1:=Zw l x.name (by omega)
  rw [hvs]
  cases hm:dec (x.name∈l) with
  | true =>
   have e:BA l [x.name]=l:=by simp only [BA,List.foldl_cons,List.foldl_nil,IB,hm,cond_true]
   have hg:dec (l.length<l.length)=false:=Aj (by omega)
   rw [hm] at h1
   simp only [cond_true,e,hg]
   refine Af HH Eh (of_decide_eq_true rfl) ?_
   simp (disch:=omega) only [Fw,go_sem,Ab,hv,h1,Ak,Ee]
  | false =>
   have e:BA l [x.name]=l++[x.name]:=by simp only [BA,List.foldl_cons,List.foldl_nil,IB,hm,cond_false]
   have hg:l.length<(l++[x.name]).length:=by simp
   rw [hm] at h1
   simp only [cond_true,e,An hg]
   refine Af HH Eh (of_decide_eq_true rfl) ?_
   simp (disch:=omega) only [Fw,go_sem,Ab,hv,h1,Ak,Ee]
   first | done | simp only [zQ,List.map_cons,zO]
 | false =>
  rw [hvv] at hvs hv
  simp only [cond_false] at hvs
  rw [hvs]
  have hgl:dec (l.length<l.length)=false:=Aj (by omega)
  refine Af HH Eh (of_decide_eq_true rfl) ?_
  simp (disch:=omega) only [Fw,go_sem,Ab,hv,Ak]
  refine go_loop (α:=Int × (List ByteArray)) (fun a=>⟨slots 34 0 [(1,(bif dec (l.length<(a.2).length) then .ref 1 else .ref 0)),(2,(bif dec (l.length<(a.2).length) then .ptr 2 0 else .ptr 1 0)),(5,.int .i64 (a.1))],(bif dec (l.length<(a.2).length) then [.gone,.row 9 1 ((a.2).map fun s=>[OT.str s]),.box 33 [.str x.name,.arr (x.args.map Tm.d)]] else [.row 9 1 ((a.2).map fun s=>[OT.str s]),.box 33 [.str x.name,.arr (x.args.map Tm.d)]])⟩) (fun a=>∃ k:Nat,a.1=k∧k≤(x.args).length∧BA (a.2) (Tm.vsL (x.args.drop k))=BA l (Tm.vsL x.args)∧(a.2).length+Tm.nodeS (x.args.drop k)≤1048576∧l.length≤(a.2).length) (fun a=>(x.args).length-(a.1).toNat) (0,l) ⟨0,rfl,zH _,by rw [zI],by rw [zI]; dsimp only; omega,zT _⟩ (by simp (disch:=omega) only [go_sem,Ab,hgl]) ?_
  rintro ⟨i,acc⟩ ⟨k,hi,hk,hR⟩
  dsimp only at hi hR
  have hni:i.toNat=k:=by omega
  have hni1:(i+1).toNat=k+1:=by omega
  rcases zB k (x.args).length with hlt | hge
  ·have hg:=get_at Tm.d hlt
   rw [Tm.d_eq] at hg
   obtain ⟨hR1,hR2,hR3⟩:=hR
   rw [zC hlt,Tm.vsL,Je] at hR1
   rw [zC hlt,Tm.nodeS] at hR2
   have hc:=ih x.args[k] (zD hlt) acc (by omega)
   have hlen:=E2 x.args[k].vs acc
   have hgr:=Jf x.args[k].vs acc
   have hvl:=Tm.vs_len x.args[k]
   have has:x.args[k].sv=.agg [.str x.args[k].name,.arr (x.args[k].args.map Tm.d)]:=rfl
   rw [has] at hc
   obtain ⟨acc2,ha2⟩:∃ a,a=BA acc x.args[k].vs:=⟨_,rfl⟩
   rw [←ha2] at hc hlen hgr hR1
   rcases zB l.length acc.length with q1 | q1 <;> rcases zB acc.length acc2.length with q2 | q2
   all_goals
    first
     |rw [An q2] at hc
     |rw [Aj (zV.2 q2)] at hc
    simp only [cond_true,cond_false] at hc
    simp (disch:=omega) only [go_sem,Ab,hni,hg,hc,Eh]
    refine ⟨(i+1,acc2),⟨k+1,by dsimp only; omega,hlt,hR1,by dsimp only; omega,by dsimp only; omega⟩,by dsimp only; omega,?_⟩
    first | done | simp (disch:=omega) only [go_sem,Ab]
  ·rw [zE hge,Tm.vsL] at hR
   obtain ⟨hR1,hR2,hR3⟩:=hR
   have hR1:acc=BA l (Tm.vsL x.args):=hR1
   rw [←hR1]
   rcases zB l.length acc.length with q1 | q1
   ·simp (disch:=omega) only [go_sem,Ab,hni]
   ·simp (disch:=omega) only [go_sem,Ab,hni]
theorem UE (x:Tm):Qff x:=ZE x fun y hy=>UE y
termination_by SizeOf.sizeOf x
decreasing_by exact Tm.lt_of_mem hy
theorem UF (c:Cl) (hc:c.ok=true):E 196 [c.sv] []=some (.ref 0,[.row 9 1 (c.ns.map fun s=>[OT.str s])]):=by
 have hl:=Cl.Dx hc
 have hsv:c.sv=.agg [.arr (c.lits.map Lt.d)]:=rfl
 have hns:c.ns=BA [] (Lt.vsL c.lits):=rfl
 rw [hsv,hns]
 refine Af SH Ei (of_decide_eq_true rfl) ?_
 simp (disch:=omega) only [Ly,go_sem,Ab]
 refine go_loop (α:=Int × (List ByteArray)) (fun a=>⟨slots 22 0 [(1,.ptr 0 0),(3,.ref 1),(4,.int .i64 (a.1))],[.box 60 [.arr (c.lits.map Lt.d)],.row 9 1 ((a.2).map fun s=>[OT.str s])]⟩) (fun a=>∃ k:Nat,a.1=k∧k≤(c.lits).length∧BA (a.2) (Lt.vsL (c.lits.drop k))=BA [] (Lt.vsL c.lits)∧(a.2).length≤30*k) (fun a=>(c.lits).length-(a.1).toNat) (0,[]) ⟨0,rfl,zH _,by rw [zI],zT _⟩ (by simp (disch:=omega) only [go_sem,Ab]) ?_
 rintro ⟨i,acc⟩ ⟨k,hi,hk,hR⟩
 dsimp only at hi hR
 have hni:i.toNat=k:=by omega
 have hni1:(i+1).toNat=k+1:=by omega
 rcases zB k (c.lits).length with hlt | hge
 ·have hg:=get_at Lt.d hlt
  rw [Lt.d_eq] at hg
  obtain ⟨hR1,hR2⟩:=hR
  rw [zC hlt,Lt.vsL,Je] at hR1
  have hnn:=Tm.Cm (Cl.JL hc hlt)
  have hcl:=UE c.lits[k].atom acc (by omega)
  have has:c.lits[k].atom.sv=.agg [.str c.lits[k].atom.name,.arr (c.lits[k].atom.args.map Tm.d)]:=rfl
  rw [has] at hcl
  have hlen:=E2 c.lits[k].atom.vs acc
  have hvl:=Tm.vs_len c.lits[k].atom
  obtain ⟨acc2,ha2⟩:∃ a,a=BA acc c.lits[k].atom.vs:=⟨_,rfl⟩
  rw [←ha2] at hcl hlen hR1
  rcases zB acc.length acc2.length with q2 | q2
  all_goals
   first
    |rw [An q2] at hcl
    |rw [Aj (zV.2 q2)] at hcl
   simp only [cond_true,cond_false] at hcl
   simp (disch:=omega) only [go_sem,Ab,hni,hg,hcl,Eh]
   refine ⟨(i+1,acc2),⟨k+1,by dsimp only; omega,hlt,hR1,by dsimp only; omega⟩,by dsimp only; omega,?_⟩
   first | trivial | rfl | exact ⟨rfl,rfl⟩
 ·rw [zE hge,Lt.vsL] at hR
  obtain ⟨hR1,hR2⟩:=hR
  have hR1:acc=_:=hR1
  rw [←hR1]
  simp (disch:=omega) only [go_sem,Ab,hni]
theorem Wp (c:Cl) (hc:c.ok=true):E 144 [c.sv] []=some (.bool c.norm,[]):=by
 have h1:=UF c hc
 have hn:=Cl.Sn hc
 have hcs:c.sv=.agg [.arr (c.lits.map Lt.d)]:=rfl
 obtain ⟨ns,hns⟩:∃ ns,ns=c.ns:=⟨_,rfl⟩
 have hnm:c.norm=dec (Sq ns):=by unfold Cl.norm; rw [hns]
 rw [←hns] at hn h1
 rw [hnm]
 refine Af Ov DN (of_decide_eq_true rfl) ?_
 simp (disch:=omega) only [Iu,go_sem,Ab,h1,Ei]
 refine go_loop (α:=Int) (fun a=>⟨slots 21 0 [(3,.ref 0),(4,.int .i64 a)],[.row 9 1 (ns.map fun s=>[OT.str s])]⟩) (fun a=>∃ k:Nat,a=k∧k≤(ns).length∧∀ (j:Nat),j<k→∀ hj:j<ns.length,ns[j]=pre Te (j:Nat)) (fun a=>(ns).length-(a).toNat) 0 ⟨0,rfl,zH _,fun j hj=>absurd hj (yM _)⟩ (by simp (disch:=omega) only [go_sem,Ab]) ?_
 rintro i ⟨k,hi,hk,hR⟩
 have hni:i.toNat=k:=by omega
 have hni1:(i+1).toNat=k+1:=by omega
 rcases zB k (ns).length with hlt | hge
 ·have hg:=get_at (fun s=>[OT.str s]) hlt
  have hit:=Wm i (by omega) (by omega)
  have hz:=GQ (show 0≤i by omega) (show i≤1099511627776 by omega)
  have hb:dec ((#[88]:Array UInt8).size+(GF i).size≤9223372036854775807)=true:=An (by simp; omega)
  by_cases he:ns[k]=pre Te (k:Nat)
  ·have he':dec (ns[k]=(⟨#[88]⟩:ByteArray)++GF i)=true:=An (by rw [he,hi]; rfl)
   simp (disch:=omega) only [go_sem,Ab,hni,hg,hit,hb,he',D1]
   refine ⟨i+1,⟨k+1,by omega,hlt,fun j hj hjl=>?_⟩,by omega,by first | trivial | rfl⟩
   rcases zB j k with h2 | h2
   ·exact hR j h2 hjl
   ·obtain rfl:j=k:=by omega
    exact he
  ·have he':dec (ns[k]=(⟨#[88]⟩:ByteArray)++GF i)=false:=Aj (fun e=>he (by rw [e,hi]; rfl))
   have hno:dec (Sq ns)=false:=Aj fun h=>he (h k hlt)
   rw [hno]
   simp (disch:=omega) only [go_sem,Ab,hni,hg,hit,hb,he',D1]
 ·have hy:dec (Sq ns)=true:=An fun j hj=>hR j (by omega) hj
  rw [hy]
  simp (disch:=omega) only [go_sem,Ab,hni]
def G4:SC:=(.seq (.reg [⟨some 3,none,.boxv 33 2 (.t 0)⟩,⟨(some 6),none,(.alloc 33 [(.str ⟨#[]⟩),.nil])⟩]) (.seq (.seq (.reg [⟨some 10,none,.faddr 0 (.t 3)⟩,⟨some 11,none,.load false 1 (.t 10)⟩,⟨some 12,none,.call 191 [(.t 11)]⟩]) (.cond (.t 12) (.seq (.seq (.reg [⟨some 7,none,.mv (.c (.int .i64 0))⟩]) (.block 0 (.loop [0,1,1,1,0,0,1,1,0,0,0,0,0,0,0,0,0,0,0,0,0,0,0,0,0,0,0,0,0,0,0,0,0,0,0,0,0,0,0,0,0,0,0,0,0,0,0,0,0,0,0,0,0,0,0,0,0,0] (.seq (.seq (.reg [⟨some 13,none,.mv (.t 7)⟩,⟨some 14,none,.mv (.t 1)⟩,⟨some 15,none,.len false (.t 14)⟩,⟨some 16,none,.bin .lss false (.t 13) (.t 15)⟩]) (.cond (.t 16) .skip (.exit 0))) (.seq (.block 1 (.seq (.dreg [[],[],[0,1],[2,0,1],[],[4],[3,2,0,1,5,4]] [⟨some 19,none,.mv (.t 1)⟩,⟨some 20,none,.mv (.t 7)⟩,⟨some 21,none,.iaddr 1 (.t 19) (.t 20)⟩,⟨some 22,none,.load false 1 (.t 21)⟩,⟨some 23,none,.faddr 0 (.t 3)⟩,⟨some 24,none,.load false 1 (.t 23)⟩,⟨some 25,none,.bin .eql false (.t 22) (.t 24)⟩]) (.cond (.t 25) (.seq (.reg [⟨some 26,none,.mv (.t 2)⟩,⟨some 27,none,.mv (.t 7)⟩,⟨some 28,none,.call 190 [(.t 27)]⟩,⟨some 29,none,.bin .add false (.t 26) (.t 28)⟩,⟨(some 30),none,(.build [(.str ⟨#[]⟩),.nil] [(0,(1,(.t 29)))])⟩,⟨none,none,(.store 2 (.t 6) (.t 30))⟩]) .ret) .skip))) (.reg [⟨some 17,none,.mv (.t 7)⟩,⟨some 18,none,.bin .add false (.t 17) (.c (.int .i64 1))⟩,⟨some 7,none,.mv (.t 18)⟩])))))) (.seq (.reg [⟨some 31,none,.faddr 0 (.t 3)⟩,⟨some 32,none,.load false 1 (.t 31)⟩,⟨(some 33),none,(.build [(.str ⟨#[]⟩),.nil] [(0,(1,(.t 32)))])⟩,⟨none,none,(.store 2 (.t 6) (.t 33))⟩]) .ret)) .skip)) (.seq (.reg [⟨some 34,none,.faddr 0 (.t 3)⟩,⟨some 35,none,.load false 1 (.t 34)⟩,⟨(some 36),none,(.build [(.str ⟨#[]⟩),.nil] [(0,(1,(.t 35)))])⟩,⟨(some 8),none,(.alloc 33 [(.str ⟨#[]⟩),.nil])⟩,⟨none,none,(.store 2 (.t 8) (.t 36))⟩]) (.seq (.seq (.reg [⟨some 9,none,.mv (.c (.int .i64 0))⟩]) (.block 2 (.loop [0,1,1,1,0,0,1,0,1,1,0,0,0,0,0,0,0,0,0,0,0,0,0,0,0,0,0,0,0,0,0,0,0,0,0,0,0,0,0,0,0,0,0,0,0,0,0,0,0,0,0,0,0,0,0,0,0,0] (.seq (.seq (.reg [⟨some 37,none,.mv (.t 9)⟩,⟨some 38,none,.faddr 1 (.t 3)⟩,⟨some 39,none,.load false 1 (.t 38)⟩,⟨some 40,none,.len false (.t 39)⟩,⟨some 41,none,.bin .lss false (.t 37) (.t 40)⟩]) (.cond (.t 41) .skip (.exit 2))) (.seq (.block 3 (.dreg [[],[0],[],[2],[],[3,2,4],[5,3,2,4],[],[],[6,5,3,2,4,7,8],[9,6,5,3,2,4,7,8],[1,0,10,9,6,5,3,2,4,7,8],[0,1,2,3,4,5,6,7,8,9,10,11],[12,0,1,2,3,4,5,6,7,8,9,10,11]] [⟨some 44,none,.faddr 1 (.t 8)⟩,⟨some 45,none,.load false 1 (.t 44)⟩,⟨some 46,none,.faddr 1 (.t 3)⟩,⟨some 47,none,.load false 1 (.t 46)⟩,⟨some 48,none,.mv (.t 9)⟩,⟨some 49,none,.iaddr 2 (.t 47) (.t 48)⟩,⟨some 50,none,.load true 2 (.t 49)⟩,⟨some 51,none,.mv (.t 1)⟩,⟨some 52,none,.mv (.t 2)⟩,⟨some 53,none,.call 286 [(.t 50),(.t 51),(.t 52)]⟩,⟨(some 54),none,(.mkrow 33 2 [(.str ⟨#[]⟩),.nil] 1 [(0,(.t 53))])⟩,⟨(some 55),none,(.append 33 2 40 [(.str ⟨#[]⟩),.nil] (.t 45) (.t 54))⟩,⟨some 56,none,.faddr 1 (.t 8)⟩,⟨none,none,(.store 1 (.t 56) (.t 55))⟩])) (.reg [⟨some 42,none,.mv (.t 9)⟩,⟨some 43,none,.bin .add false (.t 42) (.c (.int .i64 1))⟩,⟨some 9,none,.mv (.t 43)⟩])))))) (.seq (.reg [⟨some 57,none,.load true 2 (.t 8)⟩,⟨none,none,(.store 2 (.t 6) (.t 57))⟩]) .ret)))))
theorem Ku:codeOf Tryz.prog 286=some ⟨58,G4,[(.cell 6 true 2)]⟩:=by kernel_rfl
theorem DC:modes 286=⟨[],.frz,none,false⟩:=by unfold modes; rfl
abbrev RnS (ns:List ByteArray) (p:ByteArray) (x:Tm):Prop:=E 286 [x.sv,.arr (ns.map fun s=>[D.str s]),.str p] []=some ((x.rn (Ht p ns)).sv,[])
theorem Qg (ns:List ByteArray) (p:ByteArray) (hp:p.size≤1048576) (hnd:ns.Nodup) (hnl:ns.length≤1048576) (hnv:∀ s∈ns,AY s=true) (x:Tm) (hx:AY x.name=true→x.args=[]) (hn:x.args.length≤1099511627776) (ih:∀ y∈x.args,RnS ns p y):RnS ns p x:=by
 unfold RnS
 have hv:=Ek x.name
 obtain ⟨e,he⟩:∃ e,e=Ht p ns:=⟨_,rfl⟩
 rw [←he]
 cases hb:AY x.name with
 | true =>
  rw [hb] at hv
  have hx0:=hx hb
  refine Af Ku DC (of_decide_eq_true rfl) ?_
  simp (disch:=omega) only [G4,go_sem,Ab,hv,Ak]
  refine go_loop (α:=Int) (fun a=>⟨slots 58 0 [(1,.arr (ns.map fun s=>[D.str s])),(2,.str p),(3,.ptr 0 0),(6,.ptr 1 0),(7,.int .i64 a)],[.box 33 [.str x.name,.arr (x.args.map Tm.d)],.box 33 [.str ⟨#[]⟩,.nil]]⟩) (fun a=>∃ k:Nat,a=k∧k≤(ns).length∧∀ (j:Nat),j<k→∀ hj:j<ns.length,¬ ns[j]=x.name) (fun a=>(ns).length-(a).toNat) 0 ⟨0,rfl,zH _,fun j hj=>absurd hj (yM _)⟩ (by simp (disch:=omega) only [go_sem,Ab]) ?_
  rintro i ⟨k,hi,hk,hR⟩
  have hni:i.toNat=k:=by omega
  have hni1:(i+1).toNat=k+1:=by omega
  rcases zB k (ns).length with hlt | hge
  ·have hg:=get_at (fun s=>[D.str s]) hlt
   by_cases hq:ns[k]=x.name
   ·have hq1:=eq_true hq
    have hq2:=An hq
    have hit:=Wm i (by omega) (by omega)
    have hz:=GQ (show 0≤i by omega) (show i≤1099511627776 by omega)
    have hbd:dec (p.size+(GF i).size≤9223372036854775807)=true:=An (by omega)
    have e1:x.rn e=.mk (p++GF i) []:=by
     rw [Tm.Sm,hx0,← hq,he,X5 p hnd hlt,hi]; rfl
    have e2:(Tm.mk (p++GF i) []).sv=.agg [.str (p++GF i),.arr []]:=rfl
    rw [e1,e2]
    simp (disch:=omega) only [go_sem,Ab,hni,hg,hq1,hq2,hit,hbd,D1]
   ·have hq1:=eq_false hq
    have hq2:=Aj hq
    simp (disch:=omega) only [go_sem,Ab,hni,hg,hq1,hq2,D1]
    refine ⟨i+1,⟨k+1,by omega,hlt,fun j hj hjl=>?_⟩,by omega,by first | trivial | rfl⟩
    rcases zB j k with h2 | h2
    ·exact hR j h2 hjl
    ·obtain rfl:j=k:=by omega
     exact hq
  ·have hno:x.name ∉ ns:=fun h=>by
    obtain ⟨j,hj,h⟩:=List.getElem_of_mem h
    exact hR j (by omega) hj h
   have e1:x.rn e=.mk x.name []:=by rw [Tm.Sm,hx0,he,Pd p hno]; rfl
   have e2:(Tm.mk x.name []).sv=.agg [.str x.name,.arr []]:=rfl
   rw [e1,e2]
   simp (disch:=omega) only [go_sem,Ab,hni]
 | false =>
  rw [hb] at hv
  have hen:e x.name=none:=by rw [he]; exact Pd p fun h=>by have:=hnv _ h; rw [hb] at this; cases this
  have e1:x.rn e=.mk x.name (x.args.map (Tm.rn e)):=by
   rw [Tm.Sm,hen]
   cases x.args.isEmpty <;> rfl
  have e2:(Tm.mk x.name (x.args.map (Tm.rn e))).sv=.agg [.str x.name,.arr ((x.args.map (Tm.rn e)).map Tm.d)]:=rfl
  rw [e1,e2]
  have h10:((1:Int)=0)=False:=by simp
  have hfu:=Tm.RV (x.args.map (Tm.rn e))
  have her:=Tm.Zo (x.args.map (Tm.rn e))
  refine Af Ku DC (of_decide_eq_true rfl) ?_
  simp (disch:=omega) only [G4,go_sem,Ab,hv,Ak]
  refine go_loop (α:=Int) (fun a=>⟨slots 58 0 [(1,.arr (ns.map fun s=>[D.str s])),(2,.str p),(3,.ptr 0 0),(6,.ptr 1 0),(8,.ptr 2 0),(9,.int .i64 a)],(if a=0 then [.box 33 [.str x.name,.arr (x.args.map Tm.d)],.box 33 [.str ⟨#[]⟩,.nil],.box 33 [.str x.name,.nil]] else [.box 33 [.str x.name,.arr (x.args.map Tm.d)],.box 33 [.str ⟨#[]⟩,.nil],.box 33 [.str x.name,.ref 3],.row 33 2 (((x.args.map (Tm.rn e)).take a.toNat).map Tm.osh)])⟩) (fun a=>∃ k:Nat,a=k∧k≤(x.args).length) (fun a=>(x.args).length-(a).toNat) 0 ⟨0,rfl,zH _⟩ (by simp (disch:=omega) only [go_sem,Ab,eq_self,if_true]) ?_
  rintro i ⟨k,hi,hk⟩
  have hni:i.toNat=k:=by omega
  have hni1:(i+1).toNat=k+1:=by omega
  rcases zB k (x.args).length with hlt | hge
  ·have hg:=get_at Tm.d hlt
   rw [Tm.d_eq] at hg
   have hc:=ih x.args[k] (zD hlt)
   unfold RnS at hc
   rw [←he] at hc
   have hlm:k<(x.args.map (Tm.rn e)).length:=by rw [zJ]; exact hlt
   have hs:=Fh Tm.osh hlm
   rw [Tm.VO,yC] at hs
   rcases zK k with h0 | h0
   ·subst h0
    obtain rfl:i=0:=hi
    rw [yG,zO,yA] at hs
    simp (disch:=omega) only [go_sem,Ab,hni,hg,hc,DC,eq_self,if_true]
    refine ⟨1,⟨1,rfl,hlt⟩,by omega,?_⟩
    simp (disch:=omega) only [go_sem,Ab,h10,if_false,hs]
   ·have hi0:(i=0)=False:=by simp; omega
    have hi1:(i+1=0)=False:=by simp; omega
    have htl:((x.args.map (Tm.rn e)).take k).length=k:=by rw [z6,zJ]; omega
    simp (disch:=omega) only [go_sem,Ab,hni,hg,hc,DC,hi0,if_false,htl]
    refine ⟨i+1,⟨k+1,by omega,hlt⟩,by omega,?_⟩
    simp (disch:=omega) only [go_sem,Ab,hni1,hi1,if_false,hs]
  ·obtain rfl:k=x.args.length:=by omega
   have ht:(x.args.map (Tm.rn e)).take x.args.length=x.args.map (Tm.rn e):=by rw [←zJ (f:=Tm.rn e)]; exact yI
   rcases zK x.args.length with h0 | h0
   ·have hx:x.args=[]:=zM h0
    obtain rfl:i=0:=by omega
    simp (disch:=omega) only [go_sem,Ab,hni,hx,eq_self,if_true,zO,zL]
   ·have hi0:(i=0)=False:=by simp; omega
    simp (disch:=omega) only [go_sem,Ab,hni,hi0,if_false,ht,hfu,her]
theorem SI (ns:List ByteArray) (p:ByteArray) (hp:p.size≤1048576) (hnd:ns.Nodup) (hnl:ns.length≤1048576) (hnv:∀ s∈ns,AY s=true) (x:Tm) (hx:x.names=true) (hn:x.nodes≤1099511627776):RnS ns p x :=
 Qg ns p hp hnd hnl hnv x (fun h=>Tm.Pa hx h) (by have:=Tm.length_le x.args; have:=Tm.nodes_eq x; omega) fun y hy=>SI ns p hp hnd hnl hnv y (Tm.Jc hx hy) (by have:=Tm.nodes_mem hy; have:=Tm.nodes_eq x; omega)
termination_by SizeOf.sizeOf x
decreasing_by exact Tm.lt_of_mem hy
theorem Yn (ns:List ByteArray) (p:ByteArray) (hp:p.size≤1048576) (hnd:ns.Nodup) (hnl:ns.length≤1048576) (hnv:∀ s∈ns,AY s=true) (x:Tm) (hx:x.atom=true):RnS ns p x:=by
 have hn:=Tm.Cm hx
 have h1:=Tm.nodes_eq x
 have h2:=Tm.length_le x.args
 exact Qg ns p hp hnd hnl hnv x (Tm.Jd hx).1 (by omega) fun y hy=>SI ns p hp hnd hnl hnv y ((Tm.Jd hx).2 y hy) (by have:=Tm.nodes_mem hy; omega)
def Kv:SC:=(.seq (.reg [⟨some 3,none,.boxv 60 1 (.t 0)⟩,⟨some 6,none,.alloc 60 [.nil]⟩]) (.seq (.reg [⟨(some 9),none,(.mkrow 122 3 [(.bool false),(.str ⟨#[]⟩),.nil] 0 [])⟩,⟨some 7,none,.mv (.t 9)⟩]) (.seq (.seq (.reg [⟨some 8,none,.mv (.c (.int .i64 0))⟩]) (.block 0 (.loop [0,1,1,1,0,0,1,1,1,0,0,0,0,0,0,0,0,0,0,0,0,0,0,0,0,0,0,0,0,0,0,0,0,0,0,0,0,0] (.seq (.seq (.reg [⟨some 10,none,.mv (.t 8)⟩,⟨some 11,none,.faddr 0 (.t 3)⟩,⟨some 12,none,.load false 1 (.t 11)⟩,⟨some 13,none,.len false (.t 12)⟩,⟨some 14,none,.bin .lss false (.t 10) (.t 13)⟩]) (.cond (.t 14) .skip (.exit 0))) (.seq (.block 1 (.dreg [[],[],[1],[],[2,1,3],[4,2,1,3],[5,4,2,1,3],[],[7],[],[8,7,9],[10,8,7,9],[11,10,8,7,9],[],[],[12,11,10,8,7,9,13,14],[6,5,4,2,1,3,15,12,11,10,8,7,9,13,14],[16,6,5,4,2,1,3,15,12,11,10,8,7,9,13,14],[0,17,16,6,5,4,2,1,3,15,12,11,10,8,7,9,13,14],[18,0,17,16,6,5,4,2,1,3,15,12,11,10,8,7,9,13,14]] [⟨some 17,none,.mv (.t 7)⟩,⟨some 18,none,.faddr 0 (.t 3)⟩,⟨some 19,none,.load false 1 (.t 18)⟩,⟨some 20,none,.mv (.t 8)⟩,⟨some 21,none,.iaddr 3 (.t 19) (.t 20)⟩,⟨some 22,none,.faddr 0 (.t 21)⟩,⟨some 23,none,.load false 1 (.t 22)⟩,⟨some 24,none,.faddr 0 (.t 3)⟩,⟨some 25,none,.load false 1 (.t 24)⟩,⟨some 26,none,.mv (.t 8)⟩,⟨some 27,none,.iaddr 3 (.t 25) (.t 26)⟩,⟨some 28,none,.faddr 1 (.t 27)⟩,⟨some 29,none,.load true 2 (.t 28)⟩,⟨some 30,none,.mv (.t 1)⟩,⟨some 31,none,.mv (.t 2)⟩,⟨some 32,none,.call 286 [(.t 29),(.t 30),(.t 31)]⟩,⟨(some 33),none,(.build [(.bool false),(.str ⟨#[]⟩),.nil] [(0,(1,(.t 23))),(1,(2,(.t 32)))])⟩,⟨(some 34),none,(.mkrow 122 3 [(.bool false),(.str ⟨#[]⟩),.nil] 1 [(0,(.t 33))])⟩,⟨(some 35),none,(.append 122 3 48 [(.bool false),(.str ⟨#[]⟩),.nil] (.t 17) (.t 34))⟩,⟨some 7,none,.mv (.t 35)⟩])) (.reg [⟨some 15,none,.mv (.t 8)⟩,⟨some 16,none,.bin .add false (.t 15) (.c (.int .i64 1))⟩,⟨some 8,none,.mv (.t 16)⟩])))))) (.seq (.reg [⟨some 36,none,.mv (.t 7)⟩,⟨some 37,none,.call 218 [(.t 36)]⟩,⟨none,none,(.store 1 (.t 6) (.t 37))⟩]) .ret))))
theorem Q5:codeOf Tryz.prog 221=some ⟨38,Kv,[(.cell 6 true 1)]⟩:=by kernel_rfl
theorem ED:modes 221=⟨[],.frz,none,false⟩:=by unfold modes; rfl
theorem ZF (c:Cl) (hc:c.ok=true) (ns:List ByteArray) (hns:ns=c.ns) (p:ByteArray) (hp:p.size≤1048576) (hf:VS (Ht p ns)):E 221 [c.sv,.arr (ns.map fun s=>[D.str s]),.str p] []=some ((c.rn (Ht p ns)).sv,[]):=by
 have hl:=Cl.Dx hc
 have hsv:∀ d:Cl,d.sv=.agg [.arr (d.lits.map Lt.d)]:=fun d=>rfl
 have hnd:ns.Nodup:=by rw [hns]; exact c.ns_nodup
 have hnl:ns.length≤240:=by rw [hns]; exact Cl.Sn hc
 have hnv:∀ s∈ns,AY s=true:=fun s hs=>Cl.QcK (c:=c) (by rw [←hns]; exact hs)
 have hat:=Lt.Sp hf (Cl.Ci hc)
 have hr0:∀ x:Tm,x.atom=true→RnS ns p x:=fun x hx=>Yn ns p hp hnd (by omega) hnv x hx
 unfold RnS at hr0
 obtain ⟨e,he⟩:∃ e,e=Ht p ns:=⟨_,rfl⟩
 rw [←he] at hat hr0 ⊢
 have hco:=KX (c.lits.map (Lt.rn e)) (by rw [zJ]; omega) (fun x hx=>Dk (hat x hx))
 rw [show mkC (c.lits.map (Lt.rn e))=c.rn e from rfl] at hco
 rw [hsv] at hco
 rw [hsv,hsv]
 have her:=Lt.der (c.lits.map (Lt.rn e))
 have hfu:=Lt.dfu (c.lits.map (Lt.rn e))
 clear he
 refine Af Q5 ED (of_decide_eq_true rfl) ?_
 simp (disch:=omega) only [Kv,go_sem,Ab]
 refine go_loop (α:=Int) (fun a=>⟨slots 38 0 [(1,.arr (ns.map fun s=>[D.str s])),(2,.str p),(3,.ptr 0 0),(6,.ptr 1 0),(7,.ref 2),(8,.int .i64 a)],[.box 60 [.arr (c.lits.map Lt.d)],.box 60 [.nil],.row 122 3 (((c.lits.map (Lt.rn e)).take a.toNat).map (fun b:Lt=>b.d.map D.ot))]⟩) (fun a=>∃ k:Nat,a=k∧k≤(c.lits).length) (fun a=>(c.lits).length-(a).toNat) 0 ⟨0,rfl,zH _⟩ (by simp (disch:=omega) only [go_sem,Ab]) ?_
 rintro i ⟨k,hi,hk⟩
 have hni:i.toNat=k:=by omega
 have hni1:(i+1).toNat=k+1:=by omega
 rcases zB k (c.lits).length with hlt | hge
 ·have hg:=get_at Lt.d hlt
  rw [Lt.d_eq] at hg
  have hr:=hr0 c.lits[k].atom (Cl.JL hc hlt)
  have hrs:c.lits[k].atom.sv=.agg [.str c.lits[k].atom.name,.arr (c.lits[k].atom.args.map Tm.d)]:=rfl
  have hrt:(c.lits[k].atom.rn e).sv=.agg [.str (c.lits[k].atom.rn e).name,.arr ((c.lits[k].atom.rn e).args.map Tm.d)]:=rfl
  rw [hrs,hrt] at hr
  have hlm:k<(c.lits.map (Lt.rn e)).length:=by rw [zJ]; exact hlt
  have hs:=Fh (fun b:Lt=>b.d.map D.ot) hlm
  rw [yC] at hs
  have hs':((c.lits.map (Lt.rn e)).take k).map (fun b:Lt=>b.d.map D.ot)++[[OT.bool c.lits[k].pos,OT.str (c.lits[k].atom.rn e).name,OT.sh ((c.lits[k].atom.rn e).args.map Tm.d)]]=((c.lits.map (Lt.rn e)).take (k+1)).map (fun b:Lt=>b.d.map D.ot):=hs
  have htl:((c.lits.map (Lt.rn e)).take k).length=k:=by rw [z6,zJ]; omega
  simp (disch:=omega) only [go_sem,Ab,hni,hg,hr,htl,DC]
  refine ⟨i+1,⟨k+1,by omega,hlt⟩,by omega,?_⟩
  simp (disch:=omega) only [go_sem,Ab,hni1,hs']
 ·have ht:(c.lits.map (Lt.rn e)).take k=c.lits.map (Lt.rn e):=yD (by rw [zJ]; exact hge)
  simp (disch:=omega) only [go_sem,Ab,hni,ht,hco,her,hfu,AF]
def Kw:SC:=(.seq (.reg [⟨some 1,none,.boxv 60 1 (.t 0)⟩,⟨some 2,none,.alloc 60 [.nil]⟩,⟨some 3,none,.mv (.c (.bool false))⟩]) (.seq (.reg [⟨some 6,none,.faddr 0 (.t 1)⟩,⟨some 7,none,.load false 1 (.t 6)⟩,⟨some 8,none,.call 218 [(.t 7)]⟩,⟨some 4,none,.alloc 60 [.nil]⟩,⟨none,none,(.store 1 (.t 4) (.t 8))⟩]) (.seq (.seq (.reg [⟨some 5,none,.mv (.c (.int .i64 0))⟩]) (.block 0 (.loop [0,0,1,0,1,1,0,0,0,0,0,0,0,0,0,0,0,0,0,0,0,0,0,0,0] (.seq (.seq (.reg [⟨some 9,none,.mv (.t 5)⟩,⟨some 10,none,.bin .lss false (.t 9) (.c (.int .i64 10))⟩,⟨some 11,none,.mv (.t 10)⟩,⟨(some 12),(some (11,true)),(.load true 1 (.t 4))⟩,⟨(some 13),(some (11,true)),(.call 144 [(.t 12)])⟩,⟨(some 14),(some (11,true)),(.un .not (.t 13))⟩,⟨some 15,none,.pick (.t 11) (.t 14) (.c (.bool false))⟩]) (.cond (.t 15) .skip (.exit 0))) (.seq (.block 1 (.dreg [[],[],[1],[0,2,1],[3,0,2,1]] [⟨some 18,none,.load true 1 (.t 4)⟩,⟨some 19,none,.load true 1 (.t 4)⟩,⟨some 20,none,.call 196 [(.t 19)]⟩,⟨(some 21),none,(.call 221 [(.t 18),(.t 20),(.c (.str ⟨#[88]⟩))])⟩,⟨none,none,(.store 1 (.t 4) (.t 21))⟩])) (.reg [⟨some 16,none,.mv (.t 5)⟩,⟨some 17,none,.bin .add false (.t 16) (.c (.int .i64 1))⟩,⟨some 5,none,.mv (.t 17)⟩])))))) (.seq (.dreg [[],[],[1],[0,2,1],[2,1,3,0]] [⟨some 22,none,.load true 1 (.t 4)⟩,⟨some 23,none,.load true 1 (.t 4)⟩,⟨some 24,none,.call 143 [(.t 23)]⟩,⟨none,none,(.store 1 (.t 2) (.t 22))⟩,⟨some 3,none,.mv (.t 24)⟩]) .ret))))
theorem Q6:codeOf Tryz.prog 161=some ⟨25,Kw,[(.cell 2 true 1),(.tmp 3)]⟩:=by kernel_rfl
theorem Kx:modes 161=⟨[],.frz,none,false⟩:=by unfold modes; rfl
theorem ZG (c:Cl) (hc:c.ok=true):E 161 [c.sv] []=some (.tup [(nz 10 c).sv,.bool true],[]):=by
 have hl:=Cl.Dx hc
 have hsv:∀ d:Cl,d.sv=.agg [.arr (d.lits.map Lt.d)]:=fun d=>rfl
 have h1:=KX c.lits (by omega) (fun x hx=>Dk (Cl.Ci hc x hx))
 rw [QcO (Cl.Qbz hc),hsv] at h1
 rw [hsv,hsv]
 refine Af Q6 Kx (of_decide_eq_true rfl) ?_
 simp (disch:=omega) only [Kw,go_sem,Ab,h1,AF]
 refine go_loop (α:=Int × Cl) (fun a=>⟨slots 25 0 [(2,.ptr 0 0),(4,.ptr 1 0),(5,.int .i64 a.1)],[.box 60 [.nil],.box 60 [.arr (a.2.lits.map Lt.d)]]⟩) (fun a=>∃ k:Nat,a.1=k∧k≤10∧a.2.ok=true∧nz (10-k) a.2=nz 10 c) (fun a=>10-a.1.toNat) (0,c) ⟨0,rfl,zH _,hc,rfl⟩ (by simp (disch:=omega) only [go_sem,Ab]) ?_
 rintro ⟨i,d⟩ ⟨k,hi,hk,hd,hR⟩
 dsimp only at hi hd hR
 have n1:=Wp d hd
 have n2:=UF d hd
 have n4:=ZF d hd d.ns rfl ⟨#[88]⟩ (by decide +kernel) (Cl.xE hd)
 have n5:=Xx d ⟨by have:=Cl.Dx hd; omega,fun y hy=>by have:=Tm.Cm (Cl.Ci hd y hy); omega⟩
 rw [hd] at n5
 rw [hsv] at n1 n2 n5
 rw [hsv,hsv] at n4
 rcases zB k 10 with hlt | hge
 ·obtain ⟨m,hm⟩:∃ m,10-k=m+1:=⟨9-k,by omega⟩
  rw [hm,nz] at hR
  cases hn:d.norm with
  | true =>
   rw [hn,cond_true] at hR
   rw [hn] at n1
   rw [←hR]
   simp (disch:=omega) only [go_sem,Ab,n1,n2,n4,n5,DN,Ei,ED,Cq]
  | false =>
   rw [hn,cond_false] at hR
   rw [hn] at n1
   simp (disch:=omega) only [go_sem,Ab,n1,n2,n4,n5,DN,Ei,ED,Cq]
   refine ⟨(i+1,d.rn (Ht Te d.ns)),⟨k+1,by dsimp only; omega,by omega,Cl.QcP (Cl.xE hd) hd,by rw [show 10-(k+1)=m by omega]; exact hR⟩,by dsimp only; omega,?_⟩
   first | trivial | rfl
 ·obtain rfl:k=10:=by omega
  have hR:d=nz 10 c:=hR
  rw [←hR]
  simp (disch:=omega) only [go_sem,Ab,n1,n2,n4,n5,DN,Ei,ED,Cq]
mutual
noncomputable def Fm.ats:Fm→List Tm
 | .mk op atom _ parts=>bif dec (op=3) then [atom] else Fm.QbA parts
noncomputable def Fm.QbA:List Fm→List Tm
 | []=>[]
 | x :: xs=>Fm.ats x++Fm.QbA xs
end
theorem Fm.Qfg (x:Fm):x.ats=bif dec (x.op=3) then [x.atom] else Fm.QbA x.parts:=by
 obtain ⟨op,atom,var,parts⟩:=x
 rw [Fm.ats]; rfl
mutual
noncomputable def Tm.sy1:Tm→List ByteArray
 | .mk n args=>(bif E0 n then [n] else [])++Tm.QbB args
noncomputable def Tm.QbB:List Tm→List ByteArray
 | []=>[]
 | x :: xs=>Tm.sy1 x++Tm.QbB xs
end
theorem Tm.Qfh (x:Tm):x.sy1=(bif E0 x.name then [x.name] else [])++Tm.QbB x.args:=by
 obtain ⟨n,args⟩:=x
 rw [Tm.sy1]; rfl
mutual
noncomputable def Tm.sy2:Tm→List ByteArray
 | .mk n args=>(bif !AY n&&!dec (n=⟨#[]⟩) then [n] else [])++Tm.sy2L args
noncomputable def Tm.sy2L:List Tm→List ByteArray
 | []=>[]
 | x :: xs=>Tm.sy2 x++Tm.sy2L xs
end
theorem Tm.sy2_eq (x:Tm):x.sy2=(bif !AY x.name&&!dec (x.name=⟨#[]⟩) then [x.name] else [])++Tm.sy2L x.args:=by
 obtain ⟨n,args⟩:=x
 rw [Tm.sy2]; rfl
noncomputable def syA (l:List Tm):List ByteArray:=l.flatMap Tm.sy1
mutual
noncomputable def Fm.sy2:Fm→List ByteArray
 | .mk _ atom _ parts=>atom.sy2++Fm.sy2L parts
noncomputable def Fm.sy2L:List Fm→List ByteArray
 | []=>[]
 | x :: xs=>Fm.sy2 x++Fm.sy2L xs
end
theorem Fm.sy2_eq (x:Fm):x.sy2=x.atom.sy2++Fm.sy2L x.parts:=by
 obtain ⟨op,atom,var,parts⟩:=x
 rw [Fm.sy2]; rfl
theorem Tm.QaH (x:Tm):x.sy1.length≤x.nodes:=by
 have key:∀ xs:List Tm,(∀ y∈xs,y.sy1.length≤y.nodes)→(Tm.QbB xs).length≤Tm.nodeS xs:=by
  intro xs
  induction xs with
  | nil=>intro _; simp [Tm.QbB]
  | cons y ys ih =>
   intro h
   have h1:=h y (by simp)
   have h2:=ih fun z hz=>h z (by simp [hz])
   rw [Tm.QbB,Tm.nodeS,zG]; omega
 have h:=key x.args fun y hy=>Tm.QaH y
 rw [Tm.Qfh,Tm.nodes_eq,zG]
 cases E0 x.name with
 | true=>simp only [cond_true,yO]; omega
 | false=>simp only [cond_false,zL]; omega
termination_by SizeOf.sizeOf x
decreasing_by exact Tm.lt_of_mem hy
theorem Tm.sy2_len (x:Tm):x.sy2.length≤x.nodes:=by
 have key:∀ xs:List Tm,(∀ y∈xs,y.sy2.length≤y.nodes)→(Tm.sy2L xs).length≤Tm.nodeS xs:=by
  intro xs
  induction xs with
  | nil=>intro _; simp [Tm.sy2L]
  | cons y ys ih =>
   intro h
   have h1:=h y (by simp)
   have h2:=ih fun z hz=>h z (by simp [hz])
   rw [Tm.sy2L,Tm.nodeS,zG]; omega
 have h:=key x.args fun y hy=>Tm.sy2_len y
 rw [Tm.sy2_eq,Tm.nodes_eq,zG]
 cases !AY x.name&&!dec (x.name=⟨#[]⟩) with
 | true=>simp only [cond_true,yO]; omega
 | false=>simp only [cond_false,zL]; omega
termination_by SizeOf.sizeOf x
decreasing_by exact Tm.lt_of_mem hy
theorem Fm.sy2_len (x:Fm):x.sy2.length≤x.vn:=by
 have key:∀ xs:List Fm,(∀ y∈xs,y.sy2.length≤y.vn)→(Fm.sy2L xs).length≤Fm.vnS xs:=by
  intro xs
  induction xs with
  | nil=>intro _; simp [Fm.sy2L]
  | cons y ys ih =>
   intro h
   have h1:=h y (by simp)
   have h2:=ih fun z hz=>h z (by simp [hz])
   rw [Fm.sy2L,Fm.vnS,zG]; omega
 have h:=key x.parts fun y hy=>Fm.sy2_len y
 have h2:=Tm.sy2_len x.atom
 rw [Fm.sy2_eq,Fm.U0,zG]; omega
termination_by SizeOf.sizeOf x
decreasing_by exact Fm.lt_of_mem hy
theorem Fm.UG (x:Fm):Tm.nodeS x.ats≤x.vn:=by
 have app:∀ a b:List Tm,Tm.nodeS (a++b)=Tm.nodeS a+Tm.nodeS b:=by
  intro a b
  induction a with
  | nil=>simp [Tm.nodeS]
  | cons y ys ih=>rw [List.cons_append,Tm.nodeS,Tm.nodeS,ih]; omega
 have key:∀ xs:List Fm,(∀ y∈xs,Tm.nodeS y.ats≤y.vn)→Tm.nodeS (Fm.QbA xs)≤Fm.vnS xs:=by
  intro xs
  induction xs with
  | nil=>intro _; simp [Fm.QbA,Tm.nodeS]
  | cons y ys ih =>
   intro h
   have h1:=h y (by simp)
   have h2:=ih fun z hz=>h z (by simp [hz])
   rw [Fm.QbA,Fm.vnS,app]; omega
 have h:=key x.parts fun y hy=>Fm.UG y
 rw [Fm.Qfg,Fm.U0]
 cases dec (x.op=3) with
 | true=>simp only [cond_true,Tm.nodeS]; omega
 | false=>simp only [cond_false]; omega
termination_by SizeOf.sizeOf x
decreasing_by exact Fm.lt_of_mem hy
theorem Lz {x:Fm} (h:x.valid=true):x.nodes≤40∧x.forms=true:=by
 unfold Fm.valid at h
 rw [yH,decide_eq_true_eq] at h
 exact h
theorem Yo (x:Fm) (hx:x.forms=true) (hn:x.nodes≤40):x.vn≤1200∧x.free.length≤1200∧(syA x.ats).length≤1200∧x.sy2.length≤1200:=by
 have h1:=Fm.Qe3 x hx
 have h2:=E3 (x.fv []) []
 have h3:=Fm.JP x []
 have h4:x.free.length≤1200:=by
  simp only [zL] at h2
  show (C4 [] (x.fv [])).length≤_
  omega
 have h5:=Fm.UG x
 have h6:∀ l:List Tm,(syA l).length≤Tm.nodeS l:=by
  intro l
  induction l with
  | nil=>simp [syA,Tm.nodeS]
  | cons t l ih =>
   have:=Tm.QaH t
   unfold syA at ih ⊢
   rw [yT,zG,Tm.nodeS]; omega
 have h7:=h6 x.ats
 have h8:=Fm.sy2_len x
 exact ⟨by omega,h4,by omega,by omega⟩
end Go.Proofs.YtepbennkcbmgoaaGreatDoor
