/-
  Texts of this claim, one behind the other, each built on those ahead of it. No condition.
-/
import Derived.Test.YtibdknkacmimgaaGreatDoorK50c
set_option maxHeartbeats 16000000
open Bool renaming and_eq_true → zA, and_false → zK, true_and → yB, false_and → yF, and_true → yI, false_or → yW
open Nat renaming lt_or_ge → zB, zero_le → zH, eq_zero_or_pos → zJ, le_refl → zN, not_lt → y2
open List renaming drop_eq_getElem_cons → zC, getElem_mem → zD, length_map → zE, drop_eq_nil_of_le → zF, drop_zero → zG, eq_nil_of_length_eq_zero → zI, length_cons → zL, map_nil → zM, all_eq_true → zO, length_take → zP, map_cons → zQ, take_length → zR, getElem?_eq_getElem → zS, length_nil → zT, nil_append → zU, foldl_cons → zV, getElem_of_mem → zX, pairwise_cons → zY, getElem_map → zZ, take_zero → z7, take_succ_eq_append_getElem → yA, mem_cons → yC, length_append → yD, map_append → yE, cons_append → yG, pairwise_iff_getElem → yH, getElem_cons_succ → yL, getElem_cons_zero → yM, map_map → yN, mem_map → yO, foldl_nil → yP, getElem?_eq_none → yQ, mem_append → yR, mem_singleton → yS, getElem?_append_right → yU, foldl_append → yV, append_nil → yZ
open Int renaming tdiv_eq_ediv_of_nonneg → zW, toNat_zero → z8, toNat_natCast → yK, tmod_eq_emod_of_nonneg → yT
open Option.some renaming inj → yJ
open List.cons renaming inj → yX
open Option renaming getD_none → yY
open List.Pairwise renaming nil → y3
set_option maxRecDepth 100000
set_option linter.unusedSimpArgs false
set_option linter.unusedVariables false
set_option linter.unusedSectionVars false
namespace Go.Proofs.YtibdknkacmimgaaGreatDoor
open Go.RowKit
namespace Wd
attribute [local go_sem] Fv T8 SV.isNil Ob.idsB SV.idsB SV.Ng List.getElem?_cons_zero List.getElem?_cons_succ OT.AM OT.Dr OT.full entry toTree W7 TF W6 Gr GI EU ZT Qy Yv OT.erss OT.ers OT.er OT.Cx OT.ER OT.noSh quiet obB SB GB meets Jt go_skip UT go_ret YK UU YL Rp UV UW UX YM YN YO Qc8 Qc9 QcA UY UZ Rq O8 Va Rr O9 Vb YR YS QcB YT YU YV QcC YW YX Rt YZ Za Zb Zc Zd Ze Zf Zg QK TC CT seen OA MC Vd Ve Zh OB Ei Ru Rv Rw Zj Zk Vh Zl order opF fOp F0 Wu Qcl Ws Wt ZS Jy eqK A3 gets Ao Q9 EI Ds M1 PI AO Wy SV.cellsN SV.one Kt splice Er U7 Ks LW DP BB Ch B5 Ku Kv VX eOp.mkEs eOp.addS D.sv OT.sv D.ot Ix nodupB reach SV.refs SV.QI SV.ptrs SV.QJ Ob.refs Ob.liveB FY E8 SV.back SV.Ni Ob.back Iw IN CG Bi Bt Iz FK SV.ren SV.M3 Ob.ren mkU sgp gc Nj names M7 ZX ZY ZZ Ov Qba Qab Qac Qad Qae Qaf Qag SC.mark QP FZ slots Oq Wo rxV LP TB SV.noSh SV.Nf Ob.noSh SV.own SV.SF Gq cond_true cond_false zL zT zQ zM List.drop_succ_cons zG List.drop_nil List.take_succ_cons z7 List.take_nil yZ zU yG List.all_cons List.all_nil List.getD_cons_zero List.getD_cons_succ List.any_cons List.any_nil List.contains_cons List.contains_nil List.isEmpty_nil List.isEmpty_cons List.flatten_cons List.flatten_nil List.replicate_succ List.replicate_zero List.set_cons_zero List.set_cons_succ Nat.add_zero Nat.zero_add zN zH yI yB Bool.and_self Bool.or_false yW Bool.true_or Bool.or_true Bool.not_true Bool.not_false yF zK decide_true decide_false beq_self_eq_true if_true if_false Option.map_some Option.map_none Option.some.injEq Option.getD_some yY yK true_and and_true and_self eq_self_iff_true zE Bool.false_eq_true Bool.true_eq_false Prod.mk.injEq SV.int.injEq SV.bool.injEq SV.str.injEq SV.agg.injEq SV.tup.injEq SV.arr.injEq List.cons.injEq St.mk.injEq Int.zero_add QcD QcE Qao As Az QeS svK svD QaO svM MV.sv VW Ww QH Wx GR St.app UG MK.sv OC OD OE Vf Vg mode
def C6:SC:=(.seq (.reg [⟨some 2,none,.mv (.c (.bool false))⟩]) (.seq (.reg [⟨some 3,none,.mv (.t 0)⟩,⟨some 4,none,.mv (.t 0)⟩,⟨some 5,none,.bin .neq false (.t 3) (.t 4)⟩,⟨some 2,none,.mv (.t 5)⟩]) .ret))
theorem EO:codeOf Tryz.prog 168=some ⟨6,C6,[(.tmp 2)]⟩:=by kernel_rfl
theorem Bg:modes 168=⟨[],.asis,none,false⟩:=by unfold modes; rfl
def D8:SC:=(.seq (.reg [⟨some 2,none,.mv (.c (.bool false))⟩]) (.seq (.reg [⟨some 3,none,.mv (.t 0)⟩,⟨some 4,none,.mv (.t 0)⟩,⟨some 5,none,.bin .neq false (.t 3) (.t 4)⟩,⟨some 2,none,.mv (.t 5)⟩]) .ret))
theorem Gt:codeOf Tryz.prog 156=some ⟨6,D8,[(.tmp 2)]⟩:=by kernel_rfl
theorem B6:modes 156=⟨[],.asis,none,false⟩:=by unfold modes; rfl
def AR:SC:=(.seq (.reg [⟨some 4,none,.mv (.c (.int .i64 0))⟩]) (.seq (.reg [⟨some 7,none,.mv (.t 0)⟩,⟨some 8,none,.call 168 [(.t 7)]⟩,⟨some 5,none,.mv (.t 8)⟩]) (.seq (.reg [⟨some 9,none,.mv (.t 1)⟩,⟨some 10,none,.call 168 [(.t 9)]⟩,⟨some 6,none,.mv (.t 10)⟩]) (.seq (.seq (.reg [⟨some 11,none,.mv (.t 5)⟩]) (.cond (.t 11) (.seq (.seq (.reg [⟨some 12,none,.mv (.t 6)⟩]) (.cond (.t 12) (.seq (.reg [⟨some 4,none,.mv (.c (.int .i64 0))⟩]) .ret) .skip)) (.seq (.reg [⟨some 4,none,.mv (.c (.int .i64 (-(0+1))))⟩]) .ret)) .skip)) (.seq (.seq (.reg [⟨some 13,none,.mv (.t 6)⟩]) (.cond (.t 13) (.seq (.reg [⟨some 4,none,.mv (.c (.int .i64 1))⟩]) .ret) .skip)) (.seq (.seq (.reg [⟨some 14,none,.mv (.t 0)⟩,⟨some 15,none,.mv (.t 1)⟩,⟨some 16,none,.bin .lss false (.t 14) (.t 15)⟩]) (.cond (.t 16) (.seq (.reg [⟨some 4,none,.mv (.c (.int .i64 (-(0+1))))⟩]) .ret) .skip)) (.seq (.seq (.reg [⟨some 17,none,.mv (.t 0)⟩,⟨some 18,none,.mv (.t 1)⟩,⟨some 19,none,.bin .gtr false (.t 17) (.t 18)⟩]) (.cond (.t 19) (.seq (.reg [⟨some 4,none,.mv (.c (.int .i64 1))⟩]) .ret) .skip)) (.seq (.reg [⟨some 4,none,.mv (.c (.int .i64 0))⟩]) .ret))))))))
theorem Bv:codeOf Tryz.prog 136=some ⟨20,AR,[(.tmp 4)]⟩:=by kernel_rfl
theorem AA:modes 136=⟨[],.asis,none,false⟩:=by unfold modes; rfl
def Bo:SC:=(.seq (.reg [⟨some 4,none,.mv (.c (.int .i64 0))⟩]) (.seq (.reg [⟨some 7,none,.mv (.t 0)⟩,⟨some 8,none,.call 156 [(.t 7)]⟩,⟨some 5,none,.mv (.t 8)⟩]) (.seq (.reg [⟨some 9,none,.mv (.t 1)⟩,⟨some 10,none,.call 156 [(.t 9)]⟩,⟨some 6,none,.mv (.t 10)⟩]) (.seq (.seq (.reg [⟨some 11,none,.mv (.t 5)⟩]) (.cond (.t 11) (.seq (.seq (.reg [⟨some 12,none,.mv (.t 6)⟩]) (.cond (.t 12) (.seq (.reg [⟨some 4,none,.mv (.c (.int .i64 0))⟩]) .ret) .skip)) (.seq (.reg [⟨some 4,none,.mv (.c (.int .i64 (-(0+1))))⟩]) .ret)) .skip)) (.seq (.seq (.reg [⟨some 13,none,.mv (.t 6)⟩]) (.cond (.t 13) (.seq (.reg [⟨some 4,none,.mv (.c (.int .i64 1))⟩]) .ret) .skip)) (.seq (.seq (.reg [⟨some 14,none,.mv (.t 0)⟩,⟨some 15,none,.mv (.t 1)⟩,⟨some 16,none,.bin .lss false (.t 14) (.t 15)⟩]) (.cond (.t 16) (.seq (.reg [⟨some 4,none,.mv (.c (.int .i64 (-(0+1))))⟩]) .ret) .skip)) (.seq (.seq (.reg [⟨some 17,none,.mv (.t 0)⟩,⟨some 18,none,.mv (.t 1)⟩,⟨some 19,none,.bin .gtr false (.t 17) (.t 18)⟩]) (.cond (.t 19) (.seq (.reg [⟨some 4,none,.mv (.c (.int .i64 1))⟩]) .ret) .skip)) (.seq (.reg [⟨some 4,none,.mv (.c (.int .i64 0))⟩]) .ret))))))))
theorem BL:codeOf Tryz.prog 122=some ⟨20,Bo,[(.tmp 4)]⟩:=by kernel_rfl
theorem AH:modes 122=⟨[],.asis,none,false⟩:=by unfold modes; rfl
def Fc:SC:=(.seq (.reg [⟨some 2,none,.mv (.c (.int .i64 0))⟩]) (.seq (.reg [⟨some 3,none,.mv (.c (.int .i64 0))⟩]) (.seq (.seq (.reg [⟨some 6,none,.mv (.t 0)⟩,⟨some 7,none,.len false (.t 6)⟩,⟨some 8,none,.mv (.c (.int .i64 0))⟩]) (.block 0 (.loop [0,0,0,1,0,0,1,1,1,0,0,0,0,0,0,0,0,0] (.seq (.reg [⟨some 9,none,.bin .lss false (.t 8) (.t 7)⟩]) (.seq (.cond (.t 9) .skip (.exit 0)) (.seq (.block 1 (.seq (.reg [⟨some 10,none,.iaddr 1 (.t 6) (.t 8)⟩,⟨some 11,none,.load false 1 (.t 10)⟩,⟨some 5,none,.mv (.t 11)⟩]) (.seq (.reg [⟨some 12,none,.mv (.t 5)⟩,⟨some 13,none,.mv (.t 3)⟩,⟨some 14,none,.bin .neq false (.t 12) (.t 13)⟩]) (.cond (.t 14) (.seq (.reg [⟨some 15,none,.mv (.t 5)⟩,⟨some 2,none,.mv (.t 15)⟩]) .ret) .skip)))) (.reg [⟨some 16,none,.bin .add false (.t 8) (.c (.int .i64 1))⟩,⟨some 8,none,.mv (.t 16)⟩]))))))) (.seq (.reg [⟨some 17,none,.mv (.t 3)⟩,⟨some 2,none,.mv (.t 17)⟩]) .ret))))
theorem JC:codeOf Tryz.prog 120=some ⟨18,Fc,[(.tmp 2)]⟩:=by kernel_rfl
theorem Cy:modes 120=⟨[],.asis,none,false⟩:=by unfold modes; rfl
theorem KJ (a:ByteArray):E 168 [.str a] []=some (.bool false,[]):=by
 refine Af EO Bg (of_decide_eq_true rfl) ?_
 simp (disch:=omega) only [C6,go_sem,Aa]
theorem KL (a:Int):E 156 [.int .i64 a] []=some (.bool false,[]):=by
 refine Af Gt B6 (of_decide_eq_true rfl) ?_
 simp (disch:=omega) only [D8,go_sem,Aa]
theorem JD (a b:ByteArray):E 136 [.str a,.str b] []=some (.int .i64 (EK a b),[]):=by
 have h1:=KJ a
 have h2:=KJ b
 unfold EK
 cases h3:strLt a b
 ·cases h4:dec (a=b)
  ·refine Af Bv AA (of_decide_eq_true rfl) ?_
   simp (disch:=omega) only [AR,go_sem,Aa,h1,h2,h3,h4,Bg]
  ·refine Af Bv AA (of_decide_eq_true rfl) ?_
   simp (disch:=omega) only [AR,go_sem,Aa,h1,h2,h3,h4,Bg]
 ·refine Af Bv AA (of_decide_eq_true rfl) ?_
  simp (disch:=omega) only [AR,go_sem,Aa,h1,h2,h3,Bg]
theorem Ho (a b:Int):E 122 [.int .i64 a,.int .i64 b] []=some (.int .i64 (Hd a b),[]):=by
 have h1:=KL a
 have h2:=KL b
 unfold Hd
 cases h3:dec (a<b)
 ·cases h4:dec (b<a)
  ·refine Af BL AH (of_decide_eq_true rfl) ?_
   simp (disch:=omega) only [Bo,go_sem,Aa,h1,h2,h3,h4,B6]
  ·refine Af BL AH (of_decide_eq_true rfl) ?_
   simp (disch:=omega) only [Bo,go_sem,Aa,h1,h2,h3,h4,B6]
 ·refine Af BL AH (of_decide_eq_true rfl) ?_
  simp (disch:=omega) only [Bo,go_sem,Aa,h1,h2,h3,B6]
def orL:List Int→Int
 | []=>0
 | x :: xs=>if x=0 then orL xs else x
theorem QeY (xs:List Int) (hl:xs.length≤1099511627776):E 120 [.arr (xs.map fun n=>[D.int n])] []=some (.int .i64 (orL xs),[]):=by
 refine Af JC Cy (of_decide_eq_true rfl) ?_
 simp (disch:=omega) only [Fc,go_sem,Aa]
 refine go_loop (α:=Int) (fun a=>⟨slots 18 0 [(3,.int .i64 0),(6,.arr (xs.map fun n=>[D.int n])),(7,.int .i64 xs.length),(8,.int .i64 a)],[]⟩) (fun a=>∃ k:Nat,a=k∧k≤(xs).length∧orL (xs.drop k)=orL xs) (fun a=>(xs).length-(a).toNat) 0 ⟨0,rfl,zH _,by rw [zG]⟩ (by simp (disch:=omega) only [go_sem,Aa]) ?_
 rintro i ⟨k,hi,hk,hR⟩
 have hni:i.toNat=k:=by omega
 have hni1:(i+1).toNat=k+1:=by omega
 rcases zB k (xs).length with hlt | hge
 ·have hg:=get_at (fun n=>[D.int n]) hlt
  rw [zC hlt,orL] at hR
  by_cases h0:xs[k]=0
  ·rw [if_pos h0] at hR
   simp (disch:=omega) only [go_sem,Aa,hni,hg,h0]
   exact ⟨i+1,⟨k+1,by omega,hlt,hR⟩,by omega,by first | trivial | rfl⟩
  ·rw [if_neg h0] at hR
   simp (disch:=omega) only [go_sem,Aa,hni,hg,h0]
   exact hR
 ·rw [zF hge,orL] at hR
  simp (disch:=omega) only [go_sem,Aa,hni]
  exact hR
theorem WT (a b:Int):E 120 [.arr [[.int a],[.int b]]] []=some (.int .i64 (orZ a b),[]):=by
 have h:=QeY [a,b] (by simp)
 have e:orL [a,b]=orZ a b:=by
  simp only [orL,orZ]
  split
  ·split <;> omega
  ·rfl
 rw [e] at h
 exact h
def C7:SC:=(.seq (.reg [⟨some 2,none,.mv (.c (.bool false))⟩]) (.seq (.reg [⟨some 3,none,.mv (.t 0)⟩,⟨some 4,none,.bin .geq false (.t 3) (.c (.int .u8 65))⟩,⟨some 5,none,.mv (.t 4)⟩,⟨(some 6),(some (5,true)),(.mv (.t 0))⟩,⟨(some 7),(some (5,true)),(.bin .leq false (.t 6) (.c (.int .u8 90)))⟩,⟨some 8,none,.pick (.t 5) (.t 7) (.c (.bool false))⟩,⟨some 2,none,.mv (.t 8)⟩]) .ret))
theorem DW:codeOf Tryz.prog 129=some ⟨9,C7,[(.tmp 2)]⟩:=by kernel_rfl
theorem C8:modes 129=⟨[],.asis,none,false⟩:=by unfold modes; rfl
def Fd:SC:=(.seq (.reg [⟨some 1,none,.boxv 71 2 (.t 0)⟩,⟨some 2,none,.mv (.c (.bool false))⟩]) (.seq (.reg [⟨some 3,none,.faddr 0 (.t 1)⟩,⟨some 4,none,.load false 1 (.t 3)⟩,⟨some 5,none,.idx (.t 4) (.c (.int .i64 0))⟩,⟨some 6,none,.call 129 [(.t 5)]⟩,⟨some 2,none,.mv (.t 6)⟩]) .ret))
theorem JE:codeOf Tryz.prog 89=some ⟨7,Fd,[(.tmp 2)]⟩:=by kernel_rfl
theorem Ak:modes 89=⟨[],.asis,none,false⟩:=by unfold modes; rfl
theorem OJ (n:Int):E 129 [.int .u8 n] []=some (.bool (dec (65≤n)&&dec (n≤90)),[]):=by
 cases h1:dec (65≤n)
 ·refine Af DW C8 (of_decide_eq_true rfl) ?_
  simp (disch:=omega) only [C7,go_sem,Aa,h1]
 ·refine Af DW C8 (of_decide_eq_true rfl) ?_
  simp (disch:=omega) only [C7,go_sem,Aa,h1]
theorem De (x:Tm) (h:x.cok=true):E 89 [x.sv] []=some (.bool (Aq x.name),[]):=by
 rw [Tm.KB,zA] at h
 obtain ⟨h1,h2⟩:=Ub h.1
 have h3:=OJ (Ju x.name 0)
 rw [h2] at h3
 refine Af JE Ak (of_decide_eq_true rfl) ?_
 simp (disch:=omega) only [Fd,go_sem,Aa,h3,C8]
def At:SC:=(.seq (.reg [⟨some 6,none,.mv (.c (.int .i64 0))⟩]) (.seq (.seq (.reg [⟨some 11,none,.mv (.t 0)⟩,⟨some 12,none,.len false (.t 11)⟩,⟨some 13,none,.mv (.c (.int .i64 0))⟩]) (.block 0 (.loop [1,1,1,0,0,0,0,0,0,0,0,1,1,1,0,0,0,0,0,0,0,0,0,0,0,0,0,0,0,0,0,0,0,0,0,0,0,0,0] (.seq (.reg [⟨some 14,none,.bin .lss false (.t 13) (.t 12)⟩]) (.seq (.cond (.t 14) .skip (.exit 0)) (.seq (.block 1 (.seq (.reg [⟨some 15,none,.mv (.t 13)⟩,⟨some 16,none,.iaddr 2 (.t 11) (.t 13)⟩,⟨some 17,none,.load true 2 (.t 16)⟩,⟨(some 8),none,(.alloc 71 [(.str ⟨#[]⟩),.nil])⟩,⟨some 7,none,.mv (.t 15)⟩,⟨none,none,(.store 2 (.t 8) (.t 17))⟩]) (.seq (.seq (.reg [⟨some 18,none,.mv (.t 7)⟩,⟨some 19,none,.mv (.t 1)⟩,⟨some 20,none,.len false (.t 19)⟩,⟨some 21,none,.bin .geq false (.t 18) (.t 20)⟩]) (.cond (.t 21) (.seq (.reg [⟨some 6,none,.mv (.c (.int .i64 1))⟩]) .ret) .skip)) (.seq (.reg [⟨some 22,none,.mv (.t 1)⟩,⟨some 23,none,.mv (.t 7)⟩,⟨some 24,none,.iaddr 2 (.t 22) (.t 23)⟩,⟨some 25,none,.load true 2 (.t 24)⟩,⟨(some 9),none,(.alloc 71 [(.str ⟨#[]⟩),.nil])⟩,⟨none,none,(.store 2 (.t 9) (.t 25))⟩]) (.seq (.reg [⟨some 26,none,.mv (.t 2)⟩,⟨some 27,none,.load true 2 (.t 8)⟩,⟨some 28,none,.load true 2 (.t 9)⟩,⟨some 29,none,.callv (.t 26) [(.t 27),(.t 28)]⟩,⟨some 10,none,.mv (.t 29)⟩]) (.seq (.reg [⟨some 30,none,.mv (.t 10)⟩,⟨some 31,none,.bin .neq false (.t 30) (.c (.int .i64 0))⟩]) (.cond (.t 31) (.seq (.reg [⟨some 32,none,.mv (.t 10)⟩,⟨some 6,none,.mv (.t 32)⟩]) .ret) .skip))))))) (.reg [⟨some 33,none,.bin .add false (.t 13) (.c (.int .i64 1))⟩,⟨some 13,none,.mv (.t 33)⟩]))))))) (.seq (.seq (.reg [⟨some 34,none,.mv (.t 0)⟩,⟨some 35,none,.len false (.t 34)⟩,⟨some 36,none,.mv (.t 1)⟩,⟨some 37,none,.len false (.t 36)⟩,⟨some 38,none,.bin .lss false (.t 35) (.t 37)⟩]) (.cond (.t 38) (.seq (.reg [⟨some 6,none,.mv (.c (.int .i64 (-(0+1))))⟩]) .ret) .skip)) (.seq (.reg [⟨some 6,none,.mv (.c (.int .i64 0))⟩]) .ret))))
theorem AB:codeOf Tryz.prog 155=some ⟨39,At,[(.tmp 6)]⟩:=by kernel_rfl
theorem Au:modes 155=⟨[],.asis,none,false⟩:=by unfold modes; rfl
def Bz:SC:=(.seq (.reg [⟨some 2,none,.boxv 71 2 (.t 0)⟩,⟨some 3,none,.boxv 71 2 (.t 1)⟩,⟨some 4,none,.mv (.c (.int .i64 0))⟩]) (.seq (.dreg [[],[0],[],[2,1,0],[1,0,3,2],[3,2,1,0,4]] [⟨some 8,none,.load true 2 (.t 2)⟩,⟨some 9,none,.call 89 [(.t 8)]⟩,⟨some 10,none,.load true 2 (.t 3)⟩,⟨some 11,none,.call 89 [(.t 10)]⟩,⟨some 5,none,.mv (.t 9)⟩,⟨some 6,none,.mv (.t 11)⟩]) (.seq (.block 0 (.seq (.reg [⟨some 13,none,.mv (.t 5)⟩,⟨some 14,none,.mv (.t 13)⟩,⟨(some 15),(some (14,true)),(.mv (.t 6))⟩,⟨(some 16),(some (14,true)),(.un .not (.t 15))⟩,⟨some 17,none,.pick (.t 14) (.t 16) (.c (.bool false))⟩,⟨some 12,none,.mv (.t 17)⟩]) (.cond (.t 12) (.seq (.reg [⟨some 4,none,.mv (.c (.int .i64 (-(0+1))))⟩]) .ret) (.seq (.reg [⟨some 19,none,.mv (.t 6)⟩,⟨some 20,none,.mv (.t 19)⟩,⟨(some 21),(some (20,true)),(.mv (.t 5))⟩,⟨(some 22),(some (20,true)),(.un .not (.t 21))⟩,⟨some 23,none,.pick (.t 20) (.t 22) (.c (.bool false))⟩,⟨some 18,none,.mv (.t 23)⟩]) (.cond (.t 18) (.seq (.reg [⟨some 4,none,.mv (.c (.int .i64 1))⟩]) .ret) .skip))))) (.seq (.seq (.dreg [[],[0],[],[2],[1,0,3,2],[],[5],[6,5],[],[8],[9,8],[7,6,5,10,9,8,4,1,0,3,2],[4,1,0,3,2,11,7,6,5,10,9,8],[12,4,1,0,3,2,11,7,6,5,10,9,8],[13,12,4,1,0,3,2,11,7,6,5,10,9,8]] [⟨some 24,none,.faddr 0 (.t 2)⟩,⟨some 25,none,.load false 1 (.t 24)⟩,⟨some 26,none,.faddr 0 (.t 3)⟩,⟨some 27,none,.load false 1 (.t 26)⟩,⟨some 28,none,.call 136 [(.t 25),(.t 27)]⟩,⟨some 29,none,.faddr 1 (.t 2)⟩,⟨some 30,none,.load false 1 (.t 29)⟩,⟨some 31,none,.len false (.t 30)⟩,⟨some 32,none,.faddr 1 (.t 3)⟩,⟨some 33,none,.load false 1 (.t 32)⟩,⟨some 34,none,.len false (.t 33)⟩,⟨some 35,none,.call 122 [(.t 31),(.t 34)]⟩,⟨some 36,none,.mkrow 3 1 [(.int .i64 0)] 2 [(0,(.t 28)),(1,(.t 35))]⟩,⟨some 37,none,.call 120 [(.t 36)]⟩,⟨some 7,none,.mv (.t 37)⟩]) (.seq (.reg [⟨some 38,none,.mv (.t 7)⟩,⟨some 39,none,.bin .neq false (.t 38) (.c (.int .i64 0))⟩]) (.cond (.t 39) (.seq (.reg [⟨some 40,none,.mv (.t 7)⟩,⟨some 4,none,.mv (.t 40)⟩]) .ret) .skip))) (.seq (.reg [⟨some 41,none,.faddr 1 (.t 2)⟩,⟨some 42,none,.load false 1 (.t 41)⟩,⟨some 43,none,.faddr 1 (.t 3)⟩,⟨some 44,none,.load false 1 (.t 43)⟩,⟨some 45,none,.call 155 [(.t 42),(.t 44),(.c (.fn 121 []))]⟩,⟨some 4,none,.mv (.t 45)⟩]) .ret)))))
theorem Cu:codeOf Tryz.prog 121=some ⟨46,Bz,[(.tmp 4)]⟩:=by kernel_rfl
theorem AW:modes 121=⟨[],.asis,none,false⟩:=by unfold modes; rfl
theorem Eu:Kk Tryz.prog 121=true:=by kernel_rfl
theorem I6 (fid:Nat) (xs ys:List Tm) (hl:xs.length≤1099511627776) (hl':ys.length≤1099511627776) (hg:Kk Tryz.prog fid=true) (hm:(modes fid).hand=[]) (hE:∀ x∈xs,∀ y∈ys,E fid [x.sv,y.sv] []=some (.int .i64 (x.cmp y),[])):E 155 [.arr (xs.map Tm.d),.arr (ys.map Tm.d),.fn fid []] []=some (.int .i64 (Tm.cmpL xs ys),[]):=by
 refine Af AB Au (of_decide_eq_true rfl) ?_
 simp (disch:=omega) only [At,go_sem,Aa]
 refine go_loop (α:=Int) (fun a=>⟨slots 39 0 [(0,.arr (xs.map Tm.d)),(1,.arr (ys.map Tm.d)),(2,.fn fid []),(11,.arr (xs.map Tm.d)),(12,.int .i64 xs.length),(13,.int .i64 a)],[]⟩) (fun a=>∃ k:Nat,a=k∧k≤(xs).length∧k≤ys.length∧Tm.cmpL (xs.drop k) (ys.drop k)=Tm.cmpL xs ys) (fun a=>(xs).length-(a).toNat) 0 ⟨0,rfl,zH _,zH _,by rw [zG,zG]⟩ (by simp (disch:=omega) only [go_sem,Aa]) ?_
 rintro i ⟨k,hi,hk,hR⟩
 have hni:i.toNat=k:=by omega
 have hni1:(i+1).toNat=k+1:=by omega
 rcases zB k (xs).length with hlt | hge
 ·obtain ⟨hk',hR⟩:=hR
  have hgx:=get_at Tm.d hlt
  rw [Tm.d_eq] at hgx
  rcases zB k ys.length with hlt' | hge'
  ·have hgy:=get_at Tm.d hlt'
   rw [Tm.d_eq] at hgy
   have hc:=hE xs[k] (zD hlt) ys[k] (zD hlt')
   rw [OH hlt hlt'] at hR
   by_cases h0:xs[k].cmp ys[k]=0
   ·rw [orZ,if_pos h0] at hR
    rw [h0] at hc
    simp (disch:=omega) only [go_sem,Aa,hni,hgx,hgy,hc,hg,hm]
    exact ⟨i+1,⟨k+1,by omega,hlt,hlt',hR⟩,by omega,by first | trivial | rfl⟩
   ·rw [orZ,if_neg h0] at hR
    simp (disch:=omega) only [go_sem,Aa,hni,hgx,hgy,hc,hg,hm,h0]
    exact hR
  ·rw [R4 hlt hge'] at hR
   simp (disch:=omega) only [go_sem,Aa,hni,hgx]
   exact hR
 ·obtain ⟨hk',hR⟩:=hR
  obtain rfl:k=xs.length:=by omega
  rcases zB xs.length ys.length with hlt' | hge'
  ·rw [WS (zN _) hlt'] at hR
   simp (disch:=omega) only [go_sem,Aa,hni]
   exact hR
  ·rw [OI (zN _) hge'] at hR
   simp (disch:=omega) only [go_sem,Aa,hni]
   exact hR
abbrev SQ (f:FuncId) (x y:Tm):Prop:=x.cok=true→y.cok=true→x.nodes≤1099511627776→y.nodes≤1099511627776→E f [x.sv,y.sv] []=some (.int .i64 (x.cmp y),[])
theorem Gu (x:Tm) (ih:∀ x'∈x.args,∀ y,SQ 121 x' y) (y:Tm):SQ 121 x y:=by
 intro hx hy hnx hny
 have lx:=Tm.length_le x.args
 have ly:=Tm.length_le y.args
 have nx:=Tm.An x
 have ny:=Tm.An y
 have h1:=De x hx
 have h2:=De y hy
 have h3:=JD x.name y.name
 have h4:=Ho x.args.length y.args.length
 have h5:=WT (EK x.name y.name) (Hd x.args.length y.args.length)
 rw [Tm.KB,zA] at hx hy
 have h6:=I6 121 x.args y.args (by omega) (by omega) Eu (by rw [AW]) fun x' hx' y' hy'=>ih x' hx' y' (Tm.He hx.2 hx') (Tm.He hy.2 hy') (by have:=Tm.AU hx'; omega) (by have:=Tm.AU hy'; omega)
 rw [Tm.UO]
 cases vx:Aq x.name <;> rw [vx] at h1 <;> cases vy:Aq y.name <;> rw [vy] at h2
 all_goals
  simp only [Bool.not_true,Bool.not_false,yI,zK,yB,yF,if_true,if_false,Bool.false_eq_true]
  by_cases h0:orZ (EK x.name y.name) (Hd x.args.length y.args.length)=0
  ·rw [h0] at h5
   try rw [h0]
   refine Af Cu AW (of_decide_eq_true rfl) ?_
   simp (disch:=omega) only [Bz,go_sem,Aa,h1,h2,h3,h4,h5,h6,Ak,AA,AH,Cy,Au]
   try rfl
  ·try rw [orZ.eq_1 (orZ _ _) _,if_neg h0]
   refine Af Cu AW (of_decide_eq_true rfl) ?_
   simp (disch:=omega) only [Bz,go_sem,Aa,h0,h1,h2,h3,h4,h5,Ak,AA,AH,Cy]
theorem DX (x y:Tm):SQ 121 x y:=Gu x (fun x' hx' y'=>DX x' y') y
termination_by SizeOf.sizeOf x
decreasing_by exact Tm.Aw hx'
def DY:SC:=(.seq (.reg [⟨some 2,none,.mv (.c (.int .i64 0))⟩]) (.seq (.seq (.reg [⟨some 3,none,.mv (.t 0)⟩]) (.cond (.t 3) (.seq (.reg [⟨some 2,none,.mv (.c (.int .i64 1))⟩]) .ret) .skip)) (.seq (.reg [⟨some 2,none,.mv (.c (.int .i64 0))⟩]) .ret)))
theorem Gd:codeOf Tryz.prog 123=some ⟨4,DY,[(.tmp 2)]⟩:=by kernel_rfl
theorem DZ:modes 123=⟨[],.asis,none,false⟩:=by unfold modes; rfl
def BM:SC:=(.seq (.reg [⟨some 2,none,.boxv 73 3 (.t 0)⟩,⟨some 3,none,.boxv 73 3 (.t 1)⟩,⟨some 4,none,.mv (.c (.int .i64 0))⟩]) (.seq (.dreg [[],[0],[],[2],[1,0,3,2],[],[5],[6,5,4,1,0,3,2],[],[8],[9,8,7,6,5,4,1,0,3,2],[7,6,5,4,1,0,3,2,10,9,8],[4,1,0,3,2,11,7,6,5,10,9,8],[12,4,1,0,3,2,11,7,6,5,10,9,8],[13,12,4,1,0,3,2,11,7,6,5,10,9,8]] [⟨some 5,none,.faddr 1 (.t 2)⟩,⟨some 6,none,.load true 2 (.t 5)⟩,⟨some 7,none,.faddr 1 (.t 3)⟩,⟨some 8,none,.load true 2 (.t 7)⟩,⟨some 9,none,.call 121 [(.t 6),(.t 8)]⟩,⟨some 10,none,.faddr 0 (.t 2)⟩,⟨some 11,none,.load false 1 (.t 10)⟩,⟨some 12,none,.call 123 [(.t 11)]⟩,⟨some 13,none,.faddr 0 (.t 3)⟩,⟨some 14,none,.load false 1 (.t 13)⟩,⟨some 15,none,.call 123 [(.t 14)]⟩,⟨some 16,none,.call 122 [(.t 12),(.t 15)]⟩,⟨some 17,none,.mkrow 3 1 [(.int .i64 0)] 2 [(0,(.t 9)),(1,(.t 16))]⟩,⟨some 18,none,.call 120 [(.t 17)]⟩,⟨some 4,none,.mv (.t 18)⟩]) .ret))
theorem Dz:codeOf Tryz.prog 83=some ⟨19,BM,[(.tmp 4)]⟩:=by kernel_rfl
theorem Bh:modes 83=⟨[],.asis,none,false⟩:=by unfold modes; rfl
theorem R5 (b:Bool):E 123 [.bool b] []=some (.int .i64 (Hf b),[]):=by
 cases b
 ·refine Af Gd DZ (of_decide_eq_true rfl) ?_
  simp (disch:=omega) only [DY,go_sem,Aa]
  rfl
 ·refine Af Gd DZ (of_decide_eq_true rfl) ?_
  simp (disch:=omega) only [DY,go_sem,Aa]
  rfl
theorem compareLiterals_E (x y:Lt) (hx:x.atom.cok=true) (hy:y.atom.cok=true) (hnx:x.atom.nodes≤1099511627776) (hny:y.atom.nodes≤1099511627776):E 83 [x.sv,y.sv] []=some (.int .i64 (x.cmp y),[]):=by
 have h1:=DX x.atom y.atom hx hy hnx hny
 have h2:=R5 x.pos
 have h3:=R5 y.pos
 have h4:=Ho (Hf x.pos) (Hf y.pos)
 have h5:=WT (x.atom.cmp y.atom) (Hd (Hf x.pos) (Hf y.pos))
 unfold Lt.cmp
 refine Af Dz Bh (of_decide_eq_true rfl) ?_
 simp (disch:=omega) only [BM,go_sem,Aa,h1,h2,h3,h4,h5,AW,DZ,AH,Cy]
end Wd
theorem N5 (x y:Lt) (hx:x.atom.cok=true) (hy:y.atom.cok=true) (hnx:x.atom.nodes≤1099511627776) (hny:y.atom.nodes≤1099511627776):Qea Tryz.prog 83 [x.sv,y.sv] [] (.int .i64 (x.cmp y)) []:=Wd.E_told (Wd.compareLiterals_E x y hx hy hnx hny)
def AC:SC:=(.seq (.reg [⟨some 6,none,.mv (.c (.bool false))⟩]) (.seq (.seq (.reg [⟨some 10,none,.mv (.t 0)⟩,⟨some 11,none,.len false (.t 10)⟩,⟨some 12,none,.mv (.t 1)⟩,⟨some 13,none,.len false (.t 12)⟩,⟨some 14,none,.bin .neq false (.t 11) (.t 13)⟩]) (.cond (.t 14) (.seq (.reg [⟨some 6,none,.mv (.c (.bool false))⟩]) .ret) .skip)) (.seq (.seq (.reg [⟨some 15,none,.mv (.t 0)⟩,⟨some 16,none,.len false (.t 15)⟩,⟨some 17,none,.mv (.c (.int .i64 0))⟩]) (.block 0 (.loop [0,1,1,0,0,0,0,0,0,0,0,0,0,0,0,1,1,1,0,0,0,0,0,0,0,0,0,0,0,0,0,0] (.seq (.reg [⟨some 18,none,.bin .lss false (.t 17) (.t 16)⟩]) (.seq (.cond (.t 18) .skip (.exit 0)) (.seq (.block 1 (.seq (.reg [⟨some 19,none,.mv (.t 17)⟩,⟨some 20,none,.iaddr 2 (.t 15) (.t 17)⟩,⟨some 21,none,.load true 2 (.t 20)⟩,⟨(some 8),none,(.alloc 71 [(.str ⟨#[]⟩),.nil])⟩,⟨some 7,none,.mv (.t 19)⟩,⟨none,none,(.store 2 (.t 8) (.t 21))⟩]) (.seq (.reg [⟨some 22,none,.mv (.t 1)⟩,⟨some 23,none,.mv (.t 7)⟩,⟨some 24,none,.iaddr 2 (.t 22) (.t 23)⟩,⟨some 25,none,.load true 2 (.t 24)⟩,⟨(some 9),none,(.alloc 71 [(.str ⟨#[]⟩),.nil])⟩,⟨none,none,(.store 2 (.t 9) (.t 25))⟩]) (.seq (.reg [⟨some 26,none,.mv (.t 2)⟩,⟨some 27,none,.load true 2 (.t 8)⟩,⟨some 28,none,.load true 2 (.t 9)⟩,⟨some 29,none,.callv (.t 26) [(.t 27),(.t 28)]⟩,⟨some 30,none,.un .not (.t 29)⟩]) (.cond (.t 30) (.seq (.reg [⟨some 6,none,.mv (.c (.bool false))⟩]) .ret) .skip))))) (.reg [⟨some 31,none,.bin .add false (.t 17) (.c (.int .i64 1))⟩,⟨some 17,none,.mv (.t 31)⟩]))))))) (.seq (.reg [⟨some 6,none,.mv (.c (.bool true))⟩]) .ret))))
theorem AZ:codeOf Tryz.prog 128=some ⟨32,AC,[(.tmp 6)]⟩:=by kernel_rfl
theorem AD:modes 128=⟨[],.asis,none,false⟩:=by unfold modes; rfl
def Ff:SC:=(.seq (.reg [⟨some 2,none,.boxv 71 2 (.t 0)⟩,⟨some 3,none,.boxv 71 2 (.t 1)⟩,⟨some 4,none,.mv (.c (.bool false))⟩]) (.seq (.reg [⟨some 5,none,.faddr 0 (.t 2)⟩,⟨some 6,none,.load false 1 (.t 5)⟩,⟨some 7,none,.faddr 0 (.t 3)⟩,⟨some 8,none,.load false 1 (.t 7)⟩,⟨some 9,none,.bin .eql false (.t 6) (.t 8)⟩,⟨some 10,none,.mv (.t 9)⟩,⟨(some 11),(some (10,true)),(.faddr 1 (.t 2))⟩,⟨(some 12),(some (10,true)),(.load false 1 (.t 11))⟩,⟨(some 13),(some (10,true)),(.faddr 1 (.t 3))⟩,⟨(some 14),(some (10,true)),(.load false 1 (.t 13))⟩,⟨(some 15),(some (10,true)),(.call 128 [(.t 12),(.t 14),(.c (.fn 88 []))])⟩,⟨some 16,none,.pick (.t 10) (.t 15) (.c (.bool false))⟩,⟨some 4,none,.mv (.t 16)⟩]) .ret))
theorem HW:codeOf Tryz.prog 88=some ⟨17,Ff,[(.tmp 4)]⟩:=by kernel_rfl
theorem Ad:modes 88=⟨[],.asis,none,false⟩:=by unfold modes; rfl
theorem N6:Kk Tryz.prog 88=true:=by kernel_rfl
def FO:SC:=(.seq (.reg [⟨some 2,none,.boxv 71 2 (.t 0)⟩,⟨some 3,none,.boxv 71 2 (.t 1)⟩,⟨some 4,none,.mv (.c (.bool false))⟩]) (.seq (.seq (.reg [⟨some 6,none,.faddr 0 (.t 2)⟩,⟨some 7,none,.load false 1 (.t 6)⟩,⟨some 8,none,.faddr 0 (.t 3)⟩,⟨some 9,none,.load false 1 (.t 8)⟩,⟨some 10,none,.bin .neq false (.t 7) (.t 9)⟩,⟨some 11,none,.mv (.t 10)⟩,⟨(some 12),(some (11,false)),(.faddr 1 (.t 2))⟩,⟨(some 13),(some (11,false)),(.load false 1 (.t 12))⟩,⟨(some 14),(some (11,false)),(.len false (.t 13))⟩,⟨(some 15),(some (11,false)),(.faddr 1 (.t 3))⟩,⟨(some 16),(some (11,false)),(.load false 1 (.t 15))⟩,⟨(some 17),(some (11,false)),(.len false (.t 16))⟩,⟨(some 18),(some (11,false)),(.bin .neq false (.t 14) (.t 17))⟩,⟨some 19,none,.pick (.t 11) (.c (.bool true)) (.t 18)⟩]) (.cond (.t 19) (.seq (.reg [⟨some 4,none,.mv (.c (.bool false))⟩]) .ret) .skip)) (.seq (.seq (.reg [⟨some 5,none,.mv (.c (.int .i64 0))⟩]) (.block 0 (.loop [0,0,1,1,0,1,0,0,0,0,0,0,0,0,0,0,0,0,0,0,0,0,0,0,0,0,0,0,0,0,0,0,0,0,0,0,0,0,0] (.seq (.seq (.reg [⟨some 20,none,.mv (.t 5)⟩,⟨some 21,none,.faddr 1 (.t 2)⟩,⟨some 22,none,.load false 1 (.t 21)⟩,⟨some 23,none,.len false (.t 22)⟩,⟨some 24,none,.bin .lss false (.t 20) (.t 23)⟩]) (.cond (.t 24) .skip (.exit 0))) (.seq (.block 1 (.seq (.dreg [[],[0],[],[1,0,2],[3,1,0,2],[],[5],[],[6,5,7],[8,6,5,7],[4,3,1,0,2,9,8,6,5,7],[10,4,3,1,0,2,9,8,6,5,7]] [⟨some 27,none,.faddr 1 (.t 2)⟩,⟨some 28,none,.load false 1 (.t 27)⟩,⟨some 29,none,.mv (.t 5)⟩,⟨some 30,none,.iaddr 2 (.t 28) (.t 29)⟩,⟨some 31,none,.load true 2 (.t 30)⟩,⟨some 32,none,.faddr 1 (.t 3)⟩,⟨some 33,none,.load false 1 (.t 32)⟩,⟨some 34,none,.mv (.t 5)⟩,⟨some 35,none,.iaddr 2 (.t 33) (.t 34)⟩,⟨some 36,none,.load true 2 (.t 35)⟩,⟨some 37,none,.call 68 [(.t 31),(.t 36)]⟩,⟨some 38,none,.un .not (.t 37)⟩]) (.cond (.t 38) (.seq (.reg [⟨some 4,none,.mv (.c (.bool false))⟩]) .ret) .skip))) (.reg [⟨some 25,none,.mv (.t 5)⟩,⟨some 26,none,.bin .add false (.t 25) (.c (.int .i64 1))⟩,⟨some 5,none,.mv (.t 26)⟩])))))) (.seq (.reg [⟨some 4,none,.mv (.c (.bool true))⟩]) .ret))))
theorem I9:codeOf Tryz.prog 68=some ⟨39,FO,[(.tmp 4)]⟩:=by kernel_rfl
theorem Ai:modes 68=⟨[],.asis,none,false⟩:=by unfold modes; rfl
theorem P5 {α:Type} {xs ys:List α} {k:Nat} (hx:k<xs.length) (hy:k<ys.length):xs.drop k=ys.drop k ↔ xs[k]=ys[k]∧xs.drop (k+1)=ys.drop (k+1):=by
 rw [zC hx,zC hy,List.cons.injEq]
theorem WU (fid:Nat) (xs ys:List Tm) (hl:xs.length≤1099511627776) (hl':ys.length≤1099511627776) (hg:Kk Tryz.prog fid=true) (hm:(modes fid).hand=[]) (hE:∀ x∈xs,∀ y∈ys,E fid [x.sv,y.sv] []=some (.bool (dec (x=y)),[])):E 128 [.arr (xs.map Tm.d),.arr (ys.map Tm.d),.fn fid []] []=some (.bool (dec (xs=ys)),[]):=by
 by_cases hlen:xs.length=ys.length
 ·have hq:((xs.length:Int)=(ys.length:Int))=True:=by first | exact eq_true (by omega) | exact eq_false (by omega)
  refine Af AZ AD (of_decide_eq_true rfl) ?_
  simp (disch:=omega) only [AC,go_sem,Aa,hq]
  refine go_loop (α:=Int) (fun a=>⟨slots 32 0 [(1,.arr (ys.map Tm.d)),(2,.fn fid []),(15,.arr (xs.map Tm.d)),(16,.int .i64 xs.length),(17,.int .i64 a)],[]⟩) (fun a=>∃ k:Nat,a=k∧k≤(xs).length∧dec (xs.drop k=ys.drop k)=dec (xs=ys)) (fun a=>(xs).length-(a).toNat) 0 ⟨0,rfl,zH _,by rw [zG,zG]⟩ (by simp (disch:=omega) only [go_sem,Aa]) ?_
  rintro i ⟨k,hi,hk,hR⟩
  have hni:i.toNat=k:=by omega
  have hni1:(i+1).toNat=k+1:=by omega
  rcases zB k (xs).length with hlt | hge
  ·have hgx:=get_at Tm.d hlt
   rw [Tm.d_eq] at hgx
   have hlt':k<ys.length:=by omega
   have hgy:=get_at Tm.d hlt'
   rw [Tm.d_eq] at hgy
   have hc:=hE xs[k] (zD hlt) ys[k] (zD hlt')
   rw [EY (P5 hlt hlt')] at hR
   by_cases h0:xs[k]=ys[k]
   ·rw [As h0] at hc
    rw [EY (and_iff_right h0)] at hR
    simp (disch:=omega) only [go_sem,Aa,hni,hgx,hgy,hc,hg,hm]
    exact ⟨i+1,⟨k+1,by omega,hlt,hR⟩,by omega,by first | trivial | rfl⟩
   ·rw [Az h0] at hc
    rw [Az (fun h=>h0 h.1)] at hR
    simp (disch:=omega) only [go_sem,Aa,hni,hgx,hgy,hc,hg,hm]
    exact hR
  ·rw [zF hge,zF (by omega),Di] at hR
   simp (disch:=omega) only [go_sem,Aa,hni]
   exact hR
 ·have hq:((xs.length:Int)=(ys.length:Int))=False:=by first | exact eq_true (by omega) | exact eq_false (by omega)
  have he:dec (xs=ys)=false:=Az fun h=>hlen (by rw [h])
  rw [he]
  refine Af AZ AD (of_decide_eq_true rfl) ?_
  simp (disch:=omega) only [AC,go_sem,Aa,hq]
theorem Tm.eq_iff (x y:Tm):x=y ↔ x.name=y.name∧x.args=y.args:=by
 obtain ⟨n,a⟩:=x
 obtain ⟨m,b⟩:=y
 rw [Tm.mk.injEq]; rfl
theorem SR (x:Tm) (y:Tm) (hnx:x.nodes≤1099511627776) (hny:y.nodes≤1099511627776) (ih:∀ x'∈x.args,∀ y':Tm,x'.nodes≤1099511627776→y'.nodes≤1099511627776→E 88 [x'.sv,y'.sv] []=some (.bool (dec (x'=y')),[])):E 88 [x.sv,y.sv] []=some (.bool (dec (x=y)),[]):=by
 have lx:=Tm.length_le x.args
 have ly:=Tm.length_le y.args
 have nx:=Tm.An x
 have ny:=Tm.An y
 have h6:=WU 88 x.args y.args (by omega) (by omega) N6 (by rw [Ad]) fun x' hx' y' hy'=>ih x' hx' y' (by have:=Tm.AU hx'; omega) (by have:=Tm.AU hy'; omega)
 rw [EY (Tm.eq_iff x y)]
 by_cases h0:x.name=y.name
 ·rw [EY (and_iff_right h0)]
  have hq:(x.name=y.name)=True:=by simp [h0]
  refine Af HW Ad (of_decide_eq_true rfl) ?_
  simp (disch:=omega) only [Ff,go_sem,Aa,hq,h6,AD]
 ·have hq:(x.name=y.name)=False:=by simp [h0]
  rw [Az (fun h=>h0 h.1)]
  refine Af HW Ad (of_decide_eq_true rfl) ?_
  simp (disch:=omega) only [Ff,go_sem,Aa,hq]
theorem Em (x y:Tm) (hnx:x.nodes≤1099511627776) (hny:y.nodes≤1099511627776):E 88 [x.sv,y.sv] []=some (.bool (dec (x=y)),[]) :=
 SR x y hnx hny fun x' hx' y' h h'=>Em x' y' h h'
termination_by SizeOf.sizeOf x
decreasing_by exact Tm.Aw hx'
theorem Qbw (x:Tm) (y:Tm) (hnx:x.nodes≤1099511627776) (hny:y.nodes≤1099511627776) (ih:∀ x'∈x.args,∀ y':Tm,x'.nodes≤1099511627776→y'.nodes≤1099511627776→E 68 [x'.sv,y'.sv] []=some (.bool (dec (x'=y')),[])):E 68 [x.sv,y.sv] []=some (.bool (dec (x=y)),[]):=by
 have lx:=Tm.length_le x.args
 have ly:=Tm.length_le y.args
 have nx:=Tm.An x
 have ny:=Tm.An y
 rw [EY (Tm.eq_iff x y)]
 by_cases h0:x.name=y.name
 ·rw [EY (and_iff_right h0)]
  have hq:(x.name=y.name)=True:=by simp [h0]
  by_cases hlen:x.args.length=y.args.length
  ·have hq2:((x.args.length:Int)=(y.args.length:Int))=True:=by first | exact eq_true (by omega) | exact eq_false (by omega)
   refine Af I9 Ai (of_decide_eq_true rfl) ?_
   simp (disch:=omega) only [FO,go_sem,Aa,hq,hq2]
   refine go_loop (α:=Int) (fun a=>⟨slots 39 0 [(2,.ptr 0 0),(3,.ptr 1 0),(5,.int .i64 a)],[.box 71 [.str x.name,.arr (x.args.map Tm.d)],.box 71 [.str y.name,.arr (y.args.map Tm.d)]]⟩) (fun a=>∃ k:Nat,a=k∧k≤(x.args).length∧dec (x.args.drop k=y.args.drop k)=dec (x.args=y.args)) (fun a=>(x.args).length-(a).toNat) 0 ⟨0,rfl,zH _,by rw [zG,zG]⟩ (by simp (disch:=omega) only [go_sem,Aa]) ?_
   rintro i ⟨k,hi,hk,hR⟩
   have hni:i.toNat=k:=by omega
   have hni1:(i+1).toNat=k+1:=by omega
   rcases zB k (x.args).length with hlt | hge
   ·have hgx:=get_at Tm.d hlt
    rw [Tm.d_eq] at hgx
    have hlt':k<y.args.length:=by omega
    have hgy:=get_at Tm.d hlt'
    rw [Tm.d_eq] at hgy
    have hc:=ih x.args[k] (zD hlt) y.args[k] (by have:=Tm.AU (zD hlt); omega) (by have:=Tm.AU (zD hlt'); omega)
    rw [EY (P5 hlt hlt')] at hR
    by_cases h0:x.args[k]=y.args[k]
    ·rw [As h0] at hc
     rw [EY (and_iff_right h0)] at hR
     simp (disch:=omega) only [go_sem,Aa,hni,hgx,hgy,hc,Ai]
     exact ⟨i+1,⟨k+1,by omega,hlt,hR⟩,by omega,by first | trivial | rfl⟩
    ·rw [Az h0] at hc
     rw [Az (fun h=>h0 h.1)] at hR
     simp (disch:=omega) only [go_sem,Aa,hni,hgx,hgy,hc,Ai]
     exact hR
   ·rw [zF hge,zF (by omega),Di] at hR
    simp (disch:=omega) only [go_sem,Aa,hni]
    exact hR
  ·have hq2:((x.args.length:Int)=(y.args.length:Int))=False:=by first | exact eq_true (by omega) | exact eq_false (by omega)
   have he:dec (x.args=y.args)=false:=Az fun h=>hlen (by rw [h])
   rw [he]
   refine Af I9 Ai (of_decide_eq_true rfl) ?_
   simp (disch:=omega) only [FO,go_sem,Aa,hq,hq2]
 ·have hq:(x.name=y.name)=False:=by simp [h0]
  rw [Az (fun h=>h0 h.1)]
  refine Af I9 Ai (of_decide_eq_true rfl) ?_
  simp (disch:=omega) only [FO,go_sem,Aa,hq]
theorem IW (x y:Tm) (hnx:x.nodes≤1099511627776) (hny:y.nodes≤1099511627776):E 68 [x.sv,y.sv] []=some (.bool (dec (x=y)),[]) :=
 Qbw x y hnx hny fun x' hx' y' h h'=>IW x' y' h h'
termination_by SizeOf.sizeOf x
decreasing_by exact Tm.Aw hx'
def F8:SC:=(.seq (.reg [⟨some 2,none,.mv (.c .nil)⟩]) (.seq (.seq (.reg [⟨some 6,none,.mv (.t 0)⟩,⟨some 7,none,.len false (.t 6)⟩,⟨some 8,none,.bin .eql false (.t 7) (.c (.int .i64 0))⟩]) (.cond (.t 8) (.seq (.reg [⟨some 2,none,.mv (.c .nil)⟩]) .ret) .skip)) (.seq (.reg [⟨some 9,none,.mv (.t 0)⟩,⟨some 10,none,.len false (.t 9)⟩,⟨(some 11),none,(.mkslice 71 2 40 [(.str ⟨#[]⟩),.nil] (.t 10))⟩,⟨some 3,none,.mv (.t 11)⟩]) (.seq (.seq (.reg [⟨some 12,none,.mv (.t 0)⟩,⟨some 13,none,.len false (.t 12)⟩,⟨some 14,none,.mv (.c (.int .i64 0))⟩]) (.block 0 (.loop [0,0,0,1,0,0,0,0,0,0,0,0,1,1,1,0,0,0,0,0,0,0,0,0,0,0] (.seq (.reg [⟨some 15,none,.bin .lss false (.t 14) (.t 13)⟩]) (.seq (.cond (.t 15) .skip (.exit 0)) (.seq (.block 1 (.seq (.reg [⟨some 16,none,.mv (.t 14)⟩,⟨some 17,none,.iaddr 2 (.t 12) (.t 14)⟩,⟨some 18,none,.load true 2 (.t 17)⟩,⟨(some 5),none,(.alloc 71 [(.str ⟨#[]⟩),.nil])⟩,⟨some 4,none,.mv (.t 16)⟩,⟨none,none,(.store 2 (.t 5) (.t 18))⟩]) (.reg [⟨some 19,none,.mv (.t 3)⟩,⟨some 20,none,.mv (.t 4)⟩,⟨some 21,none,.load true 2 (.t 5)⟩,⟨some 22,none,.call 133 [(.t 21)]⟩,⟨some 23,none,.iaddr 2 (.t 19) (.t 20)⟩,⟨none,none,(.store 2 (.t 23) (.t 22))⟩]))) (.reg [⟨some 24,none,.bin .add false (.t 14) (.c (.int .i64 1))⟩,⟨some 14,none,.mv (.t 24)⟩]))))))) (.seq (.reg [⟨some 25,none,.mv (.t 3)⟩,⟨some 2,none,.mv (.t 25)⟩]) .ret)))))
theorem IX:codeOf Tryz.prog 165=some ⟨26,F8,[(.tmp 2)]⟩:=by kernel_rfl
theorem F9:modes 165=⟨[],.own [some (71,2)],none,false⟩:=by unfold modes; rfl
def JT:SC:=(.seq (.reg [⟨some 1,none,.boxv 71 2 (.t 0)⟩,⟨(some 2),none,(.alloc 71 [(.str ⟨#[]⟩),.nil])⟩]) (.seq (.dreg [[],[0],[],[2],[3,2],[1,0,4,3,2],[5,1,0,4,3,2]] [⟨some 3,none,.faddr 0 (.t 1)⟩,⟨some 4,none,.load false 1 (.t 3)⟩,⟨some 5,none,.faddr 1 (.t 1)⟩,⟨some 6,none,.load false 1 (.t 5)⟩,⟨some 7,none,.call 165 [(.t 6)]⟩,⟨(some 8),none,(.build [(.str ⟨#[]⟩),.nil] [(0,(1,(.t 4))),(1,(1,(.t 7)))])⟩,⟨none,none,(.store 2 (.t 2) (.t 8))⟩]) .ret))
theorem PN:codeOf Tryz.prog 133=some ⟨9,JT,[(.cell 2 true 2)]⟩:=by kernel_rfl
theorem AX:modes 133=⟨[],.asis,none,false⟩:=by unfold modes; rfl
def N7:SC:=(.seq (.reg [⟨some 1,none,.boxv 71 2 (.t 0)⟩,⟨(some 2),none,(.alloc 71 [(.str ⟨#[]⟩),.nil])⟩]) (.seq (.reg [⟨some 5,none,.faddr 0 (.t 1)⟩,⟨some 6,none,.load false 1 (.t 5)⟩,⟨(some 7),none,(.build [(.str ⟨#[]⟩),.nil] [(0,(1,(.t 6)))])⟩,⟨(some 3),none,(.alloc 71 [(.str ⟨#[]⟩),.nil])⟩,⟨none,none,(.store 2 (.t 3) (.t 7))⟩]) (.seq (.seq (.reg [⟨some 4,none,.mv (.c (.int .i64 0))⟩]) (.block 0 (.loop [0,1,1,1,1,0,0,0,0,0,0,0,0,0,0,0,0,0,0,0,0,0,0,0,0,0,0] (.seq (.seq (.reg [⟨some 8,none,.mv (.t 4)⟩,⟨some 9,none,.faddr 1 (.t 1)⟩,⟨some 10,none,.load false 1 (.t 9)⟩,⟨some 11,none,.len false (.t 10)⟩,⟨some 12,none,.bin .lss false (.t 8) (.t 11)⟩]) (.cond (.t 12) .skip (.exit 0))) (.seq (.block 1 (.dreg [[],[0],[],[2],[],[3,2,4],[5,3,2,4],[6,5,3,2,4],[7,6,5,3,2,4],[1,0,8,7,6,5,3,2,4],[0,1,2,3,4,5,6,7,8,9],[10,0,1,2,3,4,5,6,7,8,9]] [⟨some 15,none,.faddr 1 (.t 3)⟩,⟨some 16,none,.load false 1 (.t 15)⟩,⟨some 17,none,.faddr 1 (.t 1)⟩,⟨some 18,none,.load false 1 (.t 17)⟩,⟨some 19,none,.mv (.t 4)⟩,⟨some 20,none,.iaddr 2 (.t 18) (.t 19)⟩,⟨some 21,none,.load true 2 (.t 20)⟩,⟨some 22,none,.call 148 [(.t 21)]⟩,⟨(some 23),none,(.mkrow 71 2 [(.str ⟨#[]⟩),.nil] 1 [(0,(.t 22))])⟩,⟨(some 24),none,(.append 71 2 40 [(.str ⟨#[]⟩),.nil] (.t 16) (.t 23))⟩,⟨some 25,none,.faddr 1 (.t 3)⟩,⟨none,none,(.store 1 (.t 25) (.t 24))⟩])) (.reg [⟨some 13,none,.mv (.t 4)⟩,⟨some 14,none,.bin .add false (.t 13) (.c (.int .i64 1))⟩,⟨some 4,none,.mv (.t 14)⟩])))))) (.seq (.reg [⟨some 26,none,.load true 2 (.t 3)⟩,⟨none,none,(.store 2 (.t 2) (.t 26))⟩]) .ret))))
theorem Vk:codeOf Tryz.prog 148=some ⟨27,N7,[(.cell 2 true 2)]⟩:=by kernel_rfl
theorem CP:modes 148=⟨[],.frz,none,false⟩:=by unfold modes; rfl
theorem Vl (xs:List Tm) (hl:xs.length≤1099511627776) (h:∀ x∈xs,E 133 [x.sv] []=some (x.osv,x.obs)):E 165 [.arr (xs.map Tm.d)] []=some (.ref 0,[.row 71 2 (xs.map Tm.o)]):=by
 cases xs with
 | nil =>
  refine Af IX F9 (of_decide_eq_true rfl) ?_
  simp (disch:=omega) only [F8,go_sem,Aa]
 | cons x0 xs0 =>
 generalize hxs:x0 :: xs0=xs at *
 have hpos:0<xs.length:=by rw [←hxs]; simp
 refine Af IX F9 (of_decide_eq_true rfl) ?_
 simp (disch:=omega) only [F8,go_sem,Aa]
 refine go_loop (α:=Int) (fun a=>⟨slots 26 0 [(3,.ref 0),(12,.arr (xs.map Tm.d)),(13,.int .i64 xs.length),(14,.int .i64 a)],[.row 71 2 (Ga Tm.o [.str ⟨#[]⟩,.ow []] xs a.toNat)]⟩) (fun a=>∃ k:Nat,a=k∧k≤(xs).length) (fun a=>(xs).length-(a).toNat) 0 ⟨0,rfl,zH _⟩ (by simp (disch:=omega) only [go_sem,Aa,J9,z8]) ?_
 rintro i ⟨k,hi,hk⟩
 have hni:i.toNat=k:=by omega
 have hni1:(i+1).toNat=k+1:=by omega
 rcases zB k (xs).length with hlt | hge
 ·have hg:=get_at Tm.d hlt
  rw [Tm.d_eq] at hg
  have hz:=LG Tm.o [.str ⟨#[]⟩,.ow []] hlt
  have hc:=h xs[k] (zD hlt)
  have hs:=LH Tm.o [.str ⟨#[]⟩,.ow []] hlt
  rw [Tm.o_eq] at hs
  simp (disch:=omega) only [go_sem,Aa,hni,hg,hc,hz,LE,AX,Tm.osv,Tm.obs]
  refine ⟨i+1,⟨k+1,by omega,hlt⟩,by omega,?_⟩
  simp (disch:=omega) only [go_sem,Aa,hni1,hs]
 ·obtain rfl:k=xs.length:=by omega
  simp (disch:=omega) only [go_sem,Aa,hni,LF]
theorem WV (x:Tm) (h:E 165 [.arr (x.args.map Tm.d)] []=some (.ref 0,[.row 71 2 (x.args.map Tm.o)])):E 133 [x.sv] []=some (x.osv,x.obs):=by
 refine Af PN AX (of_decide_eq_true rfl) ?_
 simp (disch:=omega) only [JT,go_sem,Aa,h,F9]
theorem JF (x:Tm) (hn:x.nodes≤1099511627776):E 133 [x.sv] []=some (x.osv,x.obs) :=
 WV x (Vl x.args (by have:=Tm.An x; have:=Tm.length_le x.args; omega) fun y hy=>JF y (by have:=Tm.AU hy; have:=Tm.An x; omega))
termination_by SizeOf.sizeOf x
decreasing_by exact Tm.Aw hy
def Qfx (res:RM) (n0:Nat) (rs:List RX) (Q:SV × List Ob→Prop) (x:X) (st:St):Prop:=∃ out,SM res n0 rs out x st∧Q out
theorem exq {α:Type} {a:α} {Q:α→Prop}:(∃ out,some a=some out∧Q out)=Q a:=propext ⟨fun ⟨o,h,q⟩=>by obtain rfl:=yJ h; exact q,fun q=>⟨a,rfl,q⟩⟩
theorem QeZ {res:RM} {n0:Nat} {rs:List RX} {Q:SV × List Ob→Prop} {sl:List SV} {ob:List Ob}:Qfx res n0 rs Q .ret ⟨sl,ob⟩=∃ out,Nv res n0 ob (Oq ⟨sl,ob⟩ rs)=some out∧Q out:=rfl
theorem Qfa {res:RM} {n0:Nat} {rs:List RX} {Q:SV × List Ob→Prop} {sl:List SV} {ob:List Ob}:Qfx res n0 rs Q .normal ⟨sl,ob⟩=∃ out,Nv res n0 ob (Oq ⟨sl,ob⟩ rs)=some out∧Q out:=rfl
attribute [go_sem] QeZ Qfa exq
def Tm.osh (x:Tm):List OT:=[.str x.name,.sh (x.args.map Tm.d)]
theorem Tm.R7 (x:Tm):x.osh=[.str x.name,.sh (x.args.map Tm.d)]:=rfl
theorem Tm.N8:∀ xs:List Tm,OT.AM (xs.map Tm.osh)=true
 | []=>rfl
 | x :: xs=>by rw [zQ,Tm.R7]; simp [OT.AM,OT.Dr,OT.full,Tm.N8 xs]
theorem Tm.Vm:∀ xs:List Tm,OT.erss (xs.map Tm.osh)=xs.map Tm.d
 | []=>rfl
 | x :: xs=>by rw [zQ,zQ,Tm.R7,Tm.d_eq]; simp [OT.erss,OT.ers,OT.er,Tm.Vm xs]
theorem D9 {α β:Type} (f:α→β) {xs:List α} {k:Nat} (h:k<xs.length):(xs.take k).map f++[f xs[k]]=(xs.take (k+1)).map f:=by
 rw [yA h,yE]; rfl
theorem QcM (x:Tm) (hn:x.nodes≤1099511627776) (ih:∀ y∈x.args,E 148 [y.sv] []=some (y.sv,[])):E 148 [x.sv] []=some (x.sv,[]):=by
 have hl:=Tm.length_le x.args
 have hne:=Tm.An x
 have h10:((1:Int)=0)=False:=by simp
 have hfu:=Tm.N8 x.args
 have her:=Tm.Vm x.args
 refine Af Vk CP (of_decide_eq_true rfl) ?_
 simp (disch:=omega) only [N7,go_sem,Aa]
 refine go_loop (α:=Int) (fun a=>⟨slots 27 0 [(1,.ptr 0 0),(2,.ptr 1 0),(3,.ptr 2 0),(4,.int .i64 a)],(if a=0 then [.box 71 [.str x.name,.arr (x.args.map Tm.d)],.box 71 [.str ⟨#[]⟩,.nil],.box 71 [.str x.name,.nil]] else [.box 71 [.str x.name,.arr (x.args.map Tm.d)],.box 71 [.str ⟨#[]⟩,.nil],.box 71 [.str x.name,.ref 3],.row 71 2 ((x.args.take a.toNat).map Tm.osh)])⟩) (fun a=>∃ k:Nat,a=k∧k≤(x.args).length) (fun a=>(x.args).length-(a).toNat) 0 ⟨0,rfl,zH _⟩ (by simp (disch:=omega) only [go_sem,Aa,eq_self,if_true]) ?_
 rintro i ⟨k,hi,hk⟩
 have hni:i.toNat=k:=by omega
 have hni1:(i+1).toNat=k+1:=by omega
 rcases zB k (x.args).length with hlt | hge
 ·have hg:=get_at Tm.d hlt
  rw [Tm.d_eq] at hg
  have hc:=ih x.args[k] (zD hlt)
  have hs:=D9 Tm.osh hlt
  rw [Tm.R7] at hs
  rcases zJ k with h0 | h0
  ·subst h0
   obtain rfl:i=0:=hi
   rw [z7,zM,zU] at hs
   simp (disch:=omega) only [go_sem,Aa,hni,hg,hc,CP,eq_self,if_true]
   refine ⟨1,⟨1,rfl,hlt⟩,by omega,?_⟩
   simp (disch:=omega) only [go_sem,Aa,h10,if_false,hs]
  ·have hi0:(i=0)=False:=by simp; omega
   have hi1:(i+1=0)=False:=by simp; omega
   have htl:(x.args.take k).length=k:=by rw [zP]; omega
   simp (disch:=omega) only [go_sem,Aa,hni,hg,hc,CP,hi0,if_false,htl]
   refine ⟨i+1,⟨k+1,by omega,hlt⟩,by omega,?_⟩
   simp (disch:=omega) only [go_sem,Aa,hni1,hi1,if_false,hs]
 ·obtain rfl:k=x.args.length:=by omega
  have ht:x.args.take x.args.length=x.args:=zR
  rcases zJ x.args.length with h0 | h0
  ·have hx:x.args=[]:=zI h0
   obtain rfl:i=0:=by omega
   simp (disch:=omega) only [go_sem,Aa,hni,hx,eq_self,if_true,zM,zT]
  ·have hi0:(i=0)=False:=by simp; omega
   simp (disch:=omega) only [go_sem,Aa,hni,hi0,if_false,ht,hfu,her]
theorem Qj (x:Tm) (hn:x.nodes≤1099511627776):E 148 [x.sv] []=some (x.sv,[]) :=
 QcM x hn fun y hy=>Qj y (by have:=Tm.AU hy; have:=Tm.An x; omega)
termination_by SizeOf.sizeOf x
decreasing_by exact Tm.Aw hy
def Hp:SC:=(.seq (.reg [⟨some 1,none,.boxv 73 3 (.t 0)⟩,⟨(some 2),none,(.alloc 73 [(.bool false),(.str ⟨#[]⟩),.nil])⟩]) (.seq (.dreg [[],[0],[],[2],[3,2],[1,0,4,3,2],[5,1,0,4,3,2]] [⟨some 3,none,.faddr 0 (.t 1)⟩,⟨some 4,none,.load false 1 (.t 3)⟩,⟨some 5,none,.faddr 1 (.t 1)⟩,⟨some 6,none,.load true 2 (.t 5)⟩,⟨some 7,none,.call 133 [(.t 6)]⟩,⟨(some 8),none,(.build [(.bool false),(.str ⟨#[]⟩),.nil] [(0,(1,(.t 4))),(1,(2,(.t 7)))])⟩,⟨none,none,(.store 3 (.t 2) (.t 8))⟩]) .ret))
theorem MG:codeOf Tryz.prog 169=some ⟨9,Hp,[(.cell 2 true 3)]⟩:=by kernel_rfl
theorem C9:modes 169=⟨[],.own [none,none,some (71,2)],none,false⟩:=by unfold modes; rfl
def Hq:SC:=(.seq (.reg [⟨some 2,none,.boxv 73 3 (.t 0)⟩,⟨some 3,none,.boxv 73 3 (.t 1)⟩,⟨some 4,none,.mv (.c (.bool false))⟩]) (.seq (.reg [⟨some 5,none,.faddr 0 (.t 2)⟩,⟨some 6,none,.load false 1 (.t 5)⟩,⟨some 7,none,.faddr 0 (.t 3)⟩,⟨some 8,none,.load false 1 (.t 7)⟩,⟨some 9,none,.bin .eql true (.t 6) (.t 8)⟩,⟨some 10,none,.mv (.t 9)⟩,⟨(some 11),(some (10,true)),(.faddr 1 (.t 2))⟩,⟨(some 12),(some (10,true)),(.load true 2 (.t 11))⟩,⟨(some 13),(some (10,true)),(.faddr 1 (.t 3))⟩,⟨(some 14),(some (10,true)),(.load true 2 (.t 13))⟩,⟨(some 15),(some (10,true)),(.call 88 [(.t 12),(.t 14)])⟩,⟨some 16,none,.pick (.t 10) (.t 15) (.c (.bool false))⟩,⟨some 4,none,.mv (.t 16)⟩]) .ret))
theorem MH:codeOf Tryz.prog 101=some ⟨17,Hq,[(.tmp 4)]⟩:=by kernel_rfl
theorem EP:modes 101=⟨[],.asis,none,false⟩:=by unfold modes; rfl
def JU:SC:=(.seq (.reg [⟨some 2,none,.alloc 28 [.nil]⟩]) (.seq (.reg [⟨some 6,none,.build [.nil] []⟩,⟨some 3,none,.alloc 28 [.nil]⟩,⟨none,none,(.store 1 (.t 3) (.t 6))⟩]) (.seq (.seq (.reg [⟨some 7,none,.mv (.t 0)⟩,⟨some 8,none,.len false (.t 7)⟩,⟨some 9,none,.mv (.c (.int .i64 0))⟩]) (.block 0 (.loop [0,0,1,1,0,0,0,1,1,1,0,0,0,0,0,0,0,0,0,0,0,0,0,0,0,0,0,0,0] (.seq (.reg [⟨some 10,none,.bin .lss false (.t 9) (.t 8)⟩]) (.seq (.cond (.t 10) .skip (.exit 0)) (.seq (.block 1 (.seq (.reg [⟨some 11,none,.iaddr 3 (.t 7) (.t 9)⟩,⟨some 12,none,.load true 3 (.t 11)⟩,⟨(some 5),none,(.alloc 73 [(.bool false),(.str ⟨#[]⟩),.nil])⟩,⟨none,none,(.store 3 (.t 5) (.t 12))⟩]) (.dreg [[],[0],[],[2],[3,2],[1,0,4,3,2],[0,1,2,3,4,5],[6,0,1,2,3,4,5]] [⟨some 13,none,.faddr 0 (.t 3)⟩,⟨some 14,none,.load false 1 (.t 13)⟩,⟨some 15,none,.load true 3 (.t 5)⟩,⟨some 16,none,.call 169 [(.t 15)]⟩,⟨(some 17),none,(.mkrow 73 3 [(.bool false),(.str ⟨#[]⟩),.nil] 1 [(0,(.t 16))])⟩,⟨(some 18),none,(.append 73 3 48 [(.bool false),(.str ⟨#[]⟩),.nil] (.t 14) (.t 17))⟩,⟨some 19,none,.faddr 0 (.t 3)⟩,⟨none,none,(.store 1 (.t 19) (.t 18))⟩]))) (.reg [⟨some 20,none,.bin .add false (.t 9) (.c (.int .i64 1))⟩,⟨some 9,none,.mv (.t 20)⟩]))))))) (.seq (.reg [⟨some 21,none,.faddr 0 (.t 3)⟩,⟨some 22,none,.load false 1 (.t 21)⟩,⟨some 23,none,.call 170 [(.t 22),(.c (.fn 83 []))]⟩]) (.seq (.reg [⟨some 24,none,.faddr 0 (.t 3)⟩,⟨some 25,none,.load false 1 (.t 24)⟩,⟨some 26,none,.call 171 [(.t 25),(.c (.fn 101 []))]⟩,⟨some 27,none,.faddr 0 (.t 3)⟩,⟨none,none,(.store 1 (.t 27) (.t 26))⟩]) (.seq (.reg [⟨some 28,none,.load true 1 (.t 3)⟩,⟨none,none,(.store 1 (.t 2) (.t 28))⟩]) .ret))))))
theorem PO:codeOf Tryz.prog 138=some ⟨29,JU,[(.cell 2 true 1)]⟩:=by kernel_rfl
theorem CJ:modes 138=⟨[],.own [some (73,3)],none,false⟩:=by unfold modes; rfl
def Mg:SC:=(.seq (.reg [⟨some 2,none,.alloc 28 [.nil]⟩]) (.seq (.reg [⟨(some 7),none,(.mkrow 73 3 [(.bool false),(.str ⟨#[]⟩),.nil] 0 [])⟩,⟨some 3,none,.mv (.t 7)⟩]) (.seq (.seq (.reg [⟨some 4,none,.mv (.c (.int .i64 0))⟩]) (.block 0 (.loop [1,0,1,1,1,0,0,0,0,0,0,0,0,0,0,0,0,0,0,0,0,0,0,0,0,0,0,0,0,0,0,0,0,0,0,0,0,0,0,0,0,0,0,0,0,0,0,0,0,0,0,0,0,0,0,0,0,0,0,0,0,0,0,0,0,0,0,0,0,0,0,0,0,0] (.seq (.seq (.reg [⟨some 8,none,.mv (.t 4)⟩,⟨some 9,none,.mv (.t 0)⟩,⟨some 10,none,.len false (.t 9)⟩,⟨some 11,none,.bin .lss false (.t 8) (.t 10)⟩]) (.cond (.t 11) .skip (.exit 0))) (.seq (.block 1 (.seq (.reg [⟨some 5,none,.mv (.c (.int .i64 0))⟩]) (.seq (.block 2 (.loop [1,0,1,1,1,1,0,0,0,0,0,0,0,0,0,0,0,0,0,0,0,0,0,0,0,0,0,0,0,0,0,0,0,0,0,0,0,0,0,0,0,0,0,0,0,0,0,0,0,0,0,0,0,0,0,0,0,0,0,0,0,0,0,0,0,0,0,0,0,0,0,0,0,0] (.seq (.seq (.dreg [[],[],[1],[0,2,1],[3,0,2,1],[4,3,0,2,1],[4,3,0,2,1],[5,4,3,0,2,1,6],[7,5,4,3,0,2,1,6],[4,3,0,2,1],[4,3,0,2,1],[9,4,3,0,2,1,10],[11,9,4,3,0,2,1,10],[8,7,5,4,3,0,2,1,6,12,11,9,10],[13,8,7,5,4,3,0,2,1,6,12,11,9,10],[4,3,0,2,1,14,13,8,7,5,6,12,11,9,10]] [⟨some 14,none,.mv (.t 5)⟩,⟨some 15,none,.mv (.t 3)⟩,⟨some 16,none,.len false (.t 15)⟩,⟨some 17,none,.bin .lss false (.t 14) (.t 16)⟩,⟨some 18,none,.mv (.t 17)⟩,⟨(some 19),(some (18,true)),(.mv (.t 3))⟩,⟨(some 20),(some (18,true)),(.mv (.t 5))⟩,⟨(some 21),(some (18,true)),(.iaddr 3 (.t 19) (.t 20))⟩,⟨(some 22),(some (18,true)),(.load true 3 (.t 21))⟩,⟨(some 23),(some (18,true)),(.mv (.t 0))⟩,⟨(some 24),(some (18,true)),(.mv (.t 4))⟩,⟨(some 25),(some (18,true)),(.iaddr 3 (.t 23) (.t 24))⟩,⟨(some 26),(some (18,true)),(.load true 3 (.t 25))⟩,⟨(some 27),(some (18,true)),(.call 73 [(.t 22),(.t 26)])⟩,⟨(some 28),(some (18,true)),(.bin .lss false (.t 27) (.c (.int .i64 0)))⟩,⟨some 29,none,.pick (.t 18) (.t 28) (.c (.bool false))⟩]) (.cond (.t 29) .skip (.exit 2))) (.block 3 (.reg [⟨some 30,none,.mv (.t 5)⟩,⟨some 31,none,.bin .add false (.t 30) (.c (.int .i64 1))⟩,⟨some 5,none,.mv (.t 31)⟩]))))) (.seq (.seq (.dreg [[],[],[1],[0,2,1],[3,0,2,1],[4,3,0,2,1],[4,3,0,2,1],[5,4,3,0,2,1,6],[7,5,4,3,0,2,1,6],[4,3,0,2,1],[4,3,0,2,1],[9,4,3,0,2,1,10],[11,9,4,3,0,2,1,10],[8,7,5,4,3,0,2,1,6,12,11,9,10],[13,8,7,5,4,3,0,2,1,6,12,11,9,10],[4,3,0,2,1,14,13,8,7,5,6,12,11,9,10]] [⟨some 32,none,.mv (.t 5)⟩,⟨some 33,none,.mv (.t 3)⟩,⟨some 34,none,.len false (.t 33)⟩,⟨some 35,none,.bin .lss false (.t 32) (.t 34)⟩,⟨some 36,none,.mv (.t 35)⟩,⟨(some 37),(some (36,true)),(.mv (.t 3))⟩,⟨(some 38),(some (36,true)),(.mv (.t 5))⟩,⟨(some 39),(some (36,true)),(.iaddr 3 (.t 37) (.t 38))⟩,⟨(some 40),(some (36,true)),(.load true 3 (.t 39))⟩,⟨(some 41),(some (36,true)),(.mv (.t 0))⟩,⟨(some 42),(some (36,true)),(.mv (.t 4))⟩,⟨(some 43),(some (36,true)),(.iaddr 3 (.t 41) (.t 42))⟩,⟨(some 44),(some (36,true)),(.load true 3 (.t 43))⟩,⟨(some 45),(some (36,true)),(.call 73 [(.t 40),(.t 44)])⟩,⟨(some 46),(some (36,true)),(.bin .eql false (.t 45) (.c (.int .i64 0)))⟩,⟨some 47,none,.pick (.t 36) (.t 46) (.c (.bool false))⟩]) (.cond (.t 47) (.exit 1) .skip)) (.seq (.dreg [[],[],[0,1],[2,0,1],[3,2,0,1],[],[],[5,6],[7,5,6],[8,7,5,6],[9,8,7,5,6],[4,3,2,0,1,10,9,8,7,5,6],[],[12,11,4,3,2,0,1,10,9,8,7,5,6]] [⟨some 48,none,.mv (.t 0)⟩,⟨some 49,none,.mv (.t 4)⟩,⟨some 50,none,.iaddr 3 (.t 48) (.t 49)⟩,⟨some 51,none,.faddr 0 (.t 50)⟩,⟨some 52,none,.load false 1 (.t 51)⟩,⟨some 53,none,.mv (.t 0)⟩,⟨some 54,none,.mv (.t 4)⟩,⟨some 55,none,.iaddr 3 (.t 53) (.t 54)⟩,⟨some 56,none,.faddr 1 (.t 55)⟩,⟨some 57,none,.load true 2 (.t 56)⟩,⟨some 58,none,.call 148 [(.t 57)]⟩,⟨(some 59),none,(.build [(.bool false),(.str ⟨#[]⟩),.nil] [(0,(1,(.t 52))),(1,(2,(.t 58)))])⟩,⟨(some 6),none,(.alloc 73 [(.bool false),(.str ⟨#[]⟩),.nil])⟩,⟨none,none,(.store 3 (.t 6) (.t 59))⟩]) (.dreg [[],[],[],[1,2],[0,3,1,2],[],[5],[4,0,3,1,2,6,5],[],[],[8,9],[7,4,0,3,1,2,6,5,10,8,9],[11,7,4,0,3,1,2,6,5,10,8,9]] [⟨(some 60),none,(.mkrow 73 3 [(.bool false),(.str ⟨#[]⟩),.nil] 0 [])⟩,⟨some 61,none,.mv (.t 3)⟩,⟨some 62,none,.mv (.t 5)⟩,⟨some 63,none,.slice false 3 (.t 61) none (some (.t 62))⟩,⟨(some 64),none,(.append 73 3 48 [(.bool false),(.str ⟨#[]⟩),.nil] (.t 60) (.t 63))⟩,⟨some 65,none,.load true 3 (.t 6)⟩,⟨(some 66),none,(.mkrow 73 3 [(.bool false),(.str ⟨#[]⟩),.nil] 1 [(0,(.t 65))])⟩,⟨(some 67),none,(.append 73 3 48 [(.bool false),(.str ⟨#[]⟩),.nil] (.t 64) (.t 66))⟩,⟨some 68,none,.mv (.t 3)⟩,⟨some 69,none,.mv (.t 5)⟩,⟨some 70,none,.slice false 3 (.t 68) (some (.t 69)) none⟩,⟨(some 71),none,(.append 73 3 48 [(.bool false),(.str ⟨#[]⟩),.nil] (.t 67) (.t 70))⟩,⟨some 3,none,.mv (.t 71)⟩])))))) (.reg [⟨some 12,none,.mv (.t 4)⟩,⟨some 13,none,.bin .add false (.t 12) (.c (.int .i64 1))⟩,⟨some 4,none,.mv (.t 13)⟩])))))) (.seq (.reg [⟨some 72,none,.mv (.t 3)⟩,⟨some 73,none,.build [.nil] [(0,(1,(.t 72)))]⟩,⟨none,none,(.store 1 (.t 2) (.t 73))⟩]) .ret))))
theorem SS:codeOf Tryz.prog 117=some ⟨74,Mg,[(.cell 2 true 1)]⟩:=by kernel_rfl
theorem CV:modes 117=⟨[],.frl [10],none,false⟩:=by unfold modes; rfl
theorem Mh (x:Lt) (hn:x.atom.nodes≤1099511627776):E 169 [x.sv] []=some (x.osv,x.obs):=by
 have h:=JF x.atom hn
 refine Af MG C9 (of_decide_eq_true rfl) ?_
 simp (disch:=omega) only [Hp,go_sem,Aa,h,AX,Tm.osv,Tm.obs]
theorem Lt.Qfb (x y:Lt):dec (x=y)=(bif SE x.pos y.pos then dec (x.atom=y.atom) else false):=by
 obtain ⟨p,a⟩:=x
 obtain ⟨q,b⟩:=y
 have e:((⟨p,a⟩:Lt)=⟨q,b⟩) ↔ (p=q∧a=b):=by rw [Lt.mk.injEq]
 rw [EY e]
 cases p <;> cases q
 ·show _=dec (a=b)
  exact EY (and_iff_right rfl)
 ·exact Az fun h=>by cases h.1
 ·exact Az fun h=>by cases h.1
 ·show _=dec (a=b)
  exact EY (and_iff_right rfl)
theorem Mi (x y:Lt) (hnx:x.atom.nodes≤1099511627776) (hny:y.atom.nodes≤1099511627776):E 101 [x.sv,y.sv] []=some (.bool (dec (x=y)),[]):=by
 have h:=Em x.atom y.atom hnx hny
 have b1:(false == true)=false:=rfl
 have b2:(true == false)=false:=rfl
 rw [Lt.Qfb]
 cases hp:x.pos <;> cases hq:y.pos
 all_goals
  refine Af MH EP (of_decide_eq_true rfl) ?_
  simp (disch:=omega) only [Hq,go_sem,Aa,h,hp,hq,b1,b2,SE,Ad]
def Lt.fine (x:Lt):Prop:=x.atom.cok=true∧x.atom.nodes≤1099511627776
theorem AJ:modes 170=⟨[true],.asis,some HP,false⟩:=by unfold modes; rfl
theorem Qeq (t:TypeId) (l:List Lt) (hl:l.length≤1099511627776) (hc:∀ x∈l,x.fine):E 170 [.ref 0,.fn 83 []] [.row t 3 (l.map Lt.o)]=some (.tup [],[.row t 3 ((Nr l).map Lt.o)]):=by
 rw [J7 (g:=HP) (congrArg FM.ext AJ)]
 unfold HP
 simp only
 rw [As ⟨by first | trivial | rfl,by first | trivial | rfl,by simpa using hl,l,rfl,fun x hx y hy=>N5 x y (hc x hx).1 (hc y hy).1 (hc x hx).2 (hc y hy).2⟩,cond_true,Qi]
theorem Qbx:E 170 [.nil,.fn 83 []] []=some (.tup [],[]):=by
 rw [J7 (g:=HP) (congrArg FM.ext AJ)]
 unfold HP
 simp only
 rw [As (by first | trivial | rfl),cond_true]
theorem AF:modes 171=⟨[true],.asis,some DR,false⟩:=by unfold modes; rfl
theorem Zo (t:TypeId) (l:List Lt) (hl:l.length≤1099511627776) (hc:∀ x∈l,x.fine):E 171 [.ref 0,.fn 101 []] [.row t 3 (l.map Lt.o)]=some (.ref 1,[.gone,.row t 3 ((Hh l).map Lt.o)]):=by
 rw [J7 (g:=DR) (congrArg FM.ext AF)]
 unfold DR
 simp only
 rw [As ⟨by first | trivial | rfl,by first | trivial | rfl,by simpa using hl,l,rfl,fun x hx y hy=>E_told (Mi x y (hc x hx).2 (hc y hy).2)⟩,cond_true,Qi]
theorem Vn:E 171 [.nil,.fn 101 []] []=some (.nil,[]):=by
 rw [J7 (g:=DR) (congrArg FM.ext AF)]
 unfold DR
 simp only
 rw [As (by first | trivial | rfl),cond_true]
noncomputable def mkC (l:List Lt):Cl:=⟨Hh (Nr l)⟩
theorem Qer:(mkC []).lits=[]:=by
 have e0:Nr []=[]:=List.mergeSort_nil
 unfold mkC
 rw [e0]; rfl
theorem MJ (l:List Lt):Dy (mkC l).lits:=UR (P1 l)
theorem Qk (l:List Lt) (z:Lt):z∈(mkC l).lits ↔ z∈l:=by
 show z∈Hh (Nr l) ↔ _
 rw [Qbj]
 exact (GK l).mem_iff
theorem Qau (l:List Lt):(mkC l).lits.length≤l.length:=by
 show (Hh (Nr l)).length≤_
 rw [O4]
 have:=Qam (Hg (Nr l)) (Nr l).length
 rw [(GK l).length_eq] at this
 exact Nat.le_trans (by rw [(GK l).length_eq]; exact zN _) this
theorem R8 (l:List Lt) (hl:l.length≤1048576) (hf:∀ x∈l,x.fine):E 138 [.arr (l.map Lt.d)] []=some ((mkC l).osv,(mkC l).obs):=by
 have h10:((1:Int)=0)=False:=by simp
 have hsn:=Qbx
 have hcn:=Vn
 have hs1:=Qeq 73 l (by omega) hf
 have hs2:=Zo 73 (Nr l) (by rw [(GK l).length_eq]; omega) (fun x hx=>hf x ((GK l).mem_iff.1 hx))
 refine Af PO CJ (of_decide_eq_true rfl) ?_
 simp (disch:=omega) only [JU,go_sem,Aa]
 refine go_loop (α:=Int) (fun a=>⟨slots 29 0 [(2,.ptr 0 0),(3,.ptr 1 0),(7,.arr (l.map Lt.d)),(8,.int .i64 l.length),(9,.int .i64 a)],(if a=0 then [.box 28 [.nil],.box 28 [.nil]] else [.box 28 [.nil],.box 28 [.ref 2],.row 73 3 ((l.take a.toNat).map Lt.o)])⟩) (fun a=>∃ k:Nat,a=k∧k≤(l).length) (fun a=>(l).length-(a).toNat) 0 ⟨0,rfl,zH _⟩ (by simp (disch:=omega) only [go_sem,Aa,eq_self,if_true]) ?_
 rintro i ⟨k,hi,hk⟩
 have hni:i.toNat=k:=by omega
 have hni1:(i+1).toNat=k+1:=by omega
 rcases zB k (l).length with hlt | hge
 ·have hg:=get_at Lt.d hlt
  rw [Lt.d_eq] at hg
  have hc:=Mh l[k] (hf _ (zD hlt)).2
  have hs:=D9 Lt.o hlt
  rw [Lt.o_eq] at hs
  rcases zJ k with h0 | h0
  ·subst h0
   obtain rfl:i=0:=hi
   rw [z7,zM,zU] at hs
   simp (disch:=omega) only [go_sem,Aa,hni,hg,hc,C9,eq_self,if_true]
   refine ⟨1,⟨1,rfl,hlt⟩,by omega,?_⟩
   simp (disch:=omega) only [go_sem,Aa,h10,if_false,hs]
  ·have hi0:(i=0)=False:=by simp; omega
   have hi1:(i+1=0)=False:=by simp; omega
   have htl:(l.take k).length=k:=by rw [zP]; omega
   simp (disch:=omega) only [go_sem,Aa,hni,hg,hc,C9,hi0,if_false,htl]
   refine ⟨i+1,⟨k+1,by omega,hlt⟩,by omega,?_⟩
   simp (disch:=omega) only [go_sem,Aa,hni1,hi1,if_false,hs]
 ·obtain rfl:k=l.length:=by omega
  have ht:l.take l.length=l:=zR
  rcases zJ l.length with h0 | h0
  ·have hx:l=[]:=zI h0
   obtain rfl:i=0:=by omega
   have hm:(mkC l).lits=[]:=by rw [hx]; exact Qer
   simp (disch:=omega) only [go_sem,Aa,hni,eq_self,if_true,hsn,hcn,hm,zM,AJ,AF]
  ·have hi0:(i=0)=False:=by simp; omega
   have hm:(Hh (Nr l))=(mkC l).lits:=rfl
   simp (disch:=omega) only [go_sem,Aa,hni,hi0,if_false,ht,hs1,hs2,hm,AJ,AF]
noncomputable def Dc:List Lt→Lt→Nat
 | [],_=>0
 | y :: r,x=>if y.cmp x < 0 then Dc r x+1 else 0
noncomputable def HG:List Lt→Lt→List Lt
 | [],x=>[x]
 | y :: r,x=>if y.cmp x < 0 then y :: HG r x else if y.cmp x=0 then y :: r else x :: y :: r
theorem Qav (x:Lt):∀ xs:List Lt,Dc xs x≤xs.length
 | []=>zN _
 | y :: r=>by
  rw [Dc]
  have:=Qav x r
  split <;> simp <;> omega
theorem Qby {xs:List Lt} {x:Lt} {k:Nat} (h:k+Dc (xs.drop k) x=Dc xs x) (hk:k<xs.length):(xs[k].cmp x<0∧k+1+Dc (xs.drop (k+1)) x=Dc xs x)∨(¬ xs[k].cmp x<0∧k=Dc xs x):=by
 rw [zC hk,Dc] at h
 by_cases hq:xs[k].cmp x<0
 ·rw [if_pos hq] at h; exact .inl ⟨hq,by omega⟩
 ·rw [if_neg hq] at h; exact .inr ⟨hq,by omega⟩
theorem R9 {x:Lt}:∀ {xs:List Lt} (hlt:Dc xs x<xs.length),xs[Dc xs x].cmp x=0→HG xs x=xs
 | [],hlt,_=>by simp at hlt
 | y :: r,hlt,h=>by
  rw [HG]
  by_cases hq:y.cmp x<0
  ·have e:Dc (y :: r) x=Dc r x+1:=by rw [Dc,if_pos hq]
   rw [if_pos hq]
   simp only [e,zL,yL] at hlt h
   rw [R9 (by omega) h]
  ·have e:Dc (y :: r) x=0:=by rw [Dc,if_neg hq]
   simp only [e,yM] at h
   rw [if_neg hq,if_pos h]
theorem RA {x:Lt}:∀ {xs:List Lt},(∀ hlt:Dc xs x<xs.length,xs[Dc xs x].cmp x≠0)→HG xs x=xs.take (Dc xs x)++[x]++xs.drop (Dc xs x)
 | [],_=>rfl
 | y :: r,h=>by
  rw [HG]
  by_cases hq:y.cmp x<0
  ·have e:Dc (y :: r) x=Dc r x+1:=by rw [Dc,if_pos hq]
   rw [if_pos hq,e,List.take_succ_cons,List.drop_succ_cons,yG,yG]
   rw [RA fun hlt=>?_]
   have:=h (by rw [e]; simpa using hlt)
   simp only [e,yL] at this
   exact this
  ·have e:Dc (y :: r) x=0:=by rw [Dc,if_neg hq]
   have:=h (by rw [e]; simp)
   simp only [e,yM] at this
   rw [if_neg hq,if_neg this,e]
   rfl
theorem N9 (x z:Lt):∀ xs:List Lt,z∈HG xs x ↔ z=x∨z∈xs
 | []=>by simp [HG]
 | y :: r=>by
  rw [HG]
  split
  ·rw [yC,N9 x z r,yC]
   constructor
   ·rintro (h | h | h) <;> simp [h]
   ·rintro (h | h | h) <;> simp [h]
  ·split
   ·rename_i h0
    have e:y=x:=(Lt.cmp_ord y x x).zero.1 h0
    subst e
    simp
   ·simp
theorem P6 (x:Lt):∀ {xs:List Lt},Dy xs→Dy (HG xs x)
 | [],_=>List.pairwise_singleton _ _
 | y :: r,h=>by
  obtain ⟨h1,h2⟩:=zY.1 h
  rw [HG]
  split
  ·rename_i hq
   refine zY.2 ⟨fun z hz=>?_,P6 x h2⟩
   rcases (N9 x z r).1 hz with rfl | hz
   ·exact hq
   ·exact h1 z hz
  ·split
   ·exact h
   ·rename_i hq h0
    have ha:=(Lt.cmp_ord y x x).anti
    have hxy:x.cmp y<0:=by omega
    refine zY.2 ⟨fun z hz=>?_,h⟩
    rcases yC.1 hz with rfl | hz
    ·exact hxy
    ·exact (Lt.cmp_ord x y z).trans hxy (h1 z hz)
theorem WW (x:Lt):∀ xs:List Lt,(HG xs x).length≤xs.length+1
 | []=>zN _
 | y :: r=>by
  rw [HG]
  have:=WW x r
  split
  ·simpa using this
  ·split <;> simp
noncomputable def KN (out l:List Lt):List Lt:=l.foldl HG out
theorem Uc (z:Lt):∀ (l out:List Lt),z∈KN out l ↔ z∈out∨z∈l
 | [],out=>by simp [KN]
 | x :: l,out=>by
  show z∈KN (HG out x) l ↔ _
  rw [Uc z l,N9,yC]
  constructor
  ·rintro ((h | h) | h) <;> simp [h]
  ·rintro (h | h | h) <;> simp [h]
theorem NA:∀ (l:List Lt) {out:List Lt},Dy out→Dy (KN out l)
 | [],_,h=>h
 | x :: l,_,h=>NA l (P6 x h)
theorem Qbz (l:List Lt):KN [] l=(mkC l).lits:=J5 (NA l y3) (MJ l) fun z=>by
 rw [Uc,Qk]; simp
theorem Lt.ot_take (xs:List Lt) (k:Nat):((xs.map Lt.d).take k).map (fun x=>x.map D.ot)=(xs.take k).map fun b=>b.d.map D.ot:=by
 rw [←List.map_take,yN]; rfl
theorem Lt.ot_drop (xs:List Lt) (k:Nat):((xs.map Lt.d).drop k).map (fun x=>x.map D.ot)=(xs.drop k).map fun b=>b.d.map D.ot:=by
 rw [←List.map_drop,yN]; rfl
theorem Lt.al3 (xs:List Lt):((xs.map fun b=>b.d.map D.ot).all fun l=>l.length == 3)=true:=by
 rw [List.all_map,zO]
 intro x _
 show ((x.d.map D.ot).length == 3)=true
 rw [Lt.d_eq]; rfl
theorem Lt.ald3 (xs:List Lt):((xs.map Lt.d).all fun l=>l.length == 3)=true:=by
 rw [List.all_map,zO]
 intro x _
 show (x.d.length == 3)=true
 rw [Lt.d_eq]; rfl
theorem Lt.dfu:∀ xs:List Lt,OT.AM (xs.map fun b=>b.d.map D.ot)=true
 | []=>rfl
 | x :: xs=>by rw [zQ,Lt.d_eq]; simp [OT.AM,OT.Dr,OT.full,D.ot,Lt.dfu xs]
theorem Lt.der:∀ xs:List Lt,OT.erss (xs.map fun b=>b.d.map D.ot)=xs.map Lt.d
 | []=>rfl
 | x :: xs=>by rw [zQ,zQ,Lt.d_eq]; simp [OT.erss,OT.ers,OT.er,D.ot,Lt.der xs]
theorem RB (l:List Lt) (hl:l.length≤1048576) (hf:∀ x∈l,x.fine):E 117 [.arr (l.map Lt.d)] []=some ((mkC l).sv,[]):=by
 have hsv:(mkC l).sv=.agg [.arr ((KN [] l).map Lt.d)]:=by rw [Qbz]
 rw [hsv]
 refine Af SS CV (of_decide_eq_true rfl) ?_
 simp (disch:=omega) only [Mg,go_sem,Aa]
 refine go_loop (α:=Int × List Lt) (fun a=>⟨slots 74 0 [(0,.arr (l.map Lt.d)),(2,.ptr 0 0),(3,.arr (a.2.map Lt.d)),(4,.int .i64 a.1)],[.box 28 [.nil]]⟩) (fun a=>∃ k:Nat,a.1=k∧k≤l.length∧KN a.2 (l.drop k)=KN [] l∧a.2.length≤k∧∀ y∈a.2,y.fine) (fun a=>l.length-a.1.toNat) (0,[]) ⟨0,rfl,zH _,by rw [zG],zN _,fun y hy=>by cases hy⟩ (by simp (disch:=omega) only [go_sem,Aa]) ?_
 rintro ⟨i,out⟩ ⟨k,hi,hk,hR,hol,hof⟩
 dsimp only at hi hR hol hof
 have hni:i.toNat=k:=by omega
 rcases zB k l.length with hlt | hge
 ·have hg:=get_at Lt.d hlt
  rw [Lt.d_eq] at hg
  have hxf:=hf l[k] (zD hlt)
  have hxn:∀ out2:List Lt,HG out l[k]=out2→KN out2 (l.drop (k+1))=KN [] l:=fun out2 h=>by
   rw [zC hlt] at hR
   rw [←h]
   exact hR
  simp (disch:=omega) only [go_sem,Aa,hni,hg]
  refine go_loop (α:=Int) (fun a=>⟨slots 74 0 [(0,.arr (l.map Lt.d)),(2,.ptr 0 0),(3,.arr (out.map Lt.d)),(4,.int .i64 i),(5,.int .i64 a)],[.box 28 [.nil]]⟩) (fun a=>∃ m:Nat,a=m∧m≤out.length∧m+Dc (out.drop m) l[k]=Dc out l[k]) (fun a=>out.length-a.toNat) 0 ⟨0,rfl,zH _,by rw [zG,Nat.zero_add]⟩ (by simp (disch:=omega) only [go_sem,Aa]) ?_
  rintro j ⟨m,hj,hm,hR2⟩
  have hnj:j.toNat=m:=by omega
  have ho:=Qj l[k].atom hxf.2
  have e1:=Lt.ot_take out (Dc out l[k])
  have e2:=Lt.ot_drop out (Dc out l[k])
  have e3:=Lt.al3 (out.take (Dc out l[k]))
  have e4:=Lt.al3 (out.drop (Dc out l[k]))
  have e5:=Lt.ald3 out
  have l1:=Qav l[k] out
  have e6:(out.map Lt.d).take out.length=out.map Lt.d:=List.take_of_length_le (by simp)
  have e7:(out.take (Dc out l[k])).length=Dc out l[k]:=by rw [zP]; omega
  have e8:(out.drop (Dc out l[k])).length=out.length-Dc out l[k]:=List.length_drop
  have hfu:=Lt.dfu (HG out l[k])
  have her:=Lt.der (HG out l[k])
  have hpl:=WW l[k] out
  have hpf:∀ y∈HG out l[k],y.fine:=fun y hy=>by
   rcases (N9 l[k] y out).1 hy with rfl | hy
   ·exact hxf
   ·exact hof y hy
  rcases zB m out.length with hltm | hgem
  ·have hgm:=get_at Lt.d hltm
   rw [Lt.d_eq] at hgm
   have hof2:=hof out[m] (zD hltm)
   have hc:=N4 out[m] l[k] hof2.1 hxf.1 hof2.2 hxf.2
   rcases Qby hR2 hltm with ⟨q,hR'⟩ | ⟨q,hm'⟩
   ·simp (disch:=omega) only [go_sem,Aa,hni,hg,hnj,hgm,hc,Bp,q]
    exact ⟨j+1,⟨m+1,by omega,hltm,hR'⟩,by omega,by first | trivial | rfl⟩
   ·subst hm'
    by_cases h0:out[Dc out l[k]].cmp l[k]=0
    ·have hp:=R9 hltm h0
     rw [h0] at hc
     simp (disch:=omega) only [go_sem,Aa,hni,hg,hnj,hgm,hc,Bp,q,h0]
     exact ⟨(i+1,out),⟨k+1,by dsimp only; omega,hlt,hxn _ hp,by dsimp only; omega,hof⟩,by dsimp only; omega,by first | trivial | rfl⟩
    ·have hp:=RA (fun _=>h0)
     have hx2:(out.take (Dc out l[k])).map (fun b=>b.d.map D.ot)++[[OT.bool l[k].pos,.str l[k].atom.name,.sh (l[k].atom.args.map Tm.d)]]++(out.drop (Dc out l[k])).map (fun b=>b.d.map D.ot)=(HG out l[k]).map fun b=>b.d.map D.ot:=by
      rw [hp]
      simp only [yE,zQ,List.append_assoc,yG,zU]
      rw [Lt.d_eq]; rfl
     simp (disch:=omega) only [go_sem,Aa,hni,hg,hnj,hgm,hc,Bp,q,h0,e1,e2,e3,e4,e5,e6,e7,e8,hx2,hfu,her,ho,yD,z8,CP]
     exact ⟨(i+1,HG out l[k]),⟨k+1,by dsimp only; omega,hlt,hxn _ rfl,by dsimp only; omega,hpf⟩,by dsimp only; omega,by first | trivial | rfl⟩
  ·obtain rfl:m=out.length:=by omega
   have hk':out.length=Dc out l[k]:=by rw [←hR2,zF (zN _)]; simp [Dc]
   have hp:=RA (x:=l[k]) (xs:=out) (fun hlt=>by omega)
   have hx2:(out.take (Dc out l[k])).map (fun b=>b.d.map D.ot)++[[OT.bool l[k].pos,.str l[k].atom.name,.sh (l[k].atom.args.map Tm.d)]]++(out.drop (Dc out l[k])).map (fun b=>b.d.map D.ot)=(HG out l[k]).map fun b=>b.d.map D.ot:=by
    rw [hp]
    simp only [yE,zQ,List.append_assoc,yG,zU]
    rw [Lt.d_eq]; rfl
   rw [hk'] at hnj
   simp (disch:=omega) only [go_sem,Aa,hni,hg,hnj,e1,e2,e3,e4,e5,e6,e7,e8,hx2,hfu,her,ho,yD,z8,CP]
   exact ⟨(i+1,HG out l[k]),⟨k+1,by dsimp only; omega,hlt,hxn _ rfl,by dsimp only; omega,hpf⟩,by dsimp only; omega,by first | trivial | rfl⟩
 ·rw [zF hge] at hR
  have hR:out=KN [] l:=hR
  rw [←hR]
  simp (disch:=omega) only [go_sem,Aa,hni]
theorem RC:∀ x y:List UInt8,Op.bytesLess x y=true→Op.bytesLess y x=false
 | [],[],h=>by simp [Op.bytesLess] at h
 | [],_ :: _,_=>rfl
 | _ :: _,[],h=>by simp [Op.bytesLess] at h
 | a :: x,b :: y,h=>by
  simp only [Op.bytesLess,Bool.or_eq_true,decide_eq_true_eq,zA,beq_iff_eq] at h
  simp only [Op.bytesLess,Bool.or_eq_false_iff,decide_eq_false_iff_not]
  rcases h with h | ⟨rfl,h⟩
  ·have h2:¬ b<a:=by intro h3; exact absurd (UInt8.lt_trans h h3) (UInt8.lt_irrefl _)
   have h3:(b == a)=false:=by
    rw [beq_eq_false_iff_ne]; rintro rfl; exact UInt8.lt_irrefl _ h
   exact ⟨h2,by rw [h3]; rfl⟩
  ·exact ⟨UInt8.lt_irrefl _,by rw [RC x y h]; simp⟩
theorem RD:∀ x y:List UInt8,Op.bytesLess x y=false→Op.bytesLess y x=false→x=y
 | [],[],_,_=>rfl
 | [],_ :: _,h,_=>by simp [Op.bytesLess] at h
 | _ :: _,[],_,h=>by simp [Op.bytesLess] at h
 | a :: x,b :: y,h,k=>by
  simp only [Op.bytesLess,Bool.or_eq_false_iff,decide_eq_false_iff_not] at h k
  have hab:a=b:=by
   have h1:=h.1; have h2:=k.1
   rw [UInt8.lt_iff_toNat_lt] at h1 h2
   exact UInt8.toNat_inj.1 (by omega)
  subst hab
  have h1:Op.bytesLess x y=false:=by simpa using h.2
  have h2:Op.bytesLess y x=false:=by simpa using k.2
  rw [RD x y h1 h2]
theorem KO {a b:ByteArray} (h:strLt a b=true):strLt b a=false:=RC _ _ h
theorem KP {a b:ByteArray} (h:strLt a b=false) (h':strLt b a=false):a=b:=Or (RD _ _ h h')
theorem IY (a b:ByteArray):(strLt a b || dec (a=b))=!strLt b a:=by
 cases h:strLt b a with
 | false =>
  cases h2:strLt a b with
  | false=>rw [As (KP h2 h)]; rfl
  | true=>rfl
 | true =>
  rw [KO h,Az (by rintro rfl; rw [Hn] at h; cases h)]
  rfl
theorem RE:∀ x y z:List UInt8,Op.bytesLess x y=true→Op.bytesLess y z=true→Op.bytesLess x z=true
 | _,_,[],_,h=>by simp [Op.bytesLess] at h
 | [],[],_ :: _,h,_=>by simp [Op.bytesLess] at h
 | [],_ :: _,_ :: _,_,_=>rfl
 | _ :: _,[],_ :: _,h,_=>by simp [Op.bytesLess] at h
 | a :: x,b :: y,c :: z,h,k=>by
  simp only [Op.bytesLess,Bool.or_eq_true,decide_eq_true_eq,zA,beq_iff_eq] at h k ⊢
  rcases h with h | ⟨rfl,h⟩
  ·rcases k with k | ⟨rfl,k⟩
   ·exact .inl (UInt8.lt_trans h k)
   ·exact .inl h
  ·rcases k with k | ⟨rfl,k⟩
   ·exact .inl k
   ·exact .inr ⟨rfl,RE x y z h k⟩
theorem KQ {a b c:ByteArray} (h:strLt a b=true) (k:strLt b c=true):strLt a c=true:=RE _ _ _ h k
theorem WX {a b:ByteArray} (h:strLt a b=true):¬ a=b:=by rintro rfl; rw [Hn] at h; cases h
theorem WY (a b:ByteArray):dec (EK a b<0)=strLt a b:=by
 unfold EK
 cases strLt a b
 ·cases dec (a=b)
  ·exact Az (by simp)
  ·exact Az (by simp)
 ·exact As (by simp)
theorem Qb0 (a b:ByteArray):dec (EK a b=0)=dec (a=b):=by
 unfold EK
 cases h:strLt a b
 ·cases h2:dec (a=b)
  ·exact Az (by simp)
  ·exact As (by simp)
 ·rw [Az (WX h)]
  exact Az (by simp)
theorem wrap_u64 {n:Int} (h0:0≤n) (h1:n≤18446744073709551615):IntKind.u64.wrap n=n:=VZ (by
 have e1:IntKind.u64.min=0:=by decide
 have e2:IntKind.u64.max=18446744073709551615:=by decide
 unfold inK
 rw [e1,e2]
 exact ⟨h0,h1⟩)
noncomputable def HH (x:Bd):Bool:=Aq x.var&&(x.term.valid&&!dec (x.term.name=x.var))
noncomputable def WZ (xs:List Bd) (k:Nat):Bool:=match xs[k]? with
 | none=>true
 | some x=>HH x&&(match k with
  | 0=>true
  | j+1=>match xs[j]? with
   | none=>true
   | some y=>strLt y.var x.var)
noncomputable def IZ (xs:List Bd):Nat→Bool
 | 0=>true
 | k+1=>IZ xs k&&WZ xs k
theorem Qb1 {xs:List Bd} {k n:Nat} (h:IZ xs k=false) (hn:k≤n):IZ xs n=false:=by
 induction n with
 | zero =>
      obtain rfl:k=0:=by omega
      exact h
 | succ n ih =>
  rcases zB n k with h1 | h1
  ·obtain rfl:k=n+1:=by omega
   exact h
  ·rw [IZ,ih h1]; rfl
theorem Ja {xs:List Bd} (h:0<xs.length):WZ xs 0=HH xs[0]:=by
 unfold WZ
 rw [zS h]
 simp
theorem GO {xs:List Bd} {j:Nat} (h:j+1<xs.length):WZ xs (j+1)=(HH xs[j+1]&&strLt xs[j].var xs[j+1].var):=by
 unfold WZ
 rw [zS h]
 simp only [zS (show j<xs.length by omega)]
theorem Qaw {xs:List Bd} {k j:Nat} (h:IZ xs k=true) (hj:j<k):WZ xs j=true:=by
 induction k with
 | zero=>omega
 | succ k ih =>
  rw [IZ,zA] at h
  rcases zB j k with h1 | h1
  ·exact ih h.1 h1
  ·obtain rfl:j=k:=by omega
   exact h.2
theorem Qes {xs:List Bd} {j:Nat} (hl:j<xs.length) (h:WZ xs j=true):HH xs[j]=true:=by
 cases j with
 | zero=>rw [←Ja hl]; exact h
 | succ j=>rw [GO hl,zA] at h; exact h.1
noncomputable def Sb.ok (x:Sb):Bool:=decide (x.binds.length≤12)&&IZ x.binds x.binds.length
theorem Sb.not_ok {x:Sb} {k:Nat} (h:IZ x.binds k=true) (h':WZ x.binds k=false) (hk:k<x.binds.length):x.ok=false:=by
 have:IZ x.binds x.binds.length=false:=Qb1 (k:=k+1) (by rw [IZ,h,h']; rfl) (by omega)
 unfold Sb.ok
 rw [this,zK]
def Sb.tame (x:Sb):Prop:=x.binds.length≤1099511627776∧∀ y∈x.binds,y.term.nodes≤1099511627776
theorem Sb.tame_at {x:Sb} (h:x.tame) {k:Nat} (hk:k<x.binds.length):x.binds[k].term.nodes≤1099511627776:=h.2 _ (zD hk)
def Ea:SC:=(.seq (.reg [⟨some 1,none,.boxv 76 1 (.t 0)⟩,⟨some 2,none,.mv (.c (.bool false))⟩]) (.seq (.seq (.reg [⟨some 5,none,.faddr 0 (.t 1)⟩,⟨some 6,none,.load false 1 (.t 5)⟩,⟨some 7,none,.len false (.t 6)⟩,⟨some 8,none,.mv (.c (.int .i64 0))⟩]) (.block 0 (.loop [0,1,0,0,0,0,1,1,1,0,0,0,0,0,0,0,0,0,0,0,0,0,0,0,0,0,0,0,0,0,0,0,0,0,0,0,0,0,0,0,0,0,0,0,0,0,0,0,0,0,0,0] (.seq (.reg [⟨some 9,none,.bin .lss false (.t 8) (.t 7)⟩]) (.seq (.cond (.t 9) .skip (.exit 0)) (.seq (.block 1 (.seq (.reg [⟨some 10,none,.mv (.t 8)⟩,⟨some 11,none,.iaddr 3 (.t 6) (.t 8)⟩,⟨some 12,none,.load true 3 (.t 11)⟩,⟨(some 4),none,(.alloc 139 [(.str ⟨#[]⟩),(.str ⟨#[]⟩),.nil])⟩,⟨some 3,none,.mv (.t 10)⟩,⟨none,none,(.store 3 (.t 4) (.t 12))⟩]) (.seq (.dreg [[],[0],[1,0],[2,1,0],[3,2,1,0],[4,3,2,1,0],[5,4,3,2,1,0],[6,5,4,3,2,1,0],[7,6,5,4,3,2,1,0],[8,7,6,5,4,3,2,1,0],[7,6,5,4,3,2,1,0],[10,7,6,5,4,3,2,1,0],[7,6,5,4,3,2,1,0],[12,7,6,5,4,3,2,1,0],[11,10,7,6,5,4,3,2,1,0,13,12],[14,11,10,7,6,5,4,3,2,1,0,13,12],[15,14,11,10,7,6,5,4,3,2,1,0,13,12],[9,8,7,6,5,4,3,2,1,0,16,15,14,11,10,13,12],[7,6,5,4,3,2,1,0,17,9,8,16,15,14,11,10,13,12],[4,3,2,1,0,18,7,6,5,17,9,8,16,15,14,11,10,13,12],[19,4,3,2,1,0,18,7,6,5,17,9,8,16,15,14,11,10,13,12],[20,19,4,3,2,1,0,18,7,6,5,17,9,8,16,15,14,11,10,13,12],[21,20,19,4,3,2,1,0,18,7,6,5,17,9,8,16,15,14,11,10,13,12],[22,21,20,19,4,3,2,1,0,18,7,6,5,17,9,8,16,15,14,11,10,13,12],[23,22,21,20,19,4,3,2,1,0,18,7,6,5,17,9,8,16,15,14,11,10,13,12],[20,19,4,3,2,1,0,18,7,6,5,17,9,8,16,15,14,11,10,13,12,24,23,22,21],[25,20,19,4,3,2,1,0,18,7,6,5,17,9,8,16,15,14,11,10,13,12,24,23,22,21],[26,25,20,19,4,3,2,1,0,18,7,6,5,17,9,8,16,15,14,11,10,13,12,24,23,22,21],[27,26,25,20,19,4,3,2,1,0,18,7,6,5,17,9,8,16,15,14,11,10,13,12,24,23,22,21],[28,27,26,25,20,19,4,3,2,1,0,18,7,6,5,17,9,8,16,15,14,11,10,13,12,24,23,22,21],[26,25,20,19,4,3,2,1,0,18,7,6,5,17,9,8,16,15,14,11,10,13,12,24,23,22,21],[30,26,25,20,19,4,3,2,1,0,18,7,6,5,17,9,8,16,15,14,11,10,13,12,24,23,22,21],[29,28,27,26,25,20,19,4,3,2,1,0,18,7,6,5,17,9,8,16,15,14,11,10,13,12,24,23,22,21,31,30],[26,25,20,19,4,3,2,1,0,18,7,6,5,17,9,8,16,15,14,11,10,13,12,24,23,22,21,32,29,28,27,31,30]] [⟨some 13,none,.faddr 0 (.t 4)⟩,⟨some 14,none,.load false 1 (.t 13)⟩,⟨some 15,none,.call 162 [(.t 14)]⟩,⟨some 16,none,.un .not (.t 15)⟩,⟨some 17,none,.mv (.t 16)⟩,⟨(some 18),(some (17,false)),(.mv (.t 3))⟩,⟨(some 19),(some (17,false)),(.bin .gtr false (.t 18) (.c (.int .i64 0)))⟩,⟨(some 20),(some (17,false)),(.mv (.t 19))⟩,⟨(some 21),(some (20,true)),(.faddr 0 (.t 4))⟩,⟨(some 22),(some (20,true)),(.load false 1 (.t 21))⟩,⟨(some 23),(some (20,true)),(.faddr 0 (.t 1))⟩,⟨(some 24),(some (20,true)),(.load false 1 (.t 23))⟩,⟨(some 25),(some (20,true)),(.mv (.t 3))⟩,⟨(some 26),(some (20,true)),(.bin .sub false (.t 25) (.c (.int .i64 1)))⟩,⟨(some 27),(some (20,true)),(.iaddr 3 (.t 24) (.t 26))⟩,⟨(some 28),(some (20,true)),(.faddr 0 (.t 27))⟩,⟨(some 29),(some (20,true)),(.load false 1 (.t 28))⟩,⟨(some 30),(some (20,true)),(.bin .leq false (.t 22) (.t 29))⟩,⟨(some 31),(some (17,false)),(.pick (.t 20) (.t 30) (.c (.bool false)))⟩,⟨some 32,none,.pick (.t 17) (.c (.bool true)) (.t 31)⟩,⟨some 33,none,.mv (.t 32)⟩,⟨(some 34),(some (33,false)),(.faddr 1 (.t 4))⟩,⟨(some 35),(some (33,false)),(.load true 2 (.t 34))⟩,⟨(some 36),(some (33,false)),(.call 154 [(.t 35)])⟩,⟨(some 37),(some (33,false)),(.un .not (.t 36))⟩,⟨some 38,none,.pick (.t 33) (.c (.bool true)) (.t 37)⟩,⟨some 39,none,.mv (.t 38)⟩,⟨(some 40),(some (39,false)),(.faddr 1 (.t 4))⟩,⟨(some 41),(some (39,false)),(.faddr 0 (.t 40))⟩,⟨(some 42),(some (39,false)),(.load false 1 (.t 41))⟩,⟨(some 43),(some (39,false)),(.faddr 0 (.t 4))⟩,⟨(some 44),(some (39,false)),(.load false 1 (.t 43))⟩,⟨(some 45),(some (39,false)),(.bin .eql false (.t 42) (.t 44))⟩,⟨some 46,none,.pick (.t 39) (.c (.bool true)) (.t 45)⟩]) (.cond (.t 46) (.seq (.reg [⟨some 2,none,.mv (.c (.bool false))⟩]) .ret) .skip)))) (.reg [⟨some 47,none,.bin .add false (.t 8) (.c (.int .i64 1))⟩,⟨some 8,none,.mv (.t 47)⟩]))))))) (.seq (.reg [⟨some 48,none,.faddr 0 (.t 1)⟩,⟨some 49,none,.load false 1 (.t 48)⟩,⟨some 50,none,.len false (.t 49)⟩,⟨some 51,none,.bin .leq false (.t 50) (.c (.int .i64 12))⟩,⟨some 2,none,.mv (.t 51)⟩]) .ret)))
theorem Hr:codeOf Tryz.prog 131=some ⟨52,Ea,[(.tmp 2)]⟩:=by kernel_rfl
theorem Ay:modes 131=⟨[],.asis,none,false⟩:=by unfold modes; rfl
def Mj:SC:=(.seq (.reg [⟨some 1,none,.boxv 76 1 (.t 0)⟩,⟨some 2,none,.mv (.c (.bool false))⟩]) (.seq (.seq (.reg [⟨some 3,none,.mv (.c (.int .i64 0))⟩]) (.block 0 (.loop [0,1,0,1,0,0,0,0,0,0,0,0,0,0,0,0,0,0,0,0,0,0,0,0,0,0,0,0,0,0,0,0,0,0,0,0,0,0,0,0,0,0,0,0,0,0,0,0,0,0,0,0,0,0,0] (.seq (.seq (.reg [⟨some 5,none,.mv (.t 3)⟩,⟨some 6,none,.faddr 0 (.t 1)⟩,⟨some 7,none,.load false 1 (.t 6)⟩,⟨some 8,none,.len false (.t 7)⟩,⟨some 9,none,.bin .lss false (.t 5) (.t 8)⟩]) (.cond (.t 9) .skip (.exit 0))) (.seq (.block 1 (.seq (.reg [⟨some 12,none,.faddr 0 (.t 1)⟩,⟨some 13,none,.load false 1 (.t 12)⟩,⟨some 14,none,.mv (.t 3)⟩,⟨some 15,none,.iaddr 3 (.t 13) (.t 14)⟩,⟨some 16,none,.load true 3 (.t 15)⟩,⟨(some 4),none,(.alloc 139 [(.str ⟨#[]⟩),(.str ⟨#[]⟩),.nil])⟩,⟨none,none,(.store 3 (.t 4) (.t 16))⟩]) (.seq (.dreg [[],[0],[1,0],[2,1,0],[3,2,1,0],[4,3,2,1,0],[5,4,3,2,1,0],[6,5,4,3,2,1,0],[7,6,5,4,3,2,1,0],[4,3,2,1,0,8,7,6,5],[9,4,3,2,1,0,8,7,6,5],[10,9,4,3,2,1,0,8,7,6,5],[11,10,9,4,3,2,1,0,8,7,6,5],[12,11,10,9,4,3,2,1,0,8,7,6,5],[10,9,4,3,2,1,0,8,7,6,5],[14,10,9,4,3,2,1,0,8,7,6,5],[13,12,11,10,9,4,3,2,1,0,8,7,6,5,15,14],[10,9,4,3,2,1,0,8,7,6,5,16,13,12,11,15,14],[17,10,9,4,3,2,1,0,8,7,6,5,16,13,12,11,15,14],[18,17,10,9,4,3,2,1,0,8,7,6,5,16,13,12,11,15,14],[19,18,17,10,9,4,3,2,1,0,8,7,6,5,16,13,12,11,15,14],[20,19,18,17,10,9,4,3,2,1,0,8,7,6,5,16,13,12,11,15,14],[21,20,19,18,17,10,9,4,3,2,1,0,8,7,6,5,16,13,12,11,15,14],[22,21,20,19,18,17,10,9,4,3,2,1,0,8,7,6,5,16,13,12,11,15,14],[21,20,19,18,17,10,9,4,3,2,1,0,8,7,6,5,16,13,12,11,15,14],[24,21,20,19,18,17,10,9,4,3,2,1,0,8,7,6,5,16,13,12,11,15,14],[23,22,21,20,19,18,17,10,9,4,3,2,1,0,8,7,6,5,16,13,12,11,15,14,25,24],[26,23,22,21,20,19,18,17,10,9,4,3,2,1,0,8,7,6,5,16,13,12,11,15,14,25,24],[27,26,23,22,21,20,19,18,17,10,9,4,3,2,1,0,8,7,6,5,16,13,12,11,15,14,25,24],[21,20,19,18,17,10,9,4,3,2,1,0,8,7,6,5,16,13,12,11,15,14],[29,21,20,19,18,17,10,9,4,3,2,1,0,8,7,6,5,16,13,12,11,15,14],[28,27,26,23,22,21,20,19,18,17,10,9,4,3,2,1,0,8,7,6,5,16,13,12,11,15,14,25,24,30,29],[21,20,19,18,17,10,9,4,3,2,1,0,8,7,6,5,16,13,12,11,15,14,31,28,27,26,23,22,25,24,30,29],[18,17,10,9,4,3,2,1,0,8,7,6,5,16,13,12,11,15,14,32,21,20,19,31,28,27,26,23,22,25,24,30,29]] [⟨some 17,none,.faddr 0 (.t 4)⟩,⟨some 18,none,.load false 1 (.t 17)⟩,⟨some 19,none,.call 77 [(.t 18)]⟩,⟨some 20,none,.un .not (.t 19)⟩,⟨some 21,none,.mv (.t 20)⟩,⟨(some 22),(some (21,false)),(.faddr 1 (.t 4))⟩,⟨(some 23),(some (21,false)),(.load true 2 (.t 22))⟩,⟨(some 24),(some (21,false)),(.call 106 [(.t 23)])⟩,⟨(some 25),(some (21,false)),(.un .not (.t 24))⟩,⟨some 26,none,.pick (.t 21) (.c (.bool true)) (.t 25)⟩,⟨some 27,none,.mv (.t 26)⟩,⟨(some 28),(some (27,false)),(.faddr 1 (.t 4))⟩,⟨(some 29),(some (27,false)),(.faddr 0 (.t 28))⟩,⟨(some 30),(some (27,false)),(.load false 1 (.t 29))⟩,⟨(some 31),(some (27,false)),(.faddr 0 (.t 4))⟩,⟨(some 32),(some (27,false)),(.load false 1 (.t 31))⟩,⟨(some 33),(some (27,false)),(.bin .eql false (.t 30) (.t 32))⟩,⟨some 34,none,.pick (.t 27) (.c (.bool true)) (.t 33)⟩,⟨some 35,none,.mv (.t 34)⟩,⟨(some 36),(some (35,false)),(.mv (.t 3))⟩,⟨(some 37),(some (35,false)),(.bin .gtr false (.t 36) (.c (.int .i64 0)))⟩,⟨(some 38),(some (35,false)),(.mv (.t 37))⟩,⟨(some 39),(some (38,true)),(.faddr 0 (.t 1))⟩,⟨(some 40),(some (38,true)),(.load false 1 (.t 39))⟩,⟨(some 41),(some (38,true)),(.mv (.t 3))⟩,⟨(some 42),(some (38,true)),(.bin .sub false (.t 41) (.c (.int .i64 1)))⟩,⟨(some 43),(some (38,true)),(.iaddr 3 (.t 40) (.t 42))⟩,⟨(some 44),(some (38,true)),(.faddr 0 (.t 43))⟩,⟨(some 45),(some (38,true)),(.load false 1 (.t 44))⟩,⟨(some 46),(some (38,true)),(.faddr 0 (.t 4))⟩,⟨(some 47),(some (38,true)),(.load false 1 (.t 46))⟩,⟨(some 48),(some (38,true)),(.bin .geq false (.t 45) (.t 47))⟩,⟨(some 49),(some (35,false)),(.pick (.t 38) (.t 48) (.c (.bool false)))⟩,⟨some 50,none,.pick (.t 35) (.c (.bool true)) (.t 49)⟩]) (.cond (.t 50) (.seq (.reg [⟨some 2,none,.mv (.c (.bool false))⟩]) .ret) .skip)))) (.reg [⟨some 10,none,.mv (.t 3)⟩,⟨some 11,none,.bin .add false (.t 10) (.c (.int .i64 1))⟩,⟨some 3,none,.mv (.t 11)⟩])))))) (.seq (.reg [⟨some 51,none,.faddr 0 (.t 1)⟩,⟨some 52,none,.load false 1 (.t 51)⟩,⟨some 53,none,.len false (.t 52)⟩,⟨some 54,none,.bin .leq false (.t 53) (.c (.int .i64 12))⟩,⟨some 2,none,.mv (.t 54)⟩]) .ret)))
theorem ST:codeOf Tryz.prog 109=some ⟨55,Mj,[(.tmp 2)]⟩:=by kernel_rfl
theorem Ci:modes 109=⟨[],.asis,none,false⟩:=by unfold modes; rfl
def Mk:SC:=(.seq (.reg [⟨some 2,none,.boxv 76 1 (.t 0)⟩,⟨some 4,none,.mv (.c (.int .i64 0))⟩]) (.seq (.seq (.reg [⟨some 5,none,.mv (.c (.int .i64 0))⟩]) (.block 0 (.loop [0,1,1,0,0,1,0,0,0,0,0,0,0,0,0,0,0,0,0,0,0,0] (.seq (.seq (.reg [⟨some 6,none,.mv (.t 5)⟩,⟨some 7,none,.faddr 0 (.t 2)⟩,⟨some 8,none,.load false 1 (.t 7)⟩,⟨some 9,none,.len false (.t 8)⟩,⟨some 10,none,.bin .lss false (.t 6) (.t 9)⟩]) (.cond (.t 10) .skip (.exit 0))) (.seq (.block 1 (.seq (.reg [⟨some 13,none,.faddr 0 (.t 2)⟩,⟨some 14,none,.load false 1 (.t 13)⟩,⟨some 15,none,.mv (.t 5)⟩,⟨some 16,none,.iaddr 3 (.t 14) (.t 15)⟩,⟨some 17,none,.faddr 0 (.t 16)⟩,⟨some 18,none,.load false 1 (.t 17)⟩,⟨some 19,none,.mv (.t 1)⟩,⟨some 20,none,.bin .eql false (.t 18) (.t 19)⟩]) (.cond (.t 20) (.seq (.reg [⟨some 21,none,.mv (.t 5)⟩,⟨some 4,none,.mv (.t 21)⟩]) .ret) .skip))) (.reg [⟨some 11,none,.mv (.t 5)⟩,⟨some 12,none,.bin .add false (.t 11) (.c (.int .i64 1))⟩,⟨some 5,none,.mv (.t 12)⟩])))))) (.seq (.reg [⟨some 4,none,.mv (.c (.int .i64 (-(0+1))))⟩]) .ret)))
theorem SU:codeOf Tryz.prog 147=some ⟨22,Mk,[(.tmp 4)]⟩:=by kernel_rfl
theorem BI:modes 147=⟨[],.asis,none,false⟩:=by unfold modes; rfl
theorem DI (x:Sb) (hn:x.tame):E 131 [x.sv] []=some (.bool x.ok,[]):=by
  have hl:=hn.1
  refine Af Hr Ay (of_decide_eq_true rfl) ?_
  simp (disch:=omega) only [Ea,go_sem,Aa]
  refine go_loop (α:=Int) (fun a=>⟨slots 52 0 [(1,.ptr 0 0),(6,.arr (x.binds.map Bd.d)),(7,.int .i64 x.binds.length),(8,.int .i64 a)],[.box 76 [.arr (x.binds.map Bd.d)]]⟩) (fun a=>∃ k:Nat,a=k∧k≤(x.binds).length∧IZ x.binds k=true) (fun a=>(x.binds).length-(a).toNat) 0 ⟨0,rfl,zH _,by rw [IZ]⟩ (by simp (disch:=omega) only [go_sem,Aa]) ?_
  rintro i ⟨k,hi,hk,hR⟩
  have hni:i.toNat=k:=by omega
  have hni1:(i+1).toNat=k+1:=by omega
  rcases zB k (x.binds).length with hlt | hge
  · have hg:=get_at Bd.d hlt
    rw [Bd.d_eq] at hg
    have hv:=Me x.binds[k].term (Sb.tame_at hn hlt)
    cases k with
    | zero =>
      obtain rfl:i=0:=hi
      cases hA:Aq x.binds[0].var <;> cases hV:x.binds[0].term.valid <;> cases hD:dec (x.binds[0].term.name=x.binds[0].var)
      all_goals
        first
        | (have e:x.ok=false:=Sb.not_ok hR (by rw [Ja hlt,HH,hA,hV,hD]; rfl) hlt
           rw [e]
           simp (disch:=omega) only [go_sem,Aa,hni,hg,hv,hA,hV,hD,AI,Bn,Ej]
           done)
        | (simp (disch:=omega) only [go_sem,Aa,hni,hg,hv,hA,hV,hD,AI,Bn,Ej]
           exact ⟨1,⟨1,rfl,hlt,by rw [IZ,hR,Ja hlt,HH,hA,hV,hD]; rfl⟩,by omega,by first | trivial | rfl⟩)
    | succ j =>
      have hj:j<x.binds.length:=by omega
      have hg2:=get_at Bd.d hj
      rw [Bd.d_eq] at hg2
      have hni2:(i-1).toNat=j:=by omega
      have hLe:=IY x.binds[j+1].var x.binds[j].var
      cases hS:strLt x.binds[j].var x.binds[j+1].var <;> cases hA:Aq x.binds[j+1].var <;> cases hV:x.binds[j+1].term.valid <;> cases hD:dec (x.binds[j+1].term.name=x.binds[j+1].var)
      all_goals
        first
        | (have e:x.ok=false:=Sb.not_ok hR (by rw [GO hlt,HH,hA,hV,hD,hS]; rfl) hlt
           rw [e]
           simp (disch:=omega) only [go_sem,Aa,hni,hg,hv,hA,hV,hD,AI,Bn,Ej,hS,hni2,hg2,hLe]
           done)
        | (simp (disch:=omega) only [go_sem,Aa,hni,hg,hv,hA,hV,hD,AI,Bn,Ej,hS,hni2,hg2,hLe]
           exact ⟨i+1,⟨j+1+1,by omega,hlt,by rw [IZ,hR,GO hlt,HH,hA,hV,hD,hS]; rfl⟩,by omega,by first | trivial | rfl⟩)
  · obtain rfl:k=x.binds.length:=by omega
    simp (disch:=omega) only [go_sem,Aa,hni]
    unfold Sb.ok
    rw [hR,yI,K0]
    exact decide_eq_decide.2 (by omega)
theorem NB (x:Sb) (hn:x.tame):E 109 [x.sv] []=some (.bool x.ok,[]):=by
  have hl:=hn.1
  refine Af ST Ci (of_decide_eq_true rfl) ?_
  simp (disch:=omega) only [Mj,go_sem,Aa]
  refine go_loop (α:=Int) (fun a=>⟨slots 55 0 [(1,.ptr 0 0),(3,.int .i64 a)],[.box 76 [.arr (x.binds.map Bd.d)]]⟩) (fun a=>∃ k:Nat,a=k∧k≤(x.binds).length∧IZ x.binds k=true) (fun a=>(x.binds).length-(a).toNat) 0 ⟨0,rfl,zH _,by rw [IZ]⟩ (by simp (disch:=omega) only [go_sem,Aa]) ?_
  rintro i ⟨k,hi,hk,hR⟩
  have hni:i.toNat=k:=by omega
  have hni1:(i+1).toNat=k+1:=by omega
  rcases zB k (x.binds).length with hlt | hge
  · have hg:=get_at Bd.d hlt
    rw [Bd.d_eq] at hg
    have hv:=R1 x.binds[k].term (Sb.tame_at hn hlt)
    cases k with
    | zero =>
      obtain rfl:i=0:=hi
      cases hA:Aq x.binds[0].var <;> cases hV:x.binds[0].term.valid <;> cases hD:dec (x.binds[0].term.name=x.binds[0].var)
      all_goals
        first
        | (have e:x.ok=false:=Sb.not_ok hR (by rw [Ja hlt,HH,hA,hV,hD]; rfl) hlt
           rw [e]
           simp (disch:=omega) only [go_sem,Aa,hni,hg,hv,hA,hV,hD,Be,Ah,Am]
           done)
        | (simp (disch:=omega) only [go_sem,Aa,hni,hg,hv,hA,hV,hD,Be,Ah,Am]
           exact ⟨1,⟨1,rfl,hlt,by rw [IZ,hR,Ja hlt,HH,hA,hV,hD]; rfl⟩,by omega,by first | trivial | rfl⟩)
    | succ j =>
      have hj:j<x.binds.length:=by omega
      have hg2:=get_at Bd.d hj
      rw [Bd.d_eq] at hg2
      have hni2:(i-1).toNat=j:=by omega
      have hLe:=IY x.binds[j+1].var x.binds[j].var
      cases hS:strLt x.binds[j].var x.binds[j+1].var <;> cases hA:Aq x.binds[j+1].var <;> cases hV:x.binds[j+1].term.valid <;> cases hD:dec (x.binds[j+1].term.name=x.binds[j+1].var)
      all_goals
        first
        | (have e:x.ok=false:=Sb.not_ok hR (by rw [GO hlt,HH,hA,hV,hD,hS]; rfl) hlt
           rw [e]
           simp (disch:=omega) only [go_sem,Aa,hni,hg,hv,hA,hV,hD,Be,Ah,Am,hS,hni2,hg2,hLe]
           done)
        | (simp (disch:=omega) only [go_sem,Aa,hni,hg,hv,hA,hV,hD,Be,Ah,Am,hS,hni2,hg2,hLe]
           exact ⟨i+1,⟨j+1+1,by omega,hlt,by rw [IZ,hR,GO hlt,HH,hA,hV,hD,hS]; rfl⟩,by omega,by first | trivial | rfl⟩)
  · obtain rfl:k=x.binds.length:=by omega
    simp (disch:=omega) only [go_sem,Aa,hni]
    unfold Sb.ok
    rw [hR,yI,K0]
    exact decide_eq_decide.2 (by omega)
theorem Xa (x:Sb) (n:ByteArray) (hl:x.binds.length≤1099511627776):E 147 [x.sv,.str n] []=some (.int .i64 (Ek (fun b=>dec (b.var=n)) x.binds 0),[]):=by
 refine Af SU BI (of_decide_eq_true rfl) ?_
 simp (disch:=omega) only [Mk,go_sem,Aa]
 refine go_loop (α:=Int) (fun a=>⟨slots 22 0 [(1,.str n),(2,.ptr 0 0),(5,.int .i64 a)],[.box 76 [.arr (x.binds.map Bd.d)]]⟩) (fun a=>∃ k:Nat,a=k∧k≤(x.binds).length∧Ek (fun b=>dec (b.var=n)) (x.binds.drop k) a=Ek (fun b=>dec (b.var=n)) x.binds 0) (fun a=>(x.binds).length-(a).toNat) 0 ⟨0,rfl,zH _,by rw [zG]⟩ (by simp (disch:=omega) only [go_sem,Aa]) ?_
 rintro i ⟨k,hi,hk,hR⟩
 have hni:i.toNat=k:=by omega
 have hni1:(i+1).toNat=k+1:=by omega
 rcases zB k (x.binds).length with hlt | hge
 ·have hg:=get_at Bd.d hlt
  rw [Bd.d_eq] at hg
  rw [zC hlt,Ek] at hR
  cases hp:dec (x.binds[k].var=n) with
  | true =>
   rw [hp] at hR
   simp (disch:=omega) only [go_sem,Aa,hni,hg,hp]
   simpa using hR
  | false =>
   rw [hp] at hR
   simp (disch:=omega) only [go_sem,Aa,hni,hg,hp]
   exact ⟨i+1,⟨k+1,by omega,hlt,by simpa using hR⟩,by omega,by first | trivial | rfl⟩
 ·rw [zF hge,Ek] at hR
  simp (disch:=omega) only [go_sem,Aa,hni]
  exact hR
def NC (xs:List Bd):Prop:=∀ j k (h:j<k) (hk:k<xs.length),strLt xs[j].var xs[k].var=true
theorem Qet {xs:List Bd} (h:IZ xs xs.length=true):NC xs:=by
 intro j k hjk hk
 induction k with
 | zero=>omega
 | succ k ih =>
  have h1:=Qaw h hk
  rw [GO hk,zA] at h1
  rcases zB j k with h2 | h2
  ·exact KQ (ih h2 (by omega)) h1.2
  ·obtain rfl:j=k:=by omega
   exact h1.2
theorem Sb.JV {x:Sb} (h:x.ok=true):NC x.binds:=by
 unfold Sb.ok at h
 rw [zA] at h
 exact Qet h.2
def Bm:List Bd→ByteArray→Nat
 | [],_=>0
 | x :: xs,n=>if strLt x.var n then Bm xs n+1 else 0
theorem Vo (n:ByteArray):∀ xs:List Bd,Bm xs n≤xs.length
 | []=>zN _
 | x :: xs=>by
  have:=Vo n xs
  rw [Bm]; simp only [zL]; split <;> omega
theorem KR (n:ByteArray):∀ (xs:List Bd) (j:Nat) (h:j<xs.length),j<Bm xs n→strLt xs[j].var n=true
 | [],j,h,_=>absurd h (by simp)
 | x :: xs,j,h,hj=>by
  rw [Bm] at hj
  split at hj
  ·rename_i hx
   cases j with
   | zero=>exact hx
   | succ j=>exact KR n xs j (by simpa using h) (by omega)
  ·omega
theorem Vp (n:ByteArray):∀ (xs:List Bd) (h:Bm xs n<xs.length),strLt (xs[Bm xs n]).var n=false
 | [],h=>absurd h (by simp)
 | x :: xs,h=>by
  cases hx:strLt x.var n with
  | false =>
   have e:Bm (x :: xs) n=0:=by rw [Bm,if_neg (by rw [hx]; simp)]
   simp only [e,yM]; exact hx
  | true =>
   have e:Bm (x :: xs) n=Bm xs n+1:=by rw [Bm,if_pos hx]
   have h2:Bm xs n<xs.length:=by rw [e] at h; simpa using h
   simp only [e,yL]; exact Vp n xs h2
theorem QcN {xs:List Bd} (hs:NC xs) (n:ByteArray) {m:Nat} (h:m<xs.length):strLt xs[m].var n=true ↔ m<Bm xs n:=by
 constructor
 ·intro h1
  rcases zB m (Bm xs n) with h2 | h2
  ·exact h2
  ·have h3:=Vp n xs (by omega)
   rcases zB (Bm xs n) m with h4 | h4
   ·rw [KQ (hs _ _ h4 h) h1] at h3; cases h3
   ·have e:Bm xs n=m:=by omega
    simp only [e] at h3
    rw [h1] at h3; cases h3
 ·exact KR n xs m h
noncomputable def DJ (xs:List Bd) (n:ByteArray):Bool:=match xs[Bm xs n]? with
 | none=>false
 | some b=>dec (b.var=n)
def Eb:SC:=(.seq (.reg [⟨some 2,none,.boxv 139 3 (.t 0)⟩,⟨some 4,none,.mv (.c (.int .i64 0))⟩]) (.seq (.reg [⟨some 5,none,.faddr 0 (.t 2)⟩,⟨some 6,none,.load false 1 (.t 5)⟩,⟨some 7,none,.mv (.t 1)⟩,⟨some 8,none,.call 136 [(.t 6),(.t 7)]⟩,⟨some 4,none,.mv (.t 8)⟩]) .ret))
theorem Hs:codeOf Tryz.prog 164=some ⟨9,Eb,[(.tmp 4)]⟩:=by kernel_rfl
theorem BN:modes 164=⟨[],.asis,none,false⟩:=by unfold modes; rfl
theorem CA:Kk Tryz.prog 164=true:=by kernel_rfl
def Ba:SC:=(.seq (.reg [⟨some 6,none,.mv (.c (.int .i64 0))⟩,⟨some 7,none,.mv (.c (.bool false))⟩]) (.seq (.reg [⟨some 12,none,.mv (.t 0)⟩,⟨some 13,none,.len false (.t 12)⟩,⟨some 8,none,.mv (.t 13)⟩]) (.seq (.reg [⟨some 14,none,.mv (.t 8)⟩,⟨some 9,none,.mv (.c (.int .i64 0))⟩,⟨some 10,none,.mv (.t 14)⟩]) (.seq (.block 0 (.loop [1,1,1,0,0,0,0,0,1,1,1,0,0,0,0,0,0,0,0,0,0,0,0,0,0,0,0,0,0,0,0,0,0,0,0,0,0,0,0,0,0,0,0,0,0,0,0,0,0] (.seq (.seq (.reg [⟨some 15,none,.mv (.t 9)⟩,⟨some 16,none,.mv (.t 10)⟩,⟨some 17,none,.bin .lss false (.t 15) (.t 16)⟩]) (.cond (.t 17) .skip (.exit 0))) (.block 1 (.seq (.reg [⟨some 18,none,.mv (.t 9)⟩,⟨some 19,none,.mv (.t 10)⟩,⟨some 20,none,.bin .add false (.t 18) (.t 19)⟩,⟨some 21,none,.conv .u64 (.t 20)⟩,⟨some 22,none,.bin .shr false (.t 21) (.c (.int .u64 1))⟩,⟨some 23,none,.conv .i64 (.t 22)⟩,⟨some 11,none,.mv (.t 23)⟩]) (.seq (.reg [⟨some 24,none,.mv (.t 2)⟩,⟨some 25,none,.mv (.t 0)⟩,⟨some 26,none,.mv (.t 11)⟩,⟨some 27,none,.iaddr 3 (.t 25) (.t 26)⟩,⟨some 28,none,.load true 3 (.t 27)⟩,⟨some 29,none,.mv (.t 1)⟩,⟨some 30,none,.callv (.t 24) [(.t 28),(.t 29)]⟩,⟨some 31,none,.bin .lss false (.t 30) (.c (.int .i64 0))⟩]) (.cond (.t 31) (.reg [⟨some 32,none,.mv (.t 11)⟩,⟨some 33,none,.bin .add false (.t 32) (.c (.int .i64 1))⟩,⟨some 9,none,.mv (.t 33)⟩]) (.reg [⟨some 34,none,.mv (.t 11)⟩,⟨some 10,none,.mv (.t 34)⟩])))))))) (.seq (.reg [⟨some 35,none,.mv (.t 9)⟩,⟨some 36,none,.mv (.t 9)⟩,⟨some 37,none,.mv (.t 8)⟩,⟨some 38,none,.bin .lss false (.t 36) (.t 37)⟩,⟨some 39,none,.mv (.t 38)⟩,⟨(some 40),(some (39,true)),(.mv (.t 2))⟩,⟨(some 41),(some (39,true)),(.mv (.t 0))⟩,⟨(some 42),(some (39,true)),(.mv (.t 9))⟩,⟨(some 43),(some (39,true)),(.iaddr 3 (.t 41) (.t 42))⟩,⟨(some 44),(some (39,true)),(.load true 3 (.t 43))⟩,⟨(some 45),(some (39,true)),(.mv (.t 1))⟩,⟨(some 46),(some (39,true)),(.callv (.t 40) [(.t 44),(.t 45)])⟩,⟨(some 47),(some (39,true)),(.bin .eql false (.t 46) (.c (.int .i64 0)))⟩,⟨some 48,none,.pick (.t 39) (.t 47) (.c (.bool false))⟩,⟨some 6,none,.mv (.t 35)⟩,⟨some 7,none,.mv (.t 48)⟩]) .ret)))))
theorem Cd:codeOf Tryz.prog 163=some ⟨49,Ba,[(.tmp 6),(.tmp 7)]⟩:=by kernel_rfl
theorem AE:modes 163=⟨[],.asis,none,false⟩:=by unfold modes; rfl
def CW:SC:=(.seq (.reg [⟨some 2,none,.boxv 76 1 (.t 0)⟩,⟨(some 4),none,(.alloc 71 [(.str ⟨#[]⟩),.nil])⟩,⟨some 5,none,.mv (.c (.bool false))⟩]) (.seq (.reg [⟨some 9,none,.faddr 0 (.t 2)⟩,⟨some 10,none,.load false 1 (.t 9)⟩,⟨some 11,none,.mv (.t 1)⟩,⟨some 12,none,.call 163 [(.t 10),(.t 11),(.c (.fn 164 []))]⟩,⟨some 8,none,.mv (.t 12)⟩,⟨some 13,none,.ext (.t 8) 0⟩,⟨some 14,none,.ext (.t 8) 1⟩,⟨some 6,none,.mv (.t 13)⟩,⟨some 7,none,.mv (.t 14)⟩]) (.seq (.seq (.reg [⟨some 15,none,.mv (.t 7)⟩,⟨some 16,none,.un .not (.t 15)⟩]) (.cond (.t 16) (.seq (.reg [⟨(some 17),none,(.build [(.str ⟨#[]⟩),.nil] [])⟩,⟨none,none,(.store 2 (.t 4) (.t 17))⟩,⟨some 5,none,.mv (.c (.bool false))⟩]) .ret) .skip)) (.seq (.reg [⟨some 18,none,.faddr 0 (.t 2)⟩,⟨some 19,none,.load false 1 (.t 18)⟩,⟨some 20,none,.mv (.t 6)⟩,⟨some 21,none,.iaddr 3 (.t 19) (.t 20)⟩,⟨some 22,none,.faddr 1 (.t 21)⟩,⟨some 23,none,.load true 2 (.t 22)⟩,⟨none,none,(.store 2 (.t 4) (.t 23))⟩,⟨some 5,none,.mv (.c (.bool true))⟩]) .ret))))
theorem E2:codeOf Tryz.prog 132=some ⟨24,CW,[(.cell 4 true 2),(.tmp 5)]⟩:=by kernel_rfl
theorem A5:modes 132=⟨[],.frz,none,false⟩:=by unfold modes; rfl
theorem Qax (b:Bd) (n:ByteArray):E 164 [b.sv,.str n] []=some (.int .i64 (EK b.var n),[]):=by
 have h:=JD b.var n
 refine Af Hs BN (of_decide_eq_true rfl) ?_
 simp (disch:=omega) only [Eb,go_sem,Aa,h,AA]
theorem Ud (xs:List Bd) (n:ByteArray) (hl:xs.length≤1099511627776) (hs:NC xs):E 163 [.arr (xs.map Bd.d),.str n,.fn 164 []] []=some (.tup [.int .i64 (Bm xs n:Nat),.bool (DJ xs n)],[]):=by
 have hlow:=Vo n xs
 obtain ⟨L,hL⟩:∃ L:Int,L=(Bm xs n:Nat):=⟨_,rfl⟩
 rw [←hL]
 refine Af Cd AE (of_decide_eq_true rfl) ?_
 simp (disch:=omega) only [Ba,go_sem,Aa]
 refine go_loop (α:=Int × Int) (fun a=>⟨slots 49 0 [(0,.arr (xs.map Bd.d)),(1,.str n),(2,.fn 164 []),(8,.int .i64 xs.length),(9,.int .i64 a.1),(10,.int .i64 a.2)],[]⟩) (fun a=>0≤a.1∧a.1≤L∧L≤a.2∧a.2≤xs.length) (fun a=>(a.2-a.1).toNat) (0,xs.length) ⟨by simp,by dsimp only; omega,by dsimp only; omega,by dsimp only; omega⟩ (by simp (disch:=omega) only [go_sem,Aa]) ?_
 rintro ⟨i,j⟩ ⟨h0,h1,h2,h3⟩
 dsimp only at h0 h1 h2 h3
 rcases Int.lt_or_le i j with hij | hij
 ·obtain ⟨m,hm⟩:∃ m:Nat,(i+j) / 2=(m:Int):=⟨((i+j) / 2).toNat,by omega⟩
  have hlt:m<xs.length:=by omega
  have hni:(m:Int).toNat=m:=yK m
  have hg:=get_at Bd.d hlt
  rw [Bd.d_eq] at hg
  have hc:=Qax xs[m] n
  have hw:IntKind.u64.wrap (i+j)=i+j:=wrap_u64 (by omega) (by omega)
  have hi:=QcN hs n hlt
  obtain ⟨M,hM⟩:∃ M:Int,(i+j) / 2=M:=⟨_,rfl⟩
  have hni:M.toNat=m:=by omega
  cases hq:strLt xs[m].var n with
  | true =>
   have hi2:=hi.1 hq
   simp (disch:=omega) only [go_sem,Aa,hw,hni,hg,hc,CA,BN,WY,hq,hM]
   exact ⟨(M+1,j),⟨by dsimp only; omega,by dsimp only; omega,by dsimp only; omega,by dsimp only; omega⟩,by dsimp only; omega,by first | trivial | rfl⟩
  | false =>
   have hi2:¬ m<Bm xs n:=by rw [←hi,hq]; simp
   simp (disch:=omega) only [go_sem,Aa,hw,hni,hg,hc,CA,BN,WY,hq,hM]
   exact ⟨(i,M),⟨by dsimp only; omega,by dsimp only; omega,by dsimp only; omega,by dsimp only; omega⟩,by dsimp only; omega,by first | trivial | rfl⟩
 ·obtain rfl:i=L:=by omega
  rcases zB (Bm xs n) xs.length with hlt | hge
  ·have hg:=get_at Bd.d hlt
   rw [Bd.d_eq] at hg
   have hni:i.toNat=Bm xs n:=by omega
   have hc:=Qax xs[Bm xs n] n
   have hh:DJ xs n=dec (xs[Bm xs n].var=n):=by unfold DJ; rw [zS hlt]
   rw [hh]
   simp (disch:=omega) only [go_sem,Aa,hni,hg,hc,CA,BN,Qb0]
  ·have hh:DJ xs n=false:=by unfold DJ; rw [yQ hge]
   rw [hh]
   simp (disch:=omega) only [go_sem,Aa]
theorem Xb {α:Type} (p:α→Bool):∀ (xs:List α) (k:Nat) (i:Int) (h:k<xs.length),(∀ j (hj:j<k),p xs[j]=false)→p xs[k]=true→Ek p xs i=i+k
 | [],k,i,h,_,_=>absurd h (by simp)
 | x :: xs,0,i,h,_,hp=>by rw [Ek,if_pos (show p x=true from hp)]; simp
 | x :: xs,k+1,i,h,hb,hp=>by
  have h0:p x=false:=hb 0 (by omega)
  have:=Xb p xs k (i+1) (by simpa using h) (fun j hj=>hb (j+1) (by omega)) hp
  rw [Ek,if_neg (by rw [h0]; simp),this]; omega
theorem Vq {α:Type} (p:α→Bool):∀ (xs:List α) (i:Int),(∀ j (hj:j<xs.length),p xs[j]=false)→Ek p xs i=-1
 | [],i,_=>by rw [Ek]
 | x :: xs,i,h=>by
  have h0:p x=false:=h 0 (by simp)
  rw [Ek,if_neg (by rw [h0]; simp)]
  exact Vq p xs (i+1) fun j hj=>h (j+1) (by simpa using hj)
theorem RF {xs:List Bd} (hs:NC xs) (n:ByteArray):Ek (fun b=>dec (b.var=n)) xs 0=if DJ xs n then ((Bm xs n:Nat):Int) else -1:=by
 have before:∀ j (hj:j<xs.length),j<Bm xs n→dec (xs[j].var=n)=false:=fun j hj hL=>Az (WX (KR n xs j hj hL))
 rcases zB (Bm xs n) xs.length with hlt | hge
 ·have hh:DJ xs n=dec (xs[Bm xs n].var=n):=by unfold DJ; rw [zS hlt]
  cases hq:dec (xs[Bm xs n].var=n) with
  | true =>
   rw [hh,hq,if_pos rfl,Xb _ xs (Bm xs n) 0 hlt (fun j hj=>before j (by omega) hj) hq]; omega
  | false =>
   rw [hh,hq,if_neg (by simp)]
   refine Vq _ xs 0 fun j hj=>?_
   rcases Nat.lt_trichotomy j (Bm xs n) with h | h | h
   ·exact before j hj h
   ·subst h; exact hq
   ·refine Az fun e=>?_
    have h1:=hs _ _ h hj
    rw [e,Vp n xs hlt] at h1
    cases h1
 ·have hh:DJ xs n=false:=by unfold DJ; rw [yQ hge]
  rw [hh,if_neg (by simp)]
  exact Vq _ xs 0 fun j hj=>before j hj (by omega)
theorem HX {xs:List Bd} {n:ByteArray} (h:DJ xs n=true):Bm xs n<xs.length:=by
 rcases zB (Bm xs n) xs.length with h1 | h1
 ·exact h1
 ·unfold DJ at h; rw [yQ h1] at h; cases h
noncomputable def Sb.look (x:Sb) (n:ByteArray):Option Tm:=if h:DJ x.binds n=true then some (x.binds[Bm x.binds n]'(HX h)).term else none
theorem RG (x:Sb) (hx:NC x.binds) (n:ByteArray) (hl:x.binds.length≤1099511627776) (hh:DJ x.binds n=true) (hlt:Bm x.binds n<x.binds.length):E 132 [x.sv,.str n] []=some (.tup [(x.binds[Bm x.binds n]).term.sv,.bool true],[]):=by
 have hb:=Ud x.binds n hl hx
 have hg:=get_at Bd.d hlt
 rw [Bd.d_eq] at hg
 have hni:((Bm x.binds n:Nat):Int).toNat=Bm x.binds n:=yK _
 refine Af E2 A5 (of_decide_eq_true rfl) ?_
 simp (disch:=omega) only [CW,go_sem,Aa,hb,hni,hg,hh,AE]
theorem Ue (x:Sb) (hx:NC x.binds) (n:ByteArray) (hl:x.binds.length≤1099511627776) (hh:DJ x.binds n=false):E 132 [x.sv,.str n] []=some (.tup [.agg [.str ⟨#[]⟩,.arr []],.bool false],[]):=by
 have hb:=Ud x.binds n hl hx
 refine Af E2 A5 (of_decide_eq_true rfl) ?_
 simp (disch:=omega) only [CW,go_sem,Aa,hb,hh,AE]
theorem Zp (x:Sb) (hx:x.ok=true) (n:ByteArray) (hl:x.binds.length≤1099511627776) (hh:DJ x.binds n=true) (hlt:Bm x.binds n<x.binds.length):E 132 [x.sv,.str n] []=some (.tup [(x.binds[Bm x.binds n]).term.sv,.bool true],[]):=RG x (Sb.JV hx) n hl hh hlt
theorem Qb2 (x:Sb) (hx:x.ok=true) (n:ByteArray) (hl:x.binds.length≤1099511627776) (hh:DJ x.binds n=false):E 132 [x.sv,.str n] []=some (.tup [.agg [.str ⟨#[]⟩,.arr []],.bool false],[]):=Ue x (Sb.JV hx) n hl hh
mutual
noncomputable def Tm.ap (f:ByteArray→Option Tm):Tm→Tm
 | .mk name args=>if Aq name then (f name).getD (.mk name []) else .mk name (Tm.apL f args)
noncomputable def Tm.apL (f:ByteArray→Option Tm):List Tm→List Tm
 | []=>[]
 | x :: xs=>Tm.ap f x :: Tm.apL f xs
end
theorem Tm.HY (f:ByteArray→Option Tm) (x:Tm):x.ap f=if Aq x.name then (f x.name).getD (.mk x.name []) else .mk x.name (Tm.apL f x.args):=by
 obtain ⟨name,args⟩:=x
 rw [Tm.ap]; rfl
theorem Tm.Ql (f:ByteArray→Option Tm):∀ xs:List Tm,(Tm.apL f xs).length=xs.length
 | []=>by rw [Tm.apL]
 | x :: xs=>by rw [Tm.apL]; simp only [zL,Tm.Ql f xs]
theorem Tm.ND (f:ByteArray→Option Tm):∀ xs:List Tm,Tm.apL f xs=xs.map (Tm.ap f)
 | []=>by rw [Tm.apL]; rfl
 | x :: xs=>by rw [Tm.apL,Tm.ND f xs]; rfl
def okF (f:ByteArray→Option Tm):Prop:=∀ n t,f n=some t→t.names=true∧t.nodes≤30
theorem Tm.NE (f:ByteArray→Option Tm):∀ xs:List Tm,(∀ y∈xs,(y.ap f).names=true)→Tm.DT (Tm.apL f xs)=true
 | [],_=>by rw [Tm.apL,Tm.DT]
 | x :: xs,h=>by rw [Tm.apL,Tm.DT,h x (by simp),Tm.NE f xs fun y hy=>h y (by simp [hy])]; rfl
theorem Tm.KS {f:ByteArray→Option Tm} (hf:okF f) (x:Tm) (hx:x.names=true):(x.ap f).names=true:=by
 rw [Tm.HY]
 rw [Tm.E0] at hx
 split
 ·rename_i hv
  cases hq:f x.name with
  | none =>
   rw [yY,Tm.E0]
   show (if Aq x.name then _ else _)=true
   rw [if_pos hv]; rfl
  | some t=>exact (hf _ _ hq).1
 ·rename_i hv
  rw [if_neg hv,zA,zA] at hx
  rw [Tm.E0]
  show (if Aq x.name then _ else ET x.name&&decide ((Tm.apL f x.args).length≤4)&&Tm.DT (Tm.apL f x.args))=true
  rw [if_neg hv,Tm.Ql,hx.1.1,hx.1.2,Tm.NE f x.args fun y hy=>Tm.KS hf y (by
   have:=hx.2
   rw [Tm.Dj,zO] at this
   exact this y hy)]
  rfl
termination_by SizeOf.sizeOf x
decreasing_by exact Tm.Aw hy
theorem Tm.Xc {f:ByteArray→Option Tm}:∀ xs:List Tm,(∀ y∈xs,(y.ap f).nodes≤30*y.nodes)→Tm.Bb (Tm.apL f xs)≤30*Tm.Bb xs
 | [],_=>by rw [Tm.apL,Tm.Bb]; omega
 | x :: xs,h=>by
  have h1:=h x (by simp)
  have h2:=Tm.Xc xs fun y hy=>h y (by simp [hy])
  rw [Tm.apL,Tm.Bb,Tm.Bb]; omega
theorem Tm.Jb {f:ByteArray→Option Tm} (hf:okF f) (x:Tm):(x.ap f).nodes≤30*x.nodes:=by
 have hp:=Tm.LI x
 rw [Tm.HY]
 split
 ·cases hq:f x.name with
  | none =>
   have:(Tm.mk x.name []).nodes=1+Tm.Bb []:=Tm.An (Tm.mk x.name [])
   rw [Tm.Bb] at this
   rw [yY]; omega
  | some t=>have:=(hf _ _ hq).2; rw [Option.getD_some]; omega
 ·have h1:(Tm.mk x.name (Tm.apL f x.args)).nodes=1+Tm.Bb (Tm.apL f x.args):=Tm.An (Tm.mk x.name (Tm.apL f x.args))
  have h2:=Tm.Xc (f:=f) x.args fun y hy=>Tm.Jb hf y
  have h3:=Tm.An x
  omega
termination_by SizeOf.sizeOf x
decreasing_by exact Tm.Aw hy
theorem Tm.QcO {f:ByteArray→Option Tm} (hf:okF f) (x:Tm) (hx:(x.valid || x.atom)=true):((x.ap f).valid || (x.ap f).atom)=(x.ap f).small:=by
 cases hs:(x.ap f).small with
 | false =>
  have h1:(x.ap f).valid=false:=by unfold Tm.valid; rw [hs]; rfl
  have h2:(x.ap f).atom=false:=by
   unfold Tm.atom; split
   ·rw [hs,zK,yF]
   ·rw [h1,zK]
  rw [h1,h2]; rfl
 | true =>
  cases hn:x.names with
  | true =>
   have:(x.ap f).valid=true:=by unfold Tm.valid; rw [hs,Tm.KS hf x hn]; rfl
   rw [this]; rfl
  | false =>
   have hv:x.valid=false:=by unfold Tm.valid; rw [hn,zK]
   rw [hv,yW] at hx
   unfold Tm.atom at hx
   split at hx
   ·rename_i he
    rw [zA,zA] at hx
    have hname:x.name=⟨#[61]⟩:=by unfold Tm.eqn at he; exact Ax.1 he
    have hnv0:Aq ⟨#[61]⟩=false:=by kernel_rfl
    have hnv:¬ (Aq x.name=true):=by rw [hname,hnv0]; simp
    have e:x.ap f=.mk x.name (Tm.apL f x.args):=by rw [Tm.HY,if_neg hnv]
    have:(x.ap f).atom=true:=by
     have he2:(x.ap f).eqn=true:=by rw [e]; exact he
     unfold Tm.atom
     rw [if_pos he2,hs]
     rw [e]
     show ((Tm.apL f x.args).length == 2&&true&&Tm.DT (Tm.apL f x.args))=true
     rw [Tm.Ql,hx.1.1,Tm.NE f x.args fun y hy=>Tm.KS hf y (by
      have:=hx.2
      rw [Tm.Dj,zO] at this
      exact this y hy)]
     rfl
    rw [this,Bool.or_true]
   ·rw [hv,zK] at hx; cases hx
theorem Tm.FA {x:Tm} (h:x.names=true) (hv:Aq x.name=true):x.args=[]:=by
 rw [Tm.E0,if_pos hv] at h
 exact zI (by simpa using h)
theorem Tm.ES {x:Tm} (h:x.names=true) {y:Tm} (hy:y∈x.args):y.names=true:=by
 rw [Tm.E0] at h
 split at h
 ·have:x.args=[]:=zI (by simpa using h)
  rw [this] at hy; cases hy
 ·rw [zA,Tm.Dj,zO] at h
  exact h.2 y hy
theorem Sb.JW {x:Sb} (h:x.ok=true) {k:Nat} (hk:k<x.binds.length):HH x.binds[k]=true:=by
 unfold Sb.ok at h
 rw [zA] at h
 exact Qes hk (Qaw h.2 hk)
theorem Xd {x:Bd} (h:HH x=true):Aq x.var=true:=by unfold HH at h; rw [zA] at h; exact h.1
theorem D0 {x:Bd} (h:HH x=true):x.term.valid=true:=by unfold HH at h; rw [zA,zA] at h; exact h.2.1
theorem Vr {xs:List Bd} {n:ByteArray} (h:DJ xs n=true) (hlt:Bm xs n<xs.length):(xs[Bm xs n]).var=n:=by
 have hh:DJ xs n=dec (xs[Bm xs n].var=n):=by unfold DJ; rw [zS hlt]
 rw [hh] at h
 exact Ax.1 h
theorem Sb.Fg {x:Sb} (h:x.ok=true):okF x.look:=by
 intro n t ht
 unfold Sb.look at ht
 split at ht
 ·rename_i hh
  have hv:=D0 (Sb.JW h (HX hh))
  obtain rfl:=yJ ht
  unfold Tm.valid Tm.small at hv
  rw [zA,zA,decide_eq_true_eq] at hv
  exact ⟨hv.2,hv.1.1⟩
 ·cases ht
theorem Sb.KT {x:Sb} {n:ByteArray} (h:DJ x.binds n=true) (hlt:Bm x.binds n<x.binds.length):x.look n=some (x.binds[Bm x.binds n]).term:=by
 unfold Sb.look; rw [dif_pos h]
theorem Sb.Qm {x:Sb} {n:ByteArray} (h:DJ x.binds n=false):x.look n=none:=by
 unfold Sb.look; rw [dif_neg (by rw [h]; simp)]
def Sb.fine (s:Sb):Prop:=NC s.binds∧∀ b∈s.binds,Aq b.var=true
theorem Sb.Vs {s:Sb} (h:s.ok=true):s.fine:=⟨Sb.JV h,fun b hb=>by
 obtain ⟨k,hk,rfl⟩:=zX hb
 exact Xd (Sb.JW h hk)⟩
def BY:SC:=(.seq (.reg [⟨some 2,none,.boxv 76 1 (.t 0)⟩,⟨some 3,none,.boxv 71 2 (.t 1)⟩,⟨(some 4),none,(.alloc 71 [(.str ⟨#[]⟩),.nil])⟩]) (.seq (.seq (.reg [⟨some 10,none,.faddr 1 (.t 3)⟩,⟨some 11,none,.load false 1 (.t 10)⟩,⟨some 12,none,.len false (.t 11)⟩,⟨some 13,none,.bin .eql false (.t 12) (.c (.int .i64 0))⟩]) (.cond (.t 13) (.seq (.seq (.reg [⟨some 15,none,.load true 1 (.t 2)⟩,⟨some 16,none,.faddr 0 (.t 3)⟩,⟨some 17,none,.load false 1 (.t 16)⟩,⟨some 18,none,.call 132 [(.t 15),(.t 17)]⟩,⟨some 14,none,.mv (.t 18)⟩,⟨some 19,none,.ext (.t 14) 0⟩,⟨some 20,none,.ext (.t 14) 1⟩,⟨(some 5),none,(.alloc 71 [(.str ⟨#[]⟩),.nil])⟩,⟨none,none,(.store 2 (.t 5) (.t 19))⟩,⟨some 6,none,.mv (.t 20)⟩]) (.seq (.reg [⟨some 21,none,.mv (.t 6)⟩]) (.cond (.t 21) (.seq (.reg [⟨some 22,none,.load true 2 (.t 5)⟩,⟨some 23,none,.call 133 [(.t 22)]⟩,⟨none,none,(.store 2 (.t 4) (.t 23))⟩]) .ret) .skip))) (.seq (.reg [⟨some 24,none,.faddr 0 (.t 3)⟩,⟨some 25,none,.load false 1 (.t 24)⟩,⟨(some 26),none,(.build [(.str ⟨#[]⟩),.nil] [(0,(1,(.t 25)))])⟩,⟨none,none,(.store 2 (.t 4) (.t 26))⟩]) .ret)) .skip)) (.seq (.dreg [[],[0],[],[2],[3,2],[4,3,2],[1,0,5,4,3,2],[],[7,6,1,0,5,4,3,2]] [⟨some 27,none,.faddr 0 (.t 3)⟩,⟨some 28,none,.load false 1 (.t 27)⟩,⟨some 29,none,.faddr 1 (.t 3)⟩,⟨some 30,none,.load false 1 (.t 29)⟩,⟨some 31,none,.len false (.t 30)⟩,⟨(some 32),none,(.mkslice 71 2 40 [(.str ⟨#[]⟩),.nil] (.t 31))⟩,⟨(some 33),none,(.build [(.str ⟨#[]⟩),.nil] [(0,(1,(.t 28))),(1,(1,(.t 32)))])⟩,⟨(some 7),none,(.alloc 71 [(.str ⟨#[]⟩),.nil])⟩,⟨none,none,(.store 2 (.t 7) (.t 33))⟩]) (.seq (.seq (.reg [⟨some 34,none,.faddr 1 (.t 3)⟩,⟨some 35,none,.load false 1 (.t 34)⟩,⟨some 36,none,.len false (.t 35)⟩,⟨some 37,none,.mv (.c (.int .i64 0))⟩]) (.block 0 (.loop [0,0,1,0,1,0,0,1,0,0,0,0,0,0,0,0,0,0,0,0,0,0,0,0,0,0,0,0,0,0,0,0,0,0,0,1,1,1,0,0,0,0,0,0,0,0,0,0,0,0,0] (.seq (.reg [⟨some 38,none,.bin .lss false (.t 37) (.t 36)⟩]) (.seq (.cond (.t 38) .skip (.exit 0)) (.seq (.block 1 (.seq (.reg [⟨some 39,none,.mv (.t 37)⟩,⟨some 40,none,.iaddr 2 (.t 35) (.t 37)⟩,⟨some 41,none,.load true 2 (.t 40)⟩,⟨(some 9),none,(.alloc 71 [(.str ⟨#[]⟩),.nil])⟩,⟨some 8,none,.mv (.t 39)⟩,⟨none,none,(.store 2 (.t 9) (.t 41))⟩]) (.dreg [[],[0],[],[],[],[3,4],[1,0,2,3,4,5],[6,1,0,2,3,4,5]] [⟨some 42,none,.faddr 1 (.t 7)⟩,⟨some 43,none,.load false 1 (.t 42)⟩,⟨some 44,none,.mv (.t 8)⟩,⟨some 45,none,.load true 1 (.t 2)⟩,⟨some 46,none,.load true 2 (.t 9)⟩,⟨some 47,none,.call 126 [(.t 45),(.t 46)]⟩,⟨some 48,none,.iaddr 2 (.t 43) (.t 44)⟩,⟨none,none,(.store 2 (.t 48) (.t 47))⟩]))) (.reg [⟨some 49,none,.bin .add false (.t 37) (.c (.int .i64 1))⟩,⟨some 37,none,.mv (.t 49)⟩]))))))) (.seq (.reg [⟨some 50,none,.load true 2 (.t 7)⟩,⟨none,none,(.store 2 (.t 4) (.t 50))⟩]) .ret)))))
theorem CH:codeOf Tryz.prog 126=some ⟨51,BY,[(.cell 4 true 2)]⟩:=by kernel_rfl
theorem Av:modes 126=⟨[],.own [none,some (71,2)],none,false⟩:=by unfold modes; rfl
def Fh:SC:=(.seq (.reg [⟨some 2,none,.boxv 76 1 (.t 0)⟩,⟨some 3,none,.boxv 71 2 (.t 1)⟩,⟨(some 4),none,(.alloc 71 [(.str ⟨#[]⟩),.nil])⟩]) (.seq (.seq (.reg [⟨some 8,none,.faddr 0 (.t 3)⟩,⟨some 9,none,.load false 1 (.t 8)⟩,⟨some 10,none,.call 77 [(.t 9)]⟩]) (.cond (.t 10) (.seq (.seq (.reg [⟨some 11,none,.load true 1 (.t 2)⟩,⟨some 12,none,.faddr 0 (.t 3)⟩,⟨some 13,none,.load false 1 (.t 12)⟩,⟨some 14,none,.call 147 [(.t 11),(.t 13)]⟩,⟨some 5,none,.mv (.t 14)⟩]) (.seq (.reg [⟨some 15,none,.mv (.t 5)⟩,⟨some 16,none,.bin .geq false (.t 15) (.c (.int .i64 0))⟩]) (.cond (.t 16) (.seq (.reg [⟨some 17,none,.faddr 0 (.t 2)⟩,⟨some 18,none,.load false 1 (.t 17)⟩,⟨some 19,none,.mv (.t 5)⟩,⟨some 20,none,.iaddr 3 (.t 18) (.t 19)⟩,⟨some 21,none,.faddr 1 (.t 20)⟩,⟨some 22,none,.load true 2 (.t 21)⟩,⟨some 23,none,.call 148 [(.t 22)]⟩,⟨none,none,(.store 2 (.t 4) (.t 23))⟩]) .ret) .skip))) (.seq (.reg [⟨some 24,none,.faddr 0 (.t 3)⟩,⟨some 25,none,.load false 1 (.t 24)⟩,⟨(some 26),none,(.build [(.str ⟨#[]⟩),.nil] [(0,(1,(.t 25)))])⟩,⟨none,none,(.store 2 (.t 4) (.t 26))⟩]) .ret)) .skip)) (.seq (.reg [⟨some 27,none,.faddr 0 (.t 3)⟩,⟨some 28,none,.load false 1 (.t 27)⟩,⟨(some 29),none,(.build [(.str ⟨#[]⟩),.nil] [(0,(1,(.t 28)))])⟩,⟨(some 6),none,(.alloc 71 [(.str ⟨#[]⟩),.nil])⟩,⟨none,none,(.store 2 (.t 6) (.t 29))⟩]) (.seq (.seq (.reg [⟨some 7,none,.mv (.c (.int .i64 0))⟩]) (.block 0 (.loop [0,0,1,1,1,0,1,1,0,0,0,0,0,0,0,0,0,0,0,0,0,0,0,0,0,0,0,0,0,0,0,0,0,0,0,0,0,0,0,0,0,0,0,0,0,0,0,0,0,0] (.seq (.seq (.reg [⟨some 30,none,.mv (.t 7)⟩,⟨some 31,none,.faddr 1 (.t 3)⟩,⟨some 32,none,.load false 1 (.t 31)⟩,⟨some 33,none,.len false (.t 32)⟩,⟨some 34,none,.bin .lss false (.t 30) (.t 33)⟩]) (.cond (.t 34) .skip (.exit 0))) (.seq (.block 1 (.dreg [[],[0],[],[],[3],[],[4,3,5],[6,4,3,5],[2,7,6,4,3,5],[8,2,7,6,4,3,5],[1,0,9,8,2,7,6,4,3,5],[0,1,2,3,4,5,6,7,8,9,10],[11,0,1,2,3,4,5,6,7,8,9,10]] [⟨some 37,none,.faddr 1 (.t 6)⟩,⟨some 38,none,.load false 1 (.t 37)⟩,⟨some 39,none,.load true 1 (.t 2)⟩,⟨some 40,none,.faddr 1 (.t 3)⟩,⟨some 41,none,.load false 1 (.t 40)⟩,⟨some 42,none,.mv (.t 7)⟩,⟨some 43,none,.iaddr 2 (.t 41) (.t 42)⟩,⟨some 44,none,.load true 2 (.t 43)⟩,⟨some 45,none,.call 111 [(.t 39),(.t 44)]⟩,⟨(some 46),none,(.mkrow 71 2 [(.str ⟨#[]⟩),.nil] 1 [(0,(.t 45))])⟩,⟨(some 47),none,(.append 71 2 40 [(.str ⟨#[]⟩),.nil] (.t 38) (.t 46))⟩,⟨some 48,none,.faddr 1 (.t 6)⟩,⟨none,none,(.store 1 (.t 48) (.t 47))⟩])) (.reg [⟨some 35,none,.mv (.t 7)⟩,⟨some 36,none,.bin .add false (.t 35) (.c (.int .i64 1))⟩,⟨some 7,none,.mv (.t 36)⟩])))))) (.seq (.reg [⟨some 49,none,.load true 2 (.t 6)⟩,⟨none,none,(.store 2 (.t 4) (.t 49))⟩]) .ret)))))
theorem Ht:codeOf Tryz.prog 111=some ⟨50,Fh,[(.cell 4 true 2)]⟩:=by kernel_rfl
theorem AG:modes 111=⟨[],.frz,none,false⟩:=by unfold modes; rfl
theorem Xe (s:Sb) (hs:s.fine) (ht:s.tame) (x:Tm) (hx:Aq x.name=true→x.args=[]) (hn:x.nodes≤1099511627776) (ih:∀ y∈x.args,E 126 [s.sv,y.sv] []=some ((y.ap s.look).osv,(y.ap s.look).obs)):E 126 [s.sv,x.sv] []=some ((x.ap s.look).osv,(x.ap s.look).obs):=by
 have hsl:=ht.1
 have hl:=Tm.length_le x.args
 have hne:=Tm.An x
 rcases zJ x.args.length with h0 | h0
 ·have hx0:x.args=[]:=zI h0
  cases hh:DJ s.binds x.name with
  | true =>
   have hlt:=HX hh
   have hc:=RG s hs.1 x.name hsl hh hlt
   have hd:=JF (s.binds[Bm s.binds x.name]).term (Sb.tame_at ht hlt)
   have hv:Aq x.name=true:=by rw [←Vr hh hlt]; exact hs.2 _ (zD hlt)
   have e:x.ap s.look=(s.binds[Bm s.binds x.name]).term:=by rw [Tm.HY,if_pos hv,Sb.KT hh hlt]; rfl
   rw [e]
   refine Af CH Av (of_decide_eq_true rfl) ?_
   simp (disch:=omega) only [BY,go_sem,Aa,hx0,hc,hd,zM,zT,A5,AX,Tm.osv,Tm.obs]
  | false =>
   have hc:=Ue s hs.1 x.name hsl hh
   have e:x.ap s.look=.mk x.name []:=by
    rw [Tm.HY,Sb.Qm hh,hx0]
    split
    ·rfl
    ·rw [Tm.apL]
   rw [e]
   have e1:(Tm.mk x.name []).osv=.agg [.str x.name,.ref 0]:=rfl
   have e2:(Tm.mk x.name []).obs=[.row 71 2 []]:=rfl
   rw [e1,e2]
   refine Af CH Av (of_decide_eq_true rfl) ?_
   simp (disch:=omega) only [BY,go_sem,Aa,hx0,hc,zM,zT,A5]
 ·have hv:¬ Aq x.name=true:=fun h=>by rw [hx h] at h0; simp at h0
  have e:x.ap s.look=.mk x.name (x.args.map (Tm.ap s.look)):=by rw [Tm.HY,if_neg hv,Tm.ND]
  rw [e]
  have e1:(Tm.mk x.name (x.args.map (Tm.ap s.look))).osv=.agg [.str x.name,.ref 0]:=rfl
  have e2:(Tm.mk x.name (x.args.map (Tm.ap s.look))).obs=[.row 71 2 ((x.args.map (Tm.ap s.look)).map Tm.o)]:=rfl
  rw [e1,e2]
  have hrl:List.replicate x.args.length ([.str ⟨#[]⟩,.ow []]:List OT)=Ga Tm.o [.str ⟨#[]⟩,.ow []] (x.args.map (Tm.ap s.look)) 0:=by rw [J9,zE]
  refine Af CH Av (of_decide_eq_true rfl) ?_
  simp (disch:=omega) only [BY,go_sem,Aa]
  refine go_loop (α:=Int) (fun a=>⟨slots 51 0 [(2,.ptr 0 0),(4,.ptr 1 0),(7,.ptr 2 0),(35,.arr (x.args.map Tm.d)),(36,.int .i64 x.args.length),(37,.int .i64 a)],[.box 76 [.arr (s.binds.map Bd.d)],.box 71 [.str ⟨#[]⟩,.nil],.box 71 [.str x.name,.ref 3],.row 71 2 (Ga Tm.o [.str ⟨#[]⟩,.ow []] (x.args.map (Tm.ap s.look)) a.toNat)]⟩) (fun a=>∃ k:Nat,a=k∧k≤(x.args).length) (fun a=>(x.args).length-(a).toNat) 0 ⟨0,rfl,zH _⟩ (by simp (disch:=omega) only [go_sem,Aa,hrl,z8]) ?_
  rintro i ⟨k,hi,hk⟩
  have hni:i.toNat=k:=by omega
  have hni1:(i+1).toNat=k+1:=by omega
  rcases zB k (x.args).length with hlt | hge
  ·have hg:=get_at Tm.d hlt
   rw [Tm.d_eq] at hg
   have hltm:k<(x.args.map (Tm.ap s.look)).length:=by rw [zE]; exact hlt
   have hz:=LG Tm.o [.str ⟨#[]⟩,.ow []] hltm
   have hc:=ih x.args[k] (zD hlt)
   have hse:=LH Tm.o [.str ⟨#[]⟩,.ow []] hltm
   rw [Tm.o_eq,zZ] at hse
   simp (disch:=omega) only [go_sem,Aa,hni,hg,hc,hz,LE,zE,Av,Tm.osv,Tm.obs]
   refine ⟨i+1,⟨k+1,by omega,hlt⟩,by omega,?_⟩
   simp (disch:=omega) only [go_sem,Aa,hni1,hse]
  ·obtain rfl:k=x.args.length:=by omega
   have hend:Ga Tm.o [.str ⟨#[]⟩,.ow []] (x.args.map (Tm.ap s.look)) x.args.length=(x.args.map (Tm.ap s.look)).map Tm.o:=by
    have:=LF Tm.o [.str ⟨#[]⟩,.ow []] (xs:=x.args.map (Tm.ap s.look))
    rwa [zE] at this
   simp (disch:=omega) only [go_sem,Aa,hni,hend]
theorem Qay (s:Sb) (hs:s.fine) (ht:s.tame) (x:Tm) (hx:x.names=true) (hn:x.nodes≤1099511627776):E 126 [s.sv,x.sv] []=some ((x.ap s.look).osv,(x.ap s.look).obs) :=
 Xe s hs ht x (Tm.FA hx) hn fun y hy=>Qay s hs ht y (Tm.ES hx hy) (by have:=Tm.AU hy; have:=Tm.An x; omega)
termination_by SizeOf.sizeOf x
decreasing_by exact Tm.Aw hy
theorem Qaz (s:Sb) (hs:s.ok=true) (ht:s.tame) (x:Tm) (hx:x.names=true) (hn:x.nodes≤1099511627776):E 126 [s.sv,x.sv] []=some ((x.ap s.look).osv,(x.ap s.look).obs):=Qay s (Sb.Vs hs) ht x hx hn
theorem Zq (s:Sb) (hs:s.fine) (ht:s.tame) (x:Tm) (hn:x.nodes≤1099511627776) (ih:∀ y∈x.args,E 111 [s.sv,y.sv] []=some ((y.ap s.look).sv,[])):E 111 [s.sv,x.sv] []=some ((x.ap s.look).sv,[]):=by
 have hsl:=ht.1
 have hl:=Tm.length_le x.args
 have hne:=Tm.An x
 have hf:=Xa s x.name hsl
 rw [RF hs.1] at hf
 cases hv:Aq x.name with
 | true =>
  cases hh:DJ s.binds x.name with
  | true =>
   have hlt:=HX hh
   have hg:=get_at Bd.d hlt
   rw [Bd.d_eq] at hg
   have hni:((Bm s.binds x.name:Nat):Int).toNat=Bm s.binds x.name:=yK _
   have hd:=Qj (s.binds[Bm s.binds x.name]).term (Sb.tame_at ht hlt)
   have e:x.ap s.look=(s.binds[Bm s.binds x.name]).term:=by rw [Tm.HY,if_pos hv,Sb.KT hh hlt]; rfl
   rw [hh,if_pos rfl] at hf
   rw [e]
   refine Af Ht AG (of_decide_eq_true rfl) ?_
   simp (disch:=omega) only [Fh,go_sem,Aa,hv,hf,hg,hni,hd,BI,Ah,Am,CP]
  | false =>
   have e:x.ap s.look=.mk x.name []:=by rw [Tm.HY,if_pos hv,Sb.Qm hh]; rfl
   rw [hh,if_neg (by simp)] at hf
   rw [e]
   have e1:(Tm.mk x.name []).sv=.agg [.str x.name,.arr []]:=rfl
   rw [e1]
   refine Af Ht AG (of_decide_eq_true rfl) ?_
   simp (disch:=omega) only [Fh,go_sem,Aa,hv,hf,BI,Ah,Am]
 | false =>
  have e:x.ap s.look=.mk x.name (x.args.map (Tm.ap s.look)):=by rw [Tm.HY,if_neg (by rw [hv]; simp),Tm.ND]
  rw [e]
  have e1:(Tm.mk x.name (x.args.map (Tm.ap s.look))).sv=.agg [.str x.name,.arr ((x.args.map (Tm.ap s.look)).map Tm.d)]:=rfl
  rw [e1]
  have h10:((1:Int)=0)=False:=by simp
  have hfu:=Tm.N8 (x.args.map (Tm.ap s.look))
  have her:=Tm.Vm (x.args.map (Tm.ap s.look))
  refine Af Ht AG (of_decide_eq_true rfl) ?_
  simp (disch:=omega) only [Fh,go_sem,Aa,hv,BI,Ah,Am]
  refine go_loop (α:=Int) (fun a=>⟨slots 50 0 [(2,.ptr 0 0),(3,.ptr 1 0),(4,.ptr 2 0),(6,.ptr 3 0),(7,.int .i64 a)],(if a=0 then [.box 76 [.arr (s.binds.map Bd.d)],.box 71 [.str x.name,.arr (x.args.map Tm.d)],.box 71 [.str ⟨#[]⟩,.nil],.box 71 [.str x.name,.nil]] else [.box 76 [.arr (s.binds.map Bd.d)],.box 71 [.str x.name,.arr (x.args.map Tm.d)],.box 71 [.str ⟨#[]⟩,.nil],.box 71 [.str x.name,.ref 4],.row 71 2 (((x.args.map (Tm.ap s.look)).take a.toNat).map Tm.osh)])⟩) (fun a=>∃ k:Nat,a=k∧k≤(x.args).length) (fun a=>(x.args).length-(a).toNat) 0 ⟨0,rfl,zH _⟩ (by simp (disch:=omega) only [go_sem,Aa,eq_self,if_true]) ?_
  rintro i ⟨k,hi,hk⟩
  have hni:i.toNat=k:=by omega
  have hni1:(i+1).toNat=k+1:=by omega
  rcases zB k (x.args).length with hlt | hge
  ·have hg:=get_at Tm.d hlt
   rw [Tm.d_eq] at hg
   have hltm:k<(x.args.map (Tm.ap s.look)).length:=by rw [zE]; exact hlt
   have hc:=ih x.args[k] (zD hlt)
   have hse:=D9 Tm.osh hltm
   rw [Tm.R7,zZ] at hse
   rcases zJ k with h0 | h0
   ·subst h0
    obtain rfl:i=0:=hi
    rw [z7,zM,zU] at hse
    simp (disch:=omega) only [go_sem,Aa,hni,hg,hc,AG,eq_self,if_true]
    refine ⟨1,⟨1,rfl,hlt⟩,by omega,?_⟩
    simp (disch:=omega) only [go_sem,Aa,h10,if_false,hse]
   ·have hi0:(i=0)=False:=by simp; omega
    have hi1:(i+1=0)=False:=by simp; omega
    have htl:((x.args.map (Tm.ap s.look)).take k).length=k:=by rw [zP]; omega
    simp (disch:=omega) only [go_sem,Aa,hni,hg,hc,AG,hi0,if_false,htl]
    refine ⟨i+1,⟨k+1,by omega,hlt⟩,by omega,?_⟩
    simp (disch:=omega) only [go_sem,Aa,hni1,hi1,if_false,hse]
  ·obtain rfl:k=x.args.length:=by omega
   have hta:(x.args.map (Tm.ap s.look)).take x.args.length=x.args.map (Tm.ap s.look):=by
    have:=zR (l:=x.args.map (Tm.ap s.look))
    rwa [zE] at this
   rcases zJ x.args.length with h0 | h0
   ·have hx:x.args=[]:=zI h0
    obtain rfl:i=0:=by omega
    simp (disch:=omega) only [go_sem,Aa,hni,hx,eq_self,if_true,zM,zT]
   ·have hi0:(i=0)=False:=by simp; omega
    simp (disch:=omega) only [go_sem,Aa,hni,hi0,if_false,hta,hfu,her]
theorem Uf (s:Sb) (hs:s.fine) (ht:s.tame) (x:Tm) (hn:x.nodes≤1099511627776):E 111 [s.sv,x.sv] []=some ((x.ap s.look).sv,[]) :=
 Zq s hs ht x hn fun y hy=>Uf s hs ht y (by have:=Tm.AU hy; have:=Tm.An x; omega)
termination_by SizeOf.sizeOf x
decreasing_by exact Tm.Aw hy
theorem OM (s:Sb) (hs:s.ok=true) (ht:s.tame) (x:Tm) (hn:x.nodes≤1099511627776):E 111 [s.sv,x.sv] []=some ((x.ap s.look).sv,[]):=Uf s (Sb.Vs hs) ht x hn
noncomputable def Tm.expr (x:Tm):Bool:=x.valid || x.atom
theorem Tm.RH {x:Tm} (h:x.expr=true):x.small=true:=by
 unfold Tm.expr Tm.atom Tm.valid at h
 cases hs:x.small with
 | true=>rfl
 | false =>
  rw [hs] at h
  split at h <;> simp at h
theorem Tm.Ar {x:Tm} (h:x.expr=true):x.nodes≤30:=by
 have:=Tm.RH h
 unfold Tm.small at this
 rw [zA,decide_eq_true_eq] at this
 exact this.1
theorem Tm.Qa0 {x:Tm} (h:x.eqn=true):Aq x.name=false:=by
 unfold Tm.eqn at h
 rw [Ax.1 h]
 kernel_rfl
theorem Tm.JG {x:Tm} (h:x.expr=true):x.names=true∨(x.eqn=true∧Tm.DT x.args=true):=by
 unfold Tm.expr Tm.valid at h
 cases hn:x.names with
 | true=>exact .inl rfl
 | false =>
  rw [hn,zK,yW] at h
  unfold Tm.atom at h
  split at h
  ·rename_i he
   rw [zA] at h
   exact .inr ⟨he,h.2⟩
  ·unfold Tm.valid at h; rw [hn,zK,zK] at h; cases h
theorem Tm.Xf {x:Tm} (h:x.expr=true):Aq x.name=true→x.args=[]:=by
 intro hv
 rcases Tm.JG h with h1 | ⟨h1,h2⟩
 ·exact Tm.FA h1 hv
 ·rw [Tm.Qa0 h1] at hv; cases hv
theorem Tm.Jc {x:Tm} (h:x.expr=true) {y:Tm} (hy:y∈x.args):y.names=true:=by
 rcases Tm.JG h with h1 | ⟨h1,h2⟩
 ·exact Tm.ES h1 hy
 ·rw [Tm.Dj,zO] at h2; exact h2 y hy
theorem Tm.RI:∀ xs:List Tm,(∀ x∈xs,x.nodes≤1+x.bulk)→Tm.Bb xs≤xs.length+Tm.sumB xs
 | [],_=>by simp [Tm.Bb]
 | x :: xs,h=>by
  have h1:=h x (by simp)
  have h2:=Tm.RI xs fun y hy=>h y (by simp [hy])
  rw [Tm.Bb,Tm.sumB]; simp only [zL]; omega
theorem Tm.RJ (x:Tm):x.nodes≤1+x.bulk:=by
 rw [Tm.An,Tm.bulk_eq]
 have:=Tm.RI x.args fun y hy=>Tm.RJ y
 omega
termination_by SizeOf.sizeOf x
decreasing_by exact Tm.Aw hy
theorem Ug {s:ByteArray} (h:Aq s=true):s.size≤6:=by
 unfold Aq inB at h
 simp at h
 omega
theorem Uh {s:ByteArray} (h:ET s=true):s.size≤6:=by
 unfold ET inB at h
 simp at h
 omega
theorem Tm.ML:∀ xs:List Tm,(∀ x∈xs,x.bulk+1≤8*x.nodes)→xs.length+Tm.sumB xs≤8*Tm.Bb xs
 | [],_=>by simp [Tm.Bb,Tm.sumB]
 | x :: xs,h=>by
  have h1:=h x (by simp)
  have h2:=Tm.ML xs fun y hy=>h y (by simp [hy])
  rw [Tm.Bb,Tm.sumB]; simp only [zL]; omega
theorem Tm.RK (x:Tm) (h:x.names=true):x.bulk+1≤8*x.nodes:=by
 have h1:=Tm.ML x.args fun y hy=>Tm.RK y (Tm.ES h hy)
 have h2:x.name.size≤6:=by
  rw [Tm.E0] at h
  split at h
  ·rename_i hv; exact Ug hv
  ·rw [zA,zA] at h; exact Uh h.1.1
 rw [Tm.An,Tm.bulk_eq]
 omega
termination_by SizeOf.sizeOf x
decreasing_by exact Tm.Aw hy
theorem Qa1 (x:Tm) (hn:x.nodes≤1099511627776):E 110 [x.sv] []=some (.bool x.expr,[]):=by
 have h1:=R1 x hn
 have h3:=R2 x hn
 unfold Tm.expr
 cases hv:x.valid with
 | true =>
  rw [hv] at h1
  rw [Bool.true_or]
  refine Af N2 Fb (of_decide_eq_true rfl) ?_
  simp (disch:=omega) only [JB,go_sem,Aa,h1,Be]
 | false =>
  rw [hv] at h1
  rw [yW]
  refine Af N2 Fb (of_decide_eq_true rfl) ?_
  simp (disch:=omega) only [JB,go_sem,Aa,h1,h3,Be,AT]
def Cz:SC:=(.seq (.reg [⟨some 2,none,.boxv 76 1 (.t 0)⟩,⟨some 3,none,.boxv 71 2 (.t 1)⟩,⟨(some 4),none,(.alloc 71 [(.str ⟨#[]⟩),.nil])⟩,⟨some 5,none,.mv (.c (.bool false))⟩]) (.seq (.reg [⟨some 7,none,.load true 1 (.t 2)⟩,⟨some 8,none,.load true 2 (.t 3)⟩,⟨some 9,none,.call 126 [(.t 7),(.t 8)]⟩,⟨(some 6),none,(.alloc 71 [(.str ⟨#[]⟩),.nil])⟩,⟨none,none,(.store 2 (.t 6) (.t 9))⟩]) (.seq (.seq (.reg [⟨some 10,none,.load true 2 (.t 6)⟩,⟨some 11,none,.call 127 [(.t 10)]⟩,⟨some 12,none,.un .not (.t 11)⟩]) (.cond (.t 12) (.seq (.reg [⟨(some 13),none,(.build [(.str ⟨#[]⟩),.nil] [])⟩,⟨none,none,(.store 2 (.t 4) (.t 13))⟩,⟨some 5,none,.mv (.c (.bool false))⟩]) .ret) .skip)) (.seq (.reg [⟨some 14,none,.load true 2 (.t 6)⟩,⟨none,none,(.store 2 (.t 4) (.t 14))⟩,⟨some 5,none,.mv (.c (.bool true))⟩]) .ret))))
theorem DM:codeOf Tryz.prog 87=some ⟨15,Cz,[(.cell 4 true 2),(.tmp 5)]⟩:=by kernel_rfl
theorem Ab:modes 87=⟨[],.late,none,false⟩:=by unfold modes; rfl
def B3:SC:=(.seq (.reg [⟨some 2,none,.boxv 76 1 (.t 0)⟩,⟨some 3,none,.boxv 71 2 (.t 1)⟩,⟨(some 4),none,(.alloc 71 [(.str ⟨#[]⟩),.nil])⟩,⟨some 5,none,.mv (.c (.bool false))⟩]) (.seq (.seq (.reg [⟨some 7,none,.load true 1 (.t 2)⟩,⟨some 8,none,.call 109 [(.t 7)]⟩,⟨some 9,none,.un .not (.t 8)⟩,⟨some 10,none,.mv (.t 9)⟩,⟨(some 11),(some (10,false)),(.load true 2 (.t 3))⟩,⟨(some 12),(some (10,false)),(.call 110 [(.t 11)])⟩,⟨(some 13),(some (10,false)),(.un .not (.t 12))⟩,⟨some 14,none,.pick (.t 10) (.c (.bool true)) (.t 13)⟩]) (.cond (.t 14) (.seq (.reg [⟨(some 15),none,(.build [(.str ⟨#[]⟩),.nil] [])⟩,⟨none,none,(.store 2 (.t 4) (.t 15))⟩,⟨some 5,none,.mv (.c (.bool false))⟩]) .ret) .skip)) (.seq (.reg [⟨some 16,none,.load true 1 (.t 2)⟩,⟨some 17,none,.load true 2 (.t 3)⟩,⟨some 18,none,.call 111 [(.t 16),(.t 17)]⟩,⟨(some 6),none,(.alloc 71 [(.str ⟨#[]⟩),.nil])⟩,⟨none,none,(.store 2 (.t 6) (.t 18))⟩]) (.seq (.seq (.reg [⟨some 19,none,.load true 2 (.t 6)⟩,⟨some 20,none,.call 110 [(.t 19)]⟩,⟨some 21,none,.un .not (.t 20)⟩]) (.cond (.t 21) (.seq (.reg [⟨(some 22),none,(.build [(.str ⟨#[]⟩),.nil] [])⟩,⟨none,none,(.store 2 (.t 4) (.t 22))⟩,⟨some 5,none,.mv (.c (.bool false))⟩]) .ret) .skip)) (.seq (.reg [⟨some 23,none,.load true 2 (.t 6)⟩,⟨none,none,(.store 2 (.t 4) (.t 23))⟩,⟨some 5,none,.mv (.c (.bool true))⟩]) .ret)))))
theorem Cj:codeOf Tryz.prog 76=some ⟨24,B3,[(.cell 4 true 2),(.tmp 5)]⟩:=by kernel_rfl
theorem Ac:modes 76=⟨[],.frz,none,false⟩:=by unfold modes; rfl
noncomputable def BT (s:Sb) (x:Tm):Bool:=s.ok&&(x.expr&&(x.ap s.look).small)
noncomputable def AK (s:Sb) (x:Tm):Tm:=if BT s x then x.ap s.look else .mk ⟨#[]⟩ []
theorem Vt {s:Sb} {x:Tm} (h:BT s x=false):AK s x=.mk ⟨#[]⟩ []:=by unfold AK; rw [if_neg (by rw [h]; simp)]
theorem Ec {s:Sb} {x:Tm} (h:BT s x=true):AK s x=x.ap s.look:=by unfold AK; rw [if_pos h]
theorem Vu:(Tm.mk ⟨#[]⟩ []).sv=.agg [.str ⟨#[]⟩,.arr []]:=rfl
theorem Ui (s:Sb) (hs:s.ok=true) (ht:s.tame) (x:Tm) (hx:x.expr=true):E 126 [s.sv,x.sv] []=some ((x.ap s.look).osv,(x.ap s.look).obs):=by
 have hn:=Tm.Ar hx
 exact Xe s (Sb.Vs hs) ht x (Tm.Xf hx) (by omega) fun y hy=>Qaz s hs ht y (Tm.Jc hx hy) (by have:=Tm.AU hy; have:=Tm.An x; omega)
theorem BD (s:Sb) (hs:s.ok=true) (ht:s.tame) (x:Tm) (hx:x.expr=true) (ho:BT s x=true):E 87 [s.sv,x.sv] []=some (.tup [(AK s x).osv,.bool true],(AK s x).obs):=by
 have hn:=Tm.Ar hx
 have hk:=Tm.Jb (Sb.Fg hs) x
 have h1:=Ui s hs ht x hx
 have h2:=LM (x.ap s.look) (by omega)
 have hq:(x.ap s.look).small=true:=by unfold BT at ho; rw [zA,zA] at ho; exact ho.2.2
 rw [hq] at h2
 rw [Ec ho]
 refine Af DM Ab (of_decide_eq_true rfl) ?_
 simp (disch:=omega) only [Cz,go_sem,Aa,h1,h2,Tm.osv,Tm.obs,Bj,Av]
theorem Ce (s:Sb) (hs:s.ok=true) (ht:s.tame) (x:Tm) (hx:x.expr=true) (ho:BT s x=false):E 87 [s.sv,x.sv] []=some (.tup [.agg [.str ⟨#[]⟩,.nil],.bool false],[]):=by
 have hn:=Tm.Ar hx
 have hk:=Tm.Jb (Sb.Fg hs) x
 have h1:=Ui s hs ht x hx
 have h2:=LM (x.ap s.look) (by omega)
 have hq:(x.ap s.look).small=false:=by unfold BT at ho; rw [hs,hx,yB,yB] at ho; exact ho
 rw [hq] at h2
 refine Af DM Ab (of_decide_eq_true rfl) ?_
 simp (disch:=omega) only [Cz,go_sem,Aa,h1,h2,Tm.osv,Tm.obs,Bj,Av]
theorem AV (s:Sb) (ht:s.tame) (x:Tm) (hn:x.nodes≤1099511627776):E 76 [s.sv,x.sv] []=some (.tup [(AK s x).sv,.bool (BT s x)],[]):=by
 have h1:=NB s ht
 have h2:=Qa1 x hn
 cases hs:s.ok with
 | false =>
  have ho:BT s x=false:=by unfold BT; rw [hs]; rfl
  rw [hs] at h1
  rw [Vt ho,ho,Vu]
  refine Af Cj Ac (of_decide_eq_true rfl) ?_
  simp (disch:=omega) only [B3,go_sem,Aa,h1,Ci]
 | true =>
  rw [hs] at h1
  cases hx:x.expr with
  | false =>
   have ho:BT s x=false:=by unfold BT; rw [hx,yF,zK]
   rw [hx] at h2
   rw [Vt ho,ho,Vu]
   refine Af Cj Ac (of_decide_eq_true rfl) ?_
   simp (disch:=omega) only [B3,go_sem,Aa,h1,h2,Ci,Fb]
  | true =>
   rw [hx] at h2
   have hn:=Tm.Ar hx
   have hk:=Tm.Jb (Sb.Fg hs) x
   have h3:=OM s hs ht x (by omega)
   have h4:=Qa1 (x.ap s.look) (by omega)
   have h5:(x.ap s.look).expr=(x.ap s.look).small:=Tm.QcO (Sb.Fg hs) x hx
   rw [h5] at h4
   cases hq:(x.ap s.look).small with
   | true =>
    have ho:BT s x=true:=by unfold BT; rw [hs,hx,hq]; rfl
    rw [hq] at h4
    rw [Ec ho,ho]
    refine Af Cj Ac (of_decide_eq_true rfl) ?_
    simp (disch:=omega) only [B3,go_sem,Aa,h1,h2,h3,h4,Ci,Fb,AG]
   | false =>
    have ho:BT s x=false:=by unfold BT; rw [hq,zK,zK]
    rw [hq] at h4
    rw [Vt ho,ho,Vu]
    refine Af Cj Ac (of_decide_eq_true rfl) ?_
    simp (disch:=omega) only [B3,go_sem,Aa,h1,h2,h3,h4,Ci,Fb,AG]
theorem Tm.Cf {x:Tm} (h:x.atom=true):x.expr=true:=by unfold Tm.expr; rw [h,Bool.or_true]
theorem Tm.CB {x:Tm} (h:x.atom=true):x.nodes≤30:=Tm.Ar (Tm.Cf h)
def Gw:SC:=(.seq (.reg [⟨some 1,none,.boxv 28 1 (.t 0)⟩,⟨some 2,none,.alloc 28 [.nil]⟩,⟨some 3,none,.mv (.c (.bool false))⟩]) (.seq (.seq (.reg [⟨some 4,none,.load true 1 (.t 1)⟩,⟨some 5,none,.call 54 [(.t 4)]⟩,⟨some 6,none,.un .not (.t 5)⟩]) (.cond (.t 6) (.seq (.reg [⟨some 7,none,.build [.nil] []⟩,⟨none,none,(.store 1 (.t 2) (.t 7))⟩,⟨some 3,none,.mv (.c (.bool false))⟩]) .ret) .skip)) (.seq (.reg [⟨some 8,none,.load true 1 (.t 1)⟩,⟨none,none,(.store 1 (.t 2) (.t 8))⟩,⟨some 3,none,.mv (.c (.bool true))⟩]) .ret)))
theorem JX:codeOf Tryz.prog 137=some ⟨9,Gw,[(.cell 2 true 1),(.tmp 3)]⟩:=by kernel_rfl
theorem CK:modes 137=⟨[true],.own [some (73,3),none],none,false⟩:=by unfold modes; rfl
def CZ:SC:=(.seq (.reg [⟨some 2,none,.boxv 76 1 (.t 0)⟩,⟨some 4,none,.alloc 28 [.nil]⟩,⟨some 5,none,.mv (.c (.bool false))⟩]) (.seq (.reg [⟨(some 11),none,(.mkrow 73 3 [(.bool false),(.str ⟨#[]⟩),.nil] 0 [])⟩,⟨some 6,none,.mv (.t 11)⟩]) (.seq (.seq (.reg [⟨some 12,none,.mv (.t 1)⟩,⟨some 13,none,.len false (.t 12)⟩,⟨some 14,none,.mv (.c (.int .i64 0))⟩]) (.block 0 (.loop [0,0,1,0,1,0,1,0,0,0,0,0,1,1,1,0,0,0,0,0,0,0,0,0,0,0,0,0,0,0,0,0,0,0,0,0,0,0,0,0,0] (.seq (.reg [⟨some 15,none,.bin .lss false (.t 14) (.t 13)⟩]) (.seq (.cond (.t 15) .skip (.exit 0)) (.seq (.block 1 (.seq (.reg [⟨some 16,none,.iaddr 3 (.t 12) (.t 14)⟩,⟨some 17,none,.load true 3 (.t 16)⟩,⟨(some 8),none,(.alloc 73 [(.bool false),(.str ⟨#[]⟩),.nil])⟩,⟨none,none,(.store 3 (.t 8) (.t 17))⟩]) (.seq (.reg [⟨some 19,none,.load true 1 (.t 2)⟩,⟨some 20,none,.faddr 1 (.t 8)⟩,⟨some 21,none,.load true 2 (.t 20)⟩,⟨some 22,none,.call 87 [(.t 19),(.t 21)]⟩,⟨some 18,none,.mv (.t 22)⟩,⟨some 23,none,.ext (.t 18) 0⟩,⟨some 24,none,.ext (.t 18) 1⟩,⟨(some 9),none,(.alloc 71 [(.str ⟨#[]⟩),.nil])⟩,⟨none,none,(.store 2 (.t 9) (.t 23))⟩,⟨some 10,none,.mv (.t 24)⟩]) (.seq (.seq (.reg [⟨some 25,none,.mv (.t 10)⟩,⟨some 26,none,.un .not (.t 25)⟩]) (.cond (.t 26) (.seq (.reg [⟨some 27,none,.build [.nil] []⟩,⟨none,none,(.store 1 (.t 4) (.t 27))⟩,⟨some 5,none,.mv (.c (.bool false))⟩]) .ret) .skip)) (.reg [⟨some 28,none,.mv (.t 6)⟩,⟨some 29,none,.faddr 0 (.t 8)⟩,⟨some 30,none,.load false 1 (.t 29)⟩,⟨some 31,none,.load true 2 (.t 9)⟩,⟨(some 32),none,(.build [(.bool false),(.str ⟨#[]⟩),.nil] [(0,(1,(.t 30))),(1,(2,(.t 31)))])⟩,⟨(some 33),none,(.mkrow 73 3 [(.bool false),(.str ⟨#[]⟩),.nil] 1 [(0,(.t 32))])⟩,⟨(some 34),none,(.append 73 3 48 [(.bool false),(.str ⟨#[]⟩),.nil] (.t 28) (.t 33))⟩,⟨some 6,none,.mv (.t 34)⟩]))))) (.reg [⟨some 35,none,.bin .add false (.t 14) (.c (.int .i64 1))⟩,⟨some 14,none,.mv (.t 35)⟩]))))))) (.seq (.reg [⟨some 36,none,.mv (.t 6)⟩,⟨some 37,none,.call 138 [(.t 36)]⟩,⟨some 38,none,.call 137 [(.t 37)]⟩,⟨some 39,none,.ext (.t 38) 0⟩,⟨some 40,none,.ext (.t 38) 1⟩,⟨none,none,(.store 1 (.t 4) (.t 39))⟩,⟨some 5,none,.mv (.t 40)⟩]) .ret))))
theorem Fs:codeOf Tryz.prog 92=some ⟨41,CZ,[(.cell 4 true 1),(.tmp 5)]⟩:=by kernel_rfl
theorem Bu:modes 92=⟨[],.own [some (73,3),none],none,false⟩:=by unfold modes; rfl
def KU:SC:=(.seq (.reg [⟨some 2,none,.boxv 76 1 (.t 0)⟩,⟨some 4,none,.alloc 28 [.nil]⟩,⟨some 5,none,.mv (.c (.bool false))⟩]) (.seq (.reg [⟨(some 10),none,(.mkrow 73 3 [(.bool false),(.str ⟨#[]⟩),.nil] 0 [])⟩,⟨some 6,none,.mv (.t 10)⟩]) (.seq (.seq (.reg [⟨some 7,none,.mv (.c (.int .i64 0))⟩]) (.block 0 (.loop [0,1,1,0,1,0,1,1,0,0,0,0,0,0,0,0,0,0,0,0,0,0,0,0,0,0,0,0,0,0,0,0,0,0,0,0,0,0,0,0,0,0,0,0,0] (.seq (.seq (.reg [⟨some 11,none,.mv (.t 7)⟩,⟨some 12,none,.mv (.t 1)⟩,⟨some 13,none,.len false (.t 12)⟩,⟨some 14,none,.bin .lss false (.t 11) (.t 13)⟩]) (.cond (.t 14) .skip (.exit 0))) (.seq (.block 1 (.seq (.dreg [[],[],[],[1,2],[3,1,2],[4,3,1,2],[0,5,4,3,1,2],[],[7,6,0,5,4,3,1,2]] [⟨some 17,none,.load true 1 (.t 2)⟩,⟨some 18,none,.mv (.t 1)⟩,⟨some 19,none,.mv (.t 7)⟩,⟨some 20,none,.iaddr 3 (.t 18) (.t 19)⟩,⟨some 21,none,.faddr 1 (.t 20)⟩,⟨some 22,none,.load true 2 (.t 21)⟩,⟨some 23,none,.call 111 [(.t 17),(.t 22)]⟩,⟨(some 8),none,(.alloc 71 [(.str ⟨#[]⟩),.nil])⟩,⟨none,none,(.store 2 (.t 8) (.t 23))⟩]) (.seq (.seq (.reg [⟨some 24,none,.load true 2 (.t 8)⟩,⟨some 25,none,.call 72 [(.t 24)]⟩,⟨some 26,none,.un .not (.t 25)⟩]) (.cond (.t 26) (.seq (.reg [⟨some 27,none,.build [.nil] []⟩,⟨none,none,(.store 1 (.t 4) (.t 27))⟩,⟨some 5,none,.mv (.c (.bool false))⟩]) .ret) .skip)) (.dreg [[],[],[],[1,2],[3,1,2],[4,3,1,2],[],[5,4,3,1,2,6],[7,5,4,3,1,2,6],[0,8,7,5,4,3,1,2,6],[9,0,8,7,5,4,3,1,2,6]] [⟨some 28,none,.mv (.t 6)⟩,⟨some 29,none,.mv (.t 1)⟩,⟨some 30,none,.mv (.t 7)⟩,⟨some 31,none,.iaddr 3 (.t 29) (.t 30)⟩,⟨some 32,none,.faddr 0 (.t 31)⟩,⟨some 33,none,.load false 1 (.t 32)⟩,⟨some 34,none,.load true 2 (.t 8)⟩,⟨(some 35),none,(.build [(.bool false),(.str ⟨#[]⟩),.nil] [(0,(1,(.t 33))),(1,(2,(.t 34)))])⟩,⟨(some 36),none,(.mkrow 73 3 [(.bool false),(.str ⟨#[]⟩),.nil] 1 [(0,(.t 35))])⟩,⟨(some 37),none,(.append 73 3 48 [(.bool false),(.str ⟨#[]⟩),.nil] (.t 28) (.t 36))⟩,⟨some 6,none,.mv (.t 37)⟩])))) (.reg [⟨some 15,none,.mv (.t 7)⟩,⟨some 16,none,.bin .add false (.t 15) (.c (.int .i64 1))⟩,⟨some 7,none,.mv (.t 16)⟩])))))) (.seq (.reg [⟨some 38,none,.mv (.t 6)⟩,⟨some 39,none,.call 117 [(.t 38)]⟩,⟨some 9,none,.alloc 28 [.nil]⟩,⟨none,none,(.store 1 (.t 9) (.t 39))⟩]) (.seq (.seq (.reg [⟨some 40,none,.load true 1 (.t 9)⟩,⟨some 41,none,.call 47 [(.t 40)]⟩,⟨some 42,none,.un .not (.t 41)⟩]) (.cond (.t 42) (.seq (.reg [⟨some 43,none,.build [.nil] []⟩,⟨none,none,(.store 1 (.t 4) (.t 43))⟩,⟨some 5,none,.mv (.c (.bool false))⟩]) .ret) .skip)) (.seq (.reg [⟨some 44,none,.load true 1 (.t 9)⟩,⟨none,none,(.store 1 (.t 4) (.t 44))⟩,⟨some 5,none,.mv (.c (.bool true))⟩]) .ret))))))
theorem RL:codeOf Tryz.prog 79=some ⟨45,KU,[(.cell 4 true 1),(.tmp 5)]⟩:=by kernel_rfl
theorem Fj:modes 79=⟨[],.frz,none,false⟩:=by unfold modes; rfl
theorem Vv (c:Cl) (hn:c.tame) (hv:c.ok=true):E 137 [c.osv] c.obs=some (.tup [c.osv,.bool true],c.obs):=by
 have h:=Gv c hn
 rw [hv] at h
 refine Af JX CK (of_decide_eq_true rfl) ?_
 simp (disch:=omega) only [Gw,go_sem,Aa,h,Cq,Lt.erss,Lt.noss,Lt.fus]
theorem Xg (c:Cl) (hn:c.tame) (hv:c.ok=false):E 137 [c.osv] c.obs=some (.tup [.agg [.ref 1],.bool false],[.row 73 3 (c.lits.map Lt.o),.row 73 3 []]):=by
 have h:=Gv c hn
 rw [hv] at h
 refine Af JX CK (of_decide_eq_true rfl) ?_
 simp (disch:=omega) only [Gw,go_sem,Aa,h,Cq,Lt.erss,Lt.noss,Lt.fus]
theorem Uj {s:ByteArray} (h:ET s=true):Aq s=false:=by
 unfold ET inB at h
 rw [zA,zA,zA,decide_eq_true_eq,decide_eq_true_eq] at h
 have hs:0<s.size:=by omega
 have h1:=Hl h.1.1 hs
 unfold K8 at h1
 simp at h1
 have h2:=h1.1
 have hu:QZ (JP s 0)=false:=by
  unfold UK at h2
  unfold QZ
  simp at h2 ⊢
  omega
 rw [Bool.eq_false_iff]
 intro hv
 unfold Aq at hv
 rw [zA] at hv
 have h1:=Hl hv.1 hs
 unfold JQ at h1
 rw [hu] at h1
 simp at h1
theorem Tm.Qa2 {f:ByteArray→Option Tm} (hf:okF f) (x:Tm) (hx:x.atom=true):(x.ap f).atom=(x.ap f).small:=by
 unfold Tm.atom at hx
 rcases he:x.eqn with _ | _
 ·rw [he,if_neg (by simp),zA] at hx
  have hnv:¬ (Aq x.name=true):=by rw [Uj hx.1]; simp
  have e:x.ap f=.mk x.name (Tm.apL f x.args):=by rw [Tm.HY,if_neg hnv]
  have he2:¬ (x.ap f).eqn=true:=by rw [e]; show ¬ x.eqn=true; rw [he]; simp
  have hn:x.names=true:=by
   have:=hx.2
   unfold Tm.valid at this
   rw [zA] at this
   exact this.2
  have h3:=Tm.KS hf x hn
  unfold Tm.atom
  rw [if_neg he2]
  unfold Tm.valid
  rw [h3,yI]
  have hname:(x.ap f).name=x.name:=by rw [e]; rfl
  rw [hname,hx.1,yB]
 ·rw [he,if_pos rfl,zA,zA] at hx
  have hnv:¬ (Aq x.name=true):=by rw [Tm.Qa0 he]; simp
  have e:x.ap f=.mk x.name (Tm.apL f x.args):=by rw [Tm.HY,if_neg hnv]
  have he2:(x.ap f).eqn=true:=by rw [e]; exact he
  unfold Tm.atom
  rw [if_pos he2]
  have h1:((x.ap f).args.length == 2)=true:=by
   rw [e]
   show ((Tm.apL f x.args).length == 2)=true
   rw [Tm.Ql]; exact hx.1.1
  have h2:Tm.DT (x.ap f).args=true:=by
   rw [e]
   exact Tm.NE f x.args fun y hy=>Tm.KS hf y (by
    have:=hx.2
    rw [Tm.Dj,zO] at this
    exact this y hy)
  rw [h1,h2,yB,yI]
noncomputable def Lt.ap (s:Sb) (x:Lt):Lt:=⟨x.pos,x.atom.ap s.look⟩
noncomputable def RN (s:Sb) (l:List Lt):Bool:=l.all fun x=>(x.atom.ap s.look).small
noncomputable def Et (s:Sb) (l:List Lt):Bool:=RN s l&&(mkC (l.map (Lt.ap s))).ok
noncomputable def apC (s:Sb) (l:List Lt):Cl:=if Et s l then mkC (l.map (Lt.ap s)) else ⟨[]⟩
theorem ON {s:Sb} {l:List Lt} (h:Et s l=false):apC s l=⟨[]⟩:=by unfold apC; rw [if_neg (by rw [h]; simp)]
theorem Vw {s:Sb} {l:List Lt} (h:Et s l=true):apC s l=mkC (l.map (Lt.ap s)):=by unfold apC; rw [if_pos h]
theorem Lt.Qa3 {s:Sb} (hs:s.ok=true) {x:Lt} (hx:x.atom.atom=true) (hq:(x.atom.ap s.look).small=true):(x.ap s).fine:=by
 have ha:(x.atom.ap s.look).atom=true:=by rw [Tm.Qa2 (Sb.Fg hs) _ hx]; exact hq
 exact ⟨Tm.Hm ha,by
              have:(Lt.ap s x).atom.nodes≤30:=Tm.CB ha
              omega⟩
theorem Xh {l:List Lt} (hl:l.length≤1048576) (hf:∀ x∈l,x.fine):(mkC l).tame:=by
 have:=Qau l
 exact ⟨by omega,fun y hy=>(hf y ((Qk l y).1 hy)).2⟩
theorem Uk:(Cl.mk []).osv=.agg [.ref 0]:=rfl
theorem Ul:(Cl.mk []).obs=[.row 73 3 []]:=rfl
theorem Xi:(Cl.mk []).sv=.agg [.arr []]:=rfl
theorem SW (s:Sb) (hs:s.ok=true) (ht:s.tame) (l:List Lt) (hl:l.length≤1048576) (hal:∀ x∈l,x.atom.atom=true):E 92 [s.sv,.arr (l.map Lt.d)] []=some (.tup [(apC s l).osv,.bool (Et s l)],(apC s l).obs):=by
 have her:OT.erss (l.map (fun x:Lt=>(Lt.ap s x).d.map D.ot))=(l.map (Lt.ap s)).map Lt.d:=by
  have:=Lt.der (l.map (Lt.ap s))
  rw [yN] at this
  exact this
 have hfu:OT.AM (l.map (fun x:Lt=>(Lt.ap s x).d.map D.ot))=true:=by
  have:=Lt.dfu (l.map (Lt.ap s))
  rw [yN] at this
  exact this
 refine Af Fs Bu (of_decide_eq_true rfl) ?_
 simp (disch:=omega) only [CZ,go_sem,Aa]
 refine go_loop (α:=Int) (fun a=>⟨slots 41 0 [(2,.ptr 0 0),(4,.ptr 1 0),(6,.ref 2),(12,.arr (l.map Lt.d)),(13,.int .i64 l.length),(14,.int .i64 a)],[.box 76 [.arr (s.binds.map Bd.d)],.box 28 [.nil],.row 73 3 ((l.take a.toNat).map (fun x:Lt=>(Lt.ap s x).d.map D.ot))]⟩) (fun a=>∃ k:Nat,a=k∧k≤(l).length∧∀ x∈l.take k,(x.atom.ap s.look).small=true) (fun a=>(l).length-(a).toNat) 0 ⟨0,rfl,zH _,fun x hx=>by simp at hx⟩ (by simp (disch:=omega) only [go_sem,Aa,z8]) ?_
 rintro i ⟨k,hi,hk,hR⟩
 have hni:i.toNat=k:=by omega
 have hni1:(i+1).toNat=k+1:=by omega
 rcases zB k (l).length with hlt | hge
 ·have hg:=get_at Lt.d hlt
  rw [Lt.d_eq] at hg
  have hat:=hal l[k] (zD hlt)
  have hex:=Tm.Cf hat
  have hsn:=D9 (fun x:Lt=>(Lt.ap s x).d.map D.ot) hlt
  have hs1:[[OT.bool l[k].pos,.str (l[k].atom.ap s.look).name,.sh ((l[k].atom.ap s.look).args.map Tm.d)]]=[(fun x:Lt=>(Lt.ap s x).d.map D.ot) l[k]]:=by simp only [Lt.d_eq]; rfl
  have htl:(l.take k).length=k:=by rw [zP]; omega
  cases hq:(l[k].atom.ap s.look).small with
  | true =>
   have ha:=BD s hs ht l[k].atom hex (by unfold BT; rw [hs,hex,hq]; rfl)
   rw [Ec (by unfold BT; rw [hs,hex,hq]; rfl)] at ha
   simp (disch:=omega) only [go_sem,Aa,hni,hg,ha,htl,Ab,CJ,CK]
   refine ⟨i+1,⟨k+1,by omega,hlt,fun x hx=>?_⟩,by omega,?_⟩
   ·rcases yR.1 (by rw [yA hlt] at hx; exact hx) with hx | hx
    ·exact hR x hx
    ·rw [yS.1 hx]; exact hq
   ·simp (disch:=omega) only [go_sem,Aa,hni1,hs1,hsn,and_self]
  | false =>
   have ha:=Ce s hs ht l[k].atom hex (by unfold BT; rw [hq,zK,zK])
   have hno:Et s l=false:=by
    unfold Et RN
    rw [show (l.all fun x=>(x.atom.ap s.look).small)=false from ?_,yF]
    rw [List.all_eq_false]
    exact ⟨l[k],zD hlt,by rw [hq]; simp⟩
   rw [ON hno,hno,Uk,Ul]
   simp (disch:=omega) only [go_sem,Aa,hni,hg,ha,Ab,CJ,CK]
 ·obtain rfl:k=l.length:=by omega
  have htk:l.take l.length=l:=zR
  rw [htk] at hR
  have hal2:RN s l=true:=by unfold RN; rw [zO]; exact hR
  have hfine:∀ x∈l.map (Lt.ap s),x.fine:=fun x hx=>by
   obtain ⟨y,hy,rfl⟩:=yO.1 hx
   exact Lt.Qa3 hs (hal y hy) (hR y hy)
  have hlen:(l.map (Lt.ap s)).length≤1048576:=by rw [zE]; exact hl
  have hc:=R8 (l.map (Lt.ap s)) hlen hfine
  have htm:=Xh hlen hfine
  cases hv:(mkC (l.map (Lt.ap s))).ok with
  | true =>
   have hok:Et s l=true:=by unfold Et; rw [hal2,hv]; rfl
   have hi2:=Vv _ htm hv
   rw [Vw hok,hok]
   simp (disch:=omega) only [go_sem,Aa,hni,htk,hc,hi2,her,hfu,Lt.noss,Ab,CJ,CK]
  | false =>
   have hok:Et s l=false:=by unfold Et; rw [hv,zK]
   have hi2:=Xg _ htm hv
   rw [ON hok,hok,Uk,Ul]
   simp (disch:=omega) only [go_sem,Aa,hni,htk,hc,hi2,her,hfu,Lt.noss,Ab,CJ,CK]
theorem Tm.Jd {x:Tm} (h:x.atom=true):(Aq x.name=true→x.args=[])∧∀ y∈x.args,y.names=true:=by
 unfold Tm.atom at h
 cases he:x.eqn with
 | true =>
  rw [he,if_pos rfl,zA,zA] at h
  have h2:=h.2
  rw [Tm.Dj,zO] at h2
  refine ⟨fun hv=>?_,h2⟩
  have hn:=Ax.1 he
  have hnv0:Aq ⟨#[61]⟩=false:=by kernel_rfl
  rw [hn,hnv0] at hv
  cases hv
 | false =>
  rw [he,if_neg (by simp),zA] at h
  have hnm:x.names=true:=by have h3:=h.2; unfold Tm.valid at h3; rw [zA] at h3; exact h3.2
  exact ⟨fun hv=>Tm.FA hnm hv,fun y hy=>Tm.ES hnm hy⟩
mutual
noncomputable def Tm.vs:Tm→List ByteArray
 | .mk name args=>bif Aq name then [name] else Tm.vsL args
noncomputable def Tm.vsL:List Tm→List ByteArray
 | []=>[]
 | x :: xs=>Tm.vs x++Tm.vsL xs
end
theorem Tm.G5 (x:Tm):x.vs=bif Aq x.name then [x.name] else Tm.vsL x.args:=by
 obtain ⟨n,a⟩:=x
 rw [Tm.vs]; rfl
theorem Tm.vsL_mem {v:ByteArray}:∀ {xs:List Tm},v∈Tm.vsL xs ↔ ∃ x∈xs,v∈x.vs
 | []=>by simp [Tm.vsL]
 | x :: xs=>by rw [Tm.vsL,yR,Tm.vsL_mem (xs:=xs)]; simp
theorem Tm.Qa4:∀ xs:List Tm,(∀ x∈xs,x.vs.length≤x.nodes)→(Tm.vsL xs).length≤Tm.Bb xs
 | [],_=>by simp [Tm.vsL]
 | x :: xs,h=>by
  have h1:=h x (by simp)
  have h2:=Tm.Qa4 xs fun y hy=>h y (by simp [hy])
  rw [Tm.vsL,Tm.Bb,yD]; omega
theorem Tm.vs_len (x:Tm):x.vs.length≤x.nodes:=by
 have h:=Tm.Qa4 x.args fun y hy=>Tm.vs_len y
 rw [Tm.G5,Tm.An]
 cases Aq x.name with
 | true=>simp
 | false=>simp only [cond_false]; omega
termination_by SizeOf.sizeOf x
decreasing_by exact Tm.Aw hy
noncomputable def LR (l:List ByteArray) (n:ByteArray):List ByteArray:=bif dec (n∈l) then l else l++[n]
theorem QcP (l:List ByteArray) (n:ByteArray):(LR l n).length≤l.length+1:=by
 unfold LR
 cases dec (n∈l) <;> simp
theorem QcQ {l:List ByteArray} {n m:ByteArray}:m∈LR l n ↔ m∈l∨m=n:=by
 unfold LR
 by_cases h:n∈l
 ·rw [As h,cond_true]
  exact ⟨.inl,fun h'=>h'.elim id fun e=>e▸h⟩
 ·rw [Az h,cond_false]
  simp
theorem Zr {l:List ByteArray} {n:ByteArray} (h:l.Nodup):(LR l n).Nodup:=by
 unfold LR
 by_cases k:n∈l
 ·rw [As k]; exact h
 ·rw [Az k,cond_false,List.nodup_append]
  exact ⟨h,by simp,fun a ha b hb e=>by simp at hb; subst hb; subst e; exact k ha⟩
noncomputable def C0 (l ns:List ByteArray):List ByteArray:=ns.foldl LR l
theorem Je:∀ (ns l:List ByteArray),(C0 l ns).length≤l.length+ns.length
 | [],l=>by simp [C0]
 | n :: ns,l=>by
  have h:=Je ns (LR l n)
  have h2:=QcP l n
  simp only [C0,zV,zL] at h ⊢
  omega
theorem Xj:∀ {ns l:List ByteArray} {m:ByteArray},m∈C0 l ns ↔ m∈l∨m∈ns
 | [],l,m=>by simp [C0]
 | n :: ns,l,m=>by
  have h:=Xj (ns:=ns) (l:=LR l n) (m:=m)
  simp only [C0,zV] at h ⊢
  rw [h,QcQ]
  simp only [yC]
  exact or_assoc
theorem RO:∀ {ns l:List ByteArray},l.Nodup→(C0 l ns).Nodup
 | [],l,h=>h
 | n :: ns,l,h=>RO (ns:=ns) (Zr h)
theorem NF (l a b:List ByteArray):C0 l (a++b)=C0 (C0 l a) b:=yV
def DA:SC:=(.seq (.reg [⟨some 4,none,.mv (.c (.int .i64 0))⟩]) (.seq (.seq (.reg [⟨some 6,none,.mv (.t 0)⟩,⟨some 7,none,.len false (.t 6)⟩,⟨some 8,none,.mv (.c (.int .i64 0))⟩]) (.block 0 (.loop [1,1,0,0,0,0,0,1,1,0,0,0,0,0,0,0,0,0,0] (.seq (.reg [⟨some 9,none,.bin .lss false (.t 8) (.t 7)⟩]) (.seq (.cond (.t 9) .skip (.exit 0)) (.seq (.block 1 (.seq (.reg [⟨some 10,none,.mv (.t 8)⟩,⟨some 5,none,.mv (.t 10)⟩]) (.seq (.reg [⟨some 11,none,.mv (.t 1)⟩,⟨some 12,none,.mv (.t 0)⟩,⟨some 13,none,.mv (.t 5)⟩,⟨some 14,none,.iaddr 1 (.t 12) (.t 13)⟩,⟨some 15,none,.load false 1 (.t 14)⟩,⟨some 16,none,.bin .eql false (.t 11) (.t 15)⟩]) (.cond (.t 16) (.seq (.reg [⟨some 17,none,.mv (.t 5)⟩,⟨some 4,none,.mv (.t 17)⟩]) .ret) .skip)))) (.reg [⟨some 18,none,.bin .add false (.t 8) (.c (.int .i64 1))⟩,⟨some 8,none,.mv (.t 18)⟩]))))))) (.seq (.reg [⟨some 4,none,.mv (.c (.int .i64 (-(0+1))))⟩]) .ret)))
theorem Gx:codeOf Tryz.prog 179=some ⟨19,DA,[(.tmp 4)]⟩:=by kernel_rfl
theorem DB:modes 179=⟨[],.asis,none,false⟩:=by unfold modes; rfl
def Da:SC:=(.seq (.reg [⟨some 4,none,.mv (.c (.bool false))⟩]) (.seq (.reg [⟨some 5,none,.mv (.t 0)⟩,⟨some 6,none,.mv (.t 1)⟩,⟨some 7,none,.call 179 [(.t 5),(.t 6)]⟩,⟨some 8,none,.bin .geq false (.t 7) (.c (.int .i64 0))⟩,⟨some 4,none,.mv (.t 8)⟩]) .ret))
theorem Ft:codeOf Tryz.prog 157=some ⟨9,Da,[(.tmp 4)]⟩:=by kernel_rfl
theorem BX:modes 157=⟨[],.asis,none,false⟩:=by unfold modes; rfl
theorem QcR (xs:List ByteArray) (n:ByteArray) (hl:xs.length≤1099511627776):E 179 [.arr (xs.map fun s=>[D.str s]),.str n] []=some (.int .i64 (Ek (fun s=>dec (n=s)) xs 0),[]):=by
 refine Af Gx DB (of_decide_eq_true rfl) ?_
 simp (disch:=omega) only [DA,go_sem,Aa]
 refine go_loop (α:=Int) (fun a=>⟨slots 19 0 [(0,.arr (xs.map fun s=>[D.str s])),(1,.str n),(7,.int .i64 xs.length),(8,.int .i64 a)],[]⟩) (fun a=>∃ k:Nat,a=k∧k≤(xs).length∧Ek (fun s=>dec (n=s)) (xs.drop k) a=Ek (fun s=>dec (n=s)) xs 0) (fun a=>(xs).length-(a).toNat) 0 ⟨0,rfl,zH _,by rw [zG]⟩ (by simp (disch:=omega) only [go_sem,Aa]) ?_
 rintro i ⟨k,hi,hk,hR⟩
 have hni:i.toNat=k:=by omega
 have hni1:(i+1).toNat=k+1:=by omega
 rcases zB k (xs).length with hlt | hge
 ·have hg:=get_at (fun s=>[D.str s]) hlt
  rw [zC hlt,Ek] at hR
  cases hp:dec (n=xs[k]) with
  | true =>
   rw [hp] at hR
   simp (disch:=omega) only [go_sem,Aa,hni,hg,hp]
   simpa using hR
  | false =>
   rw [hp] at hR
   simp (disch:=omega) only [go_sem,Aa,hni,hg,hp]
   exact ⟨i+1,⟨k+1,by omega,hlt,by simpa using hR⟩,by omega,by first | trivial | rfl⟩
 ·rw [zF hge,Ek] at hR
  simp (disch:=omega) only [go_sem,Aa,hni]
  exact hR
theorem Xk (xs:List ByteArray) (n:ByteArray) (hl:xs.length≤1099511627776):E 157 [.arr (xs.map fun s=>[D.str s]),.str n] []=some (.bool (dec (n∈xs)),[]):=by
 have h:=QcR xs n hl
 have e:dec (n∈xs)=dec (0≤Ek (fun s=>dec (n=s)) xs 0):=by
  rw [Nw]
  by_cases hm:n∈xs
  ·rw [As hm]
   exact (List.any_eq_true.2 ⟨n,hm,As rfl⟩).symm
  ·rw [Az hm]
   refine Eq.symm (Bool.eq_false_iff.2 fun h=>?_)
   obtain ⟨x,h1,h2⟩:=List.any_eq_true.1 h
   have e:=Ax.1 h2
   subst e
   exact hm h1
 rw [e]
 refine Af Ft BX (of_decide_eq_true rfl) ?_
 simp (disch:=omega) only [Da,go_sem,Aa,h,DB]
theorem OO:∀ (ns l:List ByteArray),l.length≤(C0 l ns).length
 | [],l=>by simp [C0]
 | n :: ns,l=>by
  have h:=OO ns (LR l n)
  have h2:l.length≤(LR l n).length:=by unfold LR; cases dec (n∈l) <;> simp
  simp only [C0,zV] at h ⊢
  omega
def Ed:SC:=(.seq (.reg [⟨some 3,none,.boxv 71 2 (.t 1)⟩,⟨some 4,none,.mv (.c .nil)⟩]) (.seq (.seq (.reg [⟨some 7,none,.faddr 1 (.t 3)⟩,⟨some 8,none,.load false 1 (.t 7)⟩,⟨some 9,none,.len false (.t 8)⟩,⟨some 10,none,.bin .eql false (.t 9) (.c (.int .i64 0))⟩,⟨some 11,none,.mv (.t 10)⟩,⟨(some 12),(some (11,true)),(.load true 2 (.t 3))⟩,⟨(some 13),(some (11,true)),(.call 89 [(.t 12)])⟩,⟨some 14,none,.pick (.t 11) (.t 13) (.c (.bool false))⟩]) (.cond (.t 14) (.seq (.seq (.reg [⟨some 15,none,.mv (.t 0)⟩,⟨some 16,none,.faddr 0 (.t 3)⟩,⟨some 17,none,.load false 1 (.t 16)⟩,⟨some 18,none,.call 157 [(.t 15),(.t 17)]⟩,⟨some 19,none,.un .not (.t 18)⟩]) (.cond (.t 19) (.reg [⟨some 20,none,.mv (.t 0)⟩,⟨some 21,none,.faddr 0 (.t 3)⟩,⟨some 22,none,.load false 1 (.t 21)⟩,⟨(some 23),none,(.mkrow 9 1 [(.str ⟨#[]⟩)] 1 [(0,(.t 22))])⟩,⟨(some 24),none,(.append 9 1 16 [(.str ⟨#[]⟩)] (.t 20) (.t 23))⟩,⟨some 0,none,.mv (.t 24)⟩]) .skip)) (.seq (.reg [⟨some 25,none,.mv (.t 0)⟩,⟨some 4,none,.mv (.t 25)⟩]) .ret)) .skip)) (.seq (.seq (.reg [⟨some 26,none,.faddr 1 (.t 3)⟩,⟨some 27,none,.load false 1 (.t 26)⟩,⟨some 28,none,.len false (.t 27)⟩,⟨some 29,none,.mv (.c (.int .i64 0))⟩]) (.block 0 (.loop [1,0,0,0,0,0,0,0,0,0,0,0,0,0,0,0,0,0,0,0,0,0,0,0,0,0,0,1,1,1,0,0,0,0,0,0,0,0] (.seq (.reg [⟨some 30,none,.bin .lss false (.t 29) (.t 28)⟩]) (.seq (.cond (.t 30) .skip (.exit 0)) (.seq (.block 1 (.seq (.reg [⟨some 31,none,.iaddr 2 (.t 27) (.t 29)⟩,⟨some 32,none,.load true 2 (.t 31)⟩,⟨(some 6),none,(.alloc 71 [(.str ⟨#[]⟩),.nil])⟩,⟨none,none,(.store 2 (.t 6) (.t 32))⟩]) (.reg [⟨some 33,none,.mv (.t 0)⟩,⟨some 34,none,.load true 2 (.t 6)⟩,⟨some 35,none,.call 124 [(.t 33),(.t 34)]⟩,⟨some 0,none,.mv (.t 35)⟩]))) (.reg [⟨some 36,none,.bin .add false (.t 29) (.c (.int .i64 1))⟩,⟨some 29,none,.mv (.t 36)⟩]))))))) (.seq (.reg [⟨some 37,none,.mv (.t 0)⟩,⟨some 4,none,.mv (.t 37)⟩]) .ret))))
theorem Fk:codeOf Tryz.prog 124=some ⟨38,Ed,[(.tmp 4)]⟩:=by kernel_rfl
theorem Dk:modes 124=⟨[true],.asis,none,false⟩:=by unfold modes; rfl
abbrev Qeu (x:Tm):Prop:=∀ l:List ByteArray,l.length+x.nodes≤1048576→E 124 [.ref 0,x.sv] [.row 9 1 (l.map fun s=>[OT.str s])]=some ((bif dec (l.length<(C0 l x.vs).length) then .ref 1 else .ref 0),(bif dec (l.length<(C0 l x.vs).length) then [.gone,.row 9 1 ((C0 l x.vs).map fun s=>[OT.str s])] else [.row 9 1 ((C0 l x.vs).map fun s=>[OT.str s])]))
theorem RP (x:Tm) (hva:Aq x.name=true→x.args=[]) (hc:x.cok=true) (ih:∀ y∈x.args,Qeu y):Qeu x:=by
 intro l hn
 have hl:=Tm.length_le x.args
 have hne:=Tm.An x
 have hv:=De x hc
 have hvs:=Tm.G5 x
 rcases zJ x.args.length with h0 | h0
 ·have hx0:x.args=[]:=zI h0
  have hz:((x.args.length:Int)=0)=True:=by rw [hx0]; simp
  cases hvv:Aq x.name with
  | true =>
   rw [hvv] at hv hvs
   have h1:=Xk l x.name (by omega)
   rw [hvs]
   cases hm:dec (x.name∈l) with
   | true =>
    have e:C0 l [x.name]=l:=by simp only [C0,zV,yP,LR,hm,cond_true]
    rw [hm] at h1
    simp only [cond_true,e]
    refine Af Fk Dk (of_decide_eq_true rfl) ?_
    simp (disch:=omega) only [Ed,go_sem,Aa,hz,hv,h1,Ak,BX]
   | false =>
    have e:C0 l [x.name]=l++[x.name]:=by simp only [C0,zV,yP,LR,hm,cond_false]
    have hg:l.length<(l++[x.name]).length:=by simp
    rw [hm] at h1
    simp only [cond_true,e,As hg]
    refine Af Fk Dk (of_decide_eq_true rfl) ?_
    simp (disch:=omega) only [Ed,go_sem,Aa,hz,hv,h1,Ak,BX]
    simp only [yE,zQ,zM]
  | false =>
   rw [hvv] at hv hvs
   have e:C0 l x.vs=l:=by rw [hvs,hx0]; simp only [cond_false,Tm.vsL]; rfl
   rw [e]
   refine Af Fk Dk (of_decide_eq_true rfl) ?_
   simp (disch:=omega) only [Ed,go_sem,Aa,hz,hv,Ak]
   refine go_loop (α:=Int) (fun a=>⟨slots 38 0 [(0,.ref 0),(27,.arr (x.args.map Tm.d)),(28,.int .i64 x.args.length),(29,.int .i64 a)],[.row 9 1 (l.map fun s=>[OT.str s])]⟩) (fun a=>∃ k:Nat,a=k∧k≤(x.args).length) (fun a=>(x.args).length-(a).toNat) 0 ⟨0,rfl,zH _⟩ (by simp (disch:=omega) only [go_sem,Aa]) ?_
   rintro i ⟨k,hi,hk⟩
   have hni:i.toNat=k:=by omega
   have hni1:(i+1).toNat=k+1:=by omega
   rcases zB k (x.args).length with hlt | hge
   ·omega
   ·simp (disch:=omega) only [go_sem,Aa,hni]
 ·have hz:((x.args.length:Int)=0)=False:=eq_false (by omega)
  have hvv:Aq x.name=false:=by
   cases h:Aq x.name with
   | false=>rfl
   | true=>rw [hva h] at h0; simp at h0
  rw [hvv] at hvs
  simp only [cond_false] at hvs
  rw [hvs]
  refine Af Fk Dk (of_decide_eq_true rfl) ?_
  simp (disch:=omega) only [Ed,go_sem,Aa,hz]
  refine go_loop (α:=Int × (List ByteArray)) (fun a=>⟨slots 38 0 [(0,(bif dec (l.length<(a.2).length) then .ref 1 else .ref 0)),(27,.arr (x.args.map Tm.d)),(28,.int .i64 x.args.length),(29,.int .i64 (a.1))],(bif dec (l.length<(a.2).length) then [.gone,.row 9 1 ((a.2).map fun s=>[OT.str s])] else [.row 9 1 ((a.2).map fun s=>[OT.str s])])⟩) (fun a=>∃ k:Nat,a.1=k∧k≤(x.args).length∧C0 (a.2) (Tm.vsL (x.args.drop k))=C0 l (Tm.vsL x.args)∧(a.2).length+Tm.Bb (x.args.drop k)≤1048576∧l.length≤(a.2).length) (fun a=>(x.args).length-(a.1).toNat) (0,l) ⟨0,rfl,zH _,by rw [zG],by rw [zG]; dsimp only; omega,zN _⟩ (by simp (disch:=omega) only [go_sem,Aa]) ?_
  rintro ⟨i,acc⟩ ⟨k,hi,hk,hR⟩
  dsimp only at hi hR
  have hni:i.toNat=k:=by omega
  have hni1:(i+1).toNat=k+1:=by omega
  rcases zB k (x.args).length with hlt | hge
  ·have hg:=get_at Tm.d hlt
   rw [Tm.d_eq] at hg
   obtain ⟨hR1,hR2,hR3⟩:=hR
   rw [zC hlt,Tm.vsL,NF] at hR1
   rw [zC hlt,Tm.Bb] at hR2
   have hc:=ih x.args[k] (zD hlt) acc (by omega)
   have hlen:=Je x.args[k].vs acc
   have hgr:=OO x.args[k].vs acc
   have hvl:=Tm.vs_len x.args[k]
   obtain ⟨acc2,ha2⟩:∃ a,a=C0 acc x.args[k].vs:=⟨_,rfl⟩
   rw [←ha2] at hc hlen hgr hR1
   rcases zB l.length acc.length with q1 | q1 <;> rcases zB acc.length acc2.length with q2 | q2
   all_goals
    first
     |rw [As q2] at hc
     |rw [Az (y2.2 q2)] at hc
    simp only [cond_true,cond_false] at hc
    simp (disch:=omega) only [go_sem,Aa,hni,hg,hc,Dk]
    refine ⟨(i+1,acc2),⟨k+1,by dsimp only; omega,hlt,hR1,by dsimp only; omega,by dsimp only; omega⟩,by dsimp only; omega,?_⟩
    first | done | simp (disch:=omega) only [go_sem,Aa]
  ·rw [zF hge,Tm.vsL] at hR
   obtain ⟨hR1,hR2,hR3⟩:=hR
   have hR1:acc=C0 l (Tm.vsL x.args):=hR1
   rw [←hR1]
   rcases zB l.length acc.length with q1 | q1
   ·simp (disch:=omega) only [go_sem,Aa,hni]
   ·simp (disch:=omega) only [go_sem,Aa,hni]
theorem Um (x:Tm) (hx:x.names=true) (hc:x.cok=true):Qeu x :=
 RP x (fun h=>Tm.FA hx h) hc fun y hy=>Um y (Tm.ES hx hy) (by rw [Tm.KB,zA] at hc; exact Tm.He hc.2 hy)
termination_by SizeOf.sizeOf x
decreasing_by exact Tm.Aw hy
theorem Zs (x:Tm) (h:x.atom=true):Qeu x :=
 RP x (Tm.Jd h).1 (Tm.Hm h) fun y hy=>Um y ((Tm.Jd h).2 y hy) (Tm.IV y ((Tm.Jd h).2 y hy))
noncomputable def Lt.vsL:List Lt→List ByteArray
 | []=>[]
 | x :: xs=>x.atom.vs++Lt.vsL xs
theorem Cl.ok_len {x:Cl} (h:x.ok=true):x.lits.length≤8:=by
 unfold Cl.ok at h
 rw [zA,decide_eq_true_eq] at h
 exact h.1
theorem Cl.JH {x:Cl} (h:x.ok=true) {k:Nat} (hk:k<x.lits.length):x.lits[k].atom.atom=true:=by
 unfold Cl.ok at h
 rw [zA,decide_eq_true_eq] at h
 exact OK h.2 hk hk
theorem Cl.Dl {x:Cl} (h:x.ok=true):∀ y∈x.lits,y.atom.atom=true:=fun y hy=>by
 obtain ⟨k,hk,rfl⟩:=zX hy
 exact Cl.JH h hk
theorem Cl.vs_len {c:Cl} (hc:c.ok=true):(Lt.vsL c.lits).length≤240:=by
 have hl:=Cl.ok_len hc
 have key:∀ xs:List Lt,(∀ x∈xs,x.atom.nodes≤30)→(Lt.vsL xs).length≤30*xs.length:=by
  intro xs
  induction xs with
  | nil=>intro _; exact zN _
  | cons x xs ih =>
   intro h
   have h1:=h x (by simp)
   have h2:=ih fun y hy=>h y (by simp [hy])
   have h3:=Tm.vs_len x.atom
   rw [Lt.vsL,yD,zL]; omega
 have:=key c.lits fun x hx=>by
  obtain ⟨k,hk,rfl⟩:=zX hx
  exact Tm.CB (Cl.JH hc hk)
 omega
def KV:SC:=(.seq (.reg [⟨some 1,none,.boxv 28 1 (.t 0)⟩,⟨some 2,none,.mv (.c .nil)⟩]) (.seq (.reg [⟨(some 6),none,(.mkrow 9 1 [(.str ⟨#[]⟩)] 0 [])⟩,⟨some 3,none,.mv (.t 6)⟩]) (.seq (.seq (.reg [⟨some 7,none,.faddr 0 (.t 1)⟩,⟨some 8,none,.load false 1 (.t 7)⟩,⟨some 9,none,.len false (.t 8)⟩,⟨some 10,none,.mv (.c (.int .i64 0))⟩]) (.block 0 (.loop [0,0,0,1,0,0,0,0,1,1,1,0,0,0,0,0,0,0,0,0] (.seq (.reg [⟨some 11,none,.bin .lss false (.t 10) (.t 9)⟩]) (.seq (.cond (.t 11) .skip (.exit 0)) (.seq (.block 1 (.seq (.reg [⟨some 12,none,.iaddr 3 (.t 8) (.t 10)⟩,⟨some 13,none,.load true 3 (.t 12)⟩,⟨(some 5),none,(.alloc 73 [(.bool false),(.str ⟨#[]⟩),.nil])⟩,⟨none,none,(.store 3 (.t 5) (.t 13))⟩]) (.reg [⟨some 14,none,.mv (.t 3)⟩,⟨some 15,none,.faddr 1 (.t 5)⟩,⟨some 16,none,.load true 2 (.t 15)⟩,⟨some 17,none,.call 124 [(.t 14),(.t 16)]⟩,⟨some 3,none,.mv (.t 17)⟩]))) (.reg [⟨some 18,none,.bin .add false (.t 10) (.c (.int .i64 1))⟩,⟨some 10,none,.mv (.t 18)⟩]))))))) (.seq (.reg [⟨some 19,none,.mv (.t 3)⟩,⟨some 2,none,.mv (.t 19)⟩]) .ret))))
theorem RQ:codeOf Tryz.prog 84=some ⟨20,KV,[(.tmp 2)]⟩:=by kernel_rfl
theorem Ee:modes 84=⟨[],.asis,none,false⟩:=by unfold modes; rfl
theorem Un (c:Cl) (hc:c.ok=true):E 84 [c.sv] []=some (.ref 0,[.row 9 1 ((C0 [] (Lt.vsL c.lits)).map fun s=>[OT.str s])]):=by
 have hl:=Cl.ok_len hc
 refine Af RQ Ee (of_decide_eq_true rfl) ?_
 simp (disch:=omega) only [KV,go_sem,Aa]
 refine go_loop (α:=Int × (List ByteArray)) (fun a=>⟨slots 20 0 [(3,.ref 0),(8,.arr (c.lits.map Lt.d)),(9,.int .i64 c.lits.length),(10,.int .i64 (a.1))],[.row 9 1 ((a.2).map fun s=>[OT.str s])]⟩) (fun a=>∃ k:Nat,a.1=k∧k≤(c.lits).length∧C0 (a.2) (Lt.vsL (c.lits.drop k))=C0 [] (Lt.vsL c.lits)∧(a.2).length≤30*k) (fun a=>(c.lits).length-(a.1).toNat) (0,[]) ⟨0,rfl,zH _,by rw [zG],zN _⟩ (by simp (disch:=omega) only [go_sem,Aa]) ?_
 rintro ⟨i,acc⟩ ⟨k,hi,hk,hR⟩
 dsimp only at hi hR
 have hni:i.toNat=k:=by omega
 have hni1:(i+1).toNat=k+1:=by omega
 rcases zB k (c.lits).length with hlt | hge
 ·have hg:=get_at Lt.d hlt
  rw [Lt.d_eq] at hg
  obtain ⟨hR1,hR2⟩:=hR
  rw [zC hlt,Lt.vsL,NF] at hR1
  have hnn:=Tm.CB (Cl.JH hc hlt)
  have hcl:=Zs c.lits[k].atom (Cl.JH hc hlt) acc (by omega)
  have has:c.lits[k].atom.sv=.agg [.str c.lits[k].atom.name,.arr (c.lits[k].atom.args.map Tm.d)]:=rfl
  have hlen:=Je c.lits[k].atom.vs acc
  have hvl:=Tm.vs_len c.lits[k].atom
  obtain ⟨acc2,ha2⟩:∃ a,a=C0 acc c.lits[k].atom.vs:=⟨_,rfl⟩
  rw [←ha2] at hcl hlen hR1
  rcases zB acc.length acc2.length with q2 | q2
  all_goals
   first
    |rw [As q2] at hcl
    |rw [Az (y2.2 q2)] at hcl
   simp only [cond_true,cond_false] at hcl
   simp (disch:=omega) only [go_sem,Aa,hni,hg,has,hcl,Dk]
   refine ⟨(i+1,acc2),⟨k+1,by dsimp only; omega,hlt,hR1,by dsimp only; omega⟩,by dsimp only; omega,?_⟩
   first | trivial | rfl | exact ⟨rfl,rfl⟩
 ·rw [zF hge,Lt.vsL] at hR
  obtain ⟨hR1,hR2⟩:=hR
  have hR1:acc=_:=hR1
  rw [←hR1]
  simp (disch:=omega) only [go_sem,Aa,hni]
theorem Qb3 (s:Sb) (hs:s.ok=true) (ht:s.tame) (l:List Lt) (hl:l.length≤1048576) (hal:∀ x∈l,x.atom.atom=true):E 79 [s.sv,.arr (l.map Lt.d)] []=some (.tup [(apC s l).sv,.bool (Et s l)],[]):=by
 have her:OT.erss (l.map (fun x:Lt=>(Lt.ap s x).d.map D.ot))=(l.map (Lt.ap s)).map Lt.d:=by
  have:=Lt.der (l.map (Lt.ap s))
  rw [yN] at this
  exact this
 have hfu:OT.AM (l.map (fun x:Lt=>(Lt.ap s x).d.map D.ot))=true:=by
  have:=Lt.dfu (l.map (Lt.ap s))
  rw [yN] at this
  exact this
 refine Af RL Fj (of_decide_eq_true rfl) ?_
 simp (disch:=omega) only [KU,go_sem,Aa]
 refine go_loop (α:=Int) (fun a=>⟨slots 45 0 [(1,.arr (l.map Lt.d)),(2,.ptr 0 0),(4,.ptr 1 0),(6,.ref 2),(7,.int .i64 a)],[.box 76 [.arr (s.binds.map Bd.d)],.box 28 [.nil],.row 73 3 ((l.take a.toNat).map (fun x:Lt=>(Lt.ap s x).d.map D.ot))]⟩) (fun a=>∃ k:Nat,a=k∧k≤(l).length∧∀ x∈l.take k,(x.atom.ap s.look).small=true) (fun a=>(l).length-(a).toNat) 0 ⟨0,rfl,zH _,fun x hx=>by simp at hx⟩ (by simp (disch:=omega) only [go_sem,Aa,z8]) ?_
 rintro i ⟨k,hi,hk,hR⟩
 have hni:i.toNat=k:=by omega
 have hni1:(i+1).toNat=k+1:=by omega
 rcases zB k (l).length with hlt | hge
 ·have hg:=get_at Lt.d hlt
  rw [Lt.d_eq] at hg
  have hat:=hal l[k] (zD hlt)
  have hsn:=D9 (fun x:Lt=>(Lt.ap s x).d.map D.ot) hlt
  have hs1:[[OT.bool l[k].pos,.str (l[k].atom.ap s.look).name,.sh ((l[k].atom.ap s.look).args.map Tm.d)]]=[(fun x:Lt=>(Lt.ap s x).d.map D.ot) l[k]]:=by simp only [Lt.d_eq]; rfl
  have htl:(l.take k).length=k:=by rw [zP]; omega
  have hnd:=Tm.CB hat
  have ha:=OM s hs ht l[k].atom (by omega)
  have hap:=Tm.Jb (Sb.Fg hs) l[k].atom
  have hb:=R2 (l[k].atom.ap s.look) (by omega)
  rw [Tm.Qa2 (Sb.Fg hs) _ hat] at hb
  cases hq:(l[k].atom.ap s.look).small with
  | true =>
   rw [hq] at hb
   simp (disch:=omega) only [go_sem,Aa,hni,hg,ha,hb,htl,AG,AT,CV,B0]
   refine ⟨i+1,⟨k+1,by omega,hlt,fun x hx=>?_⟩,by omega,?_⟩
   ·rcases yR.1 (by rw [yA hlt] at hx; exact hx) with hx | hx
    ·exact hR x hx
    ·rw [yS.1 hx]; exact hq
   ·simp (disch:=omega) only [go_sem,Aa,hni1,hs1,hsn,and_self]
  | false =>
   rw [hq] at hb
   have hno:Et s l=false:=by
    unfold Et RN
    rw [show (l.all fun x=>(x.atom.ap s.look).small)=false from ?_,yF]
    rw [List.all_eq_false]
    exact ⟨l[k],zD hlt,by rw [hq]; simp⟩
   rw [ON hno,hno,Xi]
   simp (disch:=omega) only [go_sem,Aa,hni,hg,ha,hb,AG,AT,CV,B0]
 ·obtain rfl:k=l.length:=by omega
  have htk:l.take l.length=l:=zR
  rw [htk] at hR
  have hal2:RN s l=true:=by unfold RN; rw [zO]; exact hR
  have hfine:∀ x∈l.map (Lt.ap s),x.fine:=fun x hx=>by
   obtain ⟨y,hy,rfl⟩:=yO.1 hx
   exact Lt.Qa3 hs (hal y hy) (hR y hy)
  have hlen:(l.map (Lt.ap s)).length≤1048576:=by rw [zE]; exact hl
  have hc:=RB (l.map (Lt.ap s)) hlen hfine
  have hgd:=R6 (mkC (l.map (Lt.ap s))) (Xh hlen hfine)
  cases hv:(mkC (l.map (Lt.ap s))).ok with
  | true =>
   have hok:Et s l=true:=by unfold Et; rw [hal2,hv]; rfl
   rw [hv] at hgd
   rw [Vw hok,hok]
   simp (disch:=omega) only [go_sem,Aa,hni,htk,hc,hgd,her,hfu,AG,AT,CV,B0]
  | false =>
   have hok:Et s l=false:=by unfold Et; rw [hv,zK]
   rw [hv] at hgd
   rw [ON hok,hok,Xi]
   simp (disch:=omega) only [go_sem,Aa,hni,htk,hc,hgd,her,hfu,AG,AT,CV,B0]
abbrev SEnv:=ByteArray→Option ByteArray
def Gf (e:SEnv):MF
 | .str s=>match e s with
  | some n=>some (false,[.str n])
  | none=>none
 | .int _=>none
theorem LN (e:SEnv) (s:ByteArray):Gf e (.str s)=match e s with | some n=>some (false,[.str n]) | none=>none:=rfl
noncomputable def Qb4 (e:SEnv) (s n:ByteArray):SEnv:=fun q=>bif dec (q=s) then some n else e q
theorem Qb5 (e:SEnv) (s n:ByteArray):PG (Gf e) (.str s) (false,[.str n])=Gf (Qb4 e s n):=by
 funext k
 cases k with
 | int i=>rw [Jw (fun h=>by cases h)]; rfl
 | str q =>
  rw [QH,LN,LN]
  unfold Qb4
  cases dec (q=s) <;> rfl
theorem Zt:Gf (fun _=>none)=nomap:=by
 funext k
 cases k <;> rfl
mutual
noncomputable def Tm.rn (e:SEnv):Tm→Tm
 | .mk n args=>.mk (bif args.isEmpty then (e n).getD n else n) (Tm.rnL e args)
noncomputable def Tm.rnL (e:SEnv):List Tm→List Tm
 | []=>[]
 | x :: xs=>Tm.rn e x :: Tm.rnL e xs
end
theorem Tm.Qa5 (e:SEnv):∀ xs:List Tm,Tm.rnL e xs=xs.map (Tm.rn e)
 | []=>by rw [Tm.rnL]; rfl
 | x :: xs=>by rw [Tm.rnL,Tm.Qa5 e xs]; rfl
theorem Tm.RR (e:SEnv) (x:Tm):x.rn e=.mk (bif x.args.isEmpty then (e x.name).getD x.name else x.name) (x.args.map (Tm.rn e)):=by
 obtain ⟨n,args⟩:=x
 rw [Tm.rn,Tm.Qa5]; rfl
theorem Tm.Xl (e:SEnv) (x:Tm):(x.rn e).nodes=x.nodes:=by
 have key:∀ xs:List Tm,(∀ y∈xs,(y.rn e).nodes=y.nodes)→Tm.Bb (xs.map (Tm.rn e))=Tm.Bb xs:=by
  intro xs
  induction xs with
  | nil=>intro _; rfl
  | cons y ys ih =>
   intro h
   rw [zQ,Tm.Bb,Tm.Bb,h y (by simp),ih fun z hz=>h z (by simp [hz])]
 rw [Tm.RR,Tm.An,Tm.An]
 show 1+Tm.Bb (x.args.map (Tm.rn e))=_
 rw [key x.args fun y hy=>Tm.Xl e y]
termination_by SizeOf.sizeOf x
decreasing_by exact Tm.Aw hy
theorem Zu {n:Int} (h0:0≤n) (h:n<10):GD n=⟨#[UInt8.ofNat (48+n.toNat)]⟩:=by
 obtain ⟨u,rfl⟩:∃ u:Nat,n=u:=⟨n.toNat,by omega⟩
 unfold GD
 rw [Lib.itoa_nonneg,Lib.decDigits,dif_pos (by omega)]
 rfl
theorem QcS {n:Int} (h:10≤n):GD n=GD (n.tdiv 10)++⟨#[UInt8.ofNat (48+(n.tmod 10).toNat)]⟩:=by
 obtain ⟨u,rfl⟩:∃ u:Nat,n=u:=⟨n.toNat,by omega⟩
 have e1:(u:Int).tdiv 10=((u / 10:Nat):Int):=by rw [zW (by omega)]; rfl
 have e2:((u:Int).tmod 10).toNat=u % 10:=by rw [yT (by omega)]; omega
 rw [e1,e2]
 unfold GD
 rw [Lib.itoa_nonneg,Lib.itoa_nonneg,Lib.decDigits,dif_neg (by omega)]
 have key:∀ (x:List UInt8) (y:UInt8),(⟨(x++[y]).toArray⟩:ByteArray)=⟨x.toArray⟩++⟨#[y]⟩:=fun x y=>by
  have e:∀ a b:ByteArray,a.data=b.data→a=b:=fun a b h=>by cases a; cases b; cases h; rfl
  apply e
  simp
 exact key _ _
def pre (p:ByteArray) (n:Int):ByteArray:=p++GD n
theorem Fl:modes 85=⟨[],.asis,some (LQ TU),false⟩:=by unfold modes; rfl
theorem QcT (n:Int) (h0:0≤n) (h1:n≤1099511627776):E 85 [.int .i64 n] []=some (.str (GD n),[]) :=
 TW (g:=TU) (congrArg FM.ext Fl) (by simp only [TU,As (⟨h0,h1⟩:0≤n∧n≤1099511627776),cond_true])
noncomputable def Cl.ns (c:Cl):List ByteArray:=C0 [] (Lt.vsL c.lits)
def SY:ByteArray:=⟨#[88]⟩
theorem Cl.RS {c:Cl} (h:c.ok=true):c.ns.length≤240:=by
 have h1:=Je (Lt.vsL c.lits) []
 have h2:=Cl.vs_len h
 unfold Cl.ns
 simp only [zT] at h1
 omega
theorem Cl.ns_nodup (c:Cl):c.ns.Nodup:=RO List.nodup_nil
theorem Lt.vsL_mem {v:ByteArray}:∀ {xs:List Lt},v∈Lt.vsL xs ↔ ∃ x∈xs,v∈x.atom.vs
 | []=>by simp [Lt.vsL]
 | x :: xs=>by rw [Lt.vsL,yR,Lt.vsL_mem (xs:=xs)]; simp
theorem Cl.Qfc {c:Cl} {v:ByteArray}:v∈c.ns ↔ ∃ x∈c.lits,v∈x.atom.vs:=by
 unfold Cl.ns
 rw [Xj,Lt.vsL_mem]
 simp
noncomputable def Hu (p:ByteArray) (l:List ByteArray):SEnv:=l.zipIdx.foldl (fun e x=>Qb4 e x.1 (pre p (x.2:Nat))) fun _=>none
theorem OP (p:ByteArray) {l:List ByteArray} {k:Nat} (h:k<l.length):Hu p (l.take (k+1))=Qb4 (Hu p (l.take k)) l[k] (pre p (k:Nat)):=by
 unfold Hu
 rw [←List.take_append_getElem h,List.zipIdx_append,yV]
 have e:(l.take k).length=k:=by rw [zP]; omega
 simp only [List.zipIdx_cons,List.zipIdx_nil,zV,yP,e,Nat.zero_add]
theorem Qa6 (p:ByteArray) {l:List ByteArray} (hn:l.Nodup):∀ (n k:Nat) (hk:k<l.length),n≤l.length→k<n→Hu p (l.take n) l[k]=some (pre p (k:Nat))
 | 0,k,hk,_,h=>absurd h (by omega)
 | n+1,k,hk,hl,h=>by
  rw [OP p (by omega:n<l.length)]
  unfold Qb4
  by_cases e:k=n
  ·subst e
   rw [As rfl,cond_true]
  ·have hne:l[k]≠l[n]:=fun he=>e ((List.getElem_inj hn).1 he)
   rw [Az hne,cond_false]
   exact Qa6 p hn n k hk (by omega) (by omega)
theorem Xm (p:ByteArray) {l:List ByteArray} (hn:l.Nodup) {k:Nat} (hk:k<l.length):Hu p l l[k]=some (pre p (k:Nat)):=by
 have h:=Qa6 p hn l.length k hk (zN _) hk
 rw [zR] at h
 exact h
theorem Xn (p:ByteArray) {l:List ByteArray} {q:ByteArray} (hq:q ∉ l):∀ n,n≤l.length→Hu p (l.take n) q=none
 | 0,_=>by rw [z7]; rfl
 | n+1,h=>by
  rw [OP p (by omega:n<l.length)]
  unfold Qb4
  rw [Az (show ¬ q=l[n] from fun e=>hq (by rw [e]; exact zD _)),cond_false]
  exact Xn p hq n (by omega)
theorem OQ (p:ByteArray) {l:List ByteArray} {q:ByteArray} (hq:q ∉ l):Hu p l q=none:=by
 have h:=Xn p hq l.length (zN _)
 rw [zR] at h
 exact h
def Vx (e:SEnv):Prop:=∀ s n,e s=some n→Aq s=true∧Aq n=true
theorem QcU:∀ i:_root_.Fin 300,Aq (pre SY (i.val:Nat))=true:=by decide +kernel
theorem Qb6 {p:ByteArray} (hp:∀ i:_root_.Fin 300,Aq (pre p (i.val:Nat))=true) {l:List ByteArray} (hn:l.Nodup) (hl:l.length≤240) (hv:∀ s∈l,Aq s=true):Vx (Hu p l):=fun s n h=>by
 by_cases hs:s∈l
 ·obtain ⟨k,hk,rfl⟩:=zX hs
  rw [Xm p hn hk] at h
  obtain rfl:=yJ h
  exact ⟨hv _ hs,hp ⟨k,by omega⟩⟩
 ·rw [OQ p hs] at h
  cases h
theorem Tm.QcV {v:ByteArray}:∀ x:Tm,v∈x.vs→Aq v=true
 | .mk n a=>fun h=>by
  rw [Tm.vs] at h
  cases hv:Aq n with
  | true =>
   rw [hv,cond_true,yS] at h
   subst h; exact hv
  | false =>
   rw [hv,cond_false,Tm.vsL_mem] at h
   obtain ⟨y,hy,h⟩:=h
   exact Tm.QcV y h
termination_by x=>SizeOf.sizeOf x
decreasing_by exact Tm.Aw (x:=.mk n a) hy
theorem Cl.QcW {c:Cl} {s:ByteArray} (h:s∈c.ns):Aq s=true:=by
 obtain ⟨x,_,h⟩:=Cl.Qfc.1 h
 exact Tm.QcV _ h
theorem Tm.QcX (e:SEnv) (x:Tm):(x.rn e).name=(bif x.args.isEmpty then (e x.name).getD x.name else x.name)∧(x.rn e).args=x.args.map (Tm.rn e):=by
 rw [Tm.RR]; exact ⟨rfl,rfl⟩
theorem Uo {e:SEnv} {xs:List Tm} (h:∀ y∈xs,(y.rn e).names=true):Tm.DT (xs.map (Tm.rn e))=true:=by
 rw [Tm.Dj,zO]
 intro z hz
 obtain ⟨y,hy,rfl⟩:=yO.1 hz
 exact h y hy
theorem Tm.Qa7 {e:SEnv} (he:Vx e) (x:Tm) (hv:Aq x.name=false):(x.rn e).name=x.name:=by
 rw [(Tm.QcX e x).1]
 cases hx:e x.name with
 | none=>cases x.args.isEmpty <;> rfl
 | some n =>
  have:=(he _ _ hx).1
  rw [hv] at this; cases this
theorem Tm.RT {e:SEnv} (he:Vx e) (x:Tm) (h:x.names=true):(x.rn e).names=true:=by
 have h1:=Tm.QcX e x
 rw [Tm.E0] at h ⊢
 rw [h1.2,zE]
 cases hv:Aq x.name with
 | true =>
  rw [hv,if_pos rfl] at h
  have h0:x.args=[]:=zI (by simpa using h)
  have hn:Aq (x.rn e).name=true:=by
   rw [h1.1,h0]
   show Aq ((e x.name).getD x.name)=true
   cases hx:e x.name with
   | none=>exact hv
   | some n=>exact (he _ _ hx).2
  rw [hn,if_pos rfl]
  exact h
 | false =>
  rw [hv,if_neg (by simp)] at h
  rw [Tm.Qa7 he x hv,hv,if_neg (by simp)]
  rw [zA] at h ⊢
  refine ⟨h.1,Uo fun y hy=>Tm.RT he y ?_⟩
  have h2:=h.2
  rw [Tm.Dj,zO] at h2
  exact h2 y hy
termination_by SizeOf.sizeOf x
decreasing_by exact Tm.Aw hy
theorem Tm.Qa8 (e:SEnv) (x:Tm):(x.rn e).deep=x.deep:=by
 have key:∀ xs:List Tm,(∀ y∈xs,(y.rn e).deep=y.deep)→Tm.Es (xs.map (Tm.rn e))=Tm.Es xs:=by
  intro xs
  induction xs with
  | nil=>intro _; rfl
  | cons y ys ih =>
   intro h
   rw [zQ,Tm.Es,Tm.Es,h y (by simp),ih fun z hz=>h z (by simp [hz])]
 rw [Tm.RR,Tm.LJ,Tm.LJ]
 show Tm.Es (x.args.map (Tm.rn e))+1=_
 rw [key x.args fun y hy=>Tm.Qa8 e y]
termination_by SizeOf.sizeOf x
decreasing_by exact Tm.Aw hy
theorem Tm.Xo (e:SEnv) (x:Tm):(x.rn e).small=x.small:=by
 unfold Tm.small
 rw [Tm.Xl,Tm.Qa8]
theorem Tm.Qev {e:SEnv} (he:Vx e) (x:Tm) (h:x.atom=true):(x.rn e).atom=true:=by
 have hv:Aq x.name=false:=by
  unfold Tm.atom at h
  split at h
  ·rename_i hq
   have:x.name=⟨#[61]⟩:=Ax.1 hq
   rw [this]; decide +kernel
  ·rw [zA] at h
   exact Uj h.1
 have hn:=Tm.Qa7 he x hv
 have hq:(x.rn e).eqn=x.eqn:=by unfold Tm.eqn; rw [hn]
 unfold Tm.atom at h ⊢
 rw [hq,hn,Tm.Xo,(Tm.QcX e x).2,zE]
 split at h
 ·rename_i hb
  rw [if_pos hb]
  rw [zA] at h ⊢
  refine ⟨h.1,Uo fun y hy=>Tm.RT he y ?_⟩
  have h2:=h.2
  rw [Tm.Dj,zO] at h2
  exact h2 y hy
 ·rename_i hb
  rw [if_neg hb]
  rw [zA] at h ⊢
  refine ⟨h.1,?_⟩
  have h2:=h.2
  unfold Tm.valid at h2 ⊢
  rw [zA] at h2 ⊢
  exact ⟨by rw [Tm.Xo]; exact h2.1,Tm.RT he x h2.2⟩
noncomputable def Lt.rn (e:SEnv) (x:Lt):Lt:=⟨x.pos,x.atom.rn e⟩
noncomputable def Cl.rn (e:SEnv) (c:Cl):Cl:=mkC (c.lits.map (Lt.rn e))
theorem OR {x:Lt} (h:x.atom.atom=true):x.fine:=⟨Tm.Hm h,by have:=Tm.CB h; omega⟩
theorem OS {xs:List Lt}:∀ {k:Nat},GF xs k=true→k≤xs.length→∀ (j:Nat) (h:j+1<k) (hl:j+1<xs.length),(xs[j]'(by omega)).cmp xs[j+1]<0
 | 0,_,_,j,h,_=>absurd h (by omega)
 | k+1,hk,hle,j,h,hl=>by
  rw [GF,zA] at hk
  rcases zB (j+1) k with h1 | h1
  ·exact OS hk.1 (by omega) j h1 hl
  ·obtain rfl:k=j+1:=by omega
   have h2:=hk.2
   rw [El hl,zA,decide_eq_true_eq] at h2
   exact h2.2
theorem Xp {xs:List Lt} (h:GF xs xs.length=true):Dy xs:=by
 unfold Dy
 rw [yH]
 intro i j hi hj hij
 obtain ⟨d,rfl⟩:∃ d,j=i+1+d:=⟨j-(i+1),by omega⟩
 clear hij
 induction d with
 | zero=>exact OS h (zN _) i hj hj
 | succ d ih =>
  have h1:=ih (by omega)
  have h2:=OS h (zN _) (i+1+d) hj hj
  exact (Lt.cmp_ord _ _ _).trans h1 h2
theorem Xq {xs:List Lt} (h2:∀ x∈xs,x.atom.atom=true) (h3:Dy xs):GF xs xs.length=true:=by
 have key:∀ k,k≤xs.length→GF xs k=true:=by
  intro k
  induction k with
  | zero=>intro _; rfl
  | succ k ih =>
   intro hk
   rw [GF,ih (by omega),yB]
   cases k with
   | zero=>rw [GN (by omega)]; exact h2 _ (zD _)
   | succ k =>
    rw [El (by omega),h2 _ (zD _),yB,decide_eq_true_eq]
    exact yH.1 h3 k (k+1) (by omega) (by omega) (by omega)
 exact key _ (zN _)
theorem Cl.Qb7 {c:Cl} (h:c.ok=true):Dy c.lits:=by
 unfold Cl.ok at h
 rw [zA] at h
 exact Xp h.2
theorem Cl.Qfy {l:List Lt} (h1:l.length≤8) (h2:∀ x∈l,x.atom.atom=true) (h3:Dy l):(Cl.mk l).ok=true:=by
 unfold Cl.ok
 rw [zA,decide_eq_true_eq]
 exact ⟨h1,Xq h2 h3⟩
theorem Qfd {l:List Lt} (h1:l.length≤8) (h2:∀ x∈l,x.atom.atom=true):(mkC l).ok=true :=
 Cl.Qfy (Nat.le_trans (Qau l) h1) (fun x hx=>h2 x ((Qk l x).1 hx)) (MJ l)
theorem QcY {l:List Lt} (h:Dy l):mkC l=⟨l⟩:=by
 have:(mkC l).lits=l:=J5 (MJ l) h fun z=>Qk l z
 exact congrArg Cl.mk this
theorem Lt.RU {e:SEnv} (he:Vx e) {l:List Lt} (h:∀ x∈l,x.atom.atom=true):∀ x∈l.map (Lt.rn e),x.atom.atom=true:=fun z hz=>by
 obtain ⟨x,hx,rfl⟩:=yO.1 hz
 exact Tm.Qev he _ (h x hx)
theorem Cl.QcZ {e:SEnv} (he:Vx e) {c:Cl} (h:c.ok=true):(c.rn e).ok=true :=
 Qfd (by rw [zE]; exact Cl.ok_len h) (Lt.RU he (Cl.Dl h))
theorem Cl.xE {c:Cl} (h:c.ok=true):Vx (Hu SY c.ns):=Qb6 QcU c.ns_nodup (Cl.RS h) fun s=>Cl.QcW
def RV (l:List ByteArray):Prop:=∀ (i:Nat) (h:i<l.length),l[i]=pre SY (i:Nat)
noncomputable def Cl.norm (c:Cl):Bool:=dec (RV c.ns)
noncomputable def nz:Nat→Cl→Cl
 | 0,c=>c
 | n+1,c=>bif c.norm then c else nz n (c.rn (Hu SY c.ns))
theorem Qa9:∀ (n:Nat) {c:Cl},c.ok=true→(nz n c).ok=true
 | 0,c,h=>h
 | n+1,c,h=>by
  rw [nz]
  cases c.norm with
  | true=>exact h
  | false=>exact Qa9 n (Cl.QcZ (Cl.xE h) h)
def Fn:SC:=(.seq (.reg [⟨some 2,none,.boxv 71 2 (.t 0)⟩,⟨(some 4),none,(.alloc 71 [(.str ⟨#[]⟩),.nil])⟩]) (.seq (.reg [⟨some 10,none,.faddr 0 (.t 2)⟩,⟨some 11,none,.load false 1 (.t 10)⟩,⟨(some 12),none,(.build [(.str ⟨#[]⟩),.nil] [(0,(1,(.t 11)))])⟩,⟨(some 5),none,(.alloc 71 [(.str ⟨#[]⟩),.nil])⟩,⟨none,none,(.store 2 (.t 5) (.t 12))⟩]) (.seq (.seq (.reg [⟨some 14,none,.mv (.t 1)⟩,⟨some 15,none,.faddr 0 (.t 2)⟩,⟨some 16,none,.load false 1 (.t 15)⟩,⟨(some 17),none,(.mget true true false [(.str ⟨#[]⟩)] (.t 14) (.t 16))⟩,⟨some 13,none,.mv (.t 17)⟩,⟨some 18,none,.ext (.t 13) 0⟩,⟨some 19,none,.ext (.t 13) 1⟩,⟨some 6,none,.mv (.t 18)⟩,⟨some 7,none,.mv (.t 19)⟩]) (.seq (.reg [⟨some 20,none,.mv (.t 7)⟩,⟨some 21,none,.mv (.t 20)⟩,⟨(some 22),(some (21,true)),(.faddr 1 (.t 2))⟩,⟨(some 23),(some (21,true)),(.load false 1 (.t 22))⟩,⟨(some 24),(some (21,true)),(.len false (.t 23))⟩,⟨(some 25),(some (21,true)),(.bin .eql false (.t 24) (.c (.int .i64 0)))⟩,⟨some 26,none,.pick (.t 21) (.t 25) (.c (.bool false))⟩]) (.cond (.t 26) (.reg [⟨some 27,none,.mv (.t 6)⟩,⟨some 28,none,.faddr 0 (.t 5)⟩,⟨none,none,(.store 1 (.t 28) (.t 27))⟩]) .skip))) (.seq (.seq (.reg [⟨some 29,none,.faddr 1 (.t 2)⟩,⟨some 30,none,.load false 1 (.t 29)⟩,⟨some 31,none,.len false (.t 30)⟩,⟨some 32,none,.mv (.c (.int .i64 0))⟩]) (.block 0 (.loop [0,1,0,0,1,1,0,0,0,0,0,0,0,0,0,0,0,0,0,0,0,0,0,0,0,0,0,0,0,0,1,1,1,0,0,0,0,0,0,0,0,0,0,0,0,0] (.seq (.reg [⟨some 33,none,.bin .lss false (.t 32) (.t 31)⟩]) (.seq (.cond (.t 33) .skip (.exit 0)) (.seq (.block 1 (.seq (.reg [⟨some 34,none,.iaddr 2 (.t 30) (.t 32)⟩,⟨some 35,none,.load true 2 (.t 34)⟩,⟨(some 9),none,(.alloc 71 [(.str ⟨#[]⟩),.nil])⟩,⟨none,none,(.store 2 (.t 9) (.t 35))⟩]) (.dreg [[],[0],[],[],[2,3],[4,2,3],[1,0,5,4,2,3],[0,1,2,3,4,5,6],[7,0,1,2,3,4,5,6]] [⟨some 36,none,.faddr 1 (.t 5)⟩,⟨some 37,none,.load false 1 (.t 36)⟩,⟨some 38,none,.load true 2 (.t 9)⟩,⟨some 39,none,.mv (.t 1)⟩,⟨some 40,none,.call 143 [(.t 38),(.t 39)]⟩,⟨(some 41),none,(.mkrow 71 2 [(.str ⟨#[]⟩),.nil] 1 [(0,(.t 40))])⟩,⟨(some 42),none,(.append 71 2 40 [(.str ⟨#[]⟩),.nil] (.t 37) (.t 41))⟩,⟨some 43,none,.faddr 1 (.t 5)⟩,⟨none,none,(.store 1 (.t 43) (.t 42))⟩]))) (.reg [⟨some 44,none,.bin .add false (.t 32) (.c (.int .i64 1))⟩,⟨some 32,none,.mv (.t 44)⟩]))))))) (.seq (.reg [⟨some 45,none,.load true 2 (.t 5)⟩,⟨none,none,(.store 2 (.t 4) (.t 45))⟩]) .ret)))))
theorem Hv:codeOf Tryz.prog 143=some ⟨46,Fn,[(.cell 4 true 2)]⟩:=by kernel_rfl
theorem B4:modes 143=⟨[],.own [none,some (71,2)],none,false⟩:=by unfold modes; rfl
abbrev RnC (e:SEnv) (x:Tm):Prop:=E 143 [x.sv,.mp true (Gf e)] []=some ((x.rn e).osv,(x.rn e).obs)
theorem Zv (e:SEnv) (x:Tm) (hn:x.args.length≤1099511627776) (ih:∀ y∈x.args,RnC e y):RnC e x:=by
 unfold RnC
 obtain ⟨nm,hnm⟩:∃ nm,nm=bif x.args.isEmpty then (e x.name).getD x.name else x.name:=⟨_,rfl⟩
 have e0:x.rn e=.mk nm (x.args.map (Tm.rn e)):=by rw [Tm.RR,hnm]
 have e1:(Tm.mk nm (x.args.map (Tm.rn e))).osv=.agg [.str nm,.ref 0]:=rfl
 have e2:(Tm.mk nm (x.args.map (Tm.rn e))).obs=[.row 71 2 ((x.args.map (Tm.rn e)).map Tm.o)]:=rfl
 rw [e0,e1,e2]
 have h10:((1:Int)=0)=False:=by simp
 cases he:e x.name with
 | none =>
  have hme:Gf e (.str x.name)=none:=by rw [LN,he]
  have hnn:nm=x.name:=by
   rw [hnm,he]
   cases x.args.isEmpty <;> rfl
  rw [hnn]
  clear hnm e0 e1 e2 hnn nm
  obtain ⟨nm,hnm⟩:∃ nm,nm=x.name:=⟨_,rfl⟩
  rw [←hnm] at hme ⊢
  refine Af Hv B4 (of_decide_eq_true rfl) ?_
  simp (disch:=omega) only [Fn,go_sem,Aa,hme,← hnm]
  refine go_loop (α:=Int) (fun a=>⟨slots 46 0 [(1,.mp true (Gf e)),(4,.ptr 0 0),(5,.ptr 1 0),(30,.arr (x.args.map Tm.d)),(31,.int .i64 x.args.length),(32,.int .i64 a)],(if a=0 then [.box 71 [.str ⟨#[]⟩,.nil],.box 71 [.str nm,.nil]] else [.box 71 [.str ⟨#[]⟩,.nil],.box 71 [.str nm,.ref 2],.row 71 2 (((x.args.map (Tm.rn e)).take a.toNat).map Tm.o)])⟩) (fun a=>∃ k:Nat,a=k∧k≤(x.args).length) (fun a=>(x.args).length-(a).toNat) 0 ⟨0,rfl,zH _⟩ (by simp (disch:=omega) only [go_sem,Aa,eq_self,if_true]) ?_
  rintro i ⟨k,hi,hk⟩
  have hni:i.toNat=k:=by omega
  have hni1:(i+1).toNat=k+1:=by omega
  rcases zB k (x.args).length with hlt | hge
  ·have hg:=get_at Tm.d hlt
   rw [Tm.d_eq] at hg
   have hc:=ih x.args[k] (zD hlt)
   have hlm:k<(x.args.map (Tm.rn e)).length:=by rw [zE]; exact hlt
   have hs:=D9 Tm.o hlm
   rw [Tm.o_eq,zZ] at hs
   rcases zJ k with h0 | h0
   ·subst h0
    obtain rfl:i=0:=hi
    rw [z7,zM,zU] at hs
    simp (disch:=omega) only [go_sem,Aa,hni,hg,hc,Tm.osv,Tm.obs,B4,eq_self,if_true]
    refine ⟨1,⟨1,rfl,hlt⟩,by omega,?_⟩
    simp (disch:=omega) only [go_sem,Aa,h10,if_false,hs]
   ·have hi0:(i=0)=False:=by simp; omega
    have hi1:(i+1=0)=False:=by simp; omega
    have htl:((x.args.map (Tm.rn e)).take k).length=k:=by rw [zP,zE]; omega
    simp (disch:=omega) only [go_sem,Aa,hni,hg,hc,Tm.osv,Tm.obs,B4,hi0,if_false,htl]
    refine ⟨i+1,⟨k+1,by omega,hlt⟩,by omega,?_⟩
    simp (disch:=omega) only [go_sem,Aa,hni1,hi1,if_false,hs]
  ·obtain rfl:k=x.args.length:=by omega
   have ht:(x.args.map (Tm.rn e)).take x.args.length=x.args.map (Tm.rn e):=by rw [←zE (f:=Tm.rn e)]; exact zR
   rcases zJ x.args.length with h0 | h0
   ·have hx:x.args=[]:=zI h0
    obtain rfl:i=0:=by omega
    first | omega | simp (disch:=omega) only [go_sem,Aa,hni,hx,eq_self,if_true,zM,zT]
   ·have hi0:(i=0)=False:=by simp; omega
    first | omega | simp (disch:=omega) only [go_sem,Aa,hni,hi0,if_false,ht]
 | some v =>
  have hme:Gf e (.str x.name)=some (false,[.str v]):=by rw [LN,he]
  rcases zJ x.args.length with hz | hz
  ·have hx:x.args=[]:=zI hz
   have hz0:((x.args.length:Int)=0)=True:=by rw [hx]; simp
   have hnn:nm=v:=by rw [hnm,he,hx]; rfl
   rw [hnn]
   clear hnm e0 e1 e2 hnn nm
   obtain ⟨nm,hnm⟩:∃ nm,nm=v:=⟨_,rfl⟩
   rw [←hnm] at hme ⊢
   refine Af Hv B4 (of_decide_eq_true rfl) ?_
   simp (disch:=omega) only [Fn,go_sem,Aa,hme,hz0,QcD]
   refine go_loop (α:=Int) (fun a=>⟨slots 46 0 [(1,.mp true (Gf e)),(4,.ptr 0 0),(5,.ptr 1 0),(30,.arr (x.args.map Tm.d)),(31,.int .i64 x.args.length),(32,.int .i64 a)],(if a=0 then [.box 71 [.str ⟨#[]⟩,.nil],.box 71 [.str nm,.nil]] else [.box 71 [.str ⟨#[]⟩,.nil],.box 71 [.str nm,.ref 2],.row 71 2 (((x.args.map (Tm.rn e)).take a.toNat).map Tm.o)])⟩) (fun a=>∃ k:Nat,a=k∧k≤(x.args).length) (fun a=>(x.args).length-(a).toNat) 0 ⟨0,rfl,zH _⟩ (by simp (disch:=omega) only [go_sem,Aa,eq_self,if_true]) ?_
   rintro i ⟨k,hi,hk⟩
   have hni:i.toNat=k:=by omega
   have hni1:(i+1).toNat=k+1:=by omega
   rcases zB k (x.args).length with hlt | hge
   ·have hg:=get_at Tm.d hlt
    rw [Tm.d_eq] at hg
    have hc:=ih x.args[k] (zD hlt)
    have hlm:k<(x.args.map (Tm.rn e)).length:=by rw [zE]; exact hlt
    have hs:=D9 Tm.o hlm
    rw [Tm.o_eq,zZ] at hs
    rcases zJ k with h0 | h0
    ·subst h0
     obtain rfl:i=0:=hi
     rw [z7,zM,zU] at hs
     simp (disch:=omega) only [go_sem,Aa,hni,hg,hc,Tm.osv,Tm.obs,B4,eq_self,if_true]
     refine ⟨1,⟨1,rfl,hlt⟩,by omega,?_⟩
     simp (disch:=omega) only [go_sem,Aa,h10,if_false,hs]
    ·have hi0:(i=0)=False:=by simp; omega
     have hi1:(i+1=0)=False:=by simp; omega
     have htl:((x.args.map (Tm.rn e)).take k).length=k:=by rw [zP,zE]; omega
     simp (disch:=omega) only [go_sem,Aa,hni,hg,hc,Tm.osv,Tm.obs,B4,hi0,if_false,htl]
     refine ⟨i+1,⟨k+1,by omega,hlt⟩,by omega,?_⟩
     simp (disch:=omega) only [go_sem,Aa,hni1,hi1,if_false,hs]
   ·obtain rfl:k=x.args.length:=by omega
    have ht:(x.args.map (Tm.rn e)).take x.args.length=x.args.map (Tm.rn e):=by rw [←zE (f:=Tm.rn e)]; exact zR
    rcases zJ x.args.length with h0 | h0
    ·have hx:x.args=[]:=zI h0
     obtain rfl:i=0:=by omega
     first | omega | simp (disch:=omega) only [go_sem,Aa,hni,hx,eq_self,if_true,zM,zT]
    ·have hi0:(i=0)=False:=by simp; omega
     first | omega | simp (disch:=omega) only [go_sem,Aa,hni,hi0,if_false,ht]
  ·have hz0:((x.args.length:Int)=0)=False:=eq_false (by omega)
   have hnn:nm=x.name:=by
    rw [hnm]
    cases hx:x.args with
    | nil=>rw [hx] at hz; simp at hz
    | cons a r=>rfl
   rw [hnn]
   clear hnm e0 e1 e2 hnn nm
   obtain ⟨nm,hnm⟩:∃ nm,nm=x.name:=⟨_,rfl⟩
   rw [←hnm] at hme ⊢
   refine Af Hv B4 (of_decide_eq_true rfl) ?_
   simp (disch:=omega) only [Fn,go_sem,Aa,hme,hz0,QcE,← hnm]
   refine go_loop (α:=Int) (fun a=>⟨slots 46 0 [(1,.mp true (Gf e)),(4,.ptr 0 0),(5,.ptr 1 0),(30,.arr (x.args.map Tm.d)),(31,.int .i64 x.args.length),(32,.int .i64 a)],(if a=0 then [.box 71 [.str ⟨#[]⟩,.nil],.box 71 [.str nm,.nil]] else [.box 71 [.str ⟨#[]⟩,.nil],.box 71 [.str nm,.ref 2],.row 71 2 (((x.args.map (Tm.rn e)).take a.toNat).map Tm.o)])⟩) (fun a=>∃ k:Nat,a=k∧k≤(x.args).length) (fun a=>(x.args).length-(a).toNat) 0 ⟨0,rfl,zH _⟩ (by simp (disch:=omega) only [go_sem,Aa,eq_self,if_true]) ?_
   rintro i ⟨k,hi,hk⟩
   have hni:i.toNat=k:=by omega
   have hni1:(i+1).toNat=k+1:=by omega
   rcases zB k (x.args).length with hlt | hge
   ·have hg:=get_at Tm.d hlt
    rw [Tm.d_eq] at hg
    have hc:=ih x.args[k] (zD hlt)
    have hlm:k<(x.args.map (Tm.rn e)).length:=by rw [zE]; exact hlt
    have hs:=D9 Tm.o hlm
    rw [Tm.o_eq,zZ] at hs
    rcases zJ k with h0 | h0
    ·subst h0
     obtain rfl:i=0:=hi
     rw [z7,zM,zU] at hs
     simp (disch:=omega) only [go_sem,Aa,hni,hg,hc,Tm.osv,Tm.obs,B4,eq_self,if_true]
     refine ⟨1,⟨1,rfl,hlt⟩,by omega,?_⟩
     simp (disch:=omega) only [go_sem,Aa,h10,if_false,hs]
    ·have hi0:(i=0)=False:=by simp; omega
     have hi1:(i+1=0)=False:=by simp; omega
     have htl:((x.args.map (Tm.rn e)).take k).length=k:=by rw [zP,zE]; omega
     simp (disch:=omega) only [go_sem,Aa,hni,hg,hc,Tm.osv,Tm.obs,B4,hi0,if_false,htl]
     refine ⟨i+1,⟨k+1,by omega,hlt⟩,by omega,?_⟩
     simp (disch:=omega) only [go_sem,Aa,hni1,hi1,if_false,hs]
   ·obtain rfl:k=x.args.length:=by omega
    have ht:(x.args.map (Tm.rn e)).take x.args.length=x.args.map (Tm.rn e):=by rw [←zE (f:=Tm.rn e)]; exact zR
    rcases zJ x.args.length with h0 | h0
    ·have hx:x.args=[]:=zI h0
     obtain rfl:i=0:=by omega
     first | omega | simp (disch:=omega) only [go_sem,Aa,hni,hx,eq_self,if_true,zM,zT]
    ·have hi0:(i=0)=False:=by simp; omega
     first | omega | simp (disch:=omega) only [go_sem,Aa,hni,hi0,if_false,ht]
theorem Up (e:SEnv) (x:Tm) (hn:x.nodes≤1099511627776):RnC e x :=
 Zv e x (by have:=Tm.length_le x.args; have:=Tm.An x; omega) fun y hy=>Up e y (by have:=Tm.AU hy; have:=Tm.An x; omega)
termination_by SizeOf.sizeOf x
decreasing_by exact Tm.Aw hy
def JI:SC:=(.seq (.reg [⟨(some 2),none,(.mv (.c (.str ⟨#[]⟩)))⟩]) (.seq (.seq (.reg [⟨some 3,none,.mv (.t 0)⟩,⟨some 4,none,.bin .lss false (.t 3) (.c (.int .i64 0))⟩]) (.cond (.t 4) (.seq (.reg [⟨some 5,none,.mv (.t 0)⟩,⟨some 6,none,.un .neg (.t 5)⟩,⟨some 7,none,.call 75 [(.t 6)]⟩,⟨(some 8),none,(.bin .add false (.c (.str ⟨#[45]⟩)) (.t 7))⟩,⟨some 2,none,.mv (.t 8)⟩]) .ret) .skip)) (.seq (.seq (.reg [⟨some 9,none,.mv (.t 0)⟩,⟨some 10,none,.bin .lss false (.t 9) (.c (.int .i64 10))⟩]) (.cond (.t 10) (.seq (.reg [⟨some 11,none,.mv (.t 0)⟩,⟨some 12,none,.mv (.t 0)⟩,⟨some 13,none,.bin .add false (.t 12) (.c (.int .i64 1))⟩,⟨(some 14),none,(.slice true 0 (.c (.str ⟨#[48,49,50,51,52,53,54,55,56,57]⟩)) (some (.t 11)) (some (.t 13)))⟩,⟨some 2,none,.mv (.t 14)⟩]) .ret) .skip)) (.seq (.dreg [[],[0],[1,0],[],[3],[],[5],[6,5],[4,3,7,6,5],[2,1,0,8,4,3,7,6,5],[9,2,1,0,8,4,3,7,6,5]] [⟨some 15,none,.mv (.t 0)⟩,⟨some 16,none,.bin .quo false (.t 15) (.c (.int .i64 10))⟩,⟨some 17,none,.call 75 [(.t 16)]⟩,⟨some 18,none,.mv (.t 0)⟩,⟨some 19,none,.bin .rem false (.t 18) (.c (.int .i64 10))⟩,⟨some 20,none,.mv (.t 0)⟩,⟨some 21,none,.bin .rem false (.t 20) (.c (.int .i64 10))⟩,⟨some 22,none,.bin .add false (.t 21) (.c (.int .i64 1))⟩,⟨(some 23),none,(.slice true 0 (.c (.str ⟨#[48,49,50,51,52,53,54,55,56,57]⟩)) (some (.t 19)) (some (.t 22)))⟩,⟨some 24,none,.bin .add false (.t 17) (.t 23)⟩,⟨some 2,none,.mv (.t 24)⟩]) .ret))))
theorem NG:codeOf Tryz.prog 75=some ⟨25,JI,[(.tmp 2)]⟩:=by kernel_rfl
theorem D1:modes 75=⟨[],.asis,none,false⟩:=by unfold modes; rfl
theorem QeF (d:Nat) (h:d<10):(⟨#[48,49,50,51,52,53,54,55,56,57]⟩:ByteArray).extract d (d+1)=⟨#[UInt8.ofNat (48+d)]⟩:=by
 have key:∀ d:_root_.Fin 10,(⟨#[48,49,50,51,52,53,54,55,56,57]⟩:ByteArray).extract d.val (d.val+1)=⟨#[UInt8.ofNat (48+d.val)]⟩:=by decide +kernel
 exact key ⟨d,h⟩
theorem Qda (n:Int) (h0:0≤n) (h1:n≤1099511627776) (ih:10≤n→E 75 [.int .i64 (n.tdiv 10)] []=some (.str (GD (n.tdiv 10)),[])):E 75 [.int .i64 n] []=some (.str (GD n),[]):=by
 have hsz:(⟨#[48,49,50,51,52,53,54,55,56,57]⟩:ByteArray).size=10:=rfl
 rcases Int.lt_or_le n 10 with h | h
 ·have e1:=QeF n.toNat (by omega)
  have e2:(n+1).toNat=n.toNat+1:=by omega
  rw [Zu h0 h]
  refine Af NG D1 (of_decide_eq_true rfl) ?_
  simp (disch:=omega) only [JI,go_sem,Aa,e1,e2,hsz]
 ·have hc:=ih h
  have hq:n.tdiv 10=n / 10:=zW h0
  have hr:n.tmod 10=n % 10:=yT h0
  have hq2:0≤n.tdiv 10∧n.tdiv 10≤n:=by omega
  have hr2:0≤n.tmod 10∧n.tmod 10<10:=by omega
  have hs:=GM hq2.1 (by omega:n.tdiv 10≤1099511627776)
  have e1:=QeF (n.tmod 10).toNat (by omega)
  have e2:(n.tmod 10+1).toNat=(n.tmod 10).toNat+1:=by omega
  rw [QcS h]
  clear hq hr
  have hs1:(⟨#[UInt8.ofNat (48+(n.tmod 10).toNat)]⟩:ByteArray).size=1:=rfl
  refine Af NG D1 (of_decide_eq_true rfl) ?_
  simp (disch:=omega) only [JI,go_sem,Aa,hc,e1,e2,hsz,hs1,D1]
theorem Vy (n:Int) (h0:0≤n) (h1:n≤1099511627776):E 75 [.int .i64 n] []=some (.str (GD n),[]) :=
 Qda n h0 h1 fun h=>Vy (n.tdiv 10) (by rw [zW h0]; omega) (by rw [zW h0]; omega)
termination_by n.toNat
decreasing_by rw [zW h0]; omega
def P7:SC:=(.seq (.reg [⟨some 4,none,.mv (.c (.bool false))⟩]) (.seq (.seq (.reg [⟨some 5,none,.mv (.c (.int .i64 0))⟩]) (.block 0 (.loop [1,1,0,0,0,1,0,0,0,0,0,0,0,0,0,0,0,0] (.seq (.seq (.reg [⟨some 6,none,.mv (.t 5)⟩,⟨some 7,none,.mv (.t 0)⟩,⟨some 8,none,.len false (.t 7)⟩,⟨some 9,none,.bin .lss false (.t 6) (.t 8)⟩]) (.cond (.t 9) .skip (.exit 0))) (.seq (.block 1 (.seq (.reg [⟨some 12,none,.mv (.t 0)⟩,⟨some 13,none,.mv (.t 5)⟩,⟨some 14,none,.iaddr 1 (.t 12) (.t 13)⟩,⟨some 15,none,.load false 1 (.t 14)⟩,⟨some 16,none,.mv (.t 1)⟩,⟨some 17,none,.bin .eql false (.t 15) (.t 16)⟩]) (.cond (.t 17) (.seq (.reg [⟨some 4,none,.mv (.c (.bool true))⟩]) .ret) .skip))) (.reg [⟨some 10,none,.mv (.t 5)⟩,⟨some 11,none,.bin .add false (.t 10) (.c (.int .i64 1))⟩,⟨some 5,none,.mv (.t 11)⟩])))))) (.seq (.reg [⟨some 4,none,.mv (.c (.bool false))⟩]) .ret)))
theorem Xr:codeOf Tryz.prog 113=some ⟨18,P7,[(.tmp 4)]⟩:=by kernel_rfl
theorem Gg:modes 113=⟨[],.asis,none,false⟩:=by unfold modes; rfl
theorem Qdb (xs:List ByteArray) (n:ByteArray) (hl:xs.length≤1099511627776):E 113 [.arr (xs.map fun s=>[D.str s]),.str n] []=some (.bool (dec (n∈xs)),[]):=by
 refine Af Xr Gg (of_decide_eq_true rfl) ?_
 simp (disch:=omega) only [P7,go_sem,Aa]
 refine go_loop (α:=Int) (fun a=>⟨slots 18 0 [(0,.arr (xs.map fun s=>[D.str s])),(1,.str n),(5,.int .i64 a)],[]⟩) (fun a=>∃ k:Nat,a=k∧k≤(xs).length∧dec (n∈xs.drop k)=dec (n∈xs)) (fun a=>(xs).length-(a).toNat) 0 ⟨0,rfl,zH _,by rw [zG]⟩ (by simp (disch:=omega) only [go_sem,Aa]) ?_
 rintro i ⟨k,hi,hk,hR⟩
 have hni:i.toNat=k:=by omega
 have hni1:(i+1).toNat=k+1:=by omega
 rcases zB k (xs).length with hlt | hge
 ·have hg:=get_at (fun s=>[D.str s]) hlt
  rw [zC hlt] at hR
  by_cases hp:xs[k]=n
  ·have hq:=eq_true hp
   have ht:dec (n∈xs)=true:=As (hp▸zD hlt)
   simp (disch:=omega) only [go_sem,Aa,hni,hg,hq]
   exact ht.symm
  ·have hq:=eq_false hp
   have hR:dec (n∈xs.drop (k+1))=dec (n∈xs):=by
    rw [←hR]
    exact EY (by simp only [yC]; exact ⟨.inr,fun h=>h.elim (fun e=>absurd e.symm hp) id⟩)
   simp (disch:=omega) only [go_sem,Aa,hni,hg,hq]
   exact ⟨i+1,⟨k+1,by omega,hlt,hR⟩,by omega,by first | trivial | rfl⟩
 ·rw [zF hge,Az (by simp)] at hR
  simp (disch:=omega) only [go_sem,Aa,hni]
  exact hR
def Fo:SC:=(.seq (.reg [⟨some 2,none,.boxv 71 2 (.t 0)⟩,⟨some 4,none,.mv (.c .nil)⟩]) (.seq (.seq (.reg [⟨some 6,none,.faddr 0 (.t 2)⟩,⟨some 7,none,.load false 1 (.t 6)⟩,⟨some 8,none,.call 77 [(.t 7)]⟩]) (.cond (.t 8) (.seq (.seq (.reg [⟨some 9,none,.mv (.t 1)⟩,⟨some 10,none,.faddr 0 (.t 2)⟩,⟨some 11,none,.load false 1 (.t 10)⟩,⟨some 12,none,.call 113 [(.t 9),(.t 11)]⟩]) (.cond (.t 12) (.seq (.reg [⟨some 13,none,.mv (.t 1)⟩,⟨some 4,none,.mv (.t 13)⟩]) .ret) .skip)) (.seq (.reg [⟨some 14,none,.mv (.t 1)⟩,⟨some 15,none,.faddr 0 (.t 2)⟩,⟨some 16,none,.load false 1 (.t 15)⟩,⟨(some 17),none,(.mkrow 9 1 [(.str ⟨#[]⟩)] 1 [(0,(.t 16))])⟩,⟨(some 18),none,(.append 9 1 16 [(.str ⟨#[]⟩)] (.t 14) (.t 17))⟩,⟨some 4,none,.mv (.t 18)⟩]) .ret)) .skip)) (.seq (.seq (.reg [⟨some 5,none,.mv (.c (.int .i64 0))⟩]) (.block 0 (.loop [0,1,1,0,0,1,0,0,0,0,0,0,0,0,0,0,0,0,0,0,0,0,0,0,0,0,0,0,0,0,0,0,0,0] (.seq (.seq (.reg [⟨some 19,none,.mv (.t 5)⟩,⟨some 20,none,.faddr 1 (.t 2)⟩,⟨some 21,none,.load false 1 (.t 20)⟩,⟨some 22,none,.len false (.t 21)⟩,⟨some 23,none,.bin .lss false (.t 19) (.t 22)⟩]) (.cond (.t 23) .skip (.exit 0))) (.seq (.block 1 (.reg [⟨some 26,none,.faddr 1 (.t 2)⟩,⟨some 27,none,.load false 1 (.t 26)⟩,⟨some 28,none,.mv (.t 5)⟩,⟨some 29,none,.iaddr 2 (.t 27) (.t 28)⟩,⟨some 30,none,.load true 2 (.t 29)⟩,⟨some 31,none,.mv (.t 1)⟩,⟨some 32,none,.call 108 [(.t 30),(.t 31)]⟩,⟨some 1,none,.mv (.t 32)⟩])) (.reg [⟨some 24,none,.mv (.t 5)⟩,⟨some 25,none,.bin .add false (.t 24) (.c (.int .i64 1))⟩,⟨some 5,none,.mv (.t 25)⟩])))))) (.seq (.reg [⟨some 33,none,.mv (.t 1)⟩,⟨some 4,none,.mv (.t 33)⟩]) .ret))))
theorem Hw:codeOf Tryz.prog 108=some ⟨34,Fo,[(.tmp 4)]⟩:=by kernel_rfl
theorem Ef:modes 108=⟨[false,true],.asis,none,false⟩:=by unfold modes; rfl
def KW:SC:=(.seq (.reg [⟨some 1,none,.boxv 28 1 (.t 0)⟩,⟨some 2,none,.mv (.c .nil)⟩]) (.seq (.reg [⟨(some 5),none,(.mkrow 9 1 [(.str ⟨#[]⟩)] 0 [])⟩,⟨some 3,none,.mv (.t 5)⟩]) (.seq (.seq (.reg [⟨some 4,none,.mv (.c (.int .i64 0))⟩]) (.block 0 (.loop [0,1,0,1,1,0,0,0,0,0,0,0,0,0,0,0,0,0,0,0,0,0] (.seq (.seq (.reg [⟨some 6,none,.mv (.t 4)⟩,⟨some 7,none,.faddr 0 (.t 1)⟩,⟨some 8,none,.load false 1 (.t 7)⟩,⟨some 9,none,.len false (.t 8)⟩,⟨some 10,none,.bin .lss false (.t 6) (.t 9)⟩]) (.cond (.t 10) .skip (.exit 0))) (.seq (.block 1 (.reg [⟨some 13,none,.faddr 0 (.t 1)⟩,⟨some 14,none,.load false 1 (.t 13)⟩,⟨some 15,none,.mv (.t 4)⟩,⟨some 16,none,.iaddr 3 (.t 14) (.t 15)⟩,⟨some 17,none,.faddr 1 (.t 16)⟩,⟨some 18,none,.load true 2 (.t 17)⟩,⟨some 19,none,.mv (.t 3)⟩,⟨some 20,none,.call 108 [(.t 18),(.t 19)]⟩,⟨some 3,none,.mv (.t 20)⟩])) (.reg [⟨some 11,none,.mv (.t 4)⟩,⟨some 12,none,.bin .add false (.t 11) (.c (.int .i64 1))⟩,⟨some 4,none,.mv (.t 12)⟩])))))) (.seq (.reg [⟨some 21,none,.mv (.t 3)⟩,⟨some 2,none,.mv (.t 21)⟩]) .ret))))
theorem RW:codeOf Tryz.prog 74=some ⟨22,KW,[(.tmp 2)]⟩:=by kernel_rfl
theorem Eg:modes 74=⟨[],.asis,none,false⟩:=by unfold modes; rfl
def HZ:SC:=(.seq (.reg [⟨some 1,none,.boxv 28 1 (.t 0)⟩,⟨some 2,none,.mv (.c (.bool false))⟩]) (.seq (.reg [⟨some 5,none,.load true 1 (.t 1)⟩,⟨some 6,none,.call 74 [(.t 5)]⟩,⟨some 3,none,.mv (.t 6)⟩]) (.seq (.seq (.reg [⟨some 4,none,.mv (.c (.int .i64 0))⟩]) (.block 0 (.loop [0,0,0,1,1,0,0,0,0,0,0,0,0,0,0,0,0,0,0,0,0] (.seq (.seq (.reg [⟨some 7,none,.mv (.t 4)⟩,⟨some 8,none,.mv (.t 3)⟩,⟨some 9,none,.len false (.t 8)⟩,⟨some 10,none,.bin .lss false (.t 7) (.t 9)⟩]) (.cond (.t 10) .skip (.exit 0))) (.seq (.block 1 (.seq (.dreg [[],[],[0,1],[2,0,1],[],[4],[5,4],[3,2,0,1,6,5,4]] [⟨some 13,none,.mv (.t 3)⟩,⟨some 14,none,.mv (.t 4)⟩,⟨some 15,none,.iaddr 1 (.t 13) (.t 14)⟩,⟨some 16,none,.load false 1 (.t 15)⟩,⟨some 17,none,.mv (.t 4)⟩,⟨some 18,none,.call 75 [(.t 17)]⟩,⟨(some 19),none,(.bin .add false (.c (.str ⟨#[88]⟩)) (.t 18))⟩,⟨some 20,none,.bin .neq false (.t 16) (.t 19)⟩]) (.cond (.t 20) (.seq (.reg [⟨some 2,none,.mv (.c (.bool false))⟩]) .ret) .skip))) (.reg [⟨some 11,none,.mv (.t 4)⟩,⟨some 12,none,.bin .add false (.t 11) (.c (.int .i64 1))⟩,⟨some 4,none,.mv (.t 12)⟩])))))) (.seq (.reg [⟨some 2,none,.mv (.c (.bool true))⟩]) .ret))))
theorem NH:codeOf Tryz.prog 48=some ⟨21,HZ,[(.tmp 2)]⟩:=by kernel_rfl
theorem BO:modes 48=⟨[],.asis,none,false⟩:=by unfold modes; rfl
def Gy:SC:=(.seq (.reg [⟨some 1,none,.boxv 28 1 (.t 0)⟩,⟨some 2,none,.mv (.c (.bool false))⟩]) (.seq (.reg [⟨some 3,none,.load true 1 (.t 1)⟩,⟨some 4,none,.call 47 [(.t 3)]⟩,⟨some 5,none,.mv (.t 4)⟩,⟨(some 6),(some (5,true)),(.load true 1 (.t 1))⟩,⟨(some 7),(some (5,true)),(.call 48 [(.t 6)])⟩,⟨some 8,none,.pick (.t 5) (.t 7) (.c (.bool false))⟩,⟨some 2,none,.mv (.t 8)⟩]) .ret))
theorem JY:codeOf Tryz.prog 29=some ⟨9,Gy,[(.tmp 2)]⟩:=by kernel_rfl
theorem EB:modes 29=⟨[],.asis,none,false⟩:=by unfold modes; rfl
abbrev Qfe (x:Tm):Prop:=∀ l:List ByteArray,l.length+x.nodes≤1048576→E 108 [x.sv,.ref 0] [.row 9 1 (l.map fun s=>[OT.str s])]=some ((bif dec (l.length<(C0 l x.vs).length) then .ref 1 else .ref 0),(bif dec (l.length<(C0 l x.vs).length) then [.gone,.row 9 1 ((C0 l x.vs).map fun s=>[OT.str s])] else [.row 9 1 ((C0 l x.vs).map fun s=>[OT.str s])]))
theorem Zw (x:Tm) (ih:∀ y∈x.args,Qfe y):Qfe x:=by
 intro l hn
 have hl:=Tm.length_le x.args
 have hne:=Tm.An x
 have hvs:=Tm.G5 x
 have hv:=Am x.name
 cases hvv:Aq x.name with
 | true =>
  rw [hvv] at hvs hv
  have h1:=Qdb l x.name (by omega)
  rw [hvs]
  cases hm:dec (x.name∈l) with
  | true =>
   have e:C0 l [x.name]=l:=by simp only [C0,zV,yP,LR,hm,cond_true]
   have hg:dec (l.length<l.length)=false:=Az (by omega)
   rw [hm] at h1
   simp only [cond_true,e,hg]
   refine Af Hw Ef (of_decide_eq_true rfl) ?_
   simp (disch:=omega) only [Fo,go_sem,Aa,hv,h1,Ah,Gg]
  | false =>
   have e:C0 l [x.name]=l++[x.name]:=by simp only [C0,zV,yP,LR,hm,cond_false]
   have hg:l.length<(l++[x.name]).length:=by simp
   rw [hm] at h1
   simp only [cond_true,e,As hg]
   refine Af Hw Ef (of_decide_eq_true rfl) ?_
   simp (disch:=omega) only [Fo,go_sem,Aa,hv,h1,Ah,Gg]
   first | done | simp only [yE,zQ,zM]
 | false =>
  rw [hvv] at hvs hv
  simp only [cond_false] at hvs
  rw [hvs]
  have hgl:dec (l.length<l.length)=false:=Az (by omega)
  refine Af Hw Ef (of_decide_eq_true rfl) ?_
  simp (disch:=omega) only [Fo,go_sem,Aa,hv,Ah]
  refine go_loop (α:=Int × (List ByteArray)) (fun a=>⟨slots 34 0 [(1,(bif dec (l.length<(a.2).length) then .ref 1 else .ref 0)),(2,(bif dec (l.length<(a.2).length) then .ptr 2 0 else .ptr 1 0)),(5,.int .i64 (a.1))],(bif dec (l.length<(a.2).length) then [.gone,.row 9 1 ((a.2).map fun s=>[OT.str s]),.box 71 [.str x.name,.arr (x.args.map Tm.d)]] else [.row 9 1 ((a.2).map fun s=>[OT.str s]),.box 71 [.str x.name,.arr (x.args.map Tm.d)]])⟩) (fun a=>∃ k:Nat,a.1=k∧k≤(x.args).length∧C0 (a.2) (Tm.vsL (x.args.drop k))=C0 l (Tm.vsL x.args)∧(a.2).length+Tm.Bb (x.args.drop k)≤1048576∧l.length≤(a.2).length) (fun a=>(x.args).length-(a.1).toNat) (0,l) ⟨0,rfl,zH _,by rw [zG],by rw [zG]; dsimp only; omega,zN _⟩ (by simp (disch:=omega) only [go_sem,Aa,hgl]) ?_
  rintro ⟨i,acc⟩ ⟨k,hi,hk,hR⟩
  dsimp only at hi hR
  have hni:i.toNat=k:=by omega
  have hni1:(i+1).toNat=k+1:=by omega
  rcases zB k (x.args).length with hlt | hge
  ·have hg:=get_at Tm.d hlt
   rw [Tm.d_eq] at hg
   obtain ⟨hR1,hR2,hR3⟩:=hR
   rw [zC hlt,Tm.vsL,NF] at hR1
   rw [zC hlt,Tm.Bb] at hR2
   have hc:=ih x.args[k] (zD hlt) acc (by omega)
   have hlen:=Je x.args[k].vs acc
   have hgr:=OO x.args[k].vs acc
   have hvl:=Tm.vs_len x.args[k]
   have has:x.args[k].sv=.agg [.str x.args[k].name,.arr (x.args[k].args.map Tm.d)]:=rfl
   rw [has] at hc
   obtain ⟨acc2,ha2⟩:∃ a,a=C0 acc x.args[k].vs:=⟨_,rfl⟩
   rw [←ha2] at hc hlen hgr hR1
   rcases zB l.length acc.length with q1 | q1 <;> rcases zB acc.length acc2.length with q2 | q2
   all_goals
    first
     |rw [As q2] at hc
     |rw [Az (y2.2 q2)] at hc
    simp only [cond_true,cond_false] at hc
    simp (disch:=omega) only [go_sem,Aa,hni,hg,hc,Ef]
    refine ⟨(i+1,acc2),⟨k+1,by dsimp only; omega,hlt,hR1,by dsimp only; omega,by dsimp only; omega⟩,by dsimp only; omega,?_⟩
    first | done | simp (disch:=omega) only [go_sem,Aa]
  ·rw [zF hge,Tm.vsL] at hR
   obtain ⟨hR1,hR2,hR3⟩:=hR
   have hR1:acc=C0 l (Tm.vsL x.args):=hR1
   rw [←hR1]
   rcases zB l.length acc.length with q1 | q1
   ·simp (disch:=omega) only [go_sem,Aa,hni]
   ·simp (disch:=omega) only [go_sem,Aa,hni]
theorem Uq (x:Tm):Qfe x:=Zw x fun y hy=>Uq y
termination_by SizeOf.sizeOf x
decreasing_by exact Tm.Aw hy
theorem Ur (c:Cl) (hc:c.ok=true):E 74 [c.sv] []=some (.ref 0,[.row 9 1 (c.ns.map fun s=>[OT.str s])]):=by
 have hl:=Cl.ok_len hc
 have hsv:c.sv=.agg [.arr (c.lits.map Lt.d)]:=rfl
 have hns:c.ns=C0 [] (Lt.vsL c.lits):=rfl
 rw [hsv,hns]
 refine Af RW Eg (of_decide_eq_true rfl) ?_
 simp (disch:=omega) only [KW,go_sem,Aa]
 refine go_loop (α:=Int × (List ByteArray)) (fun a=>⟨slots 22 0 [(1,.ptr 0 0),(3,.ref 1),(4,.int .i64 (a.1))],[.box 28 [.arr (c.lits.map Lt.d)],.row 9 1 ((a.2).map fun s=>[OT.str s])]⟩) (fun a=>∃ k:Nat,a.1=k∧k≤(c.lits).length∧C0 (a.2) (Lt.vsL (c.lits.drop k))=C0 [] (Lt.vsL c.lits)∧(a.2).length≤30*k) (fun a=>(c.lits).length-(a.1).toNat) (0,[]) ⟨0,rfl,zH _,by rw [zG],zN _⟩ (by simp (disch:=omega) only [go_sem,Aa]) ?_
 rintro ⟨i,acc⟩ ⟨k,hi,hk,hR⟩
 dsimp only at hi hR
 have hni:i.toNat=k:=by omega
 have hni1:(i+1).toNat=k+1:=by omega
 rcases zB k (c.lits).length with hlt | hge
 ·have hg:=get_at Lt.d hlt
  rw [Lt.d_eq] at hg
  obtain ⟨hR1,hR2⟩:=hR
  rw [zC hlt,Lt.vsL,NF] at hR1
  have hnn:=Tm.CB (Cl.JH hc hlt)
  have hcl:=Uq c.lits[k].atom acc (by omega)
  have has:c.lits[k].atom.sv=.agg [.str c.lits[k].atom.name,.arr (c.lits[k].atom.args.map Tm.d)]:=rfl
  rw [has] at hcl
  have hlen:=Je c.lits[k].atom.vs acc
  have hvl:=Tm.vs_len c.lits[k].atom
  obtain ⟨acc2,ha2⟩:∃ a,a=C0 acc c.lits[k].atom.vs:=⟨_,rfl⟩
  rw [←ha2] at hcl hlen hR1
  rcases zB acc.length acc2.length with q2 | q2
  all_goals
   first
    |rw [As q2] at hcl
    |rw [Az (y2.2 q2)] at hcl
   simp only [cond_true,cond_false] at hcl
   simp (disch:=omega) only [go_sem,Aa,hni,hg,hcl,Ef]
   refine ⟨(i+1,acc2),⟨k+1,by dsimp only; omega,hlt,hR1,by dsimp only; omega⟩,by dsimp only; omega,?_⟩
   first | trivial | rfl | exact ⟨rfl,rfl⟩
 ·rw [zF hge,Lt.vsL] at hR
  obtain ⟨hR1,hR2⟩:=hR
  have hR1:acc=_:=hR1
  rw [←hR1]
  simp (disch:=omega) only [go_sem,Aa,hni]
theorem JJ (c:Cl) (hc:c.ok=true):E 48 [c.sv] []=some (.bool c.norm,[]):=by
 have h1:=Ur c hc
 have hn:=Cl.RS hc
 have hcs:c.sv=.agg [.arr (c.lits.map Lt.d)]:=rfl
 obtain ⟨ns,hns⟩:∃ ns,ns=c.ns:=⟨_,rfl⟩
 have hnm:c.norm=dec (RV ns):=by unfold Cl.norm; rw [hns]
 rw [←hns] at hn h1
 rw [hnm]
 refine Af NH BO (of_decide_eq_true rfl) ?_
 simp (disch:=omega) only [HZ,go_sem,Aa,h1,Eg]
 refine go_loop (α:=Int) (fun a=>⟨slots 21 0 [(3,.ref 0),(4,.int .i64 a)],[.row 9 1 (ns.map fun s=>[OT.str s])]⟩) (fun a=>∃ k:Nat,a=k∧k≤(ns).length∧∀ (j:Nat),j<k→∀ hj:j<ns.length,ns[j]=pre SY (j:Nat)) (fun a=>(ns).length-(a).toNat) 0 ⟨0,rfl,zH _,fun j hj=>absurd hj (Nat.not_lt_zero _)⟩ (by simp (disch:=omega) only [go_sem,Aa]) ?_
 rintro i ⟨k,hi,hk,hR⟩
 have hni:i.toNat=k:=by omega
 have hni1:(i+1).toNat=k+1:=by omega
 rcases zB k (ns).length with hlt | hge
 ·have hg:=get_at (fun s=>[OT.str s]) hlt
  have hit:=Vy i (by omega) (by omega)
  have hz:=GM (show 0≤i by omega) (show i≤1099511627776 by omega)
  have hb:dec ((#[88]:Array UInt8).size+(GD i).size≤9223372036854775807)=true:=As (by simp; omega)
  by_cases he:ns[k]=pre SY (k:Nat)
  ·have he':dec (ns[k]=(⟨#[88]⟩:ByteArray)++GD i)=true:=As (by rw [he,hi]; rfl)
   simp (disch:=omega) only [go_sem,Aa,hni,hg,hit,hb,he',D1]
   refine ⟨i+1,⟨k+1,by omega,hlt,fun j hj hjl=>?_⟩,by omega,by first | trivial | rfl⟩
   rcases zB j k with h2 | h2
   ·exact hR j h2 hjl
   ·obtain rfl:j=k:=by omega
    exact he
  ·have he':dec (ns[k]=(⟨#[88]⟩:ByteArray)++GD i)=false:=Az (fun e=>he (by rw [e,hi]; rfl))
   have hno:dec (RV ns)=false:=Az fun h=>he (h k hlt)
   rw [hno]
   simp (disch:=omega) only [go_sem,Aa,hni,hg,hit,hb,he',D1]
 ·have hy:dec (RV ns)=true:=As fun j hj=>hR j (by omega) hj
  rw [hy]
  simp (disch:=omega) only [go_sem,Aa,hni]
theorem Zx (c:Cl) (hc:c.tame):E 29 [c.sv] []=some (.bool (c.ok&&c.norm),[]):=by
 have h1:=R6 c hc
 cases hv:c.ok with
 | false =>
  rw [hv] at h1
  refine Af JY EB (of_decide_eq_true rfl) ?_
  simp (disch:=omega) only [Gy,go_sem,Aa,h1,B0]
 | true =>
  rw [hv] at h1
  have h2:=JJ c hv
  refine Af JY EB (of_decide_eq_true rfl) ?_
  simp (disch:=omega) only [Gy,go_sem,Aa,h1,h2,B0,BO]
def Gz:SC:=(.seq (.reg [⟨some 3,none,.boxv 71 2 (.t 0)⟩,⟨(some 6),none,(.alloc 71 [(.str ⟨#[]⟩),.nil])⟩]) (.seq (.seq (.reg [⟨some 10,none,.faddr 0 (.t 3)⟩,⟨some 11,none,.load false 1 (.t 10)⟩,⟨some 12,none,.call 77 [(.t 11)]⟩]) (.cond (.t 12) (.seq (.seq (.reg [⟨some 7,none,.mv (.c (.int .i64 0))⟩]) (.block 0 (.loop [0,1,1,1,0,0,1,1,0,0,0,0,0,0,0,0,0,0,0,0,0,0,0,0,0,0,0,0,0,0,0,0,0,0,0,0,0,0,0,0,0,0,0,0,0,0,0,0,0,0,0,0,0,0,0,0,0,0] (.seq (.seq (.reg [⟨some 13,none,.mv (.t 7)⟩,⟨some 14,none,.mv (.t 1)⟩,⟨some 15,none,.len false (.t 14)⟩,⟨some 16,none,.bin .lss false (.t 13) (.t 15)⟩]) (.cond (.t 16) .skip (.exit 0))) (.seq (.block 1 (.seq (.dreg [[],[],[0,1],[2,0,1],[],[4],[3,2,0,1,5,4]] [⟨some 19,none,.mv (.t 1)⟩,⟨some 20,none,.mv (.t 7)⟩,⟨some 21,none,.iaddr 1 (.t 19) (.t 20)⟩,⟨some 22,none,.load false 1 (.t 21)⟩,⟨some 23,none,.faddr 0 (.t 3)⟩,⟨some 24,none,.load false 1 (.t 23)⟩,⟨some 25,none,.bin .eql false (.t 22) (.t 24)⟩]) (.cond (.t 25) (.seq (.reg [⟨some 26,none,.mv (.t 2)⟩,⟨some 27,none,.mv (.t 7)⟩,⟨some 28,none,.call 75 [(.t 27)]⟩,⟨some 29,none,.bin .add false (.t 26) (.t 28)⟩,⟨(some 30),none,(.build [(.str ⟨#[]⟩),.nil] [(0,(1,(.t 29)))])⟩,⟨none,none,(.store 2 (.t 6) (.t 30))⟩]) .ret) .skip))) (.reg [⟨some 17,none,.mv (.t 7)⟩,⟨some 18,none,.bin .add false (.t 17) (.c (.int .i64 1))⟩,⟨some 7,none,.mv (.t 18)⟩])))))) (.seq (.reg [⟨some 31,none,.faddr 0 (.t 3)⟩,⟨some 32,none,.load false 1 (.t 31)⟩,⟨(some 33),none,(.build [(.str ⟨#[]⟩),.nil] [(0,(1,(.t 32)))])⟩,⟨none,none,(.store 2 (.t 6) (.t 33))⟩]) .ret)) .skip)) (.seq (.reg [⟨some 34,none,.faddr 0 (.t 3)⟩,⟨some 35,none,.load false 1 (.t 34)⟩,⟨(some 36),none,(.build [(.str ⟨#[]⟩),.nil] [(0,(1,(.t 35)))])⟩,⟨(some 8),none,(.alloc 71 [(.str ⟨#[]⟩),.nil])⟩,⟨none,none,(.store 2 (.t 8) (.t 36))⟩]) (.seq (.seq (.reg [⟨some 9,none,.mv (.c (.int .i64 0))⟩]) (.block 2 (.loop [0,1,1,1,0,0,1,0,1,1,0,0,0,0,0,0,0,0,0,0,0,0,0,0,0,0,0,0,0,0,0,0,0,0,0,0,0,0,0,0,0,0,0,0,0,0,0,0,0,0,0,0,0,0,0,0,0,0] (.seq (.seq (.reg [⟨some 37,none,.mv (.t 9)⟩,⟨some 38,none,.faddr 1 (.t 3)⟩,⟨some 39,none,.load false 1 (.t 38)⟩,⟨some 40,none,.len false (.t 39)⟩,⟨some 41,none,.bin .lss false (.t 37) (.t 40)⟩]) (.cond (.t 41) .skip (.exit 2))) (.seq (.block 3 (.dreg [[],[0],[],[2],[],[3,2,4],[5,3,2,4],[],[],[6,5,3,2,4,7,8],[9,6,5,3,2,4,7,8],[1,0,10,9,6,5,3,2,4,7,8],[0,1,2,3,4,5,6,7,8,9,10,11],[12,0,1,2,3,4,5,6,7,8,9,10,11]] [⟨some 44,none,.faddr 1 (.t 8)⟩,⟨some 45,none,.load false 1 (.t 44)⟩,⟨some 46,none,.faddr 1 (.t 3)⟩,⟨some 47,none,.load false 1 (.t 46)⟩,⟨some 48,none,.mv (.t 9)⟩,⟨some 49,none,.iaddr 2 (.t 47) (.t 48)⟩,⟨some 50,none,.load true 2 (.t 49)⟩,⟨some 51,none,.mv (.t 1)⟩,⟨some 52,none,.mv (.t 2)⟩,⟨some 53,none,.call 142 [(.t 50),(.t 51),(.t 52)]⟩,⟨(some 54),none,(.mkrow 71 2 [(.str ⟨#[]⟩),.nil] 1 [(0,(.t 53))])⟩,⟨(some 55),none,(.append 71 2 40 [(.str ⟨#[]⟩),.nil] (.t 45) (.t 54))⟩,⟨some 56,none,.faddr 1 (.t 8)⟩,⟨none,none,(.store 1 (.t 56) (.t 55))⟩])) (.reg [⟨some 42,none,.mv (.t 9)⟩,⟨some 43,none,.bin .add false (.t 42) (.c (.int .i64 1))⟩,⟨some 9,none,.mv (.t 43)⟩])))))) (.seq (.reg [⟨some 57,none,.load true 2 (.t 8)⟩,⟨none,none,(.store 2 (.t 6) (.t 57))⟩]) .ret)))))
theorem JZ:codeOf Tryz.prog 142=some ⟨58,Gz,[(.cell 6 true 2)]⟩:=by kernel_rfl
theorem DC:modes 142=⟨[],.frz,none,false⟩:=by unfold modes; rfl
abbrev RnS (ns:List ByteArray) (p:ByteArray) (x:Tm):Prop:=E 142 [x.sv,.arr (ns.map fun s=>[D.str s]),.str p] []=some ((x.rn (Hu p ns)).sv,[])
theorem P8 (ns:List ByteArray) (p:ByteArray) (hp:p.size≤1048576) (hnd:ns.Nodup) (hnl:ns.length≤1048576) (hnv:∀ s∈ns,Aq s=true) (x:Tm) (hx:Aq x.name=true→x.args=[]) (hn:x.args.length≤1099511627776) (ih:∀ y∈x.args,RnS ns p y):RnS ns p x:=by
 unfold RnS
 have hv:=Am x.name
 obtain ⟨e,he⟩:∃ e,e=Hu p ns:=⟨_,rfl⟩
 rw [←he]
 cases hb:Aq x.name with
 | true =>
  rw [hb] at hv
  have hx0:=hx hb
  refine Af JZ DC (of_decide_eq_true rfl) ?_
  simp (disch:=omega) only [Gz,go_sem,Aa,hv,Ah]
  refine go_loop (α:=Int) (fun a=>⟨slots 58 0 [(1,.arr (ns.map fun s=>[D.str s])),(2,.str p),(3,.ptr 0 0),(6,.ptr 1 0),(7,.int .i64 a)],[.box 71 [.str x.name,.arr (x.args.map Tm.d)],.box 71 [.str ⟨#[]⟩,.nil]]⟩) (fun a=>∃ k:Nat,a=k∧k≤(ns).length∧∀ (j:Nat),j<k→∀ hj:j<ns.length,¬ ns[j]=x.name) (fun a=>(ns).length-(a).toNat) 0 ⟨0,rfl,zH _,fun j hj=>absurd hj (Nat.not_lt_zero _)⟩ (by simp (disch:=omega) only [go_sem,Aa]) ?_
  rintro i ⟨k,hi,hk,hR⟩
  have hni:i.toNat=k:=by omega
  have hni1:(i+1).toNat=k+1:=by omega
  rcases zB k (ns).length with hlt | hge
  ·have hg:=get_at (fun s=>[D.str s]) hlt
   by_cases hq:ns[k]=x.name
   ·have hq1:=eq_true hq
    have hq2:=As hq
    have hit:=Vy i (by omega) (by omega)
    have hz:=GM (show 0≤i by omega) (show i≤1099511627776 by omega)
    have hbd:dec (p.size+(GD i).size≤9223372036854775807)=true:=As (by omega)
    have e1:x.rn e=.mk (p++GD i) []:=by
     rw [Tm.RR,hx0,← hq,he,Xm p hnd hlt,hi]; rfl
    have e2:(Tm.mk (p++GD i) []).sv=.agg [.str (p++GD i),.arr []]:=rfl
    rw [e1,e2]
    simp (disch:=omega) only [go_sem,Aa,hni,hg,hq1,hq2,hit,hbd,D1]
   ·have hq1:=eq_false hq
    have hq2:=Az hq
    simp (disch:=omega) only [go_sem,Aa,hni,hg,hq1,hq2,D1]
    refine ⟨i+1,⟨k+1,by omega,hlt,fun j hj hjl=>?_⟩,by omega,by first | trivial | rfl⟩
    rcases zB j k with h2 | h2
    ·exact hR j h2 hjl
    ·obtain rfl:j=k:=by omega
     exact hq
  ·have hno:x.name ∉ ns:=fun h=>by
    obtain ⟨j,hj,h⟩:=zX h
    exact hR j (by omega) hj h
   have e1:x.rn e=.mk x.name []:=by rw [Tm.RR,hx0,he,OQ p hno]; rfl
   have e2:(Tm.mk x.name []).sv=.agg [.str x.name,.arr []]:=rfl
   rw [e1,e2]
   simp (disch:=omega) only [go_sem,Aa,hni]
 | false =>
  rw [hb] at hv
  have hen:e x.name=none:=by rw [he]; exact OQ p fun h=>by have:=hnv _ h; rw [hb] at this; cases this
  have e1:x.rn e=.mk x.name (x.args.map (Tm.rn e)):=by
   rw [Tm.RR,hen]
   cases x.args.isEmpty <;> rfl
  have e2:(Tm.mk x.name (x.args.map (Tm.rn e))).sv=.agg [.str x.name,.arr ((x.args.map (Tm.rn e)).map Tm.d)]:=rfl
  rw [e1,e2]
  have h10:((1:Int)=0)=False:=by simp
  have hfu:=Tm.N8 (x.args.map (Tm.rn e))
  have her:=Tm.Vm (x.args.map (Tm.rn e))
  refine Af JZ DC (of_decide_eq_true rfl) ?_
  simp (disch:=omega) only [Gz,go_sem,Aa,hv,Ah]
  refine go_loop (α:=Int) (fun a=>⟨slots 58 0 [(1,.arr (ns.map fun s=>[D.str s])),(2,.str p),(3,.ptr 0 0),(6,.ptr 1 0),(8,.ptr 2 0),(9,.int .i64 a)],(if a=0 then [.box 71 [.str x.name,.arr (x.args.map Tm.d)],.box 71 [.str ⟨#[]⟩,.nil],.box 71 [.str x.name,.nil]] else [.box 71 [.str x.name,.arr (x.args.map Tm.d)],.box 71 [.str ⟨#[]⟩,.nil],.box 71 [.str x.name,.ref 3],.row 71 2 (((x.args.map (Tm.rn e)).take a.toNat).map Tm.osh)])⟩) (fun a=>∃ k:Nat,a=k∧k≤(x.args).length) (fun a=>(x.args).length-(a).toNat) 0 ⟨0,rfl,zH _⟩ (by simp (disch:=omega) only [go_sem,Aa,eq_self,if_true]) ?_
  rintro i ⟨k,hi,hk⟩
  have hni:i.toNat=k:=by omega
  have hni1:(i+1).toNat=k+1:=by omega
  rcases zB k (x.args).length with hlt | hge
  ·have hg:=get_at Tm.d hlt
   rw [Tm.d_eq] at hg
   have hc:=ih x.args[k] (zD hlt)
   unfold RnS at hc
   rw [←he] at hc
   have hlm:k<(x.args.map (Tm.rn e)).length:=by rw [zE]; exact hlt
   have hs:=D9 Tm.osh hlm
   rw [Tm.R7,zZ] at hs
   rcases zJ k with h0 | h0
   ·subst h0
    obtain rfl:i=0:=hi
    rw [z7,zM,zU] at hs
    simp (disch:=omega) only [go_sem,Aa,hni,hg,hc,DC,eq_self,if_true]
    refine ⟨1,⟨1,rfl,hlt⟩,by omega,?_⟩
    simp (disch:=omega) only [go_sem,Aa,h10,if_false,hs]
   ·have hi0:(i=0)=False:=by simp; omega
    have hi1:(i+1=0)=False:=by simp; omega
    have htl:((x.args.map (Tm.rn e)).take k).length=k:=by rw [zP,zE]; omega
    simp (disch:=omega) only [go_sem,Aa,hni,hg,hc,DC,hi0,if_false,htl]
    refine ⟨i+1,⟨k+1,by omega,hlt⟩,by omega,?_⟩
    simp (disch:=omega) only [go_sem,Aa,hni1,hi1,if_false,hs]
  ·obtain rfl:k=x.args.length:=by omega
   have ht:(x.args.map (Tm.rn e)).take x.args.length=x.args.map (Tm.rn e):=by rw [←zE (f:=Tm.rn e)]; exact zR
   rcases zJ x.args.length with h0 | h0
   ·have hx:x.args=[]:=zI h0
    obtain rfl:i=0:=by omega
    simp (disch:=omega) only [go_sem,Aa,hni,hx,eq_self,if_true,zM,zT]
   ·have hi0:(i=0)=False:=by simp; omega
    simp (disch:=omega) only [go_sem,Aa,hni,hi0,if_false,ht,hfu,her]
theorem RY (ns:List ByteArray) (p:ByteArray) (hp:p.size≤1048576) (hnd:ns.Nodup) (hnl:ns.length≤1048576) (hnv:∀ s∈ns,Aq s=true) (x:Tm) (hx:x.names=true) (hn:x.nodes≤1099511627776):RnS ns p x :=
 P8 ns p hp hnd hnl hnv x (fun h=>Tm.FA hx h) (by have:=Tm.length_le x.args; have:=Tm.An x; omega) fun y hy=>RY ns p hp hnd hnl hnv y (Tm.ES hx hy) (by have:=Tm.AU hy; have:=Tm.An x; omega)
termination_by SizeOf.sizeOf x
decreasing_by exact Tm.Aw hy
theorem Xs (ns:List ByteArray) (p:ByteArray) (hp:p.size≤1048576) (hnd:ns.Nodup) (hnl:ns.length≤1048576) (hnv:∀ s∈ns,Aq s=true) (x:Tm) (hx:x.atom=true):RnS ns p x:=by
 have hn:=Tm.CB hx
 have h1:=Tm.An x
 have h2:=Tm.length_le x.args
 exact P8 ns p hp hnd hnl hnv x (Tm.Jd hx).1 (by omega) fun y hy=>RY ns p hp hnd hnl hnv y ((Tm.Jd hx).2 y hy) (by have:=Tm.AU hy; omega)
def Ka:SC:=(.seq (.reg [⟨some 3,none,.boxv 28 1 (.t 0)⟩,⟨some 6,none,.alloc 28 [.nil]⟩]) (.seq (.reg [⟨(some 9),none,(.mkrow 73 3 [(.bool false),(.str ⟨#[]⟩),.nil] 0 [])⟩,⟨some 7,none,.mv (.t 9)⟩]) (.seq (.seq (.reg [⟨some 8,none,.mv (.c (.int .i64 0))⟩]) (.block 0 (.loop [0,1,1,1,0,0,1,1,1,0,0,0,0,0,0,0,0,0,0,0,0,0,0,0,0,0,0,0,0,0,0,0,0,0,0,0,0,0] (.seq (.seq (.reg [⟨some 10,none,.mv (.t 8)⟩,⟨some 11,none,.faddr 0 (.t 3)⟩,⟨some 12,none,.load false 1 (.t 11)⟩,⟨some 13,none,.len false (.t 12)⟩,⟨some 14,none,.bin .lss false (.t 10) (.t 13)⟩]) (.cond (.t 14) .skip (.exit 0))) (.seq (.block 1 (.dreg [[],[],[1],[],[2,1,3],[4,2,1,3],[5,4,2,1,3],[],[7],[],[8,7,9],[10,8,7,9],[11,10,8,7,9],[],[],[12,11,10,8,7,9,13,14],[6,5,4,2,1,3,15,12,11,10,8,7,9,13,14],[16,6,5,4,2,1,3,15,12,11,10,8,7,9,13,14],[0,17,16,6,5,4,2,1,3,15,12,11,10,8,7,9,13,14],[18,0,17,16,6,5,4,2,1,3,15,12,11,10,8,7,9,13,14]] [⟨some 17,none,.mv (.t 7)⟩,⟨some 18,none,.faddr 0 (.t 3)⟩,⟨some 19,none,.load false 1 (.t 18)⟩,⟨some 20,none,.mv (.t 8)⟩,⟨some 21,none,.iaddr 3 (.t 19) (.t 20)⟩,⟨some 22,none,.faddr 0 (.t 21)⟩,⟨some 23,none,.load false 1 (.t 22)⟩,⟨some 24,none,.faddr 0 (.t 3)⟩,⟨some 25,none,.load false 1 (.t 24)⟩,⟨some 26,none,.mv (.t 8)⟩,⟨some 27,none,.iaddr 3 (.t 25) (.t 26)⟩,⟨some 28,none,.faddr 1 (.t 27)⟩,⟨some 29,none,.load true 2 (.t 28)⟩,⟨some 30,none,.mv (.t 1)⟩,⟨some 31,none,.mv (.t 2)⟩,⟨some 32,none,.call 142 [(.t 29),(.t 30),(.t 31)]⟩,⟨(some 33),none,(.build [(.bool false),(.str ⟨#[]⟩),.nil] [(0,(1,(.t 23))),(1,(2,(.t 32)))])⟩,⟨(some 34),none,(.mkrow 73 3 [(.bool false),(.str ⟨#[]⟩),.nil] 1 [(0,(.t 33))])⟩,⟨(some 35),none,(.append 73 3 48 [(.bool false),(.str ⟨#[]⟩),.nil] (.t 17) (.t 34))⟩,⟨some 7,none,.mv (.t 35)⟩])) (.reg [⟨some 15,none,.mv (.t 8)⟩,⟨some 16,none,.bin .add false (.t 15) (.c (.int .i64 1))⟩,⟨some 8,none,.mv (.t 16)⟩])))))) (.seq (.reg [⟨some 36,none,.mv (.t 7)⟩,⟨some 37,none,.call 117 [(.t 36)]⟩,⟨none,none,(.store 1 (.t 6) (.t 37))⟩]) .ret))))
theorem PP:codeOf Tryz.prog 97=some ⟨38,Ka,[(.cell 6 true 1)]⟩:=by kernel_rfl
theorem EC:modes 97=⟨[],.frz,none,false⟩:=by unfold modes; rfl
theorem Zy (c:Cl) (hc:c.ok=true) (ns:List ByteArray) (hns:ns=c.ns) (p:ByteArray) (hp:p.size≤1048576) (hf:Vx (Hu p ns)):E 97 [c.sv,.arr (ns.map fun s=>[D.str s]),.str p] []=some ((c.rn (Hu p ns)).sv,[]):=by
 have hl:=Cl.ok_len hc
 have hsv:∀ d:Cl,d.sv=.agg [.arr (d.lits.map Lt.d)]:=fun d=>rfl
 have hnd:ns.Nodup:=by rw [hns]; exact c.ns_nodup
 have hnl:ns.length≤240:=by rw [hns]; exact Cl.RS hc
 have hnv:∀ s∈ns,Aq s=true:=fun s hs=>Cl.QcW (c:=c) (by rw [←hns]; exact hs)
 have hat:=Lt.RU hf (Cl.Dl hc)
 have hr0:∀ x:Tm,x.atom=true→RnS ns p x:=fun x hx=>Xs ns p hp hnd (by omega) hnv x hx
 unfold RnS at hr0
 obtain ⟨e,he⟩:∃ e,e=Hu p ns:=⟨_,rfl⟩
 rw [←he] at hat hr0 ⊢
 have hco:=RB (c.lits.map (Lt.rn e)) (by rw [zE]; omega) (fun x hx=>OR (hat x hx))
 rw [show mkC (c.lits.map (Lt.rn e))=c.rn e from rfl] at hco
 rw [hsv] at hco
 rw [hsv,hsv]
 have her:=Lt.der (c.lits.map (Lt.rn e))
 have hfu:=Lt.dfu (c.lits.map (Lt.rn e))
 clear he
 refine Af PP EC (of_decide_eq_true rfl) ?_
 simp (disch:=omega) only [Ka,go_sem,Aa]
 refine go_loop (α:=Int) (fun a=>⟨slots 38 0 [(1,.arr (ns.map fun s=>[D.str s])),(2,.str p),(3,.ptr 0 0),(6,.ptr 1 0),(7,.ref 2),(8,.int .i64 a)],[.box 28 [.arr (c.lits.map Lt.d)],.box 28 [.nil],.row 73 3 (((c.lits.map (Lt.rn e)).take a.toNat).map (fun b:Lt=>b.d.map D.ot))]⟩) (fun a=>∃ k:Nat,a=k∧k≤(c.lits).length) (fun a=>(c.lits).length-(a).toNat) 0 ⟨0,rfl,zH _⟩ (by simp (disch:=omega) only [go_sem,Aa]) ?_
 rintro i ⟨k,hi,hk⟩
 have hni:i.toNat=k:=by omega
 have hni1:(i+1).toNat=k+1:=by omega
 rcases zB k (c.lits).length with hlt | hge
 ·have hg:=get_at Lt.d hlt
  rw [Lt.d_eq] at hg
  have hr:=hr0 c.lits[k].atom (Cl.JH hc hlt)
  have hrs:c.lits[k].atom.sv=.agg [.str c.lits[k].atom.name,.arr (c.lits[k].atom.args.map Tm.d)]:=rfl
  have hrt:(c.lits[k].atom.rn e).sv=.agg [.str (c.lits[k].atom.rn e).name,.arr ((c.lits[k].atom.rn e).args.map Tm.d)]:=rfl
  rw [hrs,hrt] at hr
  have hlm:k<(c.lits.map (Lt.rn e)).length:=by rw [zE]; exact hlt
  have hs:=D9 (fun b:Lt=>b.d.map D.ot) hlm
  rw [zZ] at hs
  have hs':((c.lits.map (Lt.rn e)).take k).map (fun b:Lt=>b.d.map D.ot)++[[OT.bool c.lits[k].pos,OT.str (c.lits[k].atom.rn e).name,OT.sh ((c.lits[k].atom.rn e).args.map Tm.d)]]=((c.lits.map (Lt.rn e)).take (k+1)).map (fun b:Lt=>b.d.map D.ot):=hs
  have htl:((c.lits.map (Lt.rn e)).take k).length=k:=by rw [zP,zE]; omega
  simp (disch:=omega) only [go_sem,Aa,hni,hg,hr,htl,DC]
  refine ⟨i+1,⟨k+1,by omega,hlt⟩,by omega,?_⟩
  simp (disch:=omega) only [go_sem,Aa,hni1,hs']
 ·have ht:(c.lits.map (Lt.rn e)).take k=c.lits.map (Lt.rn e):=List.take_of_length_le (by rw [zE]; exact hge)
  simp (disch:=omega) only [go_sem,Aa,hni,ht,hco,her,hfu,CV]
def Kb:SC:=(.seq (.reg [⟨some 1,none,.boxv 28 1 (.t 0)⟩,⟨some 2,none,.alloc 28 [.nil]⟩,⟨some 3,none,.mv (.c (.bool false))⟩]) (.seq (.reg [⟨some 6,none,.faddr 0 (.t 1)⟩,⟨some 7,none,.load false 1 (.t 6)⟩,⟨some 8,none,.call 117 [(.t 7)]⟩,⟨some 4,none,.alloc 28 [.nil]⟩,⟨none,none,(.store 1 (.t 4) (.t 8))⟩]) (.seq (.seq (.reg [⟨some 5,none,.mv (.c (.int .i64 0))⟩]) (.block 0 (.loop [0,0,1,0,1,1,0,0,0,0,0,0,0,0,0,0,0,0,0,0,0,0,0,0,0] (.seq (.seq (.reg [⟨some 9,none,.mv (.t 5)⟩,⟨some 10,none,.bin .lss false (.t 9) (.c (.int .i64 10))⟩,⟨some 11,none,.mv (.t 10)⟩,⟨(some 12),(some (11,true)),(.load true 1 (.t 4))⟩,⟨(some 13),(some (11,true)),(.call 48 [(.t 12)])⟩,⟨(some 14),(some (11,true)),(.un .not (.t 13))⟩,⟨some 15,none,.pick (.t 11) (.t 14) (.c (.bool false))⟩]) (.cond (.t 15) .skip (.exit 0))) (.seq (.block 1 (.dreg [[],[],[1],[0,2,1],[3,0,2,1]] [⟨some 18,none,.load true 1 (.t 4)⟩,⟨some 19,none,.load true 1 (.t 4)⟩,⟨some 20,none,.call 74 [(.t 19)]⟩,⟨(some 21),none,(.call 97 [(.t 18),(.t 20),(.c (.str ⟨#[88]⟩))])⟩,⟨none,none,(.store 1 (.t 4) (.t 21))⟩])) (.reg [⟨some 16,none,.mv (.t 5)⟩,⟨some 17,none,.bin .add false (.t 16) (.c (.int .i64 1))⟩,⟨some 5,none,.mv (.t 17)⟩])))))) (.seq (.dreg [[],[],[1],[0,2,1],[2,1,3,0]] [⟨some 22,none,.load true 1 (.t 4)⟩,⟨some 23,none,.load true 1 (.t 4)⟩,⟨some 24,none,.call 47 [(.t 23)]⟩,⟨none,none,(.store 1 (.t 2) (.t 22))⟩,⟨some 3,none,.mv (.t 24)⟩]) .ret))))
theorem PQ:codeOf Tryz.prog 80=some ⟨25,Kb,[(.cell 2 true 1),(.tmp 3)]⟩:=by kernel_rfl
theorem G0:modes 80=⟨[],.frz,none,false⟩:=by unfold modes; rfl
theorem Zz (c:Cl) (hc:c.ok=true):E 80 [c.sv] []=some (.tup [(nz 10 c).sv,.bool true],[]):=by
 have hl:=Cl.ok_len hc
 have hsv:∀ d:Cl,d.sv=.agg [.arr (d.lits.map Lt.d)]:=fun d=>rfl
 have h1:=RB c.lits (by omega) (fun x hx=>OR (Cl.Dl hc x hx))
 rw [QcY (Cl.Qb7 hc),hsv] at h1
 rw [hsv,hsv]
 refine Af PQ G0 (of_decide_eq_true rfl) ?_
 simp (disch:=omega) only [Kb,go_sem,Aa,h1,CV]
 refine go_loop (α:=Int × Cl) (fun a=>⟨slots 25 0 [(2,.ptr 0 0),(4,.ptr 1 0),(5,.int .i64 a.1)],[.box 28 [.nil],.box 28 [.arr (a.2.lits.map Lt.d)]]⟩) (fun a=>∃ k:Nat,a.1=k∧k≤10∧a.2.ok=true∧nz (10-k) a.2=nz 10 c) (fun a=>10-a.1.toNat) (0,c) ⟨0,rfl,zH _,hc,rfl⟩ (by simp (disch:=omega) only [go_sem,Aa]) ?_
 rintro ⟨i,d⟩ ⟨k,hi,hk,hd,hR⟩
 dsimp only at hi hd hR
 have n1:=JJ d hd
 have n2:=Ur d hd
 have n4:=Zy d hd d.ns rfl ⟨#[88]⟩ (by decide +kernel) (Cl.xE hd)
 have n5:=R6 d ⟨by have:=Cl.ok_len hd; omega,fun y hy=>by have:=Tm.CB (Cl.Dl hd y hy); omega⟩
 rw [hd] at n5
 rw [hsv] at n1 n2 n5
 rw [hsv,hsv] at n4
 rcases zB k 10 with hlt | hge
 ·obtain ⟨m,hm⟩:∃ m,10-k=m+1:=⟨9-k,by omega⟩
  rw [hm,nz] at hR
  cases hn:d.norm with
  | true =>
   rw [hn,cond_true] at hR
   rw [hn] at n1
   rw [←hR]
   simp (disch:=omega) only [go_sem,Aa,n1,n2,n4,n5,BO,Eg,EC,B0]
  | false =>
   rw [hn,cond_false] at hR
   rw [hn] at n1
   simp (disch:=omega) only [go_sem,Aa,n1,n2,n4,n5,BO,Eg,EC,B0]
   refine ⟨(i+1,d.rn (Hu SY d.ns)),⟨k+1,by dsimp only; omega,by omega,Cl.QcZ (Cl.xE hd) hd,by rw [show 10-(k+1)=m by omega]; exact hR⟩,by dsimp only; omega,?_⟩
   first | trivial | rfl
 ·obtain rfl:k=10:=by omega
  have hR:d=nz 10 c:=hR
  rw [←hR]
  simp (disch:=omega) only [go_sem,Aa,n1,n2,n4,n5,BO,Eg,EC,B0]
def bdLe (x y:Bd):Bool:=!strLt y.var x.var
def Gh:List Bd→Bd→List Bd
 | [],b=>[b]
 | x :: xs,b=>bif strLt x.var b.var then x :: Gh xs b else b :: x :: xs
theorem LO (b:Bd):∀ xs:List Bd,(Gh xs b).Perm (b :: xs)
 | []=>.refl _
 | x :: xs=>by
  rw [Gh]
  cases strLt x.var b.var with
  | true=>exact ((LO b xs).cons x).trans (.swap b x xs)
  | false=>exact .refl _
theorem RZ {a b c:Bd} (h:bdLe a b=true) (k:bdLe b c=true):bdLe a c=true:=by
 unfold bdLe at *
 cases hq:strLt c.var a.var with
 | false=>rfl
 | true =>
  cases hb:strLt b.var a.var with
  | true=>rw [hb] at h; cases h
  | false =>
   cases hc:strLt c.var b.var with
   | true=>rw [hc] at k; cases k
   | false =>
    cases hab:strLt a.var b.var with
    | true=>rw [KQ hq hab] at hc; cases hc
    | false =>
     have:=KP hab hb
     rw [this] at hq; rw [hq] at hc; cases hc
theorem Z0 (a b:Bd):(bdLe a b || bdLe b a)=true:=by
 unfold bdLe
 cases h:strLt b.var a.var with
 | false=>rfl
 | true=>rw [KO h]; rfl
theorem P9 (b:Bd):∀ xs:List Bd,xs.Pairwise (fun x y=>bdLe x y=true)→(Gh xs b).Pairwise fun x y=>bdLe x y=true
 | [],_=>by simp [Gh]
 | x :: xs,h=>by
  rw [Gh]
  rw [zY] at h
  cases hq:strLt x.var b.var with
  | true =>
   rw [cond_true,zY]
   refine ⟨fun y hy=>?_,P9 b xs h.2⟩
   rcases yC.1 ((LO b xs).mem_iff.1 hy) with rfl | hy
   ·unfold bdLe; rw [KO hq]; rfl
   ·exact h.1 y hy
  | false =>
   have hb:bdLe b x=true:=by unfold bdLe; rw [hq]; rfl
   rw [cond_false,zY,zY]
   refine ⟨fun y hy=>?_,h⟩
   rcases yC.1 hy with rfl | hy
   ·exact hb
   ·exact RZ hb (h.1 y hy)
def IA (xs ys:List Bd):List Bd:=ys.foldl Gh xs
theorem OU:∀ (ys xs:List Bd),(IA xs ys).Perm (xs++ys)
 | [],xs=>by simp [IA]
 | y :: ys,xs=>by
  have h:=OU ys (Gh xs y)
  simp only [IA,zV] at h ⊢
  refine h.trans ?_
  have h2:(Gh xs y++ys).Perm ((y :: xs)++ys):=(LO y xs).append_right ys
  exact h2.trans List.perm_middle.symm
theorem PA:∀ (ys xs:List Bd),xs.Pairwise (fun x y=>bdLe x y=true)→(IA xs ys).Pairwise fun x y=>bdLe x y=true
 | [],xs,h=>h
 | y :: ys,xs,h=>by
  simp only [IA,zV]
  exact PA ys (Gh xs y) (P9 y xs h)
theorem Qdc (xs a b:List Bd):IA xs (a++b)=IA (IA xs a) b:=yV
theorem Qb8 {ys:List Bd} (hn:(ys.map Bd.var).Nodup):IA [] ys=ys.mergeSort bdLe:=by
 have h1:(IA [] ys).Perm ys:=by simpa using OU ys []
 have h2:(ys.mergeSort bdLe).Perm ys:=List.mergeSort_perm _ _
 refine List.Perm.eq_of_pairwise (le:=fun x y=>bdLe x y=true) ?_ (PA ys [] y3) (List.pairwise_mergeSort (le:=bdLe) (fun _ _ _ h k=>RZ h k) Z0 ys) (h1.trans h2.symm)
 intro a b ha hb hab hba
 unfold bdLe at hab hba
 have e:a.var=b.var:=KP (by simpa using hba) (by simpa using hab)
 have ha:=h1.mem_iff.1 ha
 have hb:=h2.mem_iff.1 hb
 obtain ⟨i,hi,rfl⟩:=zX ha
 obtain ⟨j,hj,rfl⟩:=zX hb
 have hij:i=j:=(List.getElem_inj (h₀:=by simpa using hi) (h₁:=by simpa using hj) hn).1 (by simpa using e)
 subst hij; rfl
theorem Xt (b:Bd):∀ xs:List Bd,Gh xs b=xs.take (Bm xs b.var)++b :: xs.drop (Bm xs b.var)
 | []=>by simp [Gh,Bm]
 | x :: xs=>by
  rw [Gh,Bm]
  cases h:strLt x.var b.var with
  | true=>rw [cond_true,Xt b xs]; simp
  | false=>simp
noncomputable def CC (u:Sb) (b:Bd):Option Bd:=bif dec ((b.term.ap u.look).name=b.var) then none else some ⟨b.var,b.term.ap u.look⟩
noncomputable def Hx (s u:Sb):List Bd:=s.binds.filterMap (CC u)
noncomputable def QaA (s u:Sb):List Bd:=u.binds.filter fun b=>!DJ s.binds b.var
noncomputable def Cr (s u:Sb):List Bd:=Hx s u++QaA s u
noncomputable def Ck (s u:Sb):Sb:=⟨(Cr s u).mergeSort bdLe⟩
theorem MM:∀ {xs:List Bd},NC xs→(xs.map Bd.var).Nodup:=by
 intro xs h
 unfold List.Nodup
 rw [yH]
 intro i j hi hj hij e
 rw [zE] at hj
 have:=h i j hij hj
 simp only [zZ] at e
 rw [e,Hn] at this
 cases this
theorem Xu {xs:List Bd} (hs:NC xs) (n:ByteArray):DJ xs n=xs.any fun b=>dec (b.var=n):=by
 rw [←Nw,RF hs]
 cases DJ xs n with
 | true=>rw [if_pos rfl]; exact (As (by omega)).symm
 | false=>rw [if_neg (by simp)]; exact (Az (by omega)).symm
theorem Us {s u:Sb} {b:Bd} (h:b∈Hx s u):∃ c∈s.binds,b.var=c.var∧b.term=c.term.ap u.look:=by
 obtain ⟨c,hc,h⟩:=List.mem_filterMap.1 h
 refine ⟨c,hc,?_⟩
 unfold CC at h
 cases hq:dec ((c.term.ap u.look).name=c.var) with
 | true=>rw [hq] at h; cases h
 | false=>rw [hq] at h; obtain rfl:=yJ h; exact ⟨rfl,rfl⟩
theorem KX (u:Sb):∀ xs:List Bd,((xs.filterMap (CC u)).map Bd.var).Sublist (xs.map Bd.var)
 | []=>.slnil
 | x :: xs=>by
  rw [List.filterMap_cons,zQ]
  have h:=KX u xs
  cases hq:CC u x with
  | none=>exact h.cons _
  | some c =>
   have e:c.var=x.var:=by
    unfold CC at hq
    cases hd:dec ((x.term.ap u.look).name=x.var) with
    | true=>rw [hd] at hq; cases hq
    | false=>rw [hd] at hq; obtain rfl:=yJ hq; rfl
   simp only [zQ,e]
   exact h.cons_cons _
theorem NI {s u:Sb} (hs:NC s.binds) (hu:NC u.binds):((Cr s u).map Bd.var).Nodup:=by
 unfold Cr
 rw [yE,List.nodup_append]
 refine ⟨(KX u s.binds).nodup (MM hs),(List.Sublist.map _ List.filter_sublist).nodup (MM hu),fun a ha b hb e=>?_⟩
 subst e
 obtain ⟨x,hx,rfl⟩:=yO.1 ha
 obtain ⟨y,hy,e⟩:=yO.1 hb
 obtain ⟨c,hc,h1,_⟩:=Us hx
 have hy2:=(List.mem_filter.1 hy).2
 rw [Xu hs,Bool.not_eq_true'] at hy2
 have:=List.any_eq_false.1 hy2 c hc
 exact this (As (by rw [←h1,e]))
theorem Sa (s u:Sb):(Cr s u).length≤s.binds.length+u.binds.length:=by
 unfold Cr Hx QaA
 rw [yD]
 have h1:=List.length_filterMap_le (CC u) s.binds
 have h2:=List.length_filter_le (fun b=>!DJ s.binds b.var) u.binds
 omega
mutual
def Tm.wt:Tm→Nat
 | .mk name args=>1+Tm.wtS args
def Tm.wtS:List Tm→Nat
 | []=>0
 | x :: xs=>Tm.wt x+Tm.wtS xs
end
theorem Tm.wt_eq (x:Tm):x.wt=1+Tm.wtS x.args:=by
 obtain ⟨name,args⟩:=x
 rw [Tm.wt]; rfl
mutual
noncomputable def Tm.mk1:Tm→Int→Tm × Int
 | .mk name args,k=>((Tm.mk (HO k) ((Tm.mkS args (k+1)).1)),(Tm.mkS args (k+1)).2)
noncomputable def Tm.mkS:List Tm→Int→List Tm × Int
 | [],k=>([],k)
 | x :: xs,k=>((Tm.mk1 x k).1 :: (Tm.mkS xs (Tm.mk1 x k).2).1,(Tm.mkS xs (Tm.mk1 x k).2).2)
end
theorem Tm.mk1_eq (x:Tm) (k:Int):x.mk1 k=((Tm.mk (HO k) ((Tm.mkS x.args (k+1)).1)),(Tm.mkS x.args (k+1)).2):=by
 obtain ⟨name,args⟩:=x
 rw [Tm.mk1]; rfl
theorem Tm.mk1_d (x:Tm) (k:Int):Tm.d (x.mk1 k).1=[.str (HO k),.arr ((Tm.mkS x.args (k+1)).1.map Tm.d)]:=by
 rw [Tm.mk1_eq,Tm.d_eq]
 try rfl
theorem Tm.mk1_o (x:Tm) (k:Int):Tm.o (x.mk1 k).1=[.str (HO k),.ow ((Tm.mkS x.args (k+1)).1.map Tm.o)]:=by
 rw [Tm.mk1_eq,Tm.o_eq]
 try rfl
theorem Tm.MN:∀ (xs:List Tm) (k:Int),(∀ x∈xs,∀ k,(x.mk1 k).2=k+x.wt)→(Tm.mkS xs k).2=k+Tm.wtS xs
 | [],k,_=>by simp [Tm.mkS,Tm.wtS]
 | x :: xs,k,h=>by
  rw [Tm.mkS,Tm.wtS]
  have h1:=h x (by simp) k
  have h2:=Tm.MN xs (x.mk1 k).2 fun y hy=>h y (by simp [hy])
  dsimp only
  omega
theorem Tm.mk1_end (x:Tm) (k:Int):(x.mk1 k).2=k+x.wt:=by
 rw [Tm.mk1_eq,Tm.wt_eq]
 have h:=fun k=>Tm.MN x.args k fun y hy k=>Tm.mk1_end y k
 simp only [h]
 omega
termination_by SizeOf.sizeOf x
decreasing_by exact Tm.Aw hy
theorem Tm.mkS_end (xs:List Tm) (k:Int):(Tm.mkS xs k).2=k+Tm.wtS xs:=Tm.MN xs k fun x _ k=>Tm.mk1_end x k
theorem Tm.Z1:∀ xs:List Tm,(∀ x∈xs,x.wt≤5*(1+x.bulk))→Tm.wtS xs≤5*(xs.length+Tm.sumB xs)
 | [],_=>by simp [Tm.wtS]
 | x :: xs,h=>by
  have h1:=h x (by simp)
  have h2:=Tm.Z1 xs fun y hy=>h y (by simp [hy])
  rw [Tm.wtS,Tm.sumB]; simp only [zL]; omega
theorem Tm.wt_bulk (x:Tm):x.wt≤5*(1+x.bulk):=by
 rw [Tm.wt_eq,Tm.bulk_eq]
 have h:=Tm.Z1 x.args fun y hy=>Tm.wt_bulk y
 omega
termination_by SizeOf.sizeOf x
decreasing_by exact Tm.Aw hy
theorem Tm.wtS_bulk (xs:List Tm):Tm.wtS xs≤5*(xs.length+Tm.sumB xs):=Tm.Z1 xs fun x _=>Tm.wt_bulk x
theorem Tm.length_wt:∀ xs:List Tm,xs.length≤Tm.wtS xs
 | []=>zN _
 | x :: xs=>by
  have:=Tm.length_wt xs
  have:=Tm.wt_eq x
  rw [Tm.wtS]; simp only [zL]; omega
def Jf:SC:=(.seq (.reg [⟨some 4,none,.mv (.c (.int .i64 0))⟩]) (.seq (.seq (.reg [⟨some 5,none,.mv (.c (.int .i64 0))⟩]) (.block 0 (.loop [1,1,0,0,0,1,0,0,0,0,0,0,0,0,0,0,0,0,0,0,0,0,0,0,0,0,0,0] (.seq (.seq (.reg [⟨some 6,none,.mv (.t 5)⟩,⟨some 7,none,.mv (.t 0)⟩,⟨some 8,none,.len false (.t 7)⟩,⟨some 9,none,.bin .lss false (.t 6) (.t 8)⟩]) (.cond (.t 9) .skip (.exit 0))) (.seq (.block 1 (.seq (.reg [⟨some 12,none,.mv (.t 0)⟩,⟨some 13,none,.mv (.t 5)⟩,⟨some 14,none,.mv (.t 1)⟩,⟨some 15,none,.call 61 [(.t 14)]⟩,⟨some 16,none,.iaddr 2 (.t 12) (.t 13)⟩,⟨some 17,none,.faddr 0 (.t 16)⟩,⟨none,none,(.store 1 (.t 17) (.t 15))⟩]) (.seq (.reg [⟨some 18,none,.mv (.t 1)⟩,⟨some 19,none,.bin .add false (.t 18) (.c (.int .i64 1))⟩,⟨some 1,none,.mv (.t 19)⟩]) (.reg [⟨some 20,none,.mv (.t 0)⟩,⟨some 21,none,.mv (.t 5)⟩,⟨some 22,none,.iaddr 2 (.t 20) (.t 21)⟩,⟨some 23,none,.faddr 1 (.t 22)⟩,⟨some 24,none,.load false 1 (.t 23)⟩,⟨some 25,none,.mv (.t 1)⟩,⟨some 26,none,.call 62 [(.t 24),(.t 25)]⟩,⟨some 1,none,.mv (.t 26)⟩])))) (.reg [⟨some 10,none,.mv (.t 5)⟩,⟨some 11,none,.bin .add false (.t 10) (.c (.int .i64 1))⟩,⟨some 5,none,.mv (.t 11)⟩])))))) (.seq (.reg [⟨some 27,none,.mv (.t 1)⟩,⟨some 4,none,.mv (.t 27)⟩]) .ret)))
theorem OV:codeOf Tryz.prog 62=some ⟨28,Jf,[(.tmp 4)]⟩:=by kernel_rfl
theorem FB:modes 62=⟨[true],.asis,none,true⟩:=by unfold modes; rfl
abbrev Ia (xs:List Tm):Prop:=∀ (k:Int) (ob:List Ob),1≤k→k+Tm.wtS xs≤1099511627776→toTree ob=[.tree (xs.map Tm.o) []]→E 62 [.ref 0,.int .i64 k] ob=some (.int .i64 (Tm.mkS xs k).2,[.tree ((Tm.mkS xs k).1.map Tm.o) []])
theorem KY (xs:List Tm) (ih:∀ x∈xs,Ia x.args):Ia xs:=by
 intro k0 ob h1 h2 hob
 have hlen:ob.length=1:=by rw [←GU,hob]; rfl
 have hL:=Tm.length_wt xs
 refine Af OV FB (of_decide_eq_true rfl) ?_
 simp (disch:=omega) only [Jf,go_sem,Aa,hob,hlen]
 refine go_loop (α:=Int × (Int) × (List Tm)) (fun a=>⟨slots 28 0 [(0,.ref 0),(1,.int .i64 (a.2.1)),(5,.int .i64 (a.1))],[.tree (((a.2.2)++xs.drop (a.1).toNat).map Tm.o) []]⟩) (fun a=>∃ k:Nat,a.1=k∧k≤(xs).length∧(a.2.2).length=k∧1≤(a.2.1)∧(a.2.1)+Tm.wtS (xs.drop k)=k0+Tm.wtS xs∧Tm.mkS xs k0=((a.2.2)++(Tm.mkS (xs.drop k) (a.2.1)).1,(Tm.mkS (xs.drop k) (a.2.1)).2)) (fun a=>(xs).length-(a.1).toNat) (0,k0,[]) ⟨0,rfl,zH _,rfl,h1,by rw [zG],by simp⟩ (by simp (disch:=omega) only [go_sem,Aa,z8]) ?_
 rintro ⟨i,kk,dn⟩ ⟨k,hi,hk,hR⟩
 dsimp only at hi hR
 have hni:i.toNat=k:=by omega
 have hni1:(i+1).toNat=k+1:=by omega
 rcases zB k (xs).length with hlt | hge
 ·obtain ⟨hd,hk1,hkn,hm⟩:=hR
  have hdr:xs.drop k=xs[k] :: xs.drop (k+1):=zC hlt
  have hel:(dn++xs.drop k).length=xs.length:=by simp; omega
  have hg:(List.map Tm.o (dn++xs.drop k))[k]?=some [.str xs[k].name,.ow (xs[k].args.map Tm.o)]:=by
   rw [←Tm.o_eq,hdr,List.getElem?_map,yU (by omega),hd,Nat.sub_self]; rfl
  rw [hdr,Tm.wtS] at hkn
  rw [hdr,Tm.mkS] at hm
  have hn1:=Tm.wt_eq xs[k]
  have e1:=Tm.mkS_end xs[k].args ((kk+1))
  have t0:=J8 (k:=kk) (by omega) (by omega)
  have c58:=ih xs[k] (zD hlt) ((kk+1)) [.tree (xs[k].args.map Tm.o) []] (by omega) (by omega) rfl
  have hs:=KF Tm.o dn (xs.drop (k+1)) xs[k] (xs[k].mk1 kk).1 hd
  rw [Tm.mk1_o,← hdr] at hs
  have hgs:∀ a,((List.map Tm.o (dn++xs.drop k)).set k a)[k]?=some a:=fun a=>List.getElem?_set_self (by rw [zE,hel]; exact hlt)
  have he:=Tm.mk1_end xs[k] kk
  have three:∀ z:Int,dec ((3:Int)=0)=false:=fun _=>Az (by omega)
  simp (disch:=omega) only [go_sem,Aa,hni,hel,hg,t0,c58,FB,CI,hgs,List.length_set,List.set_set,hs,three 0]
  refine ⟨(i+1,(xs[k].mk1 kk).2,dn++[(xs[k].mk1 kk).1]),⟨k+1,by dsimp only; omega,hlt,by dsimp only; simp [hd],by dsimp only; omega,by dsimp only; omega,by rw [hm]; simp⟩,by dsimp only; omega,?_⟩
  dsimp only
  rw [hni1,Tm.mk1_eq]
  refine ⟨⟨?_,rfl⟩,rfl⟩
  first | rfl | omega
 ·obtain ⟨hd,hk1,hkn,hm⟩:=hR
  have hdr:xs.drop k=[]:=zF hge
  rw [hdr,Tm.mkS] at hm
  rw [hm]
  simp (disch:=omega) only [go_sem,Aa,hni,hdr,yZ]
theorem NJ (x:Tm):Ia x.args:=KY x.args fun y hy=>NJ y
termination_by SizeOf.sizeOf x
decreasing_by exact Tm.Aw hy
theorem Xv (xs:List Tm):Ia xs:=KY xs fun y _=>NJ y
def Lt.wt (x:Lt):Nat:=2+Tm.wtS x.atom.args
theorem Lt.wt_eq (x:Lt):x.wt=2+Tm.wtS x.atom.args:=rfl
noncomputable def Lt.mk1 (x:Lt) (k:Int):Lt × Int:=((Lt.mk (dec (k.tmod 3=0)) (Tm.mk (HO (k+1)) ((Tm.mkS x.atom.args (k+1+1)).1))),(Tm.mkS x.atom.args (k+1+1)).2)
theorem Lt.mk1_eq (x:Lt) (k:Int):x.mk1 k=((Lt.mk (dec (k.tmod 3=0)) (Tm.mk (HO (k+1)) ((Tm.mkS x.atom.args (k+1+1)).1))),(Tm.mkS x.atom.args (k+1+1)).2):=rfl
def Lt.wtS:List Lt→Nat
 | []=>0
 | x :: xs=>Lt.wt x+Lt.wtS xs
noncomputable def Lt.mkS:List Lt→Int→List Lt × Int
 | [],k=>([],k)
 | x :: xs,k=>((Lt.mk1 x k).1 :: (Lt.mkS xs (Lt.mk1 x k).2).1,(Lt.mkS xs (Lt.mk1 x k).2).2)
theorem Lt.mk1_d (x:Lt) (k:Int):Lt.d (x.mk1 k).1=[.bool (dec (k.tmod 3=0)),.str (HO (k+1)),.arr ((Tm.mkS x.atom.args (k+1+1)).1.map Tm.d)]:=by
 rw [Lt.mk1_eq,Lt.d_eq]
 try rfl
theorem Lt.mk1_o (x:Lt) (k:Int):Lt.o (x.mk1 k).1=[.bool (dec (k.tmod 3=0)),.str (HO (k+1)),.ow ((Tm.mkS x.atom.args (k+1+1)).1.map Tm.o)]:=by
 rw [Lt.mk1_eq,Lt.o_eq]
 try rfl
theorem Lt.mk1_end (x:Lt) (k:Int):(x.mk1 k).2=k+x.wt:=by
 rw [Lt.mk1_eq,Lt.wt_eq]
 first
  |omega
  |(simp only [Tm.mkS_end]; done)
  |(simp only [Tm.mkS_end]; omega)
  |simp
theorem Lt.mkS_end:∀ (xs:List Lt) (k:Int),(Lt.mkS xs k).2=k+Lt.wtS xs
 | [],k=>by simp [Lt.mkS,Lt.wtS]
 | x :: xs,k=>by
  rw [Lt.mkS,Lt.wtS]
  have h1:=Lt.mk1_end x k
  have h2:=Lt.mkS_end xs (x.mk1 k).2
  dsimp only
  omega
theorem Lt.wt_bulk (x:Lt):x.wt≤5*(1+x.bulk):=by
 rw [Lt.wt_eq,Lt.bulk_eq]
 have h0:=Tm.wtS_bulk x.atom.args
 have q1:=Tm.bulk_eq x.atom
 omega
theorem Lt.wtS_bulk:∀ xs:List Lt,Lt.wtS xs≤5*(xs.length+Lt.sumB xs)
 | []=>by simp [Lt.wtS]
 | x :: xs=>by
  have h1:=Lt.wt_bulk x
  have h2:=Lt.wtS_bulk xs
  rw [Lt.wtS,Lt.sumB]; simp only [zL]; omega
theorem Lt.length_wt:∀ xs:List Lt,xs.length≤Lt.wtS xs
 | []=>zN _
 | x :: xs=>by
  have:=Lt.length_wt xs
  have:=Lt.wt_eq x
  rw [Lt.wtS]; simp only [zL]; omega
def G6:SC:=(.seq (.reg [⟨some 4,none,.mv (.c (.int .i64 0))⟩]) (.seq (.seq (.reg [⟨some 5,none,.mv (.c (.int .i64 0))⟩]) (.block 0 (.loop [1,1,0,0,0,1,0,0,0,0,0,0,0,0,0,0,0,0,0,0,0,0,0,0,0,0,0,0,0,0,0,0,0,0,0,0,0,0,0] (.seq (.seq (.reg [⟨some 6,none,.mv (.t 5)⟩,⟨some 7,none,.mv (.t 0)⟩,⟨some 8,none,.len false (.t 7)⟩,⟨some 9,none,.bin .lss false (.t 6) (.t 8)⟩]) (.cond (.t 9) .skip (.exit 0))) (.seq (.block 1 (.seq (.reg [⟨some 12,none,.mv (.t 0)⟩,⟨some 13,none,.mv (.t 5)⟩,⟨some 14,none,.mv (.t 1)⟩,⟨some 15,none,.bin .rem false (.t 14) (.c (.int .i64 3))⟩,⟨some 16,none,.bin .eql false (.t 15) (.c (.int .i64 0))⟩,⟨some 17,none,.iaddr 3 (.t 12) (.t 13)⟩,⟨some 18,none,.faddr 0 (.t 17)⟩,⟨none,none,(.store 1 (.t 18) (.t 16))⟩]) (.seq (.reg [⟨some 19,none,.mv (.t 1)⟩,⟨some 20,none,.bin .add false (.t 19) (.c (.int .i64 1))⟩,⟨some 1,none,.mv (.t 20)⟩]) (.seq (.reg [⟨some 21,none,.mv (.t 0)⟩,⟨some 22,none,.mv (.t 5)⟩,⟨some 23,none,.mv (.t 1)⟩,⟨some 24,none,.call 61 [(.t 23)]⟩,⟨some 25,none,.iaddr 3 (.t 21) (.t 22)⟩,⟨some 26,none,.faddr 1 (.t 25)⟩,⟨some 27,none,.faddr 0 (.t 26)⟩,⟨none,none,(.store 1 (.t 27) (.t 24))⟩]) (.seq (.reg [⟨some 28,none,.mv (.t 1)⟩,⟨some 29,none,.bin .add false (.t 28) (.c (.int .i64 1))⟩,⟨some 1,none,.mv (.t 29)⟩]) (.reg [⟨some 30,none,.mv (.t 0)⟩,⟨some 31,none,.mv (.t 5)⟩,⟨some 32,none,.iaddr 3 (.t 30) (.t 31)⟩,⟨some 33,none,.faddr 1 (.t 32)⟩,⟨some 34,none,.faddr 1 (.t 33)⟩,⟨some 35,none,.load false 1 (.t 34)⟩,⟨some 36,none,.mv (.t 1)⟩,⟨some 37,none,.call 62 [(.t 35),(.t 36)]⟩,⟨some 1,none,.mv (.t 37)⟩])))))) (.reg [⟨some 10,none,.mv (.t 5)⟩,⟨some 11,none,.bin .add false (.t 10) (.c (.int .i64 1))⟩,⟨some 5,none,.mv (.t 11)⟩])))))) (.seq (.reg [⟨some 38,none,.mv (.t 1)⟩,⟨some 4,none,.mv (.t 38)⟩]) .ret)))
theorem LS:codeOf Tryz.prog 35=some ⟨39,G6,[(.tmp 4)]⟩:=by kernel_rfl
theorem Ev:modes 35=⟨[true],.asis,none,true⟩:=by unfold modes; rfl
abbrev KZ (xs:List Lt):Prop:=∀ (k:Int) (ob:List Ob),1≤k→k+Lt.wtS xs≤1099511627776→toTree ob=[.tree (xs.map Lt.o) []]→E 35 [.ref 0,.int .i64 k] ob=some (.int .i64 (Lt.mkS xs k).2,[.tree ((Lt.mkS xs k).1.map Lt.o) []])
theorem NK (xs:List Lt):KZ xs:=by
 intro k0 ob h1 h2 hob
 have hlen:ob.length=1:=by rw [←GU,hob]; rfl
 have hL:=Lt.length_wt xs
 refine Af LS Ev (of_decide_eq_true rfl) ?_
 simp (disch:=omega) only [G6,go_sem,Aa,hob,hlen]
 refine go_loop (α:=Int × (Int) × (List Lt)) (fun a=>⟨slots 39 0 [(0,.ref 0),(1,.int .i64 (a.2.1)),(5,.int .i64 (a.1))],[.tree (((a.2.2)++xs.drop (a.1).toNat).map Lt.o) []]⟩) (fun a=>∃ k:Nat,a.1=k∧k≤(xs).length∧(a.2.2).length=k∧1≤(a.2.1)∧(a.2.1)+Lt.wtS (xs.drop k)=k0+Lt.wtS xs∧Lt.mkS xs k0=((a.2.2)++(Lt.mkS (xs.drop k) (a.2.1)).1,(Lt.mkS (xs.drop k) (a.2.1)).2)) (fun a=>(xs).length-(a.1).toNat) (0,k0,[]) ⟨0,rfl,zH _,rfl,h1,by rw [zG],by simp⟩ (by simp (disch:=omega) only [go_sem,Aa,z8]) ?_
 rintro ⟨i,kk,dn⟩ ⟨k,hi,hk,hR⟩
 dsimp only at hi hR
 have hni:i.toNat=k:=by omega
 have hni1:(i+1).toNat=k+1:=by omega
 rcases zB k (xs).length with hlt | hge
 ·obtain ⟨hd,hk1,hkn,hm⟩:=hR
  have hdr:xs.drop k=xs[k] :: xs.drop (k+1):=zC hlt
  have hel:(dn++xs.drop k).length=xs.length:=by simp; omega
  have hg:(List.map Lt.o (dn++xs.drop k))[k]?=some [.bool xs[k].pos,.str xs[k].atom.name,.ow (xs[k].atom.args.map Tm.o)]:=by
   rw [←Lt.o_eq,hdr,List.getElem?_map,yU (by omega),hd,Nat.sub_self]; rfl
  rw [hdr,Lt.wtS] at hkn
  rw [hdr,Lt.mkS] at hm
  have hn1:=Lt.wt_eq xs[k]
  have e2:=Tm.mkS_end xs[k].atom.args ((kk+1+1))
  have t0:=J8 (k:=(kk+1)) (by omega) (by omega)
  have c64:=Xv xs[k].atom.args ((kk+1+1)) [.tree (xs[k].atom.args.map Tm.o) []] (by omega) (by omega) rfl
  have hs:=KF Lt.o dn (xs.drop (k+1)) xs[k] (xs[k].mk1 kk).1 hd
  rw [Lt.mk1_o,← hdr] at hs
  have hgs:∀ a,((List.map Lt.o (dn++xs.drop k)).set k a)[k]?=some a:=fun a=>List.getElem?_set_self (by rw [zE,hel]; exact hlt)
  have he:=Lt.mk1_end xs[k] kk
  have three:∀ z:Int,dec ((3:Int)=0)=false:=fun _=>Az (by omega)
  simp (disch:=omega) only [go_sem,Aa,hni,hel,hg,t0,c64,FB,CI,hgs,List.length_set,List.set_set,hs,three 0]
  refine ⟨(i+1,(xs[k].mk1 kk).2,dn++[(xs[k].mk1 kk).1]),⟨k+1,by dsimp only; omega,hlt,by dsimp only; simp [hd],by dsimp only; omega,by dsimp only; omega,by rw [hm]; simp⟩,by dsimp only; omega,?_⟩
  dsimp only
  rw [hni1,Lt.mk1_eq]
  refine ⟨⟨?_,rfl⟩,rfl⟩
  first | rfl | omega
 ·obtain ⟨hd,hk1,hkn,hm⟩:=hR
  have hdr:xs.drop k=[]:=zF hge
  rw [hdr,Lt.mkS] at hm
  rw [hm]
  simp (disch:=omega) only [go_sem,Aa,hni,hdr,yZ]
theorem La (xs:List Lt):KZ xs:=NK xs
def Jg:SC:=(.seq (.reg [⟨some 4,none,.mv (.c (.int .i64 0))⟩]) (.seq (.seq (.reg [⟨some 5,none,.mv (.c (.int .i64 0))⟩]) (.block 0 (.loop [1,1,0,0,0,1,0,0,0,0,0,0,0,0,0,0,0,0,0,0,0,0,0,0,0,0,0,0,0,0,0,0] (.seq (.seq (.reg [⟨some 6,none,.mv (.t 5)⟩,⟨some 7,none,.mv (.t 0)⟩,⟨some 8,none,.len false (.t 7)⟩,⟨some 9,none,.bin .lss false (.t 6) (.t 8)⟩]) (.cond (.t 9) .skip (.exit 0))) (.seq (.block 1 (.seq (.seq (.dreg [[],[],[0,1],[2,0,1],[3,2,0,1],[],[5],[4,3,2,0,1,6,5]] [⟨some 12,none,.mv (.t 0)⟩,⟨some 13,none,.mv (.t 5)⟩,⟨some 14,none,.iaddr 2 (.t 12) (.t 13)⟩,⟨some 15,none,.faddr 0 (.t 14)⟩,⟨some 16,none,.load false 1 (.t 15)⟩,⟨some 17,none,.mv (.t 1)⟩,⟨some 18,none,.call 61 [(.t 17)]⟩,⟨some 19,none,.bin .neq false (.t 16) (.t 18)⟩]) (.cond (.t 19) (.seq (.reg [⟨some 4,none,.mv (.c (.int .i64 (-(0+1))))⟩]) .ret) .skip)) (.seq (.reg [⟨some 20,none,.mv (.t 1)⟩,⟨some 21,none,.bin .add false (.t 20) (.c (.int .i64 1))⟩,⟨some 1,none,.mv (.t 21)⟩]) (.seq (.reg [⟨some 22,none,.mv (.t 0)⟩,⟨some 23,none,.mv (.t 5)⟩,⟨some 24,none,.iaddr 2 (.t 22) (.t 23)⟩,⟨some 25,none,.faddr 1 (.t 24)⟩,⟨some 26,none,.load false 1 (.t 25)⟩,⟨some 27,none,.mv (.t 1)⟩,⟨some 28,none,.call 63 [(.t 26),(.t 27)]⟩,⟨some 1,none,.mv (.t 28)⟩]) (.seq (.reg [⟨some 29,none,.mv (.t 1)⟩,⟨some 30,none,.bin .lss false (.t 29) (.c (.int .i64 0))⟩]) (.cond (.t 30) (.seq (.reg [⟨some 4,none,.mv (.c (.int .i64 (-(0+1))))⟩]) .ret) .skip)))))) (.reg [⟨some 10,none,.mv (.t 5)⟩,⟨some 11,none,.bin .add false (.t 10) (.c (.int .i64 1))⟩,⟨some 5,none,.mv (.t 11)⟩])))))) (.seq (.reg [⟨some 31,none,.mv (.t 1)⟩,⟨some 4,none,.mv (.t 31)⟩]) .ret)))
theorem OW:codeOf Tryz.prog 63=some ⟨32,Jg,[(.tmp 4)]⟩:=by kernel_rfl
theorem FD:modes 63=⟨[],.asis,none,false⟩:=by unfold modes; rfl
theorem Tm.mkS_len:∀ (xs:List Tm) (k:Int),(Tm.mkS xs k).1.length=xs.length
 | [],k=>by rw [Tm.mkS]
 | x :: xs,k=>by rw [Tm.mkS]; simp only [zL]; rw [Tm.mkS_len xs]
abbrev Ib (xs:List Tm):Prop:=∀ k:Int,1≤k→k+Tm.wtS xs≤1099511627776→E 63 [.arr ((Tm.mkS xs k).1.map Tm.d),.int .i64 k] []=some (.int .i64 (Tm.mkS xs k).2,[])
theorem Lb (xs:List Tm) (ih:∀ x∈xs,Ib x.args):Ib xs:=by
 intro k0 h1 h2
 obtain ⟨ys,hys⟩:∃ ys,ys=(Tm.mkS xs k0).1:=⟨_,rfl⟩
 have hyl:ys.length=xs.length:=by rw [hys,Tm.mkS_len]
 rw [←hys]
 have hL:=Tm.length_wt xs
 refine Af OW FD (of_decide_eq_true rfl) ?_
 simp (disch:=omega) only [Jg,go_sem,Aa]
 refine go_loop (α:=Int × (Int)) (fun a=>⟨slots 32 0 [(0,.arr (ys.map Tm.d)),(1,.int .i64 (a.2)),(5,.int .i64 (a.1))],[]⟩) (fun a=>∃ k:Nat,a.1=k∧k≤(ys).length∧1≤(a.2)∧(a.2)+Tm.wtS (xs.drop k)=k0+Tm.wtS xs∧ys.drop k=(Tm.mkS (xs.drop k) (a.2)).1∧(Tm.mkS xs k0).2=(Tm.mkS (xs.drop k) (a.2)).2) (fun a=>(ys).length-(a.1).toNat) (0,k0) ⟨0,rfl,zH _,h1,by rw [zG],by rw [zG,zG,hys],by rw [zG]⟩ (by simp (disch:=omega) only [go_sem,Aa]) ?_
 rintro ⟨i,kk⟩ ⟨k,hi,hk,hR⟩
 dsimp only at hi hR
 have hni:i.toNat=k:=by omega
 have hni1:(i+1).toNat=k+1:=by omega
 rcases zB k (ys).length with hlt | hge
 ·obtain ⟨hk1,hkn,hy,hm⟩:=hR
  have hlx:k<xs.length:=by omega
  have hdr:xs.drop k=xs[k] :: xs.drop (k+1):=zC hlx
  have hdy:=zC hlt
  rw [hdr,Tm.wtS] at hkn
  rw [hdr,Tm.mkS] at hm
  rw [hdr,Tm.mkS,hdy] at hy
  dsimp only at hy hm
  obtain ⟨hy1,hy2⟩:=yX hy
  have hg:=get_at Tm.d hlt
  rw [hy1,Tm.mk1_d] at hg
  have hn1:=Tm.wt_eq xs[k]
  have e1:=Tm.mkS_end xs[k].args ((kk+1))
  have t0:=J8 (k:=kk) (by omega) (by omega)
  have c58:=ih xs[k] (zD hlx) ((kk+1)) (by omega) (by omega)
  have he:=Tm.mk1_end xs[k] kk
  simp (disch:=omega) only [go_sem,Aa,hni,hg,CI,Di,t0,c58,FD]
  refine ⟨(i+1,(xs[k].mk1 kk).2),⟨k+1,by dsimp only; omega,hlt,by dsimp only; omega,by dsimp only; omega,hy2,hm⟩,by dsimp only; omega,?_⟩
  dsimp only
  rw [Tm.mk1_eq]
  simp only [and_self,and_true,true_and]
  try omega
 ·obtain ⟨hk1,hkn,hy,hm⟩:=hR
  have hdr:xs.drop k=[]:=zF (by omega)
  rw [hdr,Tm.mkS] at hm
  rw [hm]
  simp (disch:=omega) only [go_sem,Aa,hni]
theorem NL (x:Tm):Ib x.args:=Lb x.args fun y hy=>NL y
termination_by SizeOf.sizeOf x
decreasing_by exact Tm.Aw hy
theorem Xw (xs:List Tm):Ib xs:=Lb xs fun y _=>NL y
def G7:SC:=(.seq (.reg [⟨some 4,none,.mv (.c (.int .i64 0))⟩]) (.seq (.seq (.reg [⟨some 5,none,.mv (.c (.int .i64 0))⟩]) (.block 0 (.loop [1,1,0,0,0,1,0,0,0,0,0,0,0,0,0,0,0,0,0,0,0,0,0,0,0,0,0,0,0,0,0,0,0,0,0,0,0,0,0,0,0,0,0,0,0] (.seq (.seq (.reg [⟨some 6,none,.mv (.t 5)⟩,⟨some 7,none,.mv (.t 0)⟩,⟨some 8,none,.len false (.t 7)⟩,⟨some 9,none,.bin .lss false (.t 6) (.t 8)⟩]) (.cond (.t 9) .skip (.exit 0))) (.seq (.block 1 (.seq (.seq (.reg [⟨some 12,none,.mv (.t 0)⟩,⟨some 13,none,.mv (.t 5)⟩,⟨some 14,none,.iaddr 3 (.t 12) (.t 13)⟩,⟨some 15,none,.faddr 0 (.t 14)⟩,⟨some 16,none,.load false 1 (.t 15)⟩,⟨some 17,none,.mv (.t 1)⟩,⟨some 18,none,.bin .rem false (.t 17) (.c (.int .i64 3))⟩,⟨some 19,none,.bin .eql false (.t 18) (.c (.int .i64 0))⟩,⟨some 20,none,.bin .neq true (.t 16) (.t 19)⟩]) (.cond (.t 20) (.seq (.reg [⟨some 4,none,.mv (.c (.int .i64 (-(0+1))))⟩]) .ret) .skip)) (.seq (.reg [⟨some 21,none,.mv (.t 1)⟩,⟨some 22,none,.bin .add false (.t 21) (.c (.int .i64 1))⟩,⟨some 1,none,.mv (.t 22)⟩]) (.seq (.seq (.dreg [[],[],[0,1],[2,0,1],[3,2,0,1],[4,3,2,0,1],[],[6],[5,4,3,2,0,1,7,6]] [⟨some 23,none,.mv (.t 0)⟩,⟨some 24,none,.mv (.t 5)⟩,⟨some 25,none,.iaddr 3 (.t 23) (.t 24)⟩,⟨some 26,none,.faddr 1 (.t 25)⟩,⟨some 27,none,.faddr 0 (.t 26)⟩,⟨some 28,none,.load false 1 (.t 27)⟩,⟨some 29,none,.mv (.t 1)⟩,⟨some 30,none,.call 61 [(.t 29)]⟩,⟨some 31,none,.bin .neq false (.t 28) (.t 30)⟩]) (.cond (.t 31) (.seq (.reg [⟨some 4,none,.mv (.c (.int .i64 (-(0+1))))⟩]) .ret) .skip)) (.seq (.reg [⟨some 32,none,.mv (.t 1)⟩,⟨some 33,none,.bin .add false (.t 32) (.c (.int .i64 1))⟩,⟨some 1,none,.mv (.t 33)⟩]) (.seq (.reg [⟨some 34,none,.mv (.t 0)⟩,⟨some 35,none,.mv (.t 5)⟩,⟨some 36,none,.iaddr 3 (.t 34) (.t 35)⟩,⟨some 37,none,.faddr 1 (.t 36)⟩,⟨some 38,none,.faddr 1 (.t 37)⟩,⟨some 39,none,.load false 1 (.t 38)⟩,⟨some 40,none,.mv (.t 1)⟩,⟨some 41,none,.call 63 [(.t 39),(.t 40)]⟩,⟨some 1,none,.mv (.t 41)⟩]) (.seq (.reg [⟨some 42,none,.mv (.t 1)⟩,⟨some 43,none,.bin .lss false (.t 42) (.c (.int .i64 0))⟩]) (.cond (.t 43) (.seq (.reg [⟨some 4,none,.mv (.c (.int .i64 (-(0+1))))⟩]) .ret) .skip)))))))) (.reg [⟨some 10,none,.mv (.t 5)⟩,⟨some 11,none,.bin .add false (.t 10) (.c (.int .i64 1))⟩,⟨some 5,none,.mv (.t 11)⟩])))))) (.seq (.reg [⟨some 44,none,.mv (.t 1)⟩,⟨some 4,none,.mv (.t 44)⟩]) .ret)))
theorem LT:codeOf Tryz.prog 36=some ⟨45,G7,[(.tmp 4)]⟩:=by kernel_rfl
theorem G8:modes 36=⟨[],.asis,none,false⟩:=by unfold modes; rfl
theorem Lt.mkS_len:∀ (xs:List Lt) (k:Int),(Lt.mkS xs k).1.length=xs.length
 | [],k=>by rw [Lt.mkS]
 | x :: xs,k=>by rw [Lt.mkS]; simp only [zL]; rw [Lt.mkS_len xs]
abbrev Lc (xs:List Lt):Prop:=∀ k:Int,1≤k→k+Lt.wtS xs≤1099511627776→E 36 [.arr ((Lt.mkS xs k).1.map Lt.d),.int .i64 k] []=some (.int .i64 (Lt.mkS xs k).2,[])
theorem NM (xs:List Lt):Lc xs:=by
 intro k0 h1 h2
 obtain ⟨ys,hys⟩:∃ ys,ys=(Lt.mkS xs k0).1:=⟨_,rfl⟩
 have hyl:ys.length=xs.length:=by rw [hys,Lt.mkS_len]
 rw [←hys]
 have hL:=Lt.length_wt xs
 refine Af LT G8 (of_decide_eq_true rfl) ?_
 simp (disch:=omega) only [G7,go_sem,Aa]
 refine go_loop (α:=Int × (Int)) (fun a=>⟨slots 45 0 [(0,.arr (ys.map Lt.d)),(1,.int .i64 (a.2)),(5,.int .i64 (a.1))],[]⟩) (fun a=>∃ k:Nat,a.1=k∧k≤(ys).length∧1≤(a.2)∧(a.2)+Lt.wtS (xs.drop k)=k0+Lt.wtS xs∧ys.drop k=(Lt.mkS (xs.drop k) (a.2)).1∧(Lt.mkS xs k0).2=(Lt.mkS (xs.drop k) (a.2)).2) (fun a=>(ys).length-(a.1).toNat) (0,k0) ⟨0,rfl,zH _,h1,by rw [zG],by rw [zG,zG,hys],by rw [zG]⟩ (by simp (disch:=omega) only [go_sem,Aa]) ?_
 rintro ⟨i,kk⟩ ⟨k,hi,hk,hR⟩
 dsimp only at hi hR
 have hni:i.toNat=k:=by omega
 have hni1:(i+1).toNat=k+1:=by omega
 rcases zB k (ys).length with hlt | hge
 ·obtain ⟨hk1,hkn,hy,hm⟩:=hR
  have hlx:k<xs.length:=by omega
  have hdr:xs.drop k=xs[k] :: xs.drop (k+1):=zC hlx
  have hdy:=zC hlt
  rw [hdr,Lt.wtS] at hkn
  rw [hdr,Lt.mkS] at hm
  rw [hdr,Lt.mkS,hdy] at hy
  dsimp only at hy hm
  obtain ⟨hy1,hy2⟩:=yX hy
  have hg:=get_at Lt.d hlt
  rw [hy1,Lt.mk1_d] at hg
  have hn1:=Lt.wt_eq xs[k]
  have e2:=Tm.mkS_end xs[k].atom.args ((kk+1+1))
  have t0:=J8 (k:=(kk+1)) (by omega) (by omega)
  have c64:=Xw xs[k].atom.args ((kk+1+1)) (by omega) (by omega)
  have he:=Lt.mk1_end xs[k] kk
  simp (disch:=omega) only [go_sem,Aa,hni,hg,CI,Di,t0,c64,FD]
  refine ⟨(i+1,(xs[k].mk1 kk).2),⟨k+1,by dsimp only; omega,hlt,by dsimp only; omega,by dsimp only; omega,hy2,hm⟩,by dsimp only; omega,?_⟩
  dsimp only
  rw [Lt.mk1_eq]
  simp only [and_self,and_true,true_and]
  try omega
 ·obtain ⟨hk1,hkn,hy,hm⟩:=hR
  have hdr:xs.drop k=[]:=zF (by omega)
  rw [hdr,Lt.mkS] at hm
  rw [hm]
  simp (disch:=omega) only [go_sem,Aa,hni]
theorem Sc (xs:List Lt):Lc xs:=NM xs
theorem Qew {o:Ob} {es:List (List OT)} (h:toTree [o]=[.tree es []]):(∃ a b,o=.row a b es)∨o=.tree es []:=by
 cases o with
 | row a b e=>obtain ⟨h1,h2⟩:=yX h; cases h1; exact .inl ⟨a,b,rfl⟩
 | tree e hs=>obtain ⟨h1,h2⟩:=yX h; cases h1; exact .inr rfl
 | _=>simp [toTree] at h
noncomputable def Cl.mkr (x:Cl) (k:Int):Cl × Int:=((Cl.mk ((Lt.mkS x.lits k).1)),(Lt.mkS x.lits k).2)
def Ic:SC:=(.seq (.reg [⟨some 2,none,.boxv 28 1 (.t 0)⟩,⟨some 4,none,.mv (.c (.int .i64 0))⟩]) (.seq (.reg [⟨some 5,none,.faddr 0 (.t 2)⟩,⟨some 6,none,.load false 1 (.t 5)⟩,⟨some 7,none,.mv (.t 1)⟩,⟨some 8,none,.call 35 [(.t 6),(.t 7)]⟩,⟨some 1,none,.mv (.t 8)⟩]) (.seq (.reg [⟨some 9,none,.mv (.t 1)⟩,⟨some 4,none,.mv (.t 9)⟩]) .ret)))
theorem NN:codeOf Tryz.prog 13=some ⟨10,Ic,[(.tmp 4)]⟩:=by kernel_rfl
theorem CQ:modes 13=⟨[true],.asis,none,false⟩:=by unfold modes; rfl
theorem Vz (x:Cl) (k:Int) (o0:Ob) (h1:1≤k) (h2:k+(Lt.wtS x.lits:Nat)≤1099511627776) (t0:toTree [o0]=[.tree (x.lits.map Lt.o) []]):E 13 [.agg [.ref 0],.int .i64 k] [o0]=some (.int .i64 (x.mkr k).2,[.tree ((Lt.mkS x.lits k).1.map Lt.o) []]):=by
 have e0:=Lt.mkS_end x.lits k
 rw [Cl.mkr]
 dsimp only
 have c0:=La x.lits k [o0] (by omega) (by omega) t0
 rcases Qew t0 with ⟨a0,b0,rfl⟩ | rfl <;>
  (
  refine Af NN CQ (of_decide_eq_true rfl) ?_
  simp (disch:=omega) only [Ic,go_sem,Aa,c0,Ev])
def Ml:SC:=(.seq (.reg [⟨some 2,none,.boxv 65 2 (.t 0)⟩,⟨some 4,none,.mv (.c (.int .i64 0))⟩]) (.seq (.reg [⟨some 5,none,.mv (.t 1)⟩,⟨some 6,none,.faddr 0 (.t 2)⟩,⟨some 7,none,.load false 1 (.t 6)⟩,⟨some 8,none,.len true (.t 7)⟩,⟨some 9,none,.bin .sub false (.t 5) (.t 8)⟩,⟨some 1,none,.mv (.t 9)⟩]) (.seq (.seq (.reg [⟨some 10,none,.mv (.t 1)⟩,⟨some 11,none,.bin .lss false (.t 10) (.c (.int .i64 0))⟩]) (.cond (.t 11) (.seq (.reg [⟨some 4,none,.mv (.c (.int .i64 (-(0+1))))⟩]) .ret) .skip)) (.seq (.reg [⟨some 12,none,.faddr 1 (.t 2)⟩,⟨some 13,none,.load false 1 (.t 12)⟩,⟨some 14,none,.mv (.t 1)⟩,⟨some 15,none,.call 102 [(.t 13),(.t 14)]⟩,⟨some 1,none,.mv (.t 15)⟩]) (.seq (.seq (.reg [⟨some 16,none,.mv (.t 1)⟩,⟨some 17,none,.bin .lss false (.t 16) (.c (.int .i64 0))⟩]) (.cond (.t 17) (.seq (.reg [⟨some 4,none,.mv (.c (.int .i64 (-(0+1))))⟩]) .ret) .skip)) (.seq (.reg [⟨some 18,none,.mv (.t 1)⟩,⟨some 4,none,.mv (.t 18)⟩]) .ret))))))
theorem SZ:codeOf Tryz.prog 71=some ⟨19,Ml,[(.tmp 4)]⟩:=by kernel_rfl
theorem FP:modes 71=⟨[],.asis,none,false⟩:=by unfold modes; rfl
def Le:SC:=(.seq (.reg [⟨some 4,none,.mv (.c (.int .i64 0))⟩]) (.seq (.reg [⟨some 6,none,.mv (.t 1)⟩,⟨some 7,none,.mv (.t 0)⟩,⟨some 8,none,.len false (.t 7)⟩,⟨some 9,none,.bin .sub false (.t 6) (.t 8)⟩,⟨some 1,none,.mv (.t 9)⟩]) (.seq (.seq (.reg [⟨some 10,none,.mv (.t 1)⟩,⟨some 11,none,.bin .lss false (.t 10) (.c (.int .i64 0))⟩]) (.cond (.t 11) (.seq (.reg [⟨some 4,none,.mv (.c (.int .i64 (-(0+1))))⟩]) .ret) .skip)) (.seq (.seq (.reg [⟨some 5,none,.mv (.c (.int .i64 0))⟩]) (.block 0 (.loop [1,1,0,0,0,1,0,0,0,0,0,0,0,0,0,0,0,0,0,0,0,0,0,0,0,0,0] (.seq (.seq (.reg [⟨some 12,none,.mv (.t 5)⟩,⟨some 13,none,.mv (.t 0)⟩,⟨some 14,none,.len false (.t 13)⟩,⟨some 15,none,.bin .lss false (.t 12) (.t 14)⟩]) (.cond (.t 15) .skip (.exit 0))) (.seq (.block 1 (.seq (.reg [⟨some 18,none,.mv (.t 0)⟩,⟨some 19,none,.mv (.t 5)⟩,⟨some 20,none,.iaddr 2 (.t 18) (.t 19)⟩,⟨some 21,none,.load true 2 (.t 20)⟩,⟨some 22,none,.mv (.t 1)⟩,⟨some 23,none,.call 71 [(.t 21),(.t 22)]⟩,⟨some 1,none,.mv (.t 23)⟩]) (.seq (.reg [⟨some 24,none,.mv (.t 1)⟩,⟨some 25,none,.bin .lss false (.t 24) (.c (.int .i64 0))⟩]) (.cond (.t 25) (.seq (.reg [⟨some 4,none,.mv (.c (.int .i64 (-(0+1))))⟩]) .ret) .skip)))) (.reg [⟨some 16,none,.mv (.t 5)⟩,⟨some 17,none,.bin .add false (.t 16) (.c (.int .i64 1))⟩,⟨some 5,none,.mv (.t 17)⟩])))))) (.seq (.reg [⟨some 26,none,.mv (.t 1)⟩,⟨some 4,none,.mv (.t 26)⟩]) .ret)))))
theorem Sd:codeOf Tryz.prog 102=some ⟨27,Le,[(.tmp 4)]⟩:=by kernel_rfl
theorem Hy:modes 102=⟨[],.asis,none,false⟩:=by unfold modes; rfl
abbrev NO (x:Tm):Prop:=D.fits x.d→∀ left:Int,0≤left→left≤1048576→E 71 [x.sv,.int .i64 left] []=some (.int .i64 (szR left x.bulk),[])
abbrev Ut (xs:List Tm):Prop:=D.fit (.arr (xs.map Tm.d))→∀ left:Int,0≤left→left≤1048576→E 102 [.arr (xs.map Tm.d),.int .i64 left] []=some (.int .i64 (szR left (xs.length+Tm.sumB xs:Nat)),[])
theorem V3 (xs:List Tm) (h:∀ x∈xs,NO x):Ut xs:=by
 intro hfit left h0 h1
 simp only [D.fit,zE] at hfit
 have q0:=BJ left (xs.length+Tm.sumB xs)
 refine Af Sd Hy (of_decide_eq_true rfl) ?_
 simp (disch:=omega) only [Le,go_sem,Aa]
 repeat' (refine Dw (fun hq=>?_) (fun hq=>?_) <;> (first | replace hq:=Ax.1 hq | replace hq:=CF.1 hq) <;> (try simp (disch:=omega) only [go_sem,Aa]))
 ·omega
 refine go_loop (α:=Int × Int) (fun a=>⟨slots 27 0 [(0,.arr (xs.map Tm.d)),(1,.int .i64 a.2),(5,.int .i64 a.1)],[]⟩) (fun a=>∃ k:Nat,a.1=k∧k≤xs.length∧0≤a.2∧a.2≤1048576∧szR a.2 (Tm.sumB (xs.drop k))=szR left (xs.length+Tm.sumB xs:Nat)) (fun a=>xs.length-a.1.toNat) (0,left-xs.length) ⟨0,rfl,zH _,by omega,by omega,?_⟩ (by simp (disch:=omega) only [go_sem,Aa]) ?_
 ·have q1:=BJ (left-xs.length) (Tm.sumB xs)
  rw [zG]
  dsimp only
  omega
 ·rintro ⟨i,l⟩ ⟨k,hi,hk,hl0,hl1,hs⟩
  dsimp only at hi hl0 hl1 hs
  rcases zB k xs.length with hlt | hge
  ·have hg:=get_at Tm.d hlt
   rw [Tm.d_eq] at hg
   have hd:Tm.sumB (xs.drop k)=xs[k].bulk+Tm.sumB (xs.drop (k+1)):=by rw [zC hlt,Tm.sumB]
   rw [hd] at hs
   have hc:=h xs[k] (zD hlt) (D.OF hfit.2 _ (zD hlt)) l hl0 hl1
   have q1:=BJ l xs[k].bulk
   have q2:=BJ l (xs[k].bulk+Tm.sumB (xs.drop (k+1)))
   have q3:=BJ (l-xs[k].bulk) (Tm.sumB (xs.drop (k+1)))
   have hn:i.toNat=k:=by omega
   simp (disch:=omega) only [go_sem,Aa,hn,hg,hc,FP]
   repeat' (refine Dw (fun hq=>?_) (fun hq=>?_) <;> (first | replace hq:=Ax.1 hq | replace hq:=CF.1 hq) <;> (try simp (disch:=omega) only [go_sem,Aa]))
   ·omega
   ·refine ⟨(i+1,l-xs[k].bulk),⟨k+1,by dsimp only; omega,hlt,by dsimp only; omega,by dsimp only; omega,by dsimp only; omega⟩,by dsimp only; omega,?_⟩
    have e:szR l xs[k].bulk=l-xs[k].bulk:=by omega
    simp only [e,and_self]
  ·have hd:xs.drop k=[]:=zF hge
   rw [hd] at hs
   have q1:=BJ l (Tm.sumB [])
   simp only [Tm.sumB] at hs q1
   simp (disch:=omega) only [go_sem,Aa]
   omega
theorem Xx (x:Tm) (h_args:Ut x.args):NO x:=by
 intro hfit left h0 h1
 rw [Tm.d_eq] at hfit
 simp only [D.fits,D.fit] at hfit
 replace h_args:=h_args (by simp only [D.fit,zE]; simp only [zE] at hfit; simp only [hfit,and_self])
 have q:=BJ left x.bulk
 have qb:=Tm.bulk_eq x
 have q0:=BJ (left-(x.name.size:Int)) ((x.args.length+Tm.sumB x.args))
 refine Af SZ FP (of_decide_eq_true rfl) ?_
 simp (disch:=omega) only [Ml,go_sem,Aa,h_args,Hy]
 repeat' (refine Dw (fun hq=>?_) (fun hq=>?_) <;> (first | replace hq:=Ax.1 hq | replace hq:=CF.1 hq) <;> (try simp (disch:=omega) only [go_sem,Aa,h_args,Hy]))
 all_goals omega
theorem Xy (x:Tm):NO x:=Xx x (V3 x.args fun y hy=>Xy y)
termination_by SizeOf.sizeOf x
decreasing_by exact Tm.Aw hy
def Jh:SC:=(.seq (.reg [⟨some 2,none,.boxv 67 3 (.t 0)⟩,⟨some 4,none,.mv (.c (.int .i64 0))⟩]) (.seq (.reg [⟨some 5,none,.faddr 1 (.t 2)⟩,⟨some 6,none,.load true 2 (.t 5)⟩,⟨some 7,none,.mv (.t 1)⟩,⟨some 8,none,.call 71 [(.t 6),(.t 7)]⟩,⟨some 1,none,.mv (.t 8)⟩]) (.seq (.seq (.reg [⟨some 9,none,.mv (.t 1)⟩,⟨some 10,none,.bin .lss false (.t 9) (.c (.int .i64 0))⟩]) (.cond (.t 10) (.seq (.reg [⟨some 4,none,.mv (.c (.int .i64 (-(0+1))))⟩]) .ret) .skip)) (.seq (.reg [⟨some 11,none,.mv (.t 1)⟩,⟨some 4,none,.mv (.t 11)⟩]) .ret))))
theorem OX:codeOf Tryz.prog 46=some ⟨12,Jh,[(.tmp 4)]⟩:=by kernel_rfl
theorem Ji:modes 46=⟨[],.asis,none,false⟩:=by unfold modes; rfl
def Id:SC:=(.seq (.reg [⟨some 4,none,.mv (.c (.int .i64 0))⟩]) (.seq (.reg [⟨some 6,none,.mv (.t 1)⟩,⟨some 7,none,.mv (.t 0)⟩,⟨some 8,none,.len false (.t 7)⟩,⟨some 9,none,.bin .sub false (.t 6) (.t 8)⟩,⟨some 1,none,.mv (.t 9)⟩]) (.seq (.seq (.reg [⟨some 10,none,.mv (.t 1)⟩,⟨some 11,none,.bin .lss false (.t 10) (.c (.int .i64 0))⟩]) (.cond (.t 11) (.seq (.reg [⟨some 4,none,.mv (.c (.int .i64 (-(0+1))))⟩]) .ret) .skip)) (.seq (.seq (.reg [⟨some 5,none,.mv (.c (.int .i64 0))⟩]) (.block 0 (.loop [1,1,0,0,0,1,0,0,0,0,0,0,0,0,0,0,0,0,0,0,0,0,0,0,0,0,0] (.seq (.seq (.reg [⟨some 12,none,.mv (.t 5)⟩,⟨some 13,none,.mv (.t 0)⟩,⟨some 14,none,.len false (.t 13)⟩,⟨some 15,none,.bin .lss false (.t 12) (.t 14)⟩]) (.cond (.t 15) .skip (.exit 0))) (.seq (.block 1 (.seq (.reg [⟨some 18,none,.mv (.t 0)⟩,⟨some 19,none,.mv (.t 5)⟩,⟨some 20,none,.iaddr 3 (.t 18) (.t 19)⟩,⟨some 21,none,.load true 3 (.t 20)⟩,⟨some 22,none,.mv (.t 1)⟩,⟨some 23,none,.call 46 [(.t 21),(.t 22)]⟩,⟨some 1,none,.mv (.t 23)⟩]) (.seq (.reg [⟨some 24,none,.mv (.t 1)⟩,⟨some 25,none,.bin .lss false (.t 24) (.c (.int .i64 0))⟩]) (.cond (.t 25) (.seq (.reg [⟨some 4,none,.mv (.c (.int .i64 (-(0+1))))⟩]) .ret) .skip)))) (.reg [⟨some 16,none,.mv (.t 5)⟩,⟨some 17,none,.bin .add false (.t 16) (.c (.int .i64 1))⟩,⟨some 5,none,.mv (.t 17)⟩])))))) (.seq (.reg [⟨some 26,none,.mv (.t 1)⟩,⟨some 4,none,.mv (.t 26)⟩]) .ret)))))
theorem NP:codeOf Tryz.prog 28=some ⟨27,Id,[(.tmp 4)]⟩:=by kernel_rfl
theorem Fp:modes 28=⟨[],.asis,none,false⟩:=by unfold modes; rfl
abbrev Lf (x:Lt):Prop:=D.fits x.d→∀ left:Int,0≤left→left≤1048576→E 46 [x.sv,.int .i64 left] []=some (.int .i64 (szR left x.bulk),[])
abbrev NQ (xs:List Lt):Prop:=D.fit (.arr (xs.map Lt.d))→∀ left:Int,0≤left→left≤1048576→E 28 [.arr (xs.map Lt.d),.int .i64 left] []=some (.int .i64 (szR left (xs.length+Lt.sumB xs:Nat)),[])
theorem PR (xs:List Lt) (h:∀ x∈xs,Lf x):NQ xs:=by
 intro hfit left h0 h1
 simp only [D.fit,zE] at hfit
 have q0:=BJ left (xs.length+Lt.sumB xs)
 refine Af NP Fp (of_decide_eq_true rfl) ?_
 simp (disch:=omega) only [Id,go_sem,Aa]
 repeat' (refine Dw (fun hq=>?_) (fun hq=>?_) <;> (first | replace hq:=Ax.1 hq | replace hq:=CF.1 hq) <;> (try simp (disch:=omega) only [go_sem,Aa]))
 ·omega
 refine go_loop (α:=Int × Int) (fun a=>⟨slots 27 0 [(0,.arr (xs.map Lt.d)),(1,.int .i64 a.2),(5,.int .i64 a.1)],[]⟩) (fun a=>∃ k:Nat,a.1=k∧k≤xs.length∧0≤a.2∧a.2≤1048576∧szR a.2 (Lt.sumB (xs.drop k))=szR left (xs.length+Lt.sumB xs:Nat)) (fun a=>xs.length-a.1.toNat) (0,left-xs.length) ⟨0,rfl,zH _,by omega,by omega,?_⟩ (by simp (disch:=omega) only [go_sem,Aa]) ?_
 ·have q1:=BJ (left-xs.length) (Lt.sumB xs)
  rw [zG]
  dsimp only
  omega
 ·rintro ⟨i,l⟩ ⟨k,hi,hk,hl0,hl1,hs⟩
  dsimp only at hi hl0 hl1 hs
  rcases zB k xs.length with hlt | hge
  ·have hg:=get_at Lt.d hlt
   rw [Lt.d_eq] at hg
   have hd:Lt.sumB (xs.drop k)=xs[k].bulk+Lt.sumB (xs.drop (k+1)):=by rw [zC hlt,Lt.sumB]
   rw [hd] at hs
   have hc:=h xs[k] (zD hlt) (D.OF hfit.2 _ (zD hlt)) l hl0 hl1
   have q1:=BJ l xs[k].bulk
   have q2:=BJ l (xs[k].bulk+Lt.sumB (xs.drop (k+1)))
   have q3:=BJ (l-xs[k].bulk) (Lt.sumB (xs.drop (k+1)))
   have hn:i.toNat=k:=by omega
   simp (disch:=omega) only [go_sem,Aa,hn,hg,hc,Ji]
   repeat' (refine Dw (fun hq=>?_) (fun hq=>?_) <;> (first | replace hq:=Ax.1 hq | replace hq:=CF.1 hq) <;> (try simp (disch:=omega) only [go_sem,Aa]))
   ·omega
   ·refine ⟨(i+1,l-xs[k].bulk),⟨k+1,by dsimp only; omega,hlt,by dsimp only; omega,by dsimp only; omega,by dsimp only; omega⟩,by dsimp only; omega,?_⟩
    have e:szR l xs[k].bulk=l-xs[k].bulk:=by omega
    simp only [e,and_self]
  ·have hd:xs.drop k=[]:=zF hge
   rw [hd] at hs
   have q1:=BJ l (Lt.sumB [])
   simp only [Lt.sumB] at hs q1
   simp (disch:=omega) only [go_sem,Aa]
   omega
theorem Se (x:Lt) (h_atom:NO x.atom):Lf x:=by
 intro hfit left h0 h1
 rw [Lt.d_eq] at hfit
 simp only [D.fits,D.fit] at hfit
 replace h_atom:=h_atom (by rw [Tm.d_eq]; simp only [D.fits,D.fit,hfit,and_self])
 have q:=BJ left x.bulk
 have qb:=Lt.bulk_eq x
 have q0:=BJ left (x.atom.bulk)
 refine Af OX Ji (of_decide_eq_true rfl) ?_
 simp (disch:=omega) only [Jh,go_sem,Aa,h_atom,FP]
 repeat' (refine Dw (fun hq=>?_) (fun hq=>?_) <;> (first | replace hq:=Ax.1 hq | replace hq:=CF.1 hq) <;> (try simp (disch:=omega) only [go_sem,Aa,h_atom,FP]))
 all_goals omega
theorem Xz (x:Lt):Lf x:=Se x (Xy x.atom)
def Kc:SC:=(.seq (.reg [⟨some 2,none,.boxv 24 1 (.t 0)⟩,⟨some 4,none,.mv (.c (.int .i64 0))⟩]) (.seq (.reg [⟨some 5,none,.faddr 0 (.t 2)⟩,⟨some 6,none,.load false 1 (.t 5)⟩,⟨some 7,none,.mv (.t 1)⟩,⟨some 8,none,.call 28 [(.t 6),(.t 7)]⟩,⟨some 1,none,.mv (.t 8)⟩]) (.seq (.seq (.reg [⟨some 9,none,.mv (.t 1)⟩,⟨some 10,none,.bin .lss false (.t 9) (.c (.int .i64 0))⟩]) (.cond (.t 10) (.seq (.reg [⟨some 4,none,.mv (.c (.int .i64 (-(0+1))))⟩]) .ret) .skip)) (.seq (.reg [⟨some 11,none,.mv (.t 1)⟩,⟨some 4,none,.mv (.t 11)⟩]) .ret))))
theorem PS:codeOf Tryz.prog 8=some ⟨12,Kc,[(.tmp 4)]⟩:=by kernel_rfl
theorem CL:modes 8=⟨[],.asis,none,false⟩:=by unfold modes; rfl
abbrev Sf (x:Cl):Prop:=D.fits x.d→∀ left:Int,0≤left→left≤1048576→E 8 [x.sv,.int .i64 left] []=some (.int .i64 (szR left x.bulk),[])
theorem Ta (x:Cl) (h_lits:NQ x.lits):Sf x:=by
 intro hfit left h0 h1
 rw [Cl.d_eq] at hfit
 simp only [D.fits,D.fit] at hfit
 replace h_lits:=h_lits (by simp only [D.fit,zE]; simp only [zE] at hfit; simp only [hfit,and_self])
 have q:=BJ left x.bulk
 have qb:=Cl.bulk_eq x
 have q0:=BJ left ((x.lits.length+Lt.sumB x.lits))
 refine Af PS CL (of_decide_eq_true rfl) ?_
 simp (disch:=omega) only [Kc,go_sem,Aa,h_lits,Fp]
 repeat' (refine Dw (fun hq=>?_) (fun hq=>?_) <;> (first | replace hq:=Ax.1 hq | replace hq:=CF.1 hq) <;> (try simp (disch:=omega) only [go_sem,Aa,h_lits,Fp]))
 all_goals omega
theorem Z2 (x:Cl):Sf x:=Ta x (PR x.lits fun y hy=>Xz y)
end Go.Proofs.YtibdknkacmimgaaGreatDoor
