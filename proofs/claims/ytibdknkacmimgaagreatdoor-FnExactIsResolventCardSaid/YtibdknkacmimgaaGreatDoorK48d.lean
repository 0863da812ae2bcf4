/-
  Texts of this claim, one behind the other, each built on those ahead of it. No condition.
-/
import Derived.Test.YtibdknkacmimgaaGreatDoorK48c
set_option maxHeartbeats 16000000
open Bool renaming and_eq_true → zA, and_false → zM, true_and → yC, false_and → yH, and_true → yJ, false_or → yY
open Nat renaming lt_or_ge → zB, zero_le → zF, eq_zero_or_pos → zI, le_refl → zO, not_lt → y2
open List renaming getElem_mem → zC, length_map → zD, drop_eq_getElem_cons → zE, eq_nil_of_length_eq_zero → zG, drop_eq_nil_of_le → zH, drop_zero → zJ, map_nil → zK, map_cons → zL, all_eq_true → zN, length_take → zP, take_length → zQ, getElem_of_mem → zR, getElem?_eq_getElem → zS, length_nil → zT, nil_append → zU, foldl_cons → zV, pairwise_cons → zX, getElem_map → zY, take_zero → zZ, length_cons → z7, cons_append → z8, take_succ_eq_append_getElem → yB, mem_cons → yD, length_append → yF, map_append → yG, pairwise_iff_getElem → yI, getElem_cons_succ → yM, getElem_cons_zero → yN, map_map → yO, mem_map → yP, foldl_nil → yQ, getElem?_eq_none → yR, mem_append → yT, mem_singleton → yV, foldl_append → yX
open Int renaming tdiv_eq_ediv_of_nonneg → zW, toNat_zero → yA, toNat_natCast → yL, tmod_eq_emod_of_nonneg → yW
open Option.some renaming inj → yK
open ByteArray renaming data_append → yS
open Array renaming toList_append → yU
open Option renaming getD_none → yZ
open List.Pairwise renaming nil → y3
set_option maxRecDepth 100000
set_option linter.unusedSimpArgs false
set_option linter.unusedVariables false
set_option linter.unusedSectionVars false
namespace Go.Proofs.YtibdknkacmimgaaGreatDoor
open Go.RowKit
namespace Wd
attribute [local go_sem] FA Ty SV.isNil Ob.idsB SV.idsB SV.Nd List.getElem?_cons_zero List.getElem?_cons_succ OT.AO OT.D0 OT.full entry toTree Wu T5 Wt G5 GS Fj ZG Qx Yl OT.erss OT.ers OT.er OT.C9 OT.Fg OT.noSh quiet obB S8 GJ meets Jn go_skip UF go_ret YA UG YB Rq UH UI UJ YC YD YE Qcp Qcq Qcr UK UL Rr OA UM Rs OB UN YH YI Qcs YJ YK YL Qct YM YN Ru YP YQ YR YS YT YU YV YW QJ T2 Dg seen OC M7 UO UP YX OD Ev Rv Rw Rx YZ Za US Zb order opF fOp FG Wj QbS Wh Wi ZF Js eqK A5 gets Ap Q8 EY D1 Mv PJ AQ Wn SV.cellsN SV.one Kp splice E7 Uu Ko LQ Ec BJ Cs BC Kq Kr VM eOp.mkEs eOp.addS D.sv OT.sv D.ot It nodupB reach SV.refs SV.QH SV.ptrs SV.QI Ob.refs Ob.liveB Gk EQ SV.back SV.Ng Ob.back Is IJ CU Bk Bw Iv FY SV.ren SV.My Ob.ren mkU sgp gc Nh names M2 ZK ZL ZM Oy QaN ZO ZP ZQ ZR ZS ZT SC.mark QP Gl slots Ou Wb rxV LJ T1 SV.noSh SV.Nc Ob.noSh SV.own SV.SB G4 cond_true cond_false z7 zT zL zK List.drop_succ_cons zJ List.drop_nil List.take_succ_cons zZ List.take_nil List.append_nil zU z8 List.all_cons List.all_nil List.getD_cons_zero List.getD_cons_succ List.any_cons List.any_nil List.contains_cons List.contains_nil List.isEmpty_nil List.isEmpty_cons List.flatten_cons List.flatten_nil List.replicate_succ List.replicate_zero List.set_cons_zero List.set_cons_succ Nat.add_zero Nat.zero_add zO zF yJ yC Bool.and_self Bool.or_false yY Bool.true_or Bool.or_true Bool.not_true Bool.not_false yH zM decide_true decide_false beq_self_eq_true if_true if_false Option.map_some Option.map_none Option.some.injEq Option.getD_some yZ yL true_and and_true and_self eq_self_iff_true zD Bool.false_eq_true Bool.true_eq_false Prod.mk.injEq SV.int.injEq SV.bool.injEq SV.str.injEq SV.agg.injEq SV.tup.injEq SV.arr.injEq List.cons.injEq St.mk.injEq Int.zero_add Qcu Qcv Qaa As Ay QeF svK svD QaB svM MV.sv VL Wl QG Wm GY St.app U2 MK.sv OE OF OG UQ UR mode
def CL:SC:=(.seq (.reg [⟨some 2,none,.mv (.c (.bool false))⟩]) (.seq (.reg [⟨some 3,none,.mv (.t 0)⟩,⟨some 4,none,.mv (.t 0)⟩,⟨some 5,none,.bin .neq false (.t 3) (.t 4)⟩,⟨some 2,none,.mv (.t 5)⟩]) .ret))
theorem Fc:codeOf Tryz.prog 168=some ⟨6,CL,[(.tmp 2)]⟩:=by kernel_rfl
theorem Bi:modes 168=⟨[],.asis,none,false⟩:=by unfold modes; rfl
def DI:SC:=(.seq (.reg [⟨some 2,none,.mv (.c (.bool false))⟩]) (.seq (.reg [⟨some 3,none,.mv (.t 0)⟩,⟨some 4,none,.mv (.t 0)⟩,⟨some 5,none,.bin .neq false (.t 3) (.t 4)⟩,⟨some 2,none,.mv (.t 5)⟩]) .ret))
theorem G7:codeOf Tryz.prog 156=some ⟨6,DI,[(.tmp 2)]⟩:=by kernel_rfl
theorem BD:modes 156=⟨[],.asis,none,false⟩:=by unfold modes; rfl
def AU:SC:=(.seq (.reg [⟨some 4,none,.mv (.c (.int .i64 0))⟩]) (.seq (.reg [⟨some 7,none,.mv (.t 0)⟩,⟨some 8,none,.call 168 [(.t 7)]⟩,⟨some 5,none,.mv (.t 8)⟩]) (.seq (.reg [⟨some 9,none,.mv (.t 1)⟩,⟨some 10,none,.call 168 [(.t 9)]⟩,⟨some 6,none,.mv (.t 10)⟩]) (.seq (.seq (.reg [⟨some 11,none,.mv (.t 5)⟩]) (.cond (.t 11) (.seq (.seq (.reg [⟨some 12,none,.mv (.t 6)⟩]) (.cond (.t 12) (.seq (.reg [⟨some 4,none,.mv (.c (.int .i64 0))⟩]) .ret) .skip)) (.seq (.reg [⟨some 4,none,.mv (.c (.int .i64 (-(0+1))))⟩]) .ret)) .skip)) (.seq (.seq (.reg [⟨some 13,none,.mv (.t 6)⟩]) (.cond (.t 13) (.seq (.reg [⟨some 4,none,.mv (.c (.int .i64 1))⟩]) .ret) .skip)) (.seq (.seq (.reg [⟨some 14,none,.mv (.t 0)⟩,⟨some 15,none,.mv (.t 1)⟩,⟨some 16,none,.bin .lss false (.t 14) (.t 15)⟩]) (.cond (.t 16) (.seq (.reg [⟨some 4,none,.mv (.c (.int .i64 (-(0+1))))⟩]) .ret) .skip)) (.seq (.seq (.reg [⟨some 17,none,.mv (.t 0)⟩,⟨some 18,none,.mv (.t 1)⟩,⟨some 19,none,.bin .gtr false (.t 17) (.t 18)⟩]) (.cond (.t 19) (.seq (.reg [⟨some 4,none,.mv (.c (.int .i64 1))⟩]) .ret) .skip)) (.seq (.reg [⟨some 4,none,.mv (.c (.int .i64 0))⟩]) .ret))))))))
theorem By:codeOf Tryz.prog 136=some ⟨20,AU,[(.tmp 4)]⟩:=by kernel_rfl
theorem AC:modes 136=⟨[],.asis,none,false⟩:=by unfold modes; rfl
def Bs:SC:=(.seq (.reg [⟨some 4,none,.mv (.c (.int .i64 0))⟩]) (.seq (.reg [⟨some 7,none,.mv (.t 0)⟩,⟨some 8,none,.call 156 [(.t 7)]⟩,⟨some 5,none,.mv (.t 8)⟩]) (.seq (.reg [⟨some 9,none,.mv (.t 1)⟩,⟨some 10,none,.call 156 [(.t 9)]⟩,⟨some 6,none,.mv (.t 10)⟩]) (.seq (.seq (.reg [⟨some 11,none,.mv (.t 5)⟩]) (.cond (.t 11) (.seq (.seq (.reg [⟨some 12,none,.mv (.t 6)⟩]) (.cond (.t 12) (.seq (.reg [⟨some 4,none,.mv (.c (.int .i64 0))⟩]) .ret) .skip)) (.seq (.reg [⟨some 4,none,.mv (.c (.int .i64 (-(0+1))))⟩]) .ret)) .skip)) (.seq (.seq (.reg [⟨some 13,none,.mv (.t 6)⟩]) (.cond (.t 13) (.seq (.reg [⟨some 4,none,.mv (.c (.int .i64 1))⟩]) .ret) .skip)) (.seq (.seq (.reg [⟨some 14,none,.mv (.t 0)⟩,⟨some 15,none,.mv (.t 1)⟩,⟨some 16,none,.bin .lss false (.t 14) (.t 15)⟩]) (.cond (.t 16) (.seq (.reg [⟨some 4,none,.mv (.c (.int .i64 (-(0+1))))⟩]) .ret) .skip)) (.seq (.seq (.reg [⟨some 17,none,.mv (.t 0)⟩,⟨some 18,none,.mv (.t 1)⟩,⟨some 19,none,.bin .gtr false (.t 17) (.t 18)⟩]) (.cond (.t 19) (.seq (.reg [⟨some 4,none,.mv (.c (.int .i64 1))⟩]) .ret) .skip)) (.seq (.reg [⟨some 4,none,.mv (.c (.int .i64 0))⟩]) .ret))))))))
theorem BS:codeOf Tryz.prog 122=some ⟨20,Bs,[(.tmp 4)]⟩:=by kernel_rfl
theorem AJ:modes 122=⟨[],.asis,none,false⟩:=by unfold modes; rfl
def Ft:SC:=(.seq (.reg [⟨some 2,none,.mv (.c (.int .i64 0))⟩]) (.seq (.reg [⟨some 3,none,.mv (.c (.int .i64 0))⟩]) (.seq (.seq (.reg [⟨some 6,none,.mv (.t 0)⟩,⟨some 7,none,.len false (.t 6)⟩,⟨some 8,none,.mv (.c (.int .i64 0))⟩]) (.block 0 (.loop [0,0,0,1,0,0,1,1,1,0,0,0,0,0,0,0,0,0] (.seq (.reg [⟨some 9,none,.bin .lss false (.t 8) (.t 7)⟩]) (.seq (.cond (.t 9) .skip (.exit 0)) (.seq (.block 1 (.seq (.reg [⟨some 10,none,.iaddr 1 (.t 6) (.t 8)⟩,⟨some 11,none,.load false 1 (.t 10)⟩,⟨some 5,none,.mv (.t 11)⟩]) (.seq (.reg [⟨some 12,none,.mv (.t 5)⟩,⟨some 13,none,.mv (.t 3)⟩,⟨some 14,none,.bin .neq false (.t 12) (.t 13)⟩]) (.cond (.t 14) (.seq (.reg [⟨some 15,none,.mv (.t 5)⟩,⟨some 2,none,.mv (.t 15)⟩]) .ret) .skip)))) (.reg [⟨some 16,none,.bin .add false (.t 8) (.c (.int .i64 1))⟩,⟨some 8,none,.mv (.t 16)⟩]))))))) (.seq (.reg [⟨some 17,none,.mv (.t 3)⟩,⟨some 2,none,.mv (.t 17)⟩]) .ret))))
theorem J4:codeOf Tryz.prog 120=some ⟨18,Ft,[(.tmp 2)]⟩:=by kernel_rfl
theorem CE:modes 120=⟨[],.asis,none,false⟩:=by unfold modes; rfl
theorem KE (a:ByteArray):E 168 [.str a] []=some (.bool false,[]):=by
 refine Ae Fc Bi (of_decide_eq_true rfl) ?_
 simp (disch:=omega) only [CL,go_sem,Aa]
theorem KF (a:Int):E 156 [.int .i64 a] []=some (.bool false,[]):=by
 refine Ae G7 BD (of_decide_eq_true rfl) ?_
 simp (disch:=omega) only [DI,go_sem,Aa]
theorem J5 (a b:ByteArray):E 136 [.str a,.str b] []=some (.int .i64 (Ew a b),[]):=by
 have h1:=KE a
 have h2:=KE b
 unfold Ew
 cases h3:strLt a b
 ·cases h4:dec (a=b)
  ·refine Ae By AC (of_decide_eq_true rfl) ?_
   simp (disch:=omega) only [AU,go_sem,Aa,h1,h2,h3,h4,Bi]
  ·refine Ae By AC (of_decide_eq_true rfl) ?_
   simp (disch:=omega) only [AU,go_sem,Aa,h1,h2,h3,h4,Bi]
 ·refine Ae By AC (of_decide_eq_true rfl) ?_
  simp (disch:=omega) only [AU,go_sem,Aa,h1,h2,h3,Bi]
theorem Hu (a b:Int):E 122 [.int .i64 a,.int .i64 b] []=some (.int .i64 (GM a b),[]):=by
 have h1:=KF a
 have h2:=KF b
 unfold GM
 cases h3:dec (a<b)
 ·cases h4:dec (b<a)
  ·refine Ae BS AJ (of_decide_eq_true rfl) ?_
   simp (disch:=omega) only [Bs,go_sem,Aa,h1,h2,h3,h4,BD]
  ·refine Ae BS AJ (of_decide_eq_true rfl) ?_
   simp (disch:=omega) only [Bs,go_sem,Aa,h1,h2,h3,h4,BD]
 ·refine Ae BS AJ (of_decide_eq_true rfl) ?_
  simp (disch:=omega) only [Bs,go_sem,Aa,h1,h2,h3,BD]
def orL:List Int→Int
 | []=>0
 | x :: xs=>if x=0 then orL xs else x
theorem QeL (xs:List Int) (hl:xs.length≤1099511627776):E 120 [.arr (xs.map fun n=>[D.int n])] []=some (.int .i64 (orL xs),[]):=by
 refine Ae J4 CE (of_decide_eq_true rfl) ?_
 simp (disch:=omega) only [Ft,go_sem,Aa]
 refine go_loop (α:=Int) (fun a=>⟨slots 18 0 [(3,.int .i64 0),(6,.arr (xs.map fun n=>[D.int n])),(7,.int .i64 xs.length),(8,.int .i64 a)],[]⟩) (fun a=>∃ k:Nat,a=k∧k≤(xs).length∧orL (xs.drop k)=orL xs) (fun a=>(xs).length-(a).toNat) 0 ⟨0,rfl,zF _,by rw [zJ]⟩ (by simp (disch:=omega) only [go_sem,Aa]) ?_
 rintro i ⟨k,hi,hk,hR⟩
 have hni:i.toNat=k:=by omega
 have hni1:(i+1).toNat=k+1:=by omega
 rcases zB k (xs).length with hlt | hge
 ·have hg:=get_at (fun n=>[D.int n]) hlt
  rw [zE hlt,orL] at hR
  by_cases h0:xs[k]=0
  ·rw [if_pos h0] at hR
   simp (disch:=omega) only [go_sem,Aa,hni,hg,h0]
   exact ⟨i+1,⟨k+1,by omega,hlt,hR⟩,by omega,by first | trivial | rfl⟩
  ·rw [if_neg h0] at hR
   simp (disch:=omega) only [go_sem,Aa,hni,hg,h0]
   exact hR
 ·rw [zH hge,orL] at hR
  simp (disch:=omega) only [go_sem,Aa,hni]
  exact hR
theorem WJ (a b:Int):E 120 [.arr [[.int a],[.int b]]] []=some (.int .i64 (orZ a b),[]):=by
 have h:=QeL [a,b] (by simp)
 have e:orL [a,b]=orZ a b:=by
  simp only [orL,orZ]
  split
  ·split <;> omega
  ·rfl
 rw [e] at h
 exact h
def CM:SC:=(.seq (.reg [⟨some 2,none,.mv (.c (.bool false))⟩]) (.seq (.reg [⟨some 3,none,.mv (.t 0)⟩,⟨some 4,none,.bin .geq false (.t 3) (.c (.int .u8 65))⟩,⟨some 5,none,.mv (.t 4)⟩,⟨(some 6),(some (5,true)),(.mv (.t 0))⟩,⟨(some 7),(some (5,true)),(.bin .leq false (.t 6) (.c (.int .u8 90)))⟩,⟨some 8,none,.pick (.t 5) (.t 7) (.c (.bool false))⟩,⟨some 2,none,.mv (.t 8)⟩]) .ret))
theorem Ej:codeOf Tryz.prog 129=some ⟨9,CM,[(.tmp 2)]⟩:=by kernel_rfl
theorem CN:modes 129=⟨[],.asis,none,false⟩:=by unfold modes; rfl
def Fu:SC:=(.seq (.reg [⟨some 1,none,.boxv 71 2 (.t 0)⟩,⟨some 2,none,.mv (.c (.bool false))⟩]) (.seq (.reg [⟨some 3,none,.faddr 0 (.t 1)⟩,⟨some 4,none,.load false 1 (.t 3)⟩,⟨some 5,none,.idx (.t 4) (.c (.int .i64 0))⟩,⟨some 6,none,.call 129 [(.t 5)]⟩,⟨some 2,none,.mv (.t 6)⟩]) .ret))
theorem J6:codeOf Tryz.prog 89=some ⟨7,Fu,[(.tmp 2)]⟩:=by kernel_rfl
theorem Ak:modes 89=⟨[],.asis,none,false⟩:=by unfold modes; rfl
theorem OL (n:Int):E 129 [.int .u8 n] []=some (.bool (dec (65≤n)&&dec (n≤90)),[]):=by
 cases h1:dec (65≤n)
 ·refine Ae Ej CN (of_decide_eq_true rfl) ?_
  simp (disch:=omega) only [CM,go_sem,Aa,h1]
 ·refine Ae Ej CN (of_decide_eq_true rfl) ?_
  simp (disch:=omega) only [CM,go_sem,Aa,h1]
theorem Dp (x:Tm) (h:x.cok=true):E 89 [x.sv] []=some (.bool (An x.name),[]):=by
 rw [Tm.K7,zA] at h
 obtain ⟨h1,h2⟩:=TP h.1
 have h3:=OL (Jo x.name 0)
 rw [h2] at h3
 refine Ae J6 Ak (of_decide_eq_true rfl) ?_
 simp (disch:=omega) only [Fu,go_sem,Aa,h3,CN]
def At:SC:=(.seq (.reg [⟨some 6,none,.mv (.c (.int .i64 0))⟩]) (.seq (.seq (.reg [⟨some 11,none,.mv (.t 0)⟩,⟨some 12,none,.len false (.t 11)⟩,⟨some 13,none,.mv (.c (.int .i64 0))⟩]) (.block 0 (.loop [1,1,1,0,0,0,0,0,0,0,0,1,1,1,0,0,0,0,0,0,0,0,0,0,0,0,0,0,0,0,0,0,0,0,0,0,0,0,0] (.seq (.reg [⟨some 14,none,.bin .lss false (.t 13) (.t 12)⟩]) (.seq (.cond (.t 14) .skip (.exit 0)) (.seq (.block 1 (.seq (.reg [⟨some 15,none,.mv (.t 13)⟩,⟨some 16,none,.iaddr 2 (.t 11) (.t 13)⟩,⟨some 17,none,.load true 2 (.t 16)⟩,⟨(some 8),none,(.alloc 71 [(.str ⟨#[]⟩),.nil])⟩,⟨some 7,none,.mv (.t 15)⟩,⟨none,none,(.store 2 (.t 8) (.t 17))⟩]) (.seq (.seq (.reg [⟨some 18,none,.mv (.t 7)⟩,⟨some 19,none,.mv (.t 1)⟩,⟨some 20,none,.len false (.t 19)⟩,⟨some 21,none,.bin .geq false (.t 18) (.t 20)⟩]) (.cond (.t 21) (.seq (.reg [⟨some 6,none,.mv (.c (.int .i64 1))⟩]) .ret) .skip)) (.seq (.reg [⟨some 22,none,.mv (.t 1)⟩,⟨some 23,none,.mv (.t 7)⟩,⟨some 24,none,.iaddr 2 (.t 22) (.t 23)⟩,⟨some 25,none,.load true 2 (.t 24)⟩,⟨(some 9),none,(.alloc 71 [(.str ⟨#[]⟩),.nil])⟩,⟨none,none,(.store 2 (.t 9) (.t 25))⟩]) (.seq (.reg [⟨some 26,none,.mv (.t 2)⟩,⟨some 27,none,.load true 2 (.t 8)⟩,⟨some 28,none,.load true 2 (.t 9)⟩,⟨some 29,none,.callv (.t 26) [(.t 27),(.t 28)]⟩,⟨some 10,none,.mv (.t 29)⟩]) (.seq (.reg [⟨some 30,none,.mv (.t 10)⟩,⟨some 31,none,.bin .neq false (.t 30) (.c (.int .i64 0))⟩]) (.cond (.t 31) (.seq (.reg [⟨some 32,none,.mv (.t 10)⟩,⟨some 6,none,.mv (.t 32)⟩]) .ret) .skip))))))) (.reg [⟨some 33,none,.bin .add false (.t 13) (.c (.int .i64 1))⟩,⟨some 13,none,.mv (.t 33)⟩]))))))) (.seq (.seq (.reg [⟨some 34,none,.mv (.t 0)⟩,⟨some 35,none,.len false (.t 34)⟩,⟨some 36,none,.mv (.t 1)⟩,⟨some 37,none,.len false (.t 36)⟩,⟨some 38,none,.bin .lss false (.t 35) (.t 37)⟩]) (.cond (.t 38) (.seq (.reg [⟨some 6,none,.mv (.c (.int .i64 (-(0+1))))⟩]) .ret) .skip)) (.seq (.reg [⟨some 6,none,.mv (.c (.int .i64 0))⟩]) .ret))))
theorem AD:codeOf Tryz.prog 155=some ⟨39,At,[(.tmp 6)]⟩:=by kernel_rfl
theorem Au:modes 155=⟨[],.asis,none,false⟩:=by unfold modes; rfl
def B7:SC:=(.seq (.reg [⟨some 2,none,.boxv 71 2 (.t 0)⟩,⟨some 3,none,.boxv 71 2 (.t 1)⟩,⟨some 4,none,.mv (.c (.int .i64 0))⟩]) (.seq (.dreg [[],[0],[],[2,1,0],[1,0,3,2],[3,2,1,0,4]] [⟨some 8,none,.load true 2 (.t 2)⟩,⟨some 9,none,.call 89 [(.t 8)]⟩,⟨some 10,none,.load true 2 (.t 3)⟩,⟨some 11,none,.call 89 [(.t 10)]⟩,⟨some 5,none,.mv (.t 9)⟩,⟨some 6,none,.mv (.t 11)⟩]) (.seq (.block 0 (.seq (.reg [⟨some 13,none,.mv (.t 5)⟩,⟨some 14,none,.mv (.t 13)⟩,⟨(some 15),(some (14,true)),(.mv (.t 6))⟩,⟨(some 16),(some (14,true)),(.un .not (.t 15))⟩,⟨some 17,none,.pick (.t 14) (.t 16) (.c (.bool false))⟩,⟨some 12,none,.mv (.t 17)⟩]) (.cond (.t 12) (.seq (.reg [⟨some 4,none,.mv (.c (.int .i64 (-(0+1))))⟩]) .ret) (.seq (.reg [⟨some 19,none,.mv (.t 6)⟩,⟨some 20,none,.mv (.t 19)⟩,⟨(some 21),(some (20,true)),(.mv (.t 5))⟩,⟨(some 22),(some (20,true)),(.un .not (.t 21))⟩,⟨some 23,none,.pick (.t 20) (.t 22) (.c (.bool false))⟩,⟨some 18,none,.mv (.t 23)⟩]) (.cond (.t 18) (.seq (.reg [⟨some 4,none,.mv (.c (.int .i64 1))⟩]) .ret) .skip))))) (.seq (.seq (.dreg [[],[0],[],[2],[1,0,3,2],[],[5],[6,5],[],[8],[9,8],[7,6,5,10,9,8,4,1,0,3,2],[4,1,0,3,2,11,7,6,5,10,9,8],[12,4,1,0,3,2,11,7,6,5,10,9,8],[13,12,4,1,0,3,2,11,7,6,5,10,9,8]] [⟨some 24,none,.faddr 0 (.t 2)⟩,⟨some 25,none,.load false 1 (.t 24)⟩,⟨some 26,none,.faddr 0 (.t 3)⟩,⟨some 27,none,.load false 1 (.t 26)⟩,⟨some 28,none,.call 136 [(.t 25),(.t 27)]⟩,⟨some 29,none,.faddr 1 (.t 2)⟩,⟨some 30,none,.load false 1 (.t 29)⟩,⟨some 31,none,.len false (.t 30)⟩,⟨some 32,none,.faddr 1 (.t 3)⟩,⟨some 33,none,.load false 1 (.t 32)⟩,⟨some 34,none,.len false (.t 33)⟩,⟨some 35,none,.call 122 [(.t 31),(.t 34)]⟩,⟨some 36,none,.mkrow 3 1 [(.int .i64 0)] 2 [(0,(.t 28)),(1,(.t 35))]⟩,⟨some 37,none,.call 120 [(.t 36)]⟩,⟨some 7,none,.mv (.t 37)⟩]) (.seq (.reg [⟨some 38,none,.mv (.t 7)⟩,⟨some 39,none,.bin .neq false (.t 38) (.c (.int .i64 0))⟩]) (.cond (.t 39) (.seq (.reg [⟨some 40,none,.mv (.t 7)⟩,⟨some 4,none,.mv (.t 40)⟩]) .ret) .skip))) (.seq (.reg [⟨some 41,none,.faddr 1 (.t 2)⟩,⟨some 42,none,.load false 1 (.t 41)⟩,⟨some 43,none,.faddr 1 (.t 3)⟩,⟨some 44,none,.load false 1 (.t 43)⟩,⟨some 45,none,.call 155 [(.t 42),(.t 44),(.c (.fn 121 []))]⟩,⟨some 4,none,.mv (.t 45)⟩]) .ret)))))
theorem CA:codeOf Tryz.prog 121=some ⟨46,B7,[(.tmp 4)]⟩:=by kernel_rfl
theorem AZ:modes 121=⟨[],.asis,none,false⟩:=by unfold modes; rfl
theorem EA:Kg Tryz.prog 121=true:=by kernel_rfl
theorem I3 (fid:Nat) (xs ys:List Tm) (hl:xs.length≤1099511627776) (hl':ys.length≤1099511627776) (hg:Kg Tryz.prog fid=true) (hm:(modes fid).hand=[]) (hE:∀ x∈xs,∀ y∈ys,E fid [x.sv,y.sv] []=some (.int .i64 (x.cmp y),[])):E 155 [.arr (xs.map Tm.d),.arr (ys.map Tm.d),.fn fid []] []=some (.int .i64 (Tm.cmpL xs ys),[]):=by
 refine Ae AD Au (of_decide_eq_true rfl) ?_
 simp (disch:=omega) only [At,go_sem,Aa]
 refine go_loop (α:=Int) (fun a=>⟨slots 39 0 [(0,.arr (xs.map Tm.d)),(1,.arr (ys.map Tm.d)),(2,.fn fid []),(11,.arr (xs.map Tm.d)),(12,.int .i64 xs.length),(13,.int .i64 a)],[]⟩) (fun a=>∃ k:Nat,a=k∧k≤(xs).length∧k≤ys.length∧Tm.cmpL (xs.drop k) (ys.drop k)=Tm.cmpL xs ys) (fun a=>(xs).length-(a).toNat) 0 ⟨0,rfl,zF _,zF _,by rw [zJ,zJ]⟩ (by simp (disch:=omega) only [go_sem,Aa]) ?_
 rintro i ⟨k,hi,hk,hR⟩
 have hni:i.toNat=k:=by omega
 have hni1:(i+1).toNat=k+1:=by omega
 rcases zB k (xs).length with hlt | hge
 ·obtain ⟨hk',hR⟩:=hR
  have hgx:=get_at Tm.d hlt
  rw [Tm.d_eq] at hgx
  rcases zB k ys.length with hlt' | hge'
  ·have hgy:=get_at Tm.d hlt'
   rw [Tm.d_eq] at hgy
   have hc:=hE xs[k] (zC hlt) ys[k] (zC hlt')
   rw [OJ hlt hlt'] at hR
   by_cases h0:xs[k].cmp ys[k]=0
   ·rw [orZ,if_pos h0] at hR
    rw [h0] at hc
    simp (disch:=omega) only [go_sem,Aa,hni,hgx,hgy,hc,hg,hm]
    exact ⟨i+1,⟨k+1,by omega,hlt,hlt',hR⟩,by omega,by first | trivial | rfl⟩
   ·rw [orZ,if_neg h0] at hR
    simp (disch:=omega) only [go_sem,Aa,hni,hgx,hgy,hc,hg,hm,h0]
    exact hR
  ·rw [R5 hlt hge'] at hR
   simp (disch:=omega) only [go_sem,Aa,hni,hgx]
   exact hR
 ·obtain ⟨hk',hR⟩:=hR
  obtain rfl:k=xs.length:=by omega
  rcases zB xs.length ys.length with hlt' | hge'
  ·rw [WI (zO _) hlt'] at hR
   simp (disch:=omega) only [go_sem,Aa,hni]
   exact hR
  ·rw [OK (zO _) hge'] at hR
   simp (disch:=omega) only [go_sem,Aa,hni]
   exact hR
abbrev SN (f:FuncId) (x y:Tm):Prop:=x.cok=true→y.cok=true→x.nodes≤1099511627776→y.nodes≤1099511627776→E f [x.sv,y.sv] []=some (.int .i64 (x.cmp y),[])
theorem G8 (x:Tm) (ih:∀ x'∈x.args,∀ y,SN 121 x' y) (y:Tm):SN 121 x y:=by
 intro hx hy hnx hny
 have lx:=Tm.length_le x.args
 have ly:=Tm.length_le y.args
 have nx:=Tm.Ao x
 have ny:=Tm.Ao y
 have h1:=Dp x hx
 have h2:=Dp y hy
 have h3:=J5 x.name y.name
 have h4:=Hu x.args.length y.args.length
 have h5:=WJ (Ew x.name y.name) (GM x.args.length y.args.length)
 rw [Tm.K7,zA] at hx hy
 have h6:=I3 121 x.args y.args (by omega) (by omega) EA (by rw [AZ]) fun x' hx' y' hy'=>ih x' hx' y' (Tm.Hj hx.2 hx') (Tm.Hj hy.2 hy') (by have:=Tm.AX hx'; omega) (by have:=Tm.AX hy'; omega)
 rw [Tm.U9]
 cases vx:An x.name <;> rw [vx] at h1 <;> cases vy:An y.name <;> rw [vy] at h2
 all_goals
  simp only [Bool.not_true,Bool.not_false,yJ,zM,yC,yH,if_true,if_false,Bool.false_eq_true]
  by_cases h0:orZ (Ew x.name y.name) (GM x.args.length y.args.length)=0
  ·rw [h0] at h5
   try rw [h0]
   refine Ae CA AZ (of_decide_eq_true rfl) ?_
   simp (disch:=omega) only [B7,go_sem,Aa,h1,h2,h3,h4,h5,h6,Ak,AC,AJ,CE,Au]
   try rfl
  ·try rw [orZ.eq_1 (orZ _ _) _,if_neg h0]
   refine Ae CA AZ (of_decide_eq_true rfl) ?_
   simp (disch:=omega) only [B7,go_sem,Aa,h0,h1,h2,h3,h4,h5,Ak,AC,AJ,CE]
theorem Ek (x y:Tm):SN 121 x y:=G8 x (fun x' hx' y'=>Ek x' y') y
termination_by SizeOf.sizeOf x
decreasing_by exact Tm.Az hx'
def El:SC:=(.seq (.reg [⟨some 2,none,.mv (.c (.int .i64 0))⟩]) (.seq (.seq (.reg [⟨some 3,none,.mv (.t 0)⟩]) (.cond (.t 3) (.seq (.reg [⟨some 2,none,.mv (.c (.int .i64 1))⟩]) .ret) .skip)) (.seq (.reg [⟨some 2,none,.mv (.c (.int .i64 0))⟩]) .ret)))
theorem Gr:codeOf Tryz.prog 123=some ⟨4,El,[(.tmp 2)]⟩:=by kernel_rfl
theorem Em:modes 123=⟨[],.asis,none,false⟩:=by unfold modes; rfl
def BT:SC:=(.seq (.reg [⟨some 2,none,.boxv 73 3 (.t 0)⟩,⟨some 3,none,.boxv 73 3 (.t 1)⟩,⟨some 4,none,.mv (.c (.int .i64 0))⟩]) (.seq (.dreg [[],[0],[],[2],[1,0,3,2],[],[5],[6,5,4,1,0,3,2],[],[8],[9,8,7,6,5,4,1,0,3,2],[7,6,5,4,1,0,3,2,10,9,8],[4,1,0,3,2,11,7,6,5,10,9,8],[12,4,1,0,3,2,11,7,6,5,10,9,8],[13,12,4,1,0,3,2,11,7,6,5,10,9,8]] [⟨some 5,none,.faddr 1 (.t 2)⟩,⟨some 6,none,.load true 2 (.t 5)⟩,⟨some 7,none,.faddr 1 (.t 3)⟩,⟨some 8,none,.load true 2 (.t 7)⟩,⟨some 9,none,.call 121 [(.t 6),(.t 8)]⟩,⟨some 10,none,.faddr 0 (.t 2)⟩,⟨some 11,none,.load false 1 (.t 10)⟩,⟨some 12,none,.call 123 [(.t 11)]⟩,⟨some 13,none,.faddr 0 (.t 3)⟩,⟨some 14,none,.load false 1 (.t 13)⟩,⟨some 15,none,.call 123 [(.t 14)]⟩,⟨some 16,none,.call 122 [(.t 12),(.t 15)]⟩,⟨some 17,none,.mkrow 3 1 [(.int .i64 0)] 2 [(0,(.t 9)),(1,(.t 16))]⟩,⟨some 18,none,.call 120 [(.t 17)]⟩,⟨some 4,none,.mv (.t 18)⟩]) .ret))
theorem D7:codeOf Tryz.prog 83=some ⟨19,BT,[(.tmp 4)]⟩:=by kernel_rfl
theorem Bj:modes 83=⟨[],.asis,none,false⟩:=by unfold modes; rfl
theorem R6 (b:Bool):E 123 [.bool b] []=some (.int .i64 (Hk b),[]):=by
 cases b
 ·refine Ae Gr Em (of_decide_eq_true rfl) ?_
  simp (disch:=omega) only [El,go_sem,Aa]
  rfl
 ·refine Ae Gr Em (of_decide_eq_true rfl) ?_
  simp (disch:=omega) only [El,go_sem,Aa]
  rfl
theorem compareLiterals_E (x y:Lt) (hx:x.atom.cok=true) (hy:y.atom.cok=true) (hnx:x.atom.nodes≤1099511627776) (hny:y.atom.nodes≤1099511627776):E 83 [x.sv,y.sv] []=some (.int .i64 (x.cmp y),[]):=by
 have h1:=Ek x.atom y.atom hx hy hnx hny
 have h2:=R6 x.pos
 have h3:=R6 y.pos
 have h4:=Hu (Hk x.pos) (Hk y.pos)
 have h5:=WJ (x.atom.cmp y.atom) (GM (Hk x.pos) (Hk y.pos))
 unfold Lt.cmp
 refine Ae D7 Bj (of_decide_eq_true rfl) ?_
 simp (disch:=omega) only [BT,go_sem,Aa,h1,h2,h3,h4,h5,AZ,Em,AJ,CE]
end Wd
theorem N4 (x y:Lt) (hx:x.atom.cok=true) (hy:y.atom.cok=true) (hnx:x.atom.nodes≤1099511627776) (hny:y.atom.nodes≤1099511627776):QdH Tryz.prog 83 [x.sv,y.sv] [] (.int .i64 (x.cmp y)) []:=Wd.E_told (Wd.compareLiterals_E x y hx hy hnx hny)
def AE:SC:=(.seq (.reg [⟨some 6,none,.mv (.c (.bool false))⟩]) (.seq (.seq (.reg [⟨some 10,none,.mv (.t 0)⟩,⟨some 11,none,.len false (.t 10)⟩,⟨some 12,none,.mv (.t 1)⟩,⟨some 13,none,.len false (.t 12)⟩,⟨some 14,none,.bin .neq false (.t 11) (.t 13)⟩]) (.cond (.t 14) (.seq (.reg [⟨some 6,none,.mv (.c (.bool false))⟩]) .ret) .skip)) (.seq (.seq (.reg [⟨some 15,none,.mv (.t 0)⟩,⟨some 16,none,.len false (.t 15)⟩,⟨some 17,none,.mv (.c (.int .i64 0))⟩]) (.block 0 (.loop [0,1,1,0,0,0,0,0,0,0,0,0,0,0,0,1,1,1,0,0,0,0,0,0,0,0,0,0,0,0,0,0] (.seq (.reg [⟨some 18,none,.bin .lss false (.t 17) (.t 16)⟩]) (.seq (.cond (.t 18) .skip (.exit 0)) (.seq (.block 1 (.seq (.reg [⟨some 19,none,.mv (.t 17)⟩,⟨some 20,none,.iaddr 2 (.t 15) (.t 17)⟩,⟨some 21,none,.load true 2 (.t 20)⟩,⟨(some 8),none,(.alloc 71 [(.str ⟨#[]⟩),.nil])⟩,⟨some 7,none,.mv (.t 19)⟩,⟨none,none,(.store 2 (.t 8) (.t 21))⟩]) (.seq (.reg [⟨some 22,none,.mv (.t 1)⟩,⟨some 23,none,.mv (.t 7)⟩,⟨some 24,none,.iaddr 2 (.t 22) (.t 23)⟩,⟨some 25,none,.load true 2 (.t 24)⟩,⟨(some 9),none,(.alloc 71 [(.str ⟨#[]⟩),.nil])⟩,⟨none,none,(.store 2 (.t 9) (.t 25))⟩]) (.seq (.reg [⟨some 26,none,.mv (.t 2)⟩,⟨some 27,none,.load true 2 (.t 8)⟩,⟨some 28,none,.load true 2 (.t 9)⟩,⟨some 29,none,.callv (.t 26) [(.t 27),(.t 28)]⟩,⟨some 30,none,.un .not (.t 29)⟩]) (.cond (.t 30) (.seq (.reg [⟨some 6,none,.mv (.c (.bool false))⟩]) .ret) .skip))))) (.reg [⟨some 31,none,.bin .add false (.t 17) (.c (.int .i64 1))⟩,⟨some 17,none,.mv (.t 31)⟩]))))))) (.seq (.reg [⟨some 6,none,.mv (.c (.bool true))⟩]) .ret))))
theorem Bf:codeOf Tryz.prog 128=some ⟨32,AE,[(.tmp 6)]⟩:=by kernel_rfl
theorem AF:modes 128=⟨[],.asis,none,false⟩:=by unfold modes; rfl
def Fw:SC:=(.seq (.reg [⟨some 2,none,.boxv 71 2 (.t 0)⟩,⟨some 3,none,.boxv 71 2 (.t 1)⟩,⟨some 4,none,.mv (.c (.bool false))⟩]) (.seq (.reg [⟨some 5,none,.faddr 0 (.t 2)⟩,⟨some 6,none,.load false 1 (.t 5)⟩,⟨some 7,none,.faddr 0 (.t 3)⟩,⟨some 8,none,.load false 1 (.t 7)⟩,⟨some 9,none,.bin .eql false (.t 6) (.t 8)⟩,⟨some 10,none,.mv (.t 9)⟩,⟨(some 11),(some (10,true)),(.faddr 1 (.t 2))⟩,⟨(some 12),(some (10,true)),(.load false 1 (.t 11))⟩,⟨(some 13),(some (10,true)),(.faddr 1 (.t 3))⟩,⟨(some 14),(some (10,true)),(.load false 1 (.t 13))⟩,⟨(some 15),(some (10,true)),(.call 128 [(.t 12),(.t 14),(.c (.fn 88 []))])⟩,⟨some 16,none,.pick (.t 10) (.t 15) (.c (.bool false))⟩,⟨some 4,none,.mv (.t 16)⟩]) .ret))
theorem HV:codeOf Tryz.prog 88=some ⟨17,Fw,[(.tmp 4)]⟩:=by kernel_rfl
theorem Ad:modes 88=⟨[],.asis,none,false⟩:=by unfold modes; rfl
theorem N5:Kg Tryz.prog 88=true:=by kernel_rfl
def Gb:SC:=(.seq (.reg [⟨some 2,none,.boxv 71 2 (.t 0)⟩,⟨some 3,none,.boxv 71 2 (.t 1)⟩,⟨some 4,none,.mv (.c (.bool false))⟩]) (.seq (.seq (.reg [⟨some 6,none,.faddr 0 (.t 2)⟩,⟨some 7,none,.load false 1 (.t 6)⟩,⟨some 8,none,.faddr 0 (.t 3)⟩,⟨some 9,none,.load false 1 (.t 8)⟩,⟨some 10,none,.bin .neq false (.t 7) (.t 9)⟩,⟨some 11,none,.mv (.t 10)⟩,⟨(some 12),(some (11,false)),(.faddr 1 (.t 2))⟩,⟨(some 13),(some (11,false)),(.load false 1 (.t 12))⟩,⟨(some 14),(some (11,false)),(.len false (.t 13))⟩,⟨(some 15),(some (11,false)),(.faddr 1 (.t 3))⟩,⟨(some 16),(some (11,false)),(.load false 1 (.t 15))⟩,⟨(some 17),(some (11,false)),(.len false (.t 16))⟩,⟨(some 18),(some (11,false)),(.bin .neq false (.t 14) (.t 17))⟩,⟨some 19,none,.pick (.t 11) (.c (.bool true)) (.t 18)⟩]) (.cond (.t 19) (.seq (.reg [⟨some 4,none,.mv (.c (.bool false))⟩]) .ret) .skip)) (.seq (.seq (.reg [⟨some 5,none,.mv (.c (.int .i64 0))⟩]) (.block 0 (.loop [0,0,1,1,0,1,0,0,0,0,0,0,0,0,0,0,0,0,0,0,0,0,0,0,0,0,0,0,0,0,0,0,0,0,0,0,0,0,0] (.seq (.seq (.reg [⟨some 20,none,.mv (.t 5)⟩,⟨some 21,none,.faddr 1 (.t 2)⟩,⟨some 22,none,.load false 1 (.t 21)⟩,⟨some 23,none,.len false (.t 22)⟩,⟨some 24,none,.bin .lss false (.t 20) (.t 23)⟩]) (.cond (.t 24) .skip (.exit 0))) (.seq (.block 1 (.seq (.dreg [[],[0],[],[1,0,2],[3,1,0,2],[],[5],[],[6,5,7],[8,6,5,7],[4,3,1,0,2,9,8,6,5,7],[10,4,3,1,0,2,9,8,6,5,7]] [⟨some 27,none,.faddr 1 (.t 2)⟩,⟨some 28,none,.load false 1 (.t 27)⟩,⟨some 29,none,.mv (.t 5)⟩,⟨some 30,none,.iaddr 2 (.t 28) (.t 29)⟩,⟨some 31,none,.load true 2 (.t 30)⟩,⟨some 32,none,.faddr 1 (.t 3)⟩,⟨some 33,none,.load false 1 (.t 32)⟩,⟨some 34,none,.mv (.t 5)⟩,⟨some 35,none,.iaddr 2 (.t 33) (.t 34)⟩,⟨some 36,none,.load true 2 (.t 35)⟩,⟨some 37,none,.call 68 [(.t 31),(.t 36)]⟩,⟨some 38,none,.un .not (.t 37)⟩]) (.cond (.t 38) (.seq (.reg [⟨some 4,none,.mv (.c (.bool false))⟩]) .ret) .skip))) (.reg [⟨some 25,none,.mv (.t 5)⟩,⟨some 26,none,.bin .add false (.t 25) (.c (.int .i64 1))⟩,⟨some 5,none,.mv (.t 26)⟩])))))) (.seq (.reg [⟨some 4,none,.mv (.c (.bool true))⟩]) .ret))))
theorem I6:codeOf Tryz.prog 68=some ⟨39,Gb,[(.tmp 4)]⟩:=by kernel_rfl
theorem Ai:modes 68=⟨[],.asis,none,false⟩:=by unfold modes; rfl
theorem P7 {α:Type} {xs ys:List α} {k:Nat} (hx:k<xs.length) (hy:k<ys.length):xs.drop k=ys.drop k ↔ xs[k]=ys[k]∧xs.drop (k+1)=ys.drop (k+1):=by
 rw [zE hx,zE hy,List.cons.injEq]
theorem WK (fid:Nat) (xs ys:List Tm) (hl:xs.length≤1099511627776) (hl':ys.length≤1099511627776) (hg:Kg Tryz.prog fid=true) (hm:(modes fid).hand=[]) (hE:∀ x∈xs,∀ y∈ys,E fid [x.sv,y.sv] []=some (.bool (dec (x=y)),[])):E 128 [.arr (xs.map Tm.d),.arr (ys.map Tm.d),.fn fid []] []=some (.bool (dec (xs=ys)),[]):=by
 by_cases hlen:xs.length=ys.length
 ·have hq:((xs.length:Int)=(ys.length:Int))=True:=by first | exact eq_true (by omega) | exact eq_false (by omega)
  refine Ae Bf AF (of_decide_eq_true rfl) ?_
  simp (disch:=omega) only [AE,go_sem,Aa,hq]
  refine go_loop (α:=Int) (fun a=>⟨slots 32 0 [(1,.arr (ys.map Tm.d)),(2,.fn fid []),(15,.arr (xs.map Tm.d)),(16,.int .i64 xs.length),(17,.int .i64 a)],[]⟩) (fun a=>∃ k:Nat,a=k∧k≤(xs).length∧dec (xs.drop k=ys.drop k)=dec (xs=ys)) (fun a=>(xs).length-(a).toNat) 0 ⟨0,rfl,zF _,by rw [zJ,zJ]⟩ (by simp (disch:=omega) only [go_sem,Aa]) ?_
  rintro i ⟨k,hi,hk,hR⟩
  have hni:i.toNat=k:=by omega
  have hni1:(i+1).toNat=k+1:=by omega
  rcases zB k (xs).length with hlt | hge
  ·have hgx:=get_at Tm.d hlt
   rw [Tm.d_eq] at hgx
   have hlt':k<ys.length:=by omega
   have hgy:=get_at Tm.d hlt'
   rw [Tm.d_eq] at hgy
   have hc:=hE xs[k] (zC hlt) ys[k] (zC hlt')
   rw [Fo (P7 hlt hlt')] at hR
   by_cases h0:xs[k]=ys[k]
   ·rw [As h0] at hc
    rw [Fo (and_iff_right h0)] at hR
    simp (disch:=omega) only [go_sem,Aa,hni,hgx,hgy,hc,hg,hm]
    exact ⟨i+1,⟨k+1,by omega,hlt,hR⟩,by omega,by first | trivial | rfl⟩
   ·rw [Ay h0] at hc
    rw [Ay (fun h=>h0 h.1)] at hR
    simp (disch:=omega) only [go_sem,Aa,hni,hgx,hgy,hc,hg,hm]
    exact hR
  ·rw [zH hge,zH (by omega),EH] at hR
   simp (disch:=omega) only [go_sem,Aa,hni]
   exact hR
 ·have hq:((xs.length:Int)=(ys.length:Int))=False:=by first | exact eq_true (by omega) | exact eq_false (by omega)
  have he:dec (xs=ys)=false:=Ay fun h=>hlen (by rw [h])
  rw [he]
  refine Ae Bf AF (of_decide_eq_true rfl) ?_
  simp (disch:=omega) only [AE,go_sem,Aa,hq]
theorem Tm.eq_iff (x y:Tm):x=y ↔ x.name=y.name∧x.args=y.args:=by
 obtain ⟨n,a⟩:=x
 obtain ⟨m,b⟩:=y
 rw [Tm.mk.injEq]; rfl
theorem SO (x:Tm) (y:Tm) (hnx:x.nodes≤1099511627776) (hny:y.nodes≤1099511627776) (ih:∀ x'∈x.args,∀ y':Tm,x'.nodes≤1099511627776→y'.nodes≤1099511627776→E 88 [x'.sv,y'.sv] []=some (.bool (dec (x'=y')),[])):E 88 [x.sv,y.sv] []=some (.bool (dec (x=y)),[]):=by
 have lx:=Tm.length_le x.args
 have ly:=Tm.length_le y.args
 have nx:=Tm.Ao x
 have ny:=Tm.Ao y
 have h6:=WK 88 x.args y.args (by omega) (by omega) N5 (by rw [Ad]) fun x' hx' y' hy'=>ih x' hx' y' (by have:=Tm.AX hx'; omega) (by have:=Tm.AX hy'; omega)
 rw [Fo (Tm.eq_iff x y)]
 by_cases h0:x.name=y.name
 ·rw [Fo (and_iff_right h0)]
  have hq:(x.name=y.name)=True:=by simp [h0]
  refine Ae HV Ad (of_decide_eq_true rfl) ?_
  simp (disch:=omega) only [Fw,go_sem,Aa,hq,h6,AF]
 ·have hq:(x.name=y.name)=False:=by simp [h0]
  rw [Ay (fun h=>h0 h.1)]
  refine Ae HV Ad (of_decide_eq_true rfl) ?_
  simp (disch:=omega) only [Fw,go_sem,Aa,hq]
theorem E0 (x y:Tm) (hnx:x.nodes≤1099511627776) (hny:y.nodes≤1099511627776):E 88 [x.sv,y.sv] []=some (.bool (dec (x=y)),[]) :=
 SO x y hnx hny fun x' hx' y' h h'=>E0 x' y' h h'
termination_by SizeOf.sizeOf x
decreasing_by exact Tm.Az hx'
theorem Qbi (x:Tm) (y:Tm) (hnx:x.nodes≤1099511627776) (hny:y.nodes≤1099511627776) (ih:∀ x'∈x.args,∀ y':Tm,x'.nodes≤1099511627776→y'.nodes≤1099511627776→E 68 [x'.sv,y'.sv] []=some (.bool (dec (x'=y')),[])):E 68 [x.sv,y.sv] []=some (.bool (dec (x=y)),[]):=by
 have lx:=Tm.length_le x.args
 have ly:=Tm.length_le y.args
 have nx:=Tm.Ao x
 have ny:=Tm.Ao y
 rw [Fo (Tm.eq_iff x y)]
 by_cases h0:x.name=y.name
 ·rw [Fo (and_iff_right h0)]
  have hq:(x.name=y.name)=True:=by simp [h0]
  by_cases hlen:x.args.length=y.args.length
  ·have hq2:((x.args.length:Int)=(y.args.length:Int))=True:=by first | exact eq_true (by omega) | exact eq_false (by omega)
   refine Ae I6 Ai (of_decide_eq_true rfl) ?_
   simp (disch:=omega) only [Gb,go_sem,Aa,hq,hq2]
   refine go_loop (α:=Int) (fun a=>⟨slots 39 0 [(2,.ptr 0 0),(3,.ptr 1 0),(5,.int .i64 a)],[.box 71 [.str x.name,.arr (x.args.map Tm.d)],.box 71 [.str y.name,.arr (y.args.map Tm.d)]]⟩) (fun a=>∃ k:Nat,a=k∧k≤(x.args).length∧dec (x.args.drop k=y.args.drop k)=dec (x.args=y.args)) (fun a=>(x.args).length-(a).toNat) 0 ⟨0,rfl,zF _,by rw [zJ,zJ]⟩ (by simp (disch:=omega) only [go_sem,Aa]) ?_
   rintro i ⟨k,hi,hk,hR⟩
   have hni:i.toNat=k:=by omega
   have hni1:(i+1).toNat=k+1:=by omega
   rcases zB k (x.args).length with hlt | hge
   ·have hgx:=get_at Tm.d hlt
    rw [Tm.d_eq] at hgx
    have hlt':k<y.args.length:=by omega
    have hgy:=get_at Tm.d hlt'
    rw [Tm.d_eq] at hgy
    have hc:=ih x.args[k] (zC hlt) y.args[k] (by have:=Tm.AX (zC hlt); omega) (by have:=Tm.AX (zC hlt'); omega)
    rw [Fo (P7 hlt hlt')] at hR
    by_cases h0:x.args[k]=y.args[k]
    ·rw [As h0] at hc
     rw [Fo (and_iff_right h0)] at hR
     simp (disch:=omega) only [go_sem,Aa,hni,hgx,hgy,hc,Ai]
     exact ⟨i+1,⟨k+1,by omega,hlt,hR⟩,by omega,by first | trivial | rfl⟩
    ·rw [Ay h0] at hc
     rw [Ay (fun h=>h0 h.1)] at hR
     simp (disch:=omega) only [go_sem,Aa,hni,hgx,hgy,hc,Ai]
     exact hR
   ·rw [zH hge,zH (by omega),EH] at hR
    simp (disch:=omega) only [go_sem,Aa,hni]
    exact hR
  ·have hq2:((x.args.length:Int)=(y.args.length:Int))=False:=by first | exact eq_true (by omega) | exact eq_false (by omega)
   have he:dec (x.args=y.args)=false:=Ay fun h=>hlen (by rw [h])
   rw [he]
   refine Ae I6 Ai (of_decide_eq_true rfl) ?_
   simp (disch:=omega) only [Gb,go_sem,Aa,hq,hq2]
 ·have hq:(x.name=y.name)=False:=by simp [h0]
  rw [Ay (fun h=>h0 h.1)]
  refine Ae I6 Ai (of_decide_eq_true rfl) ?_
  simp (disch:=omega) only [Gb,go_sem,Aa,hq]
theorem IT (x y:Tm) (hnx:x.nodes≤1099511627776) (hny:y.nodes≤1099511627776):E 68 [x.sv,y.sv] []=some (.bool (dec (x=y)),[]) :=
 Qbi x y hnx hny fun x' hx' y' h h'=>IT x' y' h h'
termination_by SizeOf.sizeOf x
decreasing_by exact Tm.Az hx'
def FQ:SC:=(.seq (.reg [⟨some 2,none,.mv (.c .nil)⟩]) (.seq (.seq (.reg [⟨some 6,none,.mv (.t 0)⟩,⟨some 7,none,.len false (.t 6)⟩,⟨some 8,none,.bin .eql false (.t 7) (.c (.int .i64 0))⟩]) (.cond (.t 8) (.seq (.reg [⟨some 2,none,.mv (.c .nil)⟩]) .ret) .skip)) (.seq (.reg [⟨some 9,none,.mv (.t 0)⟩,⟨some 10,none,.len false (.t 9)⟩,⟨(some 11),none,(.mkslice 71 2 40 [(.str ⟨#[]⟩),.nil] (.t 10))⟩,⟨some 3,none,.mv (.t 11)⟩]) (.seq (.seq (.reg [⟨some 12,none,.mv (.t 0)⟩,⟨some 13,none,.len false (.t 12)⟩,⟨some 14,none,.mv (.c (.int .i64 0))⟩]) (.block 0 (.loop [0,0,0,1,0,0,0,0,0,0,0,0,1,1,1,0,0,0,0,0,0,0,0,0,0,0] (.seq (.reg [⟨some 15,none,.bin .lss false (.t 14) (.t 13)⟩]) (.seq (.cond (.t 15) .skip (.exit 0)) (.seq (.block 1 (.seq (.reg [⟨some 16,none,.mv (.t 14)⟩,⟨some 17,none,.iaddr 2 (.t 12) (.t 14)⟩,⟨some 18,none,.load true 2 (.t 17)⟩,⟨(some 5),none,(.alloc 71 [(.str ⟨#[]⟩),.nil])⟩,⟨some 4,none,.mv (.t 16)⟩,⟨none,none,(.store 2 (.t 5) (.t 18))⟩]) (.reg [⟨some 19,none,.mv (.t 3)⟩,⟨some 20,none,.mv (.t 4)⟩,⟨some 21,none,.load true 2 (.t 5)⟩,⟨some 22,none,.call 133 [(.t 21)]⟩,⟨some 23,none,.iaddr 2 (.t 19) (.t 20)⟩,⟨none,none,(.store 2 (.t 23) (.t 22))⟩]))) (.reg [⟨some 24,none,.bin .add false (.t 14) (.c (.int .i64 1))⟩,⟨some 14,none,.mv (.t 24)⟩]))))))) (.seq (.reg [⟨some 25,none,.mv (.t 3)⟩,⟨some 2,none,.mv (.t 25)⟩]) .ret)))))
theorem IU:codeOf Tryz.prog 165=some ⟨26,FQ,[(.tmp 2)]⟩:=by kernel_rfl
theorem FR:modes 165=⟨[],.own [some (71,2)],none,false⟩:=by unfold modes; rfl
def JO:SC:=(.seq (.reg [⟨some 1,none,.boxv 71 2 (.t 0)⟩,⟨(some 2),none,(.alloc 71 [(.str ⟨#[]⟩),.nil])⟩]) (.seq (.dreg [[],[0],[],[2],[3,2],[1,0,4,3,2],[5,1,0,4,3,2]] [⟨some 3,none,.faddr 0 (.t 1)⟩,⟨some 4,none,.load false 1 (.t 3)⟩,⟨some 5,none,.faddr 1 (.t 1)⟩,⟨some 6,none,.load false 1 (.t 5)⟩,⟨some 7,none,.call 165 [(.t 6)]⟩,⟨(some 8),none,(.build [(.str ⟨#[]⟩),.nil] [(0,(1,(.t 4))),(1,(1,(.t 7)))])⟩,⟨none,none,(.store 2 (.t 2) (.t 8))⟩]) .ret))
theorem PO:codeOf Tryz.prog 133=some ⟨9,JO,[(.cell 2 true 2)]⟩:=by kernel_rfl
theorem Ba:modes 133=⟨[],.asis,none,false⟩:=by unfold modes; rfl
def N6:SC:=(.seq (.reg [⟨some 1,none,.boxv 71 2 (.t 0)⟩,⟨(some 2),none,(.alloc 71 [(.str ⟨#[]⟩),.nil])⟩]) (.seq (.reg [⟨some 5,none,.faddr 0 (.t 1)⟩,⟨some 6,none,.load false 1 (.t 5)⟩,⟨(some 7),none,(.build [(.str ⟨#[]⟩),.nil] [(0,(1,(.t 6)))])⟩,⟨(some 3),none,(.alloc 71 [(.str ⟨#[]⟩),.nil])⟩,⟨none,none,(.store 2 (.t 3) (.t 7))⟩]) (.seq (.seq (.reg [⟨some 4,none,.mv (.c (.int .i64 0))⟩]) (.block 0 (.loop [0,1,1,1,1,0,0,0,0,0,0,0,0,0,0,0,0,0,0,0,0,0,0,0,0,0,0] (.seq (.seq (.reg [⟨some 8,none,.mv (.t 4)⟩,⟨some 9,none,.faddr 1 (.t 1)⟩,⟨some 10,none,.load false 1 (.t 9)⟩,⟨some 11,none,.len false (.t 10)⟩,⟨some 12,none,.bin .lss false (.t 8) (.t 11)⟩]) (.cond (.t 12) .skip (.exit 0))) (.seq (.block 1 (.dreg [[],[0],[],[2],[],[3,2,4],[5,3,2,4],[6,5,3,2,4],[7,6,5,3,2,4],[1,0,8,7,6,5,3,2,4],[0,1,2,3,4,5,6,7,8,9],[10,0,1,2,3,4,5,6,7,8,9]] [⟨some 15,none,.faddr 1 (.t 3)⟩,⟨some 16,none,.load false 1 (.t 15)⟩,⟨some 17,none,.faddr 1 (.t 1)⟩,⟨some 18,none,.load false 1 (.t 17)⟩,⟨some 19,none,.mv (.t 4)⟩,⟨some 20,none,.iaddr 2 (.t 18) (.t 19)⟩,⟨some 21,none,.load true 2 (.t 20)⟩,⟨some 22,none,.call 148 [(.t 21)]⟩,⟨(some 23),none,(.mkrow 71 2 [(.str ⟨#[]⟩),.nil] 1 [(0,(.t 22))])⟩,⟨(some 24),none,(.append 71 2 40 [(.str ⟨#[]⟩),.nil] (.t 16) (.t 23))⟩,⟨some 25,none,.faddr 1 (.t 3)⟩,⟨none,none,(.store 1 (.t 25) (.t 24))⟩])) (.reg [⟨some 13,none,.mv (.t 4)⟩,⟨some 14,none,.bin .add false (.t 13) (.c (.int .i64 1))⟩,⟨some 4,none,.mv (.t 14)⟩])))))) (.seq (.reg [⟨some 26,none,.load true 2 (.t 3)⟩,⟨none,none,(.store 2 (.t 2) (.t 26))⟩]) .ret))))
theorem UV:codeOf Tryz.prog 148=some ⟨27,N6,[(.cell 2 true 2)]⟩:=by kernel_rfl
theorem Db:modes 148=⟨[],.frz,none,false⟩:=by unfold modes; rfl
theorem UW (xs:List Tm) (hl:xs.length≤1099511627776) (h:∀ x∈xs,E 133 [x.sv] []=some (x.osv,x.obs)):E 165 [.arr (xs.map Tm.d)] []=some (.ref 0,[.row 71 2 (xs.map Tm.o)]):=by
 cases xs with
 | nil =>
  refine Ae IU FR (of_decide_eq_true rfl) ?_
  simp (disch:=omega) only [FQ,go_sem,Aa]
 | cons x0 xs0 =>
 generalize hxs:x0 :: xs0=xs at *
 have hpos:0<xs.length:=by rw [←hxs]; simp
 refine Ae IU FR (of_decide_eq_true rfl) ?_
 simp (disch:=omega) only [FQ,go_sem,Aa]
 refine go_loop (α:=Int) (fun a=>⟨slots 26 0 [(3,.ref 0),(12,.arr (xs.map Tm.d)),(13,.int .i64 xs.length),(14,.int .i64 a)],[.row 71 2 (Gm Tm.o [.str ⟨#[]⟩,.ow []] xs a.toNat)]⟩) (fun a=>∃ k:Nat,a=k∧k≤(xs).length) (fun a=>(xs).length-(a).toNat) 0 ⟨0,rfl,zF _⟩ (by simp (disch:=omega) only [go_sem,Aa,J1,yA]) ?_
 rintro i ⟨k,hi,hk⟩
 have hni:i.toNat=k:=by omega
 have hni1:(i+1).toNat=k+1:=by omega
 rcases zB k (xs).length with hlt | hge
 ·have hg:=get_at Tm.d hlt
  rw [Tm.d_eq] at hg
  have hz:=L6 Tm.o [.str ⟨#[]⟩,.ow []] hlt
  have hc:=h xs[k] (zC hlt)
  have hs:=L7 Tm.o [.str ⟨#[]⟩,.ow []] hlt
  rw [Tm.o_eq] at hs
  simp (disch:=omega) only [go_sem,Aa,hni,hg,hc,hz,L4,Ba,Tm.osv,Tm.obs]
  refine ⟨i+1,⟨k+1,by omega,hlt⟩,by omega,?_⟩
  simp (disch:=omega) only [go_sem,Aa,hni1,hs]
 ·obtain rfl:k=xs.length:=by omega
  simp (disch:=omega) only [go_sem,Aa,hni,L5]
theorem WL (x:Tm) (h:E 165 [.arr (x.args.map Tm.d)] []=some (.ref 0,[.row 71 2 (x.args.map Tm.o)])):E 133 [x.sv] []=some (x.osv,x.obs):=by
 refine Ae PO Ba (of_decide_eq_true rfl) ?_
 simp (disch:=omega) only [JO,go_sem,Aa,h,FR]
theorem J7 (x:Tm) (hn:x.nodes≤1099511627776):E 133 [x.sv] []=some (x.osv,x.obs) :=
 WL x (UW x.args (by have:=Tm.Ao x; have:=Tm.length_le x.args; omega) fun y hy=>J7 y (by have:=Tm.AX hy; have:=Tm.Ao x; omega))
termination_by SizeOf.sizeOf x
decreasing_by exact Tm.Az hy
def Qfp (res:RM) (n0:Nat) (rs:List RX) (Q:SV × List Ob→Prop) (x:X) (st:St):Prop:=∃ out,SJ res n0 rs out x st∧Q out
theorem exq {α:Type} {a:α} {Q:α→Prop}:(∃ out,some a=some out∧Q out)=Q a:=propext ⟨fun ⟨o,h,q⟩=>by obtain rfl:=yK h; exact q,fun q=>⟨a,rfl,q⟩⟩
theorem QeM {res:RM} {n0:Nat} {rs:List RX} {Q:SV × List Ob→Prop} {sl:List SV} {ob:List Ob}:Qfp res n0 rs Q .ret ⟨sl,ob⟩=∃ out,Nu res n0 ob (Ou ⟨sl,ob⟩ rs)=some out∧Q out:=rfl
theorem QeN {res:RM} {n0:Nat} {rs:List RX} {Q:SV × List Ob→Prop} {sl:List SV} {ob:List Ob}:Qfp res n0 rs Q .normal ⟨sl,ob⟩=∃ out,Nu res n0 ob (Ou ⟨sl,ob⟩ rs)=some out∧Q out:=rfl
attribute [go_sem] QeM QeN exq
def Tm.osh (x:Tm):List OT:=[.str x.name,.sh (x.args.map Tm.d)]
theorem Tm.R8 (x:Tm):x.osh=[.str x.name,.sh (x.args.map Tm.d)]:=rfl
theorem Tm.N7:∀ xs:List Tm,OT.AO (xs.map Tm.osh)=true
 | []=>rfl
 | x :: xs=>by rw [zL,Tm.R8]; simp [OT.AO,OT.D0,OT.full,Tm.N7 xs]
theorem Tm.UX:∀ xs:List Tm,OT.erss (xs.map Tm.osh)=xs.map Tm.d
 | []=>rfl
 | x :: xs=>by rw [zL,zL,Tm.R8,Tm.d_eq]; simp [OT.erss,OT.ers,OT.er,Tm.UX xs]
theorem DJ {α β:Type} (f:α→β) {xs:List α} {k:Nat} (h:k<xs.length):(xs.take k).map f++[f xs[k]]=(xs.take (k+1)).map f:=by
 rw [yB h,yG]; rfl
theorem Qc3 (x:Tm) (hn:x.nodes≤1099511627776) (ih:∀ y∈x.args,E 148 [y.sv] []=some (y.sv,[])):E 148 [x.sv] []=some (x.sv,[]):=by
 have hl:=Tm.length_le x.args
 have hne:=Tm.Ao x
 have h10:((1:Int)=0)=False:=by simp
 have hfu:=Tm.N7 x.args
 have her:=Tm.UX x.args
 refine Ae UV Db (of_decide_eq_true rfl) ?_
 simp (disch:=omega) only [N6,go_sem,Aa]
 refine go_loop (α:=Int) (fun a=>⟨slots 27 0 [(1,.ptr 0 0),(2,.ptr 1 0),(3,.ptr 2 0),(4,.int .i64 a)],(if a=0 then [.box 71 [.str x.name,.arr (x.args.map Tm.d)],.box 71 [.str ⟨#[]⟩,.nil],.box 71 [.str x.name,.nil]] else [.box 71 [.str x.name,.arr (x.args.map Tm.d)],.box 71 [.str ⟨#[]⟩,.nil],.box 71 [.str x.name,.ref 3],.row 71 2 ((x.args.take a.toNat).map Tm.osh)])⟩) (fun a=>∃ k:Nat,a=k∧k≤(x.args).length) (fun a=>(x.args).length-(a).toNat) 0 ⟨0,rfl,zF _⟩ (by simp (disch:=omega) only [go_sem,Aa,eq_self,if_true]) ?_
 rintro i ⟨k,hi,hk⟩
 have hni:i.toNat=k:=by omega
 have hni1:(i+1).toNat=k+1:=by omega
 rcases zB k (x.args).length with hlt | hge
 ·have hg:=get_at Tm.d hlt
  rw [Tm.d_eq] at hg
  have hc:=ih x.args[k] (zC hlt)
  have hs:=DJ Tm.osh hlt
  rw [Tm.R8] at hs
  rcases zI k with h0 | h0
  ·subst h0
   obtain rfl:i=0:=hi
   rw [zZ,zK,zU] at hs
   simp (disch:=omega) only [go_sem,Aa,hni,hg,hc,Db,eq_self,if_true]
   refine ⟨1,⟨1,rfl,hlt⟩,by omega,?_⟩
   simp (disch:=omega) only [go_sem,Aa,h10,if_false,hs]
  ·have hi0:(i=0)=False:=by simp; omega
   have hi1:(i+1=0)=False:=by simp; omega
   have htl:(x.args.take k).length=k:=by rw [zP]; omega
   simp (disch:=omega) only [go_sem,Aa,hni,hg,hc,Db,hi0,if_false,htl]
   refine ⟨i+1,⟨k+1,by omega,hlt⟩,by omega,?_⟩
   simp (disch:=omega) only [go_sem,Aa,hni1,hi1,if_false,hs]
 ·obtain rfl:k=x.args.length:=by omega
  have ht:x.args.take x.args.length=x.args:=zQ
  rcases zI x.args.length with h0 | h0
  ·have hx:x.args=[]:=zG h0
   obtain rfl:i=0:=by omega
   simp (disch:=omega) only [go_sem,Aa,hni,hx,eq_self,if_true,zK,zT]
  ·have hi0:(i=0)=False:=by simp; omega
   simp (disch:=omega) only [go_sem,Aa,hni,hi0,if_false,ht,hfu,her]
theorem Qj (x:Tm) (hn:x.nodes≤1099511627776):E 148 [x.sv] []=some (x.sv,[]) :=
 Qc3 x hn fun y hy=>Qj y (by have:=Tm.AX hy; have:=Tm.Ao x; omega)
termination_by SizeOf.sizeOf x
decreasing_by exact Tm.Az hy
def Hv:SC:=(.seq (.reg [⟨some 1,none,.boxv 73 3 (.t 0)⟩,⟨(some 2),none,(.alloc 73 [(.bool false),(.str ⟨#[]⟩),.nil])⟩]) (.seq (.dreg [[],[0],[],[2],[3,2],[1,0,4,3,2],[5,1,0,4,3,2]] [⟨some 3,none,.faddr 0 (.t 1)⟩,⟨some 4,none,.load false 1 (.t 3)⟩,⟨some 5,none,.faddr 1 (.t 1)⟩,⟨some 6,none,.load true 2 (.t 5)⟩,⟨some 7,none,.call 133 [(.t 6)]⟩,⟨(some 8),none,(.build [(.bool false),(.str ⟨#[]⟩),.nil] [(0,(1,(.t 4))),(1,(2,(.t 7)))])⟩,⟨none,none,(.store 3 (.t 2) (.t 8))⟩]) .ret))
theorem MA:codeOf Tryz.prog 169=some ⟨9,Hv,[(.cell 2 true 3)]⟩:=by kernel_rfl
theorem CO:modes 169=⟨[],.own [none,none,some (71,2)],none,false⟩:=by unfold modes; rfl
def Hw:SC:=(.seq (.reg [⟨some 2,none,.boxv 73 3 (.t 0)⟩,⟨some 3,none,.boxv 73 3 (.t 1)⟩,⟨some 4,none,.mv (.c (.bool false))⟩]) (.seq (.reg [⟨some 5,none,.faddr 0 (.t 2)⟩,⟨some 6,none,.load false 1 (.t 5)⟩,⟨some 7,none,.faddr 0 (.t 3)⟩,⟨some 8,none,.load false 1 (.t 7)⟩,⟨some 9,none,.bin .eql true (.t 6) (.t 8)⟩,⟨some 10,none,.mv (.t 9)⟩,⟨(some 11),(some (10,true)),(.faddr 1 (.t 2))⟩,⟨(some 12),(some (10,true)),(.load true 2 (.t 11))⟩,⟨(some 13),(some (10,true)),(.faddr 1 (.t 3))⟩,⟨(some 14),(some (10,true)),(.load true 2 (.t 13))⟩,⟨(some 15),(some (10,true)),(.call 88 [(.t 12),(.t 14)])⟩,⟨some 16,none,.pick (.t 10) (.t 15) (.c (.bool false))⟩,⟨some 4,none,.mv (.t 16)⟩]) .ret))
theorem MB:codeOf Tryz.prog 101=some ⟨17,Hw,[(.tmp 4)]⟩:=by kernel_rfl
theorem Fd:modes 101=⟨[],.asis,none,false⟩:=by unfold modes; rfl
def JP:SC:=(.seq (.reg [⟨some 2,none,.alloc 28 [.nil]⟩]) (.seq (.reg [⟨some 6,none,.build [.nil] []⟩,⟨some 3,none,.alloc 28 [.nil]⟩,⟨none,none,(.store 1 (.t 3) (.t 6))⟩]) (.seq (.seq (.reg [⟨some 7,none,.mv (.t 0)⟩,⟨some 8,none,.len false (.t 7)⟩,⟨some 9,none,.mv (.c (.int .i64 0))⟩]) (.block 0 (.loop [0,0,1,1,0,0,0,1,1,1,0,0,0,0,0,0,0,0,0,0,0,0,0,0,0,0,0,0,0] (.seq (.reg [⟨some 10,none,.bin .lss false (.t 9) (.t 8)⟩]) (.seq (.cond (.t 10) .skip (.exit 0)) (.seq (.block 1 (.seq (.reg [⟨some 11,none,.iaddr 3 (.t 7) (.t 9)⟩,⟨some 12,none,.load true 3 (.t 11)⟩,⟨(some 5),none,(.alloc 73 [(.bool false),(.str ⟨#[]⟩),.nil])⟩,⟨none,none,(.store 3 (.t 5) (.t 12))⟩]) (.dreg [[],[0],[],[2],[3,2],[1,0,4,3,2],[0,1,2,3,4,5],[6,0,1,2,3,4,5]] [⟨some 13,none,.faddr 0 (.t 3)⟩,⟨some 14,none,.load false 1 (.t 13)⟩,⟨some 15,none,.load true 3 (.t 5)⟩,⟨some 16,none,.call 169 [(.t 15)]⟩,⟨(some 17),none,(.mkrow 73 3 [(.bool false),(.str ⟨#[]⟩),.nil] 1 [(0,(.t 16))])⟩,⟨(some 18),none,(.append 73 3 48 [(.bool false),(.str ⟨#[]⟩),.nil] (.t 14) (.t 17))⟩,⟨some 19,none,.faddr 0 (.t 3)⟩,⟨none,none,(.store 1 (.t 19) (.t 18))⟩]))) (.reg [⟨some 20,none,.bin .add false (.t 9) (.c (.int .i64 1))⟩,⟨some 9,none,.mv (.t 20)⟩]))))))) (.seq (.reg [⟨some 21,none,.faddr 0 (.t 3)⟩,⟨some 22,none,.load false 1 (.t 21)⟩,⟨some 23,none,.call 170 [(.t 22),(.c (.fn 83 []))]⟩]) (.seq (.reg [⟨some 24,none,.faddr 0 (.t 3)⟩,⟨some 25,none,.load false 1 (.t 24)⟩,⟨some 26,none,.call 171 [(.t 25),(.c (.fn 101 []))]⟩,⟨some 27,none,.faddr 0 (.t 3)⟩,⟨none,none,(.store 1 (.t 27) (.t 26))⟩]) (.seq (.reg [⟨some 28,none,.load true 1 (.t 3)⟩,⟨none,none,(.store 1 (.t 2) (.t 28))⟩]) .ret))))))
theorem PP:codeOf Tryz.prog 138=some ⟨29,JP,[(.cell 2 true 1)]⟩:=by kernel_rfl
theorem CW:modes 138=⟨[],.own [some (73,3)],none,false⟩:=by unfold modes; rfl
def Ma:SC:=(.seq (.reg [⟨some 2,none,.alloc 28 [.nil]⟩]) (.seq (.reg [⟨(some 7),none,(.mkrow 73 3 [(.bool false),(.str ⟨#[]⟩),.nil] 0 [])⟩,⟨some 3,none,.mv (.t 7)⟩]) (.seq (.seq (.reg [⟨some 4,none,.mv (.c (.int .i64 0))⟩]) (.block 0 (.loop [1,0,1,1,1,0,0,0,0,0,0,0,0,0,0,0,0,0,0,0,0,0,0,0,0,0,0,0,0,0,0,0,0,0,0,0,0,0,0,0,0,0,0,0,0,0,0,0,0,0,0,0,0,0,0,0,0,0,0,0,0,0,0,0,0,0,0,0,0,0,0,0,0,0] (.seq (.seq (.reg [⟨some 8,none,.mv (.t 4)⟩,⟨some 9,none,.mv (.t 0)⟩,⟨some 10,none,.len false (.t 9)⟩,⟨some 11,none,.bin .lss false (.t 8) (.t 10)⟩]) (.cond (.t 11) .skip (.exit 0))) (.seq (.block 1 (.seq (.reg [⟨some 5,none,.mv (.c (.int .i64 0))⟩]) (.seq (.block 2 (.loop [1,0,1,1,1,1,0,0,0,0,0,0,0,0,0,0,0,0,0,0,0,0,0,0,0,0,0,0,0,0,0,0,0,0,0,0,0,0,0,0,0,0,0,0,0,0,0,0,0,0,0,0,0,0,0,0,0,0,0,0,0,0,0,0,0,0,0,0,0,0,0,0,0,0] (.seq (.seq (.dreg [[],[],[1],[0,2,1],[3,0,2,1],[4,3,0,2,1],[4,3,0,2,1],[5,4,3,0,2,1,6],[7,5,4,3,0,2,1,6],[4,3,0,2,1],[4,3,0,2,1],[9,4,3,0,2,1,10],[11,9,4,3,0,2,1,10],[8,7,5,4,3,0,2,1,6,12,11,9,10],[13,8,7,5,4,3,0,2,1,6,12,11,9,10],[4,3,0,2,1,14,13,8,7,5,6,12,11,9,10]] [⟨some 14,none,.mv (.t 5)⟩,⟨some 15,none,.mv (.t 3)⟩,⟨some 16,none,.len false (.t 15)⟩,⟨some 17,none,.bin .lss false (.t 14) (.t 16)⟩,⟨some 18,none,.mv (.t 17)⟩,⟨(some 19),(some (18,true)),(.mv (.t 3))⟩,⟨(some 20),(some (18,true)),(.mv (.t 5))⟩,⟨(some 21),(some (18,true)),(.iaddr 3 (.t 19) (.t 20))⟩,⟨(some 22),(some (18,true)),(.load true 3 (.t 21))⟩,⟨(some 23),(some (18,true)),(.mv (.t 0))⟩,⟨(some 24),(some (18,true)),(.mv (.t 4))⟩,⟨(some 25),(some (18,true)),(.iaddr 3 (.t 23) (.t 24))⟩,⟨(some 26),(some (18,true)),(.load true 3 (.t 25))⟩,⟨(some 27),(some (18,true)),(.call 73 [(.t 22),(.t 26)])⟩,⟨(some 28),(some (18,true)),(.bin .lss false (.t 27) (.c (.int .i64 0)))⟩,⟨some 29,none,.pick (.t 18) (.t 28) (.c (.bool false))⟩]) (.cond (.t 29) .skip (.exit 2))) (.block 3 (.reg [⟨some 30,none,.mv (.t 5)⟩,⟨some 31,none,.bin .add false (.t 30) (.c (.int .i64 1))⟩,⟨some 5,none,.mv (.t 31)⟩]))))) (.seq (.seq (.dreg [[],[],[1],[0,2,1],[3,0,2,1],[4,3,0,2,1],[4,3,0,2,1],[5,4,3,0,2,1,6],[7,5,4,3,0,2,1,6],[4,3,0,2,1],[4,3,0,2,1],[9,4,3,0,2,1,10],[11,9,4,3,0,2,1,10],[8,7,5,4,3,0,2,1,6,12,11,9,10],[13,8,7,5,4,3,0,2,1,6,12,11,9,10],[4,3,0,2,1,14,13,8,7,5,6,12,11,9,10]] [⟨some 32,none,.mv (.t 5)⟩,⟨some 33,none,.mv (.t 3)⟩,⟨some 34,none,.len false (.t 33)⟩,⟨some 35,none,.bin .lss false (.t 32) (.t 34)⟩,⟨some 36,none,.mv (.t 35)⟩,⟨(some 37),(some (36,true)),(.mv (.t 3))⟩,⟨(some 38),(some (36,true)),(.mv (.t 5))⟩,⟨(some 39),(some (36,true)),(.iaddr 3 (.t 37) (.t 38))⟩,⟨(some 40),(some (36,true)),(.load true 3 (.t 39))⟩,⟨(some 41),(some (36,true)),(.mv (.t 0))⟩,⟨(some 42),(some (36,true)),(.mv (.t 4))⟩,⟨(some 43),(some (36,true)),(.iaddr 3 (.t 41) (.t 42))⟩,⟨(some 44),(some (36,true)),(.load true 3 (.t 43))⟩,⟨(some 45),(some (36,true)),(.call 73 [(.t 40),(.t 44)])⟩,⟨(some 46),(some (36,true)),(.bin .eql false (.t 45) (.c (.int .i64 0)))⟩,⟨some 47,none,.pick (.t 36) (.t 46) (.c (.bool false))⟩]) (.cond (.t 47) (.exit 1) .skip)) (.seq (.dreg [[],[],[0,1],[2,0,1],[3,2,0,1],[],[],[5,6],[7,5,6],[8,7,5,6],[9,8,7,5,6],[4,3,2,0,1,10,9,8,7,5,6],[],[12,11,4,3,2,0,1,10,9,8,7,5,6]] [⟨some 48,none,.mv (.t 0)⟩,⟨some 49,none,.mv (.t 4)⟩,⟨some 50,none,.iaddr 3 (.t 48) (.t 49)⟩,⟨some 51,none,.faddr 0 (.t 50)⟩,⟨some 52,none,.load false 1 (.t 51)⟩,⟨some 53,none,.mv (.t 0)⟩,⟨some 54,none,.mv (.t 4)⟩,⟨some 55,none,.iaddr 3 (.t 53) (.t 54)⟩,⟨some 56,none,.faddr 1 (.t 55)⟩,⟨some 57,none,.load true 2 (.t 56)⟩,⟨some 58,none,.call 148 [(.t 57)]⟩,⟨(some 59),none,(.build [(.bool false),(.str ⟨#[]⟩),.nil] [(0,(1,(.t 52))),(1,(2,(.t 58)))])⟩,⟨(some 6),none,(.alloc 73 [(.bool false),(.str ⟨#[]⟩),.nil])⟩,⟨none,none,(.store 3 (.t 6) (.t 59))⟩]) (.dreg [[],[],[],[1,2],[0,3,1,2],[],[5],[4,0,3,1,2,6,5],[],[],[8,9],[7,4,0,3,1,2,6,5,10,8,9],[11,7,4,0,3,1,2,6,5,10,8,9]] [⟨(some 60),none,(.mkrow 73 3 [(.bool false),(.str ⟨#[]⟩),.nil] 0 [])⟩,⟨some 61,none,.mv (.t 3)⟩,⟨some 62,none,.mv (.t 5)⟩,⟨some 63,none,.slice false 3 (.t 61) none (some (.t 62))⟩,⟨(some 64),none,(.append 73 3 48 [(.bool false),(.str ⟨#[]⟩),.nil] (.t 60) (.t 63))⟩,⟨some 65,none,.load true 3 (.t 6)⟩,⟨(some 66),none,(.mkrow 73 3 [(.bool false),(.str ⟨#[]⟩),.nil] 1 [(0,(.t 65))])⟩,⟨(some 67),none,(.append 73 3 48 [(.bool false),(.str ⟨#[]⟩),.nil] (.t 64) (.t 66))⟩,⟨some 68,none,.mv (.t 3)⟩,⟨some 69,none,.mv (.t 5)⟩,⟨some 70,none,.slice false 3 (.t 68) (some (.t 69)) none⟩,⟨(some 71),none,(.append 73 3 48 [(.bool false),(.str ⟨#[]⟩),.nil] (.t 67) (.t 70))⟩,⟨some 3,none,.mv (.t 71)⟩])))))) (.reg [⟨some 12,none,.mv (.t 4)⟩,⟨some 13,none,.bin .add false (.t 12) (.c (.int .i64 1))⟩,⟨some 4,none,.mv (.t 13)⟩])))))) (.seq (.reg [⟨some 72,none,.mv (.t 3)⟩,⟨some 73,none,.build [.nil] [(0,(1,(.t 72)))]⟩,⟨none,none,(.store 1 (.t 2) (.t 73))⟩]) .ret))))
theorem SP:codeOf Tryz.prog 117=some ⟨74,Ma,[(.cell 2 true 1)]⟩:=by kernel_rfl
theorem Di:modes 117=⟨[],.frl [10],none,false⟩:=by unfold modes; rfl
theorem Mb (x:Lt) (hn:x.atom.nodes≤1099511627776):E 169 [x.sv] []=some (x.osv,x.obs):=by
 have h:=J7 x.atom hn
 refine Ae MA CO (of_decide_eq_true rfl) ?_
 simp (disch:=omega) only [Hv,go_sem,Aa,h,Ba,Tm.osv,Tm.obs]
theorem Lt.QeO (x y:Lt):dec (x=y)=(bif SA x.pos y.pos then dec (x.atom=y.atom) else false):=by
 obtain ⟨p,a⟩:=x
 obtain ⟨q,b⟩:=y
 have e:((⟨p,a⟩:Lt)=⟨q,b⟩) ↔ (p=q∧a=b):=by rw [Lt.mk.injEq]
 rw [Fo e]
 cases p <;> cases q
 ·show _=dec (a=b)
  exact Fo (and_iff_right rfl)
 ·exact Ay fun h=>by cases h.1
 ·exact Ay fun h=>by cases h.1
 ·show _=dec (a=b)
  exact Fo (and_iff_right rfl)
theorem Mc (x y:Lt) (hnx:x.atom.nodes≤1099511627776) (hny:y.atom.nodes≤1099511627776):E 101 [x.sv,y.sv] []=some (.bool (dec (x=y)),[]):=by
 have h:=E0 x.atom y.atom hnx hny
 have b1:(false == true)=false:=rfl
 have b2:(true == false)=false:=rfl
 rw [Lt.QeO]
 cases hp:x.pos <;> cases hq:y.pos
 all_goals
  refine Ae MB Fd (of_decide_eq_true rfl) ?_
  simp (disch:=omega) only [Hw,go_sem,Aa,h,hp,hq,b1,b2,SA,Ad]
def Lt.fine (x:Lt):Prop:=x.atom.cok=true∧x.atom.nodes≤1099511627776
theorem AL:modes 170=⟨[true],.asis,some HO,false⟩:=by unfold modes; rfl
theorem QdX (t:TypeId) (l:List Lt) (hl:l.length≤1099511627776) (hc:∀ x∈l,x.fine):E 170 [.ref 0,.fn 83 []] [.row t 3 (l.map Lt.o)]=some (.tup [],[.row t 3 ((Nq l).map Lt.o)]):=by
 rw [Ho (g:=HO) (congrArg FM.ext AL)]
 unfold HO
 simp only
 rw [As ⟨by first | trivial | rfl,by first | trivial | rfl,by simpa using hl,l,rfl,fun x hx y hy=>N4 x y (hc x hx).1 (hc y hy).1 (hc x hx).2 (hc y hy).2⟩,cond_true,Qi]
theorem Qbj:E 170 [.nil,.fn 83 []] []=some (.tup [],[]):=by
 rw [Ho (g:=HO) (congrArg FM.ext AL)]
 unfold HO
 simp only
 rw [As (by first | trivial | rfl),cond_true]
theorem AH:modes 171=⟨[true],.asis,some Ee,false⟩:=by unfold modes; rfl
theorem Ze (t:TypeId) (l:List Lt) (hl:l.length≤1099511627776) (hc:∀ x∈l,x.fine):E 171 [.ref 0,.fn 101 []] [.row t 3 (l.map Lt.o)]=some (.ref 1,[.gone,.row t 3 ((Hm l).map Lt.o)]):=by
 rw [Ho (g:=Ee) (congrArg FM.ext AH)]
 unfold Ee
 simp only
 rw [As ⟨by first | trivial | rfl,by first | trivial | rfl,by simpa using hl,l,rfl,fun x hx y hy=>E_told (Mc x y (hc x hx).2 (hc y hy).2)⟩,cond_true,Qi]
theorem UY:E 171 [.nil,.fn 101 []] []=some (.nil,[]):=by
 rw [Ho (g:=Ee) (congrArg FM.ext AH)]
 unfold Ee
 simp only
 rw [As (by first | trivial | rfl),cond_true]
noncomputable def mkC (l:List Lt):Cl:=⟨Hm (Nq l)⟩
theorem QdY:(mkC []).lits=[]:=by
 have e0:Nq []=[]:=List.mergeSort_nil
 unfold mkC
 rw [e0]; rfl
theorem MC (l:List Lt):Da (mkC l).lits:=UD (P2 l)
theorem Qk (l:List Lt) (z:Lt):z∈(mkC l).lits ↔ z∈l:=by
 show z∈Hm (Nq l) ↔ _
 rw [QaW]
 exact (GT l).mem_iff
theorem Qag (l:List Lt):(mkC l).lits.length≤l.length:=by
 show (Hm (Nq l)).length≤_
 rw [O6]
 have:=ZY (Hl (Nq l)) (Nq l).length
 rw [(GT l).length_eq] at this
 exact Nat.le_trans (by rw [(GT l).length_eq]; exact zO _) this
theorem R9 (l:List Lt) (hl:l.length≤1048576) (hf:∀ x∈l,x.fine):E 138 [.arr (l.map Lt.d)] []=some ((mkC l).osv,(mkC l).obs):=by
 have h10:((1:Int)=0)=False:=by simp
 have hsn:=Qbj
 have hcn:=UY
 have hs1:=QdX 73 l (by omega) hf
 have hs2:=Ze 73 (Nq l) (by rw [(GT l).length_eq]; omega) (fun x hx=>hf x ((GT l).mem_iff.1 hx))
 refine Ae PP CW (of_decide_eq_true rfl) ?_
 simp (disch:=omega) only [JP,go_sem,Aa]
 refine go_loop (α:=Int) (fun a=>⟨slots 29 0 [(2,.ptr 0 0),(3,.ptr 1 0),(7,.arr (l.map Lt.d)),(8,.int .i64 l.length),(9,.int .i64 a)],(if a=0 then [.box 28 [.nil],.box 28 [.nil]] else [.box 28 [.nil],.box 28 [.ref 2],.row 73 3 ((l.take a.toNat).map Lt.o)])⟩) (fun a=>∃ k:Nat,a=k∧k≤(l).length) (fun a=>(l).length-(a).toNat) 0 ⟨0,rfl,zF _⟩ (by simp (disch:=omega) only [go_sem,Aa,eq_self,if_true]) ?_
 rintro i ⟨k,hi,hk⟩
 have hni:i.toNat=k:=by omega
 have hni1:(i+1).toNat=k+1:=by omega
 rcases zB k (l).length with hlt | hge
 ·have hg:=get_at Lt.d hlt
  rw [Lt.d_eq] at hg
  have hc:=Mb l[k] (hf _ (zC hlt)).2
  have hs:=DJ Lt.o hlt
  rw [Lt.o_eq] at hs
  rcases zI k with h0 | h0
  ·subst h0
   obtain rfl:i=0:=hi
   rw [zZ,zK,zU] at hs
   simp (disch:=omega) only [go_sem,Aa,hni,hg,hc,CO,eq_self,if_true]
   refine ⟨1,⟨1,rfl,hlt⟩,by omega,?_⟩
   simp (disch:=omega) only [go_sem,Aa,h10,if_false,hs]
  ·have hi0:(i=0)=False:=by simp; omega
   have hi1:(i+1=0)=False:=by simp; omega
   have htl:(l.take k).length=k:=by rw [zP]; omega
   simp (disch:=omega) only [go_sem,Aa,hni,hg,hc,CO,hi0,if_false,htl]
   refine ⟨i+1,⟨k+1,by omega,hlt⟩,by omega,?_⟩
   simp (disch:=omega) only [go_sem,Aa,hni1,hi1,if_false,hs]
 ·obtain rfl:k=l.length:=by omega
  have ht:l.take l.length=l:=zQ
  rcases zI l.length with h0 | h0
  ·have hx:l=[]:=zG h0
   obtain rfl:i=0:=by omega
   have hm:(mkC l).lits=[]:=by rw [hx]; exact QdY
   simp (disch:=omega) only [go_sem,Aa,hni,eq_self,if_true,hsn,hcn,hm,zK,AL,AH]
  ·have hi0:(i=0)=False:=by simp; omega
   have hm:(Hm (Nq l))=(mkC l).lits:=rfl
   simp (disch:=omega) only [go_sem,Aa,hni,hi0,if_false,ht,hs1,hs2,hm,AL,AH]
noncomputable def Dn:List Lt→Lt→Nat
 | [],_=>0
 | y :: r,x=>if y.cmp x < 0 then Dn r x+1 else 0
noncomputable def HG:List Lt→Lt→List Lt
 | [],x=>[x]
 | y :: r,x=>if y.cmp x < 0 then y :: HG r x else if y.cmp x=0 then y :: r else x :: y :: r
theorem Qah (x:Lt):∀ xs:List Lt,Dn xs x≤xs.length
 | []=>zO _
 | y :: r=>by
  rw [Dn]
  have:=Qah x r
  split <;> simp <;> omega
theorem Qbk {xs:List Lt} {x:Lt} {k:Nat} (h:k+Dn (xs.drop k) x=Dn xs x) (hk:k<xs.length):(xs[k].cmp x<0∧k+1+Dn (xs.drop (k+1)) x=Dn xs x)∨(¬ xs[k].cmp x<0∧k=Dn xs x):=by
 rw [zE hk,Dn] at h
 by_cases hq:xs[k].cmp x<0
 ·rw [if_pos hq] at h; exact .inl ⟨hq,by omega⟩
 ·rw [if_neg hq] at h; exact .inr ⟨hq,by omega⟩
theorem RA {x:Lt}:∀ {xs:List Lt} (hlt:Dn xs x<xs.length),xs[Dn xs x].cmp x=0→HG xs x=xs
 | [],hlt,_=>by simp at hlt
 | y :: r,hlt,h=>by
  rw [HG]
  by_cases hq:y.cmp x<0
  ·have e:Dn (y :: r) x=Dn r x+1:=by rw [Dn,if_pos hq]
   rw [if_pos hq]
   simp only [e,z7,yM] at hlt h
   rw [RA (by omega) h]
  ·have e:Dn (y :: r) x=0:=by rw [Dn,if_neg hq]
   simp only [e,yN] at h
   rw [if_neg hq,if_pos h]
theorem RB {x:Lt}:∀ {xs:List Lt},(∀ hlt:Dn xs x<xs.length,xs[Dn xs x].cmp x≠0)→HG xs x=xs.take (Dn xs x)++[x]++xs.drop (Dn xs x)
 | [],_=>rfl
 | y :: r,h=>by
  rw [HG]
  by_cases hq:y.cmp x<0
  ·have e:Dn (y :: r) x=Dn r x+1:=by rw [Dn,if_pos hq]
   rw [if_pos hq,e,List.take_succ_cons,List.drop_succ_cons,z8,z8]
   rw [RB fun hlt=>?_]
   have:=h (by rw [e]; simpa using hlt)
   simp only [e,yM] at this
   exact this
  ·have e:Dn (y :: r) x=0:=by rw [Dn,if_neg hq]
   have:=h (by rw [e]; simp)
   simp only [e,yN] at this
   rw [if_neg hq,if_neg this,e]
   rfl
theorem N8 (x z:Lt):∀ xs:List Lt,z∈HG xs x ↔ z=x∨z∈xs
 | []=>by simp [HG]
 | y :: r=>by
  rw [HG]
  split
  ·rw [yD,N8 x z r,yD]
   constructor
   ·rintro (h | h | h) <;> simp [h]
   ·rintro (h | h | h) <;> simp [h]
  ·split
   ·rename_i h0
    have e:y=x:=(Lt.cmp_ord y x x).zero.1 h0
    subst e
    simp
   ·simp
theorem P8 (x:Lt):∀ {xs:List Lt},Da xs→Da (HG xs x)
 | [],_=>List.pairwise_singleton _ _
 | y :: r,h=>by
  obtain ⟨h1,h2⟩:=zX.1 h
  rw [HG]
  split
  ·rename_i hq
   refine zX.2 ⟨fun z hz=>?_,P8 x h2⟩
   rcases (N8 x z r).1 hz with rfl | hz
   ·exact hq
   ·exact h1 z hz
  ·split
   ·exact h
   ·rename_i hq h0
    have ha:=(Lt.cmp_ord y x x).anti
    have hxy:x.cmp y<0:=by omega
    refine zX.2 ⟨fun z hz=>?_,h⟩
    rcases yD.1 hz with rfl | hz
    ·exact hxy
    ·exact (Lt.cmp_ord x y z).trans hxy (h1 z hz)
theorem WM (x:Lt):∀ xs:List Lt,(HG xs x).length≤xs.length+1
 | []=>zO _
 | y :: r=>by
  rw [HG]
  have:=WM x r
  split
  ·simpa using this
  ·split <;> simp
noncomputable def KH (out l:List Lt):List Lt:=l.foldl HG out
theorem TQ (z:Lt):∀ (l out:List Lt),z∈KH out l ↔ z∈out∨z∈l
 | [],out=>by simp [KH]
 | x :: l,out=>by
  show z∈KH (HG out x) l ↔ _
  rw [TQ z l,N8,yD]
  constructor
  ·rintro ((h | h) | h) <;> simp [h]
  ·rintro (h | h | h) <;> simp [h]
theorem N9:∀ (l:List Lt) {out:List Lt},Da out→Da (KH out l)
 | [],_,h=>h
 | x :: l,_,h=>N9 l (P8 x h)
theorem Qbl (l:List Lt):KH [] l=(mkC l).lits:=Jz (N9 l y3) (MC l) fun z=>by
 rw [TQ,Qk]; simp
theorem Lt.ot_take (xs:List Lt) (k:Nat):((xs.map Lt.d).take k).map (fun x=>x.map D.ot)=(xs.take k).map fun b=>b.d.map D.ot:=by
 rw [←List.map_take,yO]; rfl
theorem Lt.ot_drop (xs:List Lt) (k:Nat):((xs.map Lt.d).drop k).map (fun x=>x.map D.ot)=(xs.drop k).map fun b=>b.d.map D.ot:=by
 rw [←List.map_drop,yO]; rfl
theorem Lt.al3 (xs:List Lt):((xs.map fun b=>b.d.map D.ot).all fun l=>l.length == 3)=true:=by
 rw [List.all_map,zN]
 intro x _
 show ((x.d.map D.ot).length == 3)=true
 rw [Lt.d_eq]; rfl
theorem Lt.ald3 (xs:List Lt):((xs.map Lt.d).all fun l=>l.length == 3)=true:=by
 rw [List.all_map,zN]
 intro x _
 show (x.d.length == 3)=true
 rw [Lt.d_eq]; rfl
theorem Lt.dfu:∀ xs:List Lt,OT.AO (xs.map fun b=>b.d.map D.ot)=true
 | []=>rfl
 | x :: xs=>by rw [zL,Lt.d_eq]; simp [OT.AO,OT.D0,OT.full,D.ot,Lt.dfu xs]
theorem Lt.der:∀ xs:List Lt,OT.erss (xs.map fun b=>b.d.map D.ot)=xs.map Lt.d
 | []=>rfl
 | x :: xs=>by rw [zL,zL,Lt.d_eq]; simp [OT.erss,OT.ers,OT.er,D.ot,Lt.der xs]
theorem RC (l:List Lt) (hl:l.length≤1048576) (hf:∀ x∈l,x.fine):E 117 [.arr (l.map Lt.d)] []=some ((mkC l).sv,[]):=by
 have hsv:(mkC l).sv=.agg [.arr ((KH [] l).map Lt.d)]:=by rw [Qbl]
 rw [hsv]
 refine Ae SP Di (of_decide_eq_true rfl) ?_
 simp (disch:=omega) only [Ma,go_sem,Aa]
 refine go_loop (α:=Int × List Lt) (fun a=>⟨slots 74 0 [(0,.arr (l.map Lt.d)),(2,.ptr 0 0),(3,.arr (a.2.map Lt.d)),(4,.int .i64 a.1)],[.box 28 [.nil]]⟩) (fun a=>∃ k:Nat,a.1=k∧k≤l.length∧KH a.2 (l.drop k)=KH [] l∧a.2.length≤k∧∀ y∈a.2,y.fine) (fun a=>l.length-a.1.toNat) (0,[]) ⟨0,rfl,zF _,by rw [zJ],zO _,fun y hy=>by cases hy⟩ (by simp (disch:=omega) only [go_sem,Aa]) ?_
 rintro ⟨i,out⟩ ⟨k,hi,hk,hR,hol,hof⟩
 dsimp only at hi hR hol hof
 have hni:i.toNat=k:=by omega
 rcases zB k l.length with hlt | hge
 ·have hg:=get_at Lt.d hlt
  rw [Lt.d_eq] at hg
  have hxf:=hf l[k] (zC hlt)
  have hxn:∀ out2:List Lt,HG out l[k]=out2→KH out2 (l.drop (k+1))=KH [] l:=fun out2 h=>by
   rw [zE hlt] at hR
   rw [←h]
   exact hR
  simp (disch:=omega) only [go_sem,Aa,hni,hg]
  refine go_loop (α:=Int) (fun a=>⟨slots 74 0 [(0,.arr (l.map Lt.d)),(2,.ptr 0 0),(3,.arr (out.map Lt.d)),(4,.int .i64 i),(5,.int .i64 a)],[.box 28 [.nil]]⟩) (fun a=>∃ m:Nat,a=m∧m≤out.length∧m+Dn (out.drop m) l[k]=Dn out l[k]) (fun a=>out.length-a.toNat) 0 ⟨0,rfl,zF _,by rw [zJ,Nat.zero_add]⟩ (by simp (disch:=omega) only [go_sem,Aa]) ?_
  rintro j ⟨m,hj,hm,hR2⟩
  have hnj:j.toNat=m:=by omega
  have ho:=Qj l[k].atom hxf.2
  have e1:=Lt.ot_take out (Dn out l[k])
  have e2:=Lt.ot_drop out (Dn out l[k])
  have e3:=Lt.al3 (out.take (Dn out l[k]))
  have e4:=Lt.al3 (out.drop (Dn out l[k]))
  have e5:=Lt.ald3 out
  have l1:=Qah l[k] out
  have e6:(out.map Lt.d).take out.length=out.map Lt.d:=List.take_of_length_le (by simp)
  have e7:(out.take (Dn out l[k])).length=Dn out l[k]:=by rw [zP]; omega
  have e8:(out.drop (Dn out l[k])).length=out.length-Dn out l[k]:=List.length_drop
  have hfu:=Lt.dfu (HG out l[k])
  have her:=Lt.der (HG out l[k])
  have hpl:=WM l[k] out
  have hpf:∀ y∈HG out l[k],y.fine:=fun y hy=>by
   rcases (N8 l[k] y out).1 hy with rfl | hy
   ·exact hxf
   ·exact hof y hy
  rcases zB m out.length with hltm | hgem
  ·have hgm:=get_at Lt.d hltm
   rw [Lt.d_eq] at hgm
   have hof2:=hof out[m] (zC hltm)
   have hc:=N3 out[m] l[k] hof2.1 hxf.1 hof2.2 hxf.2
   rcases Qbk hR2 hltm with ⟨q,hR'⟩ | ⟨q,hm'⟩
   ·simp (disch:=omega) only [go_sem,Aa,hni,hg,hnj,hgm,hc,Bt,q]
    exact ⟨j+1,⟨m+1,by omega,hltm,hR'⟩,by omega,by first | trivial | rfl⟩
   ·subst hm'
    by_cases h0:out[Dn out l[k]].cmp l[k]=0
    ·have hp:=RA hltm h0
     rw [h0] at hc
     simp (disch:=omega) only [go_sem,Aa,hni,hg,hnj,hgm,hc,Bt,q,h0]
     exact ⟨(i+1,out),⟨k+1,by dsimp only; omega,hlt,hxn _ hp,by dsimp only; omega,hof⟩,by dsimp only; omega,by first | trivial | rfl⟩
    ·have hp:=RB (fun _=>h0)
     have hx2:(out.take (Dn out l[k])).map (fun b=>b.d.map D.ot)++[[OT.bool l[k].pos,.str l[k].atom.name,.sh (l[k].atom.args.map Tm.d)]]++(out.drop (Dn out l[k])).map (fun b=>b.d.map D.ot)=(HG out l[k]).map fun b=>b.d.map D.ot:=by
      rw [hp]
      simp only [yG,zL,List.append_assoc,z8,zU]
      rw [Lt.d_eq]; rfl
     simp (disch:=omega) only [go_sem,Aa,hni,hg,hnj,hgm,hc,Bt,q,h0,e1,e2,e3,e4,e5,e6,e7,e8,hx2,hfu,her,ho,yF,yA,Db]
     exact ⟨(i+1,HG out l[k]),⟨k+1,by dsimp only; omega,hlt,hxn _ rfl,by dsimp only; omega,hpf⟩,by dsimp only; omega,by first | trivial | rfl⟩
  ·obtain rfl:m=out.length:=by omega
   have hk':out.length=Dn out l[k]:=by rw [←hR2,zH (zO _)]; simp [Dn]
   have hp:=RB (x:=l[k]) (xs:=out) (fun hlt=>by omega)
   have hx2:(out.take (Dn out l[k])).map (fun b=>b.d.map D.ot)++[[OT.bool l[k].pos,.str l[k].atom.name,.sh (l[k].atom.args.map Tm.d)]]++(out.drop (Dn out l[k])).map (fun b=>b.d.map D.ot)=(HG out l[k]).map fun b=>b.d.map D.ot:=by
    rw [hp]
    simp only [yG,zL,List.append_assoc,z8,zU]
    rw [Lt.d_eq]; rfl
   rw [hk'] at hnj
   simp (disch:=omega) only [go_sem,Aa,hni,hg,hnj,e1,e2,e3,e4,e5,e6,e7,e8,hx2,hfu,her,ho,yF,yA,Db]
   exact ⟨(i+1,HG out l[k]),⟨k+1,by dsimp only; omega,hlt,hxn _ rfl,by dsimp only; omega,hpf⟩,by dsimp only; omega,by first | trivial | rfl⟩
 ·rw [zH hge] at hR
  have hR:out=KH [] l:=hR
  rw [←hR]
  simp (disch:=omega) only [go_sem,Aa,hni]
theorem RD:∀ x y:List UInt8,Op.bytesLess x y=true→Op.bytesLess y x=false
 | [],[],h=>by simp [Op.bytesLess] at h
 | [],_ :: _,_=>rfl
 | _ :: _,[],h=>by simp [Op.bytesLess] at h
 | a :: x,b :: y,h=>by
  simp only [Op.bytesLess,Bool.or_eq_true,decide_eq_true_eq,zA,beq_iff_eq] at h
  simp only [Op.bytesLess,Bool.or_eq_false_iff,decide_eq_false_iff_not]
  rcases h with h | ⟨rfl,h⟩
  ·have h2:¬ b<a:=by intro h3; exact absurd (UInt8.lt_trans h h3) (UInt8.lt_irrefl _)
   have h3:(b == a)=false:=by
    rw [beq_eq_false_iff_ne]; rintro rfl; exact UInt8.lt_irrefl _ h
   exact ⟨h2,by rw [h3]; rfl⟩
  ·exact ⟨UInt8.lt_irrefl _,by rw [RD x y h]; simp⟩
theorem RE:∀ x y:List UInt8,Op.bytesLess x y=false→Op.bytesLess y x=false→x=y
 | [],[],_,_=>rfl
 | [],_ :: _,h,_=>by simp [Op.bytesLess] at h
 | _ :: _,[],_,h=>by simp [Op.bytesLess] at h
 | a :: x,b :: y,h,k=>by
  simp only [Op.bytesLess,Bool.or_eq_false_iff,decide_eq_false_iff_not] at h k
  have hab:a=b:=by
   have h1:=h.1; have h2:=k.1
   rw [UInt8.lt_iff_toNat_lt] at h1 h2
   exact UInt8.toNat_inj.1 (by omega)
  subst hab
  have h1:Op.bytesLess x y=false:=by simpa using h.2
  have h2:Op.bytesLess y x=false:=by simpa using k.2
  rw [RE x y h1 h2]
theorem KI {a b:ByteArray} (h:strLt a b=true):strLt b a=false:=RD _ _ h
theorem KJ {a b:ByteArray} (h:strLt a b=false) (h':strLt b a=false):a=b:=Ov (RE _ _ h h')
theorem IV (a b:ByteArray):(strLt a b || dec (a=b))=!strLt b a:=by
 cases h:strLt b a with
 | false =>
  cases h2:strLt a b with
  | false=>rw [As (KJ h2 h)]; rfl
  | true=>rfl
 | true =>
  rw [KI h,Ay (by rintro rfl; rw [Ht] at h; cases h)]
  rfl
theorem RF:∀ x y z:List UInt8,Op.bytesLess x y=true→Op.bytesLess y z=true→Op.bytesLess x z=true
 | _,_,[],_,h=>by simp [Op.bytesLess] at h
 | [],[],_ :: _,h,_=>by simp [Op.bytesLess] at h
 | [],_ :: _,_ :: _,_,_=>rfl
 | _ :: _,[],_ :: _,h,_=>by simp [Op.bytesLess] at h
 | a :: x,b :: y,c :: z,h,k=>by
  simp only [Op.bytesLess,Bool.or_eq_true,decide_eq_true_eq,zA,beq_iff_eq] at h k ⊢
  rcases h with h | ⟨rfl,h⟩
  ·rcases k with k | ⟨rfl,k⟩
   ·exact .inl (UInt8.lt_trans h k)
   ·exact .inl h
  ·rcases k with k | ⟨rfl,k⟩
   ·exact .inl k
   ·exact .inr ⟨rfl,RF x y z h k⟩
theorem KL {a b c:ByteArray} (h:strLt a b=true) (k:strLt b c=true):strLt a c=true:=RF _ _ _ h k
theorem WN {a b:ByteArray} (h:strLt a b=true):¬ a=b:=by rintro rfl; rw [Ht] at h; cases h
theorem WO (a b:ByteArray):dec (Ew a b<0)=strLt a b:=by
 unfold Ew
 cases strLt a b
 ·cases dec (a=b)
  ·exact Ay (by simp)
  ·exact Ay (by simp)
 ·exact As (by simp)
theorem Qbm (a b:ByteArray):dec (Ew a b=0)=dec (a=b):=by
 unfold Ew
 cases h:strLt a b
 ·cases h2:dec (a=b)
  ·exact Ay (by simp)
  ·exact As (by simp)
 ·rw [Ay (WN h)]
  exact Ay (by simp)
theorem wrap_u64 {n:Int} (h0:0≤n) (h1:n≤18446744073709551615):IntKind.u64.wrap n=n:=VO (by
 have e1:IntKind.u64.min=0:=by decide
 have e2:IntKind.u64.max=18446744073709551615:=by decide
 unfold inK
 rw [e1,e2]
 exact ⟨h0,h1⟩)
noncomputable def HH (x:Bd):Bool:=An x.var&&(x.term.valid&&!dec (x.term.name=x.var))
noncomputable def WP (xs:List Bd) (k:Nat):Bool:=match xs[k]? with
 | none=>true
 | some x=>HH x&&(match k with
  | 0=>true
  | j+1=>match xs[j]? with
   | none=>true
   | some y=>strLt y.var x.var)
noncomputable def IW (xs:List Bd):Nat→Bool
 | 0=>true
 | k+1=>IW xs k&&WP xs k
theorem Qbn {xs:List Bd} {k n:Nat} (h:IW xs k=false) (hn:k≤n):IW xs n=false:=by
 induction n with
 | zero =>
      obtain rfl:k=0:=by omega
      exact h
 | succ n ih =>
  rcases zB n k with h1 | h1
  ·obtain rfl:k=n+1:=by omega
   exact h
  ·rw [IW,ih h1]; rfl
theorem IX {xs:List Bd} (h:0<xs.length):WP xs 0=HH xs[0]:=by
 unfold WP
 rw [zS h]
 simp
theorem GV {xs:List Bd} {j:Nat} (h:j+1<xs.length):WP xs (j+1)=(HH xs[j+1]&&strLt xs[j].var xs[j+1].var):=by
 unfold WP
 rw [zS h]
 simp only [zS (show j<xs.length by omega)]
theorem Qai {xs:List Bd} {k j:Nat} (h:IW xs k=true) (hj:j<k):WP xs j=true:=by
 induction k with
 | zero=>omega
 | succ k ih =>
  rw [IW,zA] at h
  rcases zB j k with h1 | h1
  ·exact ih h.1 h1
  ·obtain rfl:j=k:=by omega
   exact h.2
theorem QdZ {xs:List Bd} {j:Nat} (hl:j<xs.length) (h:WP xs j=true):HH xs[j]=true:=by
 cases j with
 | zero=>rw [←IX hl]; exact h
 | succ j=>rw [GV hl,zA] at h; exact h.1
noncomputable def Sb.ok (x:Sb):Bool:=decide (x.binds.length≤12)&&IW x.binds x.binds.length
theorem Sb.not_ok {x:Sb} {k:Nat} (h:IW x.binds k=true) (h':WP x.binds k=false) (hk:k<x.binds.length):x.ok=false:=by
 have:IW x.binds x.binds.length=false:=Qbn (k:=k+1) (by rw [IW,h,h']; rfl) (by omega)
 unfold Sb.ok
 rw [this,zM]
def Sb.tame (x:Sb):Prop:=x.binds.length≤1099511627776∧∀ y∈x.binds,y.term.nodes≤1099511627776
theorem Sb.tame_at {x:Sb} (h:x.tame) {k:Nat} (hk:k<x.binds.length):x.binds[k].term.nodes≤1099511627776:=h.2 _ (zC hk)
def En:SC:=(.seq (.reg [⟨some 1,none,.boxv 76 1 (.t 0)⟩,⟨some 2,none,.mv (.c (.bool false))⟩]) (.seq (.seq (.reg [⟨some 5,none,.faddr 0 (.t 1)⟩,⟨some 6,none,.load false 1 (.t 5)⟩,⟨some 7,none,.len false (.t 6)⟩,⟨some 8,none,.mv (.c (.int .i64 0))⟩]) (.block 0 (.loop [0,1,0,0,0,0,1,1,1,0,0,0,0,0,0,0,0,0,0,0,0,0,0,0,0,0,0,0,0,0,0,0,0,0,0,0,0,0,0,0,0,0,0,0,0,0,0,0,0,0,0,0] (.seq (.reg [⟨some 9,none,.bin .lss false (.t 8) (.t 7)⟩]) (.seq (.cond (.t 9) .skip (.exit 0)) (.seq (.block 1 (.seq (.reg [⟨some 10,none,.mv (.t 8)⟩,⟨some 11,none,.iaddr 3 (.t 6) (.t 8)⟩,⟨some 12,none,.load true 3 (.t 11)⟩,⟨(some 4),none,(.alloc 139 [(.str ⟨#[]⟩),(.str ⟨#[]⟩),.nil])⟩,⟨some 3,none,.mv (.t 10)⟩,⟨none,none,(.store 3 (.t 4) (.t 12))⟩]) (.seq (.dreg [[],[0],[1,0],[2,1,0],[3,2,1,0],[4,3,2,1,0],[5,4,3,2,1,0],[6,5,4,3,2,1,0],[7,6,5,4,3,2,1,0],[8,7,6,5,4,3,2,1,0],[7,6,5,4,3,2,1,0],[10,7,6,5,4,3,2,1,0],[7,6,5,4,3,2,1,0],[12,7,6,5,4,3,2,1,0],[11,10,7,6,5,4,3,2,1,0,13,12],[14,11,10,7,6,5,4,3,2,1,0,13,12],[15,14,11,10,7,6,5,4,3,2,1,0,13,12],[9,8,7,6,5,4,3,2,1,0,16,15,14,11,10,13,12],[7,6,5,4,3,2,1,0,17,9,8,16,15,14,11,10,13,12],[4,3,2,1,0,18,7,6,5,17,9,8,16,15,14,11,10,13,12],[19,4,3,2,1,0,18,7,6,5,17,9,8,16,15,14,11,10,13,12],[20,19,4,3,2,1,0,18,7,6,5,17,9,8,16,15,14,11,10,13,12],[21,20,19,4,3,2,1,0,18,7,6,5,17,9,8,16,15,14,11,10,13,12],[22,21,20,19,4,3,2,1,0,18,7,6,5,17,9,8,16,15,14,11,10,13,12],[23,22,21,20,19,4,3,2,1,0,18,7,6,5,17,9,8,16,15,14,11,10,13,12],[20,19,4,3,2,1,0,18,7,6,5,17,9,8,16,15,14,11,10,13,12,24,23,22,21],[25,20,19,4,3,2,1,0,18,7,6,5,17,9,8,16,15,14,11,10,13,12,24,23,22,21],[26,25,20,19,4,3,2,1,0,18,7,6,5,17,9,8,16,15,14,11,10,13,12,24,23,22,21],[27,26,25,20,19,4,3,2,1,0,18,7,6,5,17,9,8,16,15,14,11,10,13,12,24,23,22,21],[28,27,26,25,20,19,4,3,2,1,0,18,7,6,5,17,9,8,16,15,14,11,10,13,12,24,23,22,21],[26,25,20,19,4,3,2,1,0,18,7,6,5,17,9,8,16,15,14,11,10,13,12,24,23,22,21],[30,26,25,20,19,4,3,2,1,0,18,7,6,5,17,9,8,16,15,14,11,10,13,12,24,23,22,21],[29,28,27,26,25,20,19,4,3,2,1,0,18,7,6,5,17,9,8,16,15,14,11,10,13,12,24,23,22,21,31,30],[26,25,20,19,4,3,2,1,0,18,7,6,5,17,9,8,16,15,14,11,10,13,12,24,23,22,21,32,29,28,27,31,30]] [⟨some 13,none,.faddr 0 (.t 4)⟩,⟨some 14,none,.load false 1 (.t 13)⟩,⟨some 15,none,.call 162 [(.t 14)]⟩,⟨some 16,none,.un .not (.t 15)⟩,⟨some 17,none,.mv (.t 16)⟩,⟨(some 18),(some (17,false)),(.mv (.t 3))⟩,⟨(some 19),(some (17,false)),(.bin .gtr false (.t 18) (.c (.int .i64 0)))⟩,⟨(some 20),(some (17,false)),(.mv (.t 19))⟩,⟨(some 21),(some (20,true)),(.faddr 0 (.t 4))⟩,⟨(some 22),(some (20,true)),(.load false 1 (.t 21))⟩,⟨(some 23),(some (20,true)),(.faddr 0 (.t 1))⟩,⟨(some 24),(some (20,true)),(.load false 1 (.t 23))⟩,⟨(some 25),(some (20,true)),(.mv (.t 3))⟩,⟨(some 26),(some (20,true)),(.bin .sub false (.t 25) (.c (.int .i64 1)))⟩,⟨(some 27),(some (20,true)),(.iaddr 3 (.t 24) (.t 26))⟩,⟨(some 28),(some (20,true)),(.faddr 0 (.t 27))⟩,⟨(some 29),(some (20,true)),(.load false 1 (.t 28))⟩,⟨(some 30),(some (20,true)),(.bin .leq false (.t 22) (.t 29))⟩,⟨(some 31),(some (17,false)),(.pick (.t 20) (.t 30) (.c (.bool false)))⟩,⟨some 32,none,.pick (.t 17) (.c (.bool true)) (.t 31)⟩,⟨some 33,none,.mv (.t 32)⟩,⟨(some 34),(some (33,false)),(.faddr 1 (.t 4))⟩,⟨(some 35),(some (33,false)),(.load true 2 (.t 34))⟩,⟨(some 36),(some (33,false)),(.call 154 [(.t 35)])⟩,⟨(some 37),(some (33,false)),(.un .not (.t 36))⟩,⟨some 38,none,.pick (.t 33) (.c (.bool true)) (.t 37)⟩,⟨some 39,none,.mv (.t 38)⟩,⟨(some 40),(some (39,false)),(.faddr 1 (.t 4))⟩,⟨(some 41),(some (39,false)),(.faddr 0 (.t 40))⟩,⟨(some 42),(some (39,false)),(.load false 1 (.t 41))⟩,⟨(some 43),(some (39,false)),(.faddr 0 (.t 4))⟩,⟨(some 44),(some (39,false)),(.load false 1 (.t 43))⟩,⟨(some 45),(some (39,false)),(.bin .eql false (.t 42) (.t 44))⟩,⟨some 46,none,.pick (.t 39) (.c (.bool true)) (.t 45)⟩]) (.cond (.t 46) (.seq (.reg [⟨some 2,none,.mv (.c (.bool false))⟩]) .ret) .skip)))) (.reg [⟨some 47,none,.bin .add false (.t 8) (.c (.int .i64 1))⟩,⟨some 8,none,.mv (.t 47)⟩]))))))) (.seq (.reg [⟨some 48,none,.faddr 0 (.t 1)⟩,⟨some 49,none,.load false 1 (.t 48)⟩,⟨some 50,none,.len false (.t 49)⟩,⟨some 51,none,.bin .leq false (.t 50) (.c (.int .i64 12))⟩,⟨some 2,none,.mv (.t 51)⟩]) .ret)))
theorem Hx:codeOf Tryz.prog 131=some ⟨52,En,[(.tmp 2)]⟩:=by kernel_rfl
theorem Ax:modes 131=⟨[],.asis,none,false⟩:=by unfold modes; rfl
def Md:SC:=(.seq (.reg [⟨some 1,none,.boxv 76 1 (.t 0)⟩,⟨some 2,none,.mv (.c (.bool false))⟩]) (.seq (.seq (.reg [⟨some 3,none,.mv (.c (.int .i64 0))⟩]) (.block 0 (.loop [0,1,0,1,0,0,0,0,0,0,0,0,0,0,0,0,0,0,0,0,0,0,0,0,0,0,0,0,0,0,0,0,0,0,0,0,0,0,0,0,0,0,0,0,0,0,0,0,0,0,0,0,0,0,0] (.seq (.seq (.reg [⟨some 5,none,.mv (.t 3)⟩,⟨some 6,none,.faddr 0 (.t 1)⟩,⟨some 7,none,.load false 1 (.t 6)⟩,⟨some 8,none,.len false (.t 7)⟩,⟨some 9,none,.bin .lss false (.t 5) (.t 8)⟩]) (.cond (.t 9) .skip (.exit 0))) (.seq (.block 1 (.seq (.reg [⟨some 12,none,.faddr 0 (.t 1)⟩,⟨some 13,none,.load false 1 (.t 12)⟩,⟨some 14,none,.mv (.t 3)⟩,⟨some 15,none,.iaddr 3 (.t 13) (.t 14)⟩,⟨some 16,none,.load true 3 (.t 15)⟩,⟨(some 4),none,(.alloc 139 [(.str ⟨#[]⟩),(.str ⟨#[]⟩),.nil])⟩,⟨none,none,(.store 3 (.t 4) (.t 16))⟩]) (.seq (.dreg [[],[0],[1,0],[2,1,0],[3,2,1,0],[4,3,2,1,0],[5,4,3,2,1,0],[6,5,4,3,2,1,0],[7,6,5,4,3,2,1,0],[4,3,2,1,0,8,7,6,5],[9,4,3,2,1,0,8,7,6,5],[10,9,4,3,2,1,0,8,7,6,5],[11,10,9,4,3,2,1,0,8,7,6,5],[12,11,10,9,4,3,2,1,0,8,7,6,5],[10,9,4,3,2,1,0,8,7,6,5],[14,10,9,4,3,2,1,0,8,7,6,5],[13,12,11,10,9,4,3,2,1,0,8,7,6,5,15,14],[10,9,4,3,2,1,0,8,7,6,5,16,13,12,11,15,14],[17,10,9,4,3,2,1,0,8,7,6,5,16,13,12,11,15,14],[18,17,10,9,4,3,2,1,0,8,7,6,5,16,13,12,11,15,14],[19,18,17,10,9,4,3,2,1,0,8,7,6,5,16,13,12,11,15,14],[20,19,18,17,10,9,4,3,2,1,0,8,7,6,5,16,13,12,11,15,14],[21,20,19,18,17,10,9,4,3,2,1,0,8,7,6,5,16,13,12,11,15,14],[22,21,20,19,18,17,10,9,4,3,2,1,0,8,7,6,5,16,13,12,11,15,14],[21,20,19,18,17,10,9,4,3,2,1,0,8,7,6,5,16,13,12,11,15,14],[24,21,20,19,18,17,10,9,4,3,2,1,0,8,7,6,5,16,13,12,11,15,14],[23,22,21,20,19,18,17,10,9,4,3,2,1,0,8,7,6,5,16,13,12,11,15,14,25,24],[26,23,22,21,20,19,18,17,10,9,4,3,2,1,0,8,7,6,5,16,13,12,11,15,14,25,24],[27,26,23,22,21,20,19,18,17,10,9,4,3,2,1,0,8,7,6,5,16,13,12,11,15,14,25,24],[21,20,19,18,17,10,9,4,3,2,1,0,8,7,6,5,16,13,12,11,15,14],[29,21,20,19,18,17,10,9,4,3,2,1,0,8,7,6,5,16,13,12,11,15,14],[28,27,26,23,22,21,20,19,18,17,10,9,4,3,2,1,0,8,7,6,5,16,13,12,11,15,14,25,24,30,29],[21,20,19,18,17,10,9,4,3,2,1,0,8,7,6,5,16,13,12,11,15,14,31,28,27,26,23,22,25,24,30,29],[18,17,10,9,4,3,2,1,0,8,7,6,5,16,13,12,11,15,14,32,21,20,19,31,28,27,26,23,22,25,24,30,29]] [⟨some 17,none,.faddr 0 (.t 4)⟩,⟨some 18,none,.load false 1 (.t 17)⟩,⟨some 19,none,.call 77 [(.t 18)]⟩,⟨some 20,none,.un .not (.t 19)⟩,⟨some 21,none,.mv (.t 20)⟩,⟨(some 22),(some (21,false)),(.faddr 1 (.t 4))⟩,⟨(some 23),(some (21,false)),(.load true 2 (.t 22))⟩,⟨(some 24),(some (21,false)),(.call 106 [(.t 23)])⟩,⟨(some 25),(some (21,false)),(.un .not (.t 24))⟩,⟨some 26,none,.pick (.t 21) (.c (.bool true)) (.t 25)⟩,⟨some 27,none,.mv (.t 26)⟩,⟨(some 28),(some (27,false)),(.faddr 1 (.t 4))⟩,⟨(some 29),(some (27,false)),(.faddr 0 (.t 28))⟩,⟨(some 30),(some (27,false)),(.load false 1 (.t 29))⟩,⟨(some 31),(some (27,false)),(.faddr 0 (.t 4))⟩,⟨(some 32),(some (27,false)),(.load false 1 (.t 31))⟩,⟨(some 33),(some (27,false)),(.bin .eql false (.t 30) (.t 32))⟩,⟨some 34,none,.pick (.t 27) (.c (.bool true)) (.t 33)⟩,⟨some 35,none,.mv (.t 34)⟩,⟨(some 36),(some (35,false)),(.mv (.t 3))⟩,⟨(some 37),(some (35,false)),(.bin .gtr false (.t 36) (.c (.int .i64 0)))⟩,⟨(some 38),(some (35,false)),(.mv (.t 37))⟩,⟨(some 39),(some (38,true)),(.faddr 0 (.t 1))⟩,⟨(some 40),(some (38,true)),(.load false 1 (.t 39))⟩,⟨(some 41),(some (38,true)),(.mv (.t 3))⟩,⟨(some 42),(some (38,true)),(.bin .sub false (.t 41) (.c (.int .i64 1)))⟩,⟨(some 43),(some (38,true)),(.iaddr 3 (.t 40) (.t 42))⟩,⟨(some 44),(some (38,true)),(.faddr 0 (.t 43))⟩,⟨(some 45),(some (38,true)),(.load false 1 (.t 44))⟩,⟨(some 46),(some (38,true)),(.faddr 0 (.t 4))⟩,⟨(some 47),(some (38,true)),(.load false 1 (.t 46))⟩,⟨(some 48),(some (38,true)),(.bin .geq false (.t 45) (.t 47))⟩,⟨(some 49),(some (35,false)),(.pick (.t 38) (.t 48) (.c (.bool false)))⟩,⟨some 50,none,.pick (.t 35) (.c (.bool true)) (.t 49)⟩]) (.cond (.t 50) (.seq (.reg [⟨some 2,none,.mv (.c (.bool false))⟩]) .ret) .skip)))) (.reg [⟨some 10,none,.mv (.t 3)⟩,⟨some 11,none,.bin .add false (.t 10) (.c (.int .i64 1))⟩,⟨some 3,none,.mv (.t 11)⟩])))))) (.seq (.reg [⟨some 51,none,.faddr 0 (.t 1)⟩,⟨some 52,none,.load false 1 (.t 51)⟩,⟨some 53,none,.len false (.t 52)⟩,⟨some 54,none,.bin .leq false (.t 53) (.c (.int .i64 12))⟩,⟨some 2,none,.mv (.t 54)⟩]) .ret)))
theorem SQ:codeOf Tryz.prog 109=some ⟨55,Md,[(.tmp 2)]⟩:=by kernel_rfl
theorem Ct:modes 109=⟨[],.asis,none,false⟩:=by unfold modes; rfl
def Me:SC:=(.seq (.reg [⟨some 2,none,.boxv 76 1 (.t 0)⟩,⟨some 4,none,.mv (.c (.int .i64 0))⟩]) (.seq (.seq (.reg [⟨some 5,none,.mv (.c (.int .i64 0))⟩]) (.block 0 (.loop [0,1,1,0,0,1,0,0,0,0,0,0,0,0,0,0,0,0,0,0,0,0] (.seq (.seq (.reg [⟨some 6,none,.mv (.t 5)⟩,⟨some 7,none,.faddr 0 (.t 2)⟩,⟨some 8,none,.load false 1 (.t 7)⟩,⟨some 9,none,.len false (.t 8)⟩,⟨some 10,none,.bin .lss false (.t 6) (.t 9)⟩]) (.cond (.t 10) .skip (.exit 0))) (.seq (.block 1 (.seq (.reg [⟨some 13,none,.faddr 0 (.t 2)⟩,⟨some 14,none,.load false 1 (.t 13)⟩,⟨some 15,none,.mv (.t 5)⟩,⟨some 16,none,.iaddr 3 (.t 14) (.t 15)⟩,⟨some 17,none,.faddr 0 (.t 16)⟩,⟨some 18,none,.load false 1 (.t 17)⟩,⟨some 19,none,.mv (.t 1)⟩,⟨some 20,none,.bin .eql false (.t 18) (.t 19)⟩]) (.cond (.t 20) (.seq (.reg [⟨some 21,none,.mv (.t 5)⟩,⟨some 4,none,.mv (.t 21)⟩]) .ret) .skip))) (.reg [⟨some 11,none,.mv (.t 5)⟩,⟨some 12,none,.bin .add false (.t 11) (.c (.int .i64 1))⟩,⟨some 5,none,.mv (.t 12)⟩])))))) (.seq (.reg [⟨some 4,none,.mv (.c (.int .i64 (-(0+1))))⟩]) .ret)))
theorem SR:codeOf Tryz.prog 147=some ⟨22,Me,[(.tmp 4)]⟩:=by kernel_rfl
theorem BQ:modes 147=⟨[],.asis,none,false⟩:=by unfold modes; rfl
theorem DV (x:Sb) (hn:x.tame):E 131 [x.sv] []=some (.bool x.ok,[]):=by
  have hl:=hn.1
  refine Ae Hx Ax (of_decide_eq_true rfl) ?_
  simp (disch:=omega) only [En,go_sem,Aa]
  refine go_loop (α:=Int) (fun a=>⟨slots 52 0 [(1,.ptr 0 0),(6,.arr (x.binds.map Bd.d)),(7,.int .i64 x.binds.length),(8,.int .i64 a)],[.box 76 [.arr (x.binds.map Bd.d)]]⟩) (fun a=>∃ k:Nat,a=k∧k≤(x.binds).length∧IW x.binds k=true) (fun a=>(x.binds).length-(a).toNat) 0 ⟨0,rfl,zF _,by rw [IW]⟩ (by simp (disch:=omega) only [go_sem,Aa]) ?_
  rintro i ⟨k,hi,hk,hR⟩
  have hni:i.toNat=k:=by omega
  have hni1:(i+1).toNat=k+1:=by omega
  rcases zB k (x.binds).length with hlt | hge
  · have hg:=get_at Bd.d hlt
    rw [Bd.d_eq] at hg
    have hv:=LY x.binds[k].term (Sb.tame_at hn hlt)
    cases k with
    | zero =>
      obtain rfl:i=0:=hi
      cases hA:An x.binds[0].var <;> cases hV:x.binds[0].term.valid <;> cases hD:dec (x.binds[0].term.name=x.binds[0].var)
      all_goals
        first
        | (have e:x.ok=false:=Sb.not_ok hR (by rw [IX hlt,HH,hA,hV,hD]; rfl) hlt
           rw [e]
           simp (disch:=omega) only [go_sem,Aa,hni,hg,hv,hA,hV,hD,AK,Br,Ex]
           done)
        | (simp (disch:=omega) only [go_sem,Aa,hni,hg,hv,hA,hV,hD,AK,Br,Ex]
           exact ⟨1,⟨1,rfl,hlt,by rw [IW,hR,IX hlt,HH,hA,hV,hD]; rfl⟩,by omega,by first | trivial | rfl⟩)
    | succ j =>
      have hj:j<x.binds.length:=by omega
      have hg2:=get_at Bd.d hj
      rw [Bd.d_eq] at hg2
      have hni2:(i-1).toNat=j:=by omega
      have hLe:=IV x.binds[j+1].var x.binds[j].var
      cases hS:strLt x.binds[j].var x.binds[j+1].var <;> cases hA:An x.binds[j+1].var <;> cases hV:x.binds[j+1].term.valid <;> cases hD:dec (x.binds[j+1].term.name=x.binds[j+1].var)
      all_goals
        first
        | (have e:x.ok=false:=Sb.not_ok hR (by rw [GV hlt,HH,hA,hV,hD,hS]; rfl) hlt
           rw [e]
           simp (disch:=omega) only [go_sem,Aa,hni,hg,hv,hA,hV,hD,AK,Br,Ex,hS,hni2,hg2,hLe]
           done)
        | (simp (disch:=omega) only [go_sem,Aa,hni,hg,hv,hA,hV,hD,AK,Br,Ex,hS,hni2,hg2,hLe]
           exact ⟨i+1,⟨j+1+1,by omega,hlt,by rw [IW,hR,GV hlt,HH,hA,hV,hD,hS]; rfl⟩,by omega,by first | trivial | rfl⟩)
  · obtain rfl:k=x.binds.length:=by omega
    simp (disch:=omega) only [go_sem,Aa,hni]
    unfold Sb.ok
    rw [hR,yJ,Kw]
    exact decide_eq_decide.2 (by omega)
theorem NA (x:Sb) (hn:x.tame):E 109 [x.sv] []=some (.bool x.ok,[]):=by
  have hl:=hn.1
  refine Ae SQ Ct (of_decide_eq_true rfl) ?_
  simp (disch:=omega) only [Md,go_sem,Aa]
  refine go_loop (α:=Int) (fun a=>⟨slots 55 0 [(1,.ptr 0 0),(3,.int .i64 a)],[.box 76 [.arr (x.binds.map Bd.d)]]⟩) (fun a=>∃ k:Nat,a=k∧k≤(x.binds).length∧IW x.binds k=true) (fun a=>(x.binds).length-(a).toNat) 0 ⟨0,rfl,zF _,by rw [IW]⟩ (by simp (disch:=omega) only [go_sem,Aa]) ?_
  rintro i ⟨k,hi,hk,hR⟩
  have hni:i.toNat=k:=by omega
  have hni1:(i+1).toNat=k+1:=by omega
  rcases zB k (x.binds).length with hlt | hge
  · have hg:=get_at Bd.d hlt
    rw [Bd.d_eq] at hg
    have hv:=R2 x.binds[k].term (Sb.tame_at hn hlt)
    cases k with
    | zero =>
      obtain rfl:i=0:=hi
      cases hA:An x.binds[0].var <;> cases hV:x.binds[0].term.valid <;> cases hD:dec (x.binds[0].term.name=x.binds[0].var)
      all_goals
        first
        | (have e:x.ok=false:=Sb.not_ok hR (by rw [IX hlt,HH,hA,hV,hD]; rfl) hlt
           rw [e]
           simp (disch:=omega) only [go_sem,Aa,hni,hg,hv,hA,hV,hD,Bh,Ah,Am]
           done)
        | (simp (disch:=omega) only [go_sem,Aa,hni,hg,hv,hA,hV,hD,Bh,Ah,Am]
           exact ⟨1,⟨1,rfl,hlt,by rw [IW,hR,IX hlt,HH,hA,hV,hD]; rfl⟩,by omega,by first | trivial | rfl⟩)
    | succ j =>
      have hj:j<x.binds.length:=by omega
      have hg2:=get_at Bd.d hj
      rw [Bd.d_eq] at hg2
      have hni2:(i-1).toNat=j:=by omega
      have hLe:=IV x.binds[j+1].var x.binds[j].var
      cases hS:strLt x.binds[j].var x.binds[j+1].var <;> cases hA:An x.binds[j+1].var <;> cases hV:x.binds[j+1].term.valid <;> cases hD:dec (x.binds[j+1].term.name=x.binds[j+1].var)
      all_goals
        first
        | (have e:x.ok=false:=Sb.not_ok hR (by rw [GV hlt,HH,hA,hV,hD,hS]; rfl) hlt
           rw [e]
           simp (disch:=omega) only [go_sem,Aa,hni,hg,hv,hA,hV,hD,Bh,Ah,Am,hS,hni2,hg2,hLe]
           done)
        | (simp (disch:=omega) only [go_sem,Aa,hni,hg,hv,hA,hV,hD,Bh,Ah,Am,hS,hni2,hg2,hLe]
           exact ⟨i+1,⟨j+1+1,by omega,hlt,by rw [IW,hR,GV hlt,HH,hA,hV,hD,hS]; rfl⟩,by omega,by first | trivial | rfl⟩)
  · obtain rfl:k=x.binds.length:=by omega
    simp (disch:=omega) only [go_sem,Aa,hni]
    unfold Sb.ok
    rw [hR,yJ,Kw]
    exact decide_eq_decide.2 (by omega)
theorem WQ (x:Sb) (n:ByteArray) (hl:x.binds.length≤1099511627776):E 147 [x.sv,.str n] []=some (.int .i64 (Ey (fun b=>dec (b.var=n)) x.binds 0),[]):=by
 refine Ae SR BQ (of_decide_eq_true rfl) ?_
 simp (disch:=omega) only [Me,go_sem,Aa]
 refine go_loop (α:=Int) (fun a=>⟨slots 22 0 [(1,.str n),(2,.ptr 0 0),(5,.int .i64 a)],[.box 76 [.arr (x.binds.map Bd.d)]]⟩) (fun a=>∃ k:Nat,a=k∧k≤(x.binds).length∧Ey (fun b=>dec (b.var=n)) (x.binds.drop k) a=Ey (fun b=>dec (b.var=n)) x.binds 0) (fun a=>(x.binds).length-(a).toNat) 0 ⟨0,rfl,zF _,by rw [zJ]⟩ (by simp (disch:=omega) only [go_sem,Aa]) ?_
 rintro i ⟨k,hi,hk,hR⟩
 have hni:i.toNat=k:=by omega
 have hni1:(i+1).toNat=k+1:=by omega
 rcases zB k (x.binds).length with hlt | hge
 ·have hg:=get_at Bd.d hlt
  rw [Bd.d_eq] at hg
  rw [zE hlt,Ey] at hR
  cases hp:dec (x.binds[k].var=n) with
  | true =>
   rw [hp] at hR
   simp (disch:=omega) only [go_sem,Aa,hni,hg,hp]
   simpa using hR
  | false =>
   rw [hp] at hR
   simp (disch:=omega) only [go_sem,Aa,hni,hg,hp]
   exact ⟨i+1,⟨k+1,by omega,hlt,by simpa using hR⟩,by omega,by first | trivial | rfl⟩
 ·rw [zH hge,Ey] at hR
  simp (disch:=omega) only [go_sem,Aa,hni]
  exact hR
def NB (xs:List Bd):Prop:=∀ j k (h:j<k) (hk:k<xs.length),strLt xs[j].var xs[k].var=true
theorem Qea {xs:List Bd} (h:IW xs xs.length=true):NB xs:=by
 intro j k hjk hk
 induction k with
 | zero=>omega
 | succ k ih =>
  have h1:=Qai h hk
  rw [GV hk,zA] at h1
  rcases zB j k with h2 | h2
  ·exact KL (ih h2 (by omega)) h1.2
  ·obtain rfl:j=k:=by omega
   exact h1.2
theorem Sb.JQ {x:Sb} (h:x.ok=true):NB x.binds:=by
 unfold Sb.ok at h
 rw [zA] at h
 exact Qea h.2
def Bp:List Bd→ByteArray→Nat
 | [],_=>0
 | x :: xs,n=>if strLt x.var n then Bp xs n+1 else 0
theorem UZ (n:ByteArray):∀ xs:List Bd,Bp xs n≤xs.length
 | []=>zO _
 | x :: xs=>by
  have:=UZ n xs
  rw [Bp]; simp only [z7]; split <;> omega
theorem KM (n:ByteArray):∀ (xs:List Bd) (j:Nat) (h:j<xs.length),j<Bp xs n→strLt xs[j].var n=true
 | [],j,h,_=>absurd h (by simp)
 | x :: xs,j,h,hj=>by
  rw [Bp] at hj
  split at hj
  ·rename_i hx
   cases j with
   | zero=>exact hx
   | succ j=>exact KM n xs j (by simpa using h) (by omega)
  ·omega
theorem Va (n:ByteArray):∀ (xs:List Bd) (h:Bp xs n<xs.length),strLt (xs[Bp xs n]).var n=false
 | [],h=>absurd h (by simp)
 | x :: xs,h=>by
  cases hx:strLt x.var n with
  | false =>
   have e:Bp (x :: xs) n=0:=by rw [Bp,if_neg (by rw [hx]; simp)]
   simp only [e,yN]; exact hx
  | true =>
   have e:Bp (x :: xs) n=Bp xs n+1:=by rw [Bp,if_pos hx]
   have h2:Bp xs n<xs.length:=by rw [e] at h; simpa using h
   simp only [e,yM]; exact Va n xs h2
theorem Qc4 {xs:List Bd} (hs:NB xs) (n:ByteArray) {m:Nat} (h:m<xs.length):strLt xs[m].var n=true ↔ m<Bp xs n:=by
 constructor
 ·intro h1
  rcases zB m (Bp xs n) with h2 | h2
  ·exact h2
  ·have h3:=Va n xs (by omega)
   rcases zB (Bp xs n) m with h4 | h4
   ·rw [KL (hs _ _ h4 h) h1] at h3; cases h3
   ·have e:Bp xs n=m:=by omega
    simp only [e] at h3
    rw [h1] at h3; cases h3
 ·exact KM n xs m h
noncomputable def DW (xs:List Bd) (n:ByteArray):Bool:=match xs[Bp xs n]? with
 | none=>false
 | some b=>dec (b.var=n)
def Eo:SC:=(.seq (.reg [⟨some 2,none,.boxv 139 3 (.t 0)⟩,⟨some 4,none,.mv (.c (.int .i64 0))⟩]) (.seq (.reg [⟨some 5,none,.faddr 0 (.t 2)⟩,⟨some 6,none,.load false 1 (.t 5)⟩,⟨some 7,none,.mv (.t 1)⟩,⟨some 8,none,.call 136 [(.t 6),(.t 7)]⟩,⟨some 4,none,.mv (.t 8)⟩]) .ret))
theorem Hy:codeOf Tryz.prog 164=some ⟨9,Eo,[(.tmp 4)]⟩:=by kernel_rfl
theorem BU:modes 164=⟨[],.asis,none,false⟩:=by unfold modes; rfl
theorem CP:Kg Tryz.prog 164=true:=by kernel_rfl
def Bg:SC:=(.seq (.reg [⟨some 6,none,.mv (.c (.int .i64 0))⟩,⟨some 7,none,.mv (.c (.bool false))⟩]) (.seq (.reg [⟨some 12,none,.mv (.t 0)⟩,⟨some 13,none,.len false (.t 12)⟩,⟨some 8,none,.mv (.t 13)⟩]) (.seq (.reg [⟨some 14,none,.mv (.t 8)⟩,⟨some 9,none,.mv (.c (.int .i64 0))⟩,⟨some 10,none,.mv (.t 14)⟩]) (.seq (.block 0 (.loop [1,1,1,0,0,0,0,0,1,1,1,0,0,0,0,0,0,0,0,0,0,0,0,0,0,0,0,0,0,0,0,0,0,0,0,0,0,0,0,0,0,0,0,0,0,0,0,0,0] (.seq (.seq (.reg [⟨some 15,none,.mv (.t 9)⟩,⟨some 16,none,.mv (.t 10)⟩,⟨some 17,none,.bin .lss false (.t 15) (.t 16)⟩]) (.cond (.t 17) .skip (.exit 0))) (.block 1 (.seq (.reg [⟨some 18,none,.mv (.t 9)⟩,⟨some 19,none,.mv (.t 10)⟩,⟨some 20,none,.bin .add false (.t 18) (.t 19)⟩,⟨some 21,none,.conv .u64 (.t 20)⟩,⟨some 22,none,.bin .shr false (.t 21) (.c (.int .u64 1))⟩,⟨some 23,none,.conv .i64 (.t 22)⟩,⟨some 11,none,.mv (.t 23)⟩]) (.seq (.reg [⟨some 24,none,.mv (.t 2)⟩,⟨some 25,none,.mv (.t 0)⟩,⟨some 26,none,.mv (.t 11)⟩,⟨some 27,none,.iaddr 3 (.t 25) (.t 26)⟩,⟨some 28,none,.load true 3 (.t 27)⟩,⟨some 29,none,.mv (.t 1)⟩,⟨some 30,none,.callv (.t 24) [(.t 28),(.t 29)]⟩,⟨some 31,none,.bin .lss false (.t 30) (.c (.int .i64 0))⟩]) (.cond (.t 31) (.reg [⟨some 32,none,.mv (.t 11)⟩,⟨some 33,none,.bin .add false (.t 32) (.c (.int .i64 1))⟩,⟨some 9,none,.mv (.t 33)⟩]) (.reg [⟨some 34,none,.mv (.t 11)⟩,⟨some 10,none,.mv (.t 34)⟩])))))))) (.seq (.reg [⟨some 35,none,.mv (.t 9)⟩,⟨some 36,none,.mv (.t 9)⟩,⟨some 37,none,.mv (.t 8)⟩,⟨some 38,none,.bin .lss false (.t 36) (.t 37)⟩,⟨some 39,none,.mv (.t 38)⟩,⟨(some 40),(some (39,true)),(.mv (.t 2))⟩,⟨(some 41),(some (39,true)),(.mv (.t 0))⟩,⟨(some 42),(some (39,true)),(.mv (.t 9))⟩,⟨(some 43),(some (39,true)),(.iaddr 3 (.t 41) (.t 42))⟩,⟨(some 44),(some (39,true)),(.load true 3 (.t 43))⟩,⟨(some 45),(some (39,true)),(.mv (.t 1))⟩,⟨(some 46),(some (39,true)),(.callv (.t 40) [(.t 44),(.t 45)])⟩,⟨(some 47),(some (39,true)),(.bin .eql false (.t 46) (.c (.int .i64 0)))⟩,⟨some 48,none,.pick (.t 39) (.t 47) (.c (.bool false))⟩,⟨some 6,none,.mv (.t 35)⟩,⟨some 7,none,.mv (.t 48)⟩]) .ret)))))
theorem Cq:codeOf Tryz.prog 163=some ⟨49,Bg,[(.tmp 6),(.tmp 7)]⟩:=by kernel_rfl
theorem AG:modes 163=⟨[],.asis,none,false⟩:=by unfold modes; rfl
def Dj:SC:=(.seq (.reg [⟨some 2,none,.boxv 76 1 (.t 0)⟩,⟨(some 4),none,(.alloc 71 [(.str ⟨#[]⟩),.nil])⟩,⟨some 5,none,.mv (.c (.bool false))⟩]) (.seq (.reg [⟨some 9,none,.faddr 0 (.t 2)⟩,⟨some 10,none,.load false 1 (.t 9)⟩,⟨some 11,none,.mv (.t 1)⟩,⟨some 12,none,.call 163 [(.t 10),(.t 11),(.c (.fn 164 []))]⟩,⟨some 8,none,.mv (.t 12)⟩,⟨some 13,none,.ext (.t 8) 0⟩,⟨some 14,none,.ext (.t 8) 1⟩,⟨some 6,none,.mv (.t 13)⟩,⟨some 7,none,.mv (.t 14)⟩]) (.seq (.seq (.reg [⟨some 15,none,.mv (.t 7)⟩,⟨some 16,none,.un .not (.t 15)⟩]) (.cond (.t 16) (.seq (.reg [⟨(some 17),none,(.build [(.str ⟨#[]⟩),.nil] [])⟩,⟨none,none,(.store 2 (.t 4) (.t 17))⟩,⟨some 5,none,.mv (.c (.bool false))⟩]) .ret) .skip)) (.seq (.reg [⟨some 18,none,.faddr 0 (.t 2)⟩,⟨some 19,none,.load false 1 (.t 18)⟩,⟨some 20,none,.mv (.t 6)⟩,⟨some 21,none,.iaddr 3 (.t 19) (.t 20)⟩,⟨some 22,none,.faddr 1 (.t 21)⟩,⟨some 23,none,.load true 2 (.t 22)⟩,⟨none,none,(.store 2 (.t 4) (.t 23))⟩,⟨some 5,none,.mv (.c (.bool true))⟩]) .ret))))
theorem EJ:codeOf Tryz.prog 132=some ⟨24,Dj,[(.cell 4 true 2),(.tmp 5)]⟩:=by kernel_rfl
theorem A7:modes 132=⟨[],.frz,none,false⟩:=by unfold modes; rfl
theorem Qaj (b:Bd) (n:ByteArray):E 164 [b.sv,.str n] []=some (.int .i64 (Ew b.var n),[]):=by
 have h:=J5 b.var n
 refine Ae Hy BU (of_decide_eq_true rfl) ?_
 simp (disch:=omega) only [Eo,go_sem,Aa,h,AC]
theorem TR (xs:List Bd) (n:ByteArray) (hl:xs.length≤1099511627776) (hs:NB xs):E 163 [.arr (xs.map Bd.d),.str n,.fn 164 []] []=some (.tup [.int .i64 (Bp xs n:Nat),.bool (DW xs n)],[]):=by
 have hlow:=UZ n xs
 obtain ⟨L,hL⟩:∃ L:Int,L=(Bp xs n:Nat):=⟨_,rfl⟩
 rw [←hL]
 refine Ae Cq AG (of_decide_eq_true rfl) ?_
 simp (disch:=omega) only [Bg,go_sem,Aa]
 refine go_loop (α:=Int × Int) (fun a=>⟨slots 49 0 [(0,.arr (xs.map Bd.d)),(1,.str n),(2,.fn 164 []),(8,.int .i64 xs.length),(9,.int .i64 a.1),(10,.int .i64 a.2)],[]⟩) (fun a=>0≤a.1∧a.1≤L∧L≤a.2∧a.2≤xs.length) (fun a=>(a.2-a.1).toNat) (0,xs.length) ⟨by simp,by dsimp only; omega,by dsimp only; omega,by dsimp only; omega⟩ (by simp (disch:=omega) only [go_sem,Aa]) ?_
 rintro ⟨i,j⟩ ⟨h0,h1,h2,h3⟩
 dsimp only at h0 h1 h2 h3
 rcases Int.lt_or_le i j with hij | hij
 ·obtain ⟨m,hm⟩:∃ m:Nat,(i+j) / 2=(m:Int):=⟨((i+j) / 2).toNat,by omega⟩
  have hlt:m<xs.length:=by omega
  have hni:(m:Int).toNat=m:=yL m
  have hg:=get_at Bd.d hlt
  rw [Bd.d_eq] at hg
  have hc:=Qaj xs[m] n
  have hw:IntKind.u64.wrap (i+j)=i+j:=wrap_u64 (by omega) (by omega)
  have hi:=Qc4 hs n hlt
  obtain ⟨M,hM⟩:∃ M:Int,(i+j) / 2=M:=⟨_,rfl⟩
  have hni:M.toNat=m:=by omega
  cases hq:strLt xs[m].var n with
  | true =>
   have hi2:=hi.1 hq
   simp (disch:=omega) only [go_sem,Aa,hw,hni,hg,hc,CP,BU,WO,hq,hM]
   exact ⟨(M+1,j),⟨by dsimp only; omega,by dsimp only; omega,by dsimp only; omega,by dsimp only; omega⟩,by dsimp only; omega,by first | trivial | rfl⟩
  | false =>
   have hi2:¬ m<Bp xs n:=by rw [←hi,hq]; simp
   simp (disch:=omega) only [go_sem,Aa,hw,hni,hg,hc,CP,BU,WO,hq,hM]
   exact ⟨(i,M),⟨by dsimp only; omega,by dsimp only; omega,by dsimp only; omega,by dsimp only; omega⟩,by dsimp only; omega,by first | trivial | rfl⟩
 ·obtain rfl:i=L:=by omega
  rcases zB (Bp xs n) xs.length with hlt | hge
  ·have hg:=get_at Bd.d hlt
   rw [Bd.d_eq] at hg
   have hni:i.toNat=Bp xs n:=by omega
   have hc:=Qaj xs[Bp xs n] n
   have hh:DW xs n=dec (xs[Bp xs n].var=n):=by unfold DW; rw [zS hlt]
   rw [hh]
   simp (disch:=omega) only [go_sem,Aa,hni,hg,hc,CP,BU,Qbm]
  ·have hh:DW xs n=false:=by unfold DW; rw [yR hge]
   rw [hh]
   simp (disch:=omega) only [go_sem,Aa]
theorem WR {α:Type} (p:α→Bool):∀ (xs:List α) (k:Nat) (i:Int) (h:k<xs.length),(∀ j (hj:j<k),p xs[j]=false)→p xs[k]=true→Ey p xs i=i+k
 | [],k,i,h,_,_=>absurd h (by simp)
 | x :: xs,0,i,h,_,hp=>by rw [Ey,if_pos (show p x=true from hp)]; simp
 | x :: xs,k+1,i,h,hb,hp=>by
  have h0:p x=false:=hb 0 (by omega)
  have:=WR p xs k (i+1) (by simpa using h) (fun j hj=>hb (j+1) (by omega)) hp
  rw [Ey,if_neg (by rw [h0]; simp),this]; omega
theorem Vb {α:Type} (p:α→Bool):∀ (xs:List α) (i:Int),(∀ j (hj:j<xs.length),p xs[j]=false)→Ey p xs i=-1
 | [],i,_=>by rw [Ey]
 | x :: xs,i,h=>by
  have h0:p x=false:=h 0 (by simp)
  rw [Ey,if_neg (by rw [h0]; simp)]
  exact Vb p xs (i+1) fun j hj=>h (j+1) (by simpa using hj)
theorem RG {xs:List Bd} (hs:NB xs) (n:ByteArray):Ey (fun b=>dec (b.var=n)) xs 0=if DW xs n then ((Bp xs n:Nat):Int) else -1:=by
 have before:∀ j (hj:j<xs.length),j<Bp xs n→dec (xs[j].var=n)=false:=fun j hj hL=>Ay (WN (KM n xs j hj hL))
 rcases zB (Bp xs n) xs.length with hlt | hge
 ·have hh:DW xs n=dec (xs[Bp xs n].var=n):=by unfold DW; rw [zS hlt]
  cases hq:dec (xs[Bp xs n].var=n) with
  | true =>
   rw [hh,hq,if_pos rfl,WR _ xs (Bp xs n) 0 hlt (fun j hj=>before j (by omega) hj) hq]; omega
  | false =>
   rw [hh,hq,if_neg (by simp)]
   refine Vb _ xs 0 fun j hj=>?_
   rcases Nat.lt_trichotomy j (Bp xs n) with h | h | h
   ·exact before j hj h
   ·subst h; exact hq
   ·refine Ay fun e=>?_
    have h1:=hs _ _ h hj
    rw [e,Va n xs hlt] at h1
    cases h1
 ·have hh:DW xs n=false:=by unfold DW; rw [yR hge]
  rw [hh,if_neg (by simp)]
  exact Vb _ xs 0 fun j hj=>before j hj (by omega)
theorem HW {xs:List Bd} {n:ByteArray} (h:DW xs n=true):Bp xs n<xs.length:=by
 rcases zB (Bp xs n) xs.length with h1 | h1
 ·exact h1
 ·unfold DW at h; rw [yR h1] at h; cases h
noncomputable def Sb.look (x:Sb) (n:ByteArray):Option Tm:=if h:DW x.binds n=true then some (x.binds[Bp x.binds n]'(HW h)).term else none
theorem RH (x:Sb) (hx:NB x.binds) (n:ByteArray) (hl:x.binds.length≤1099511627776) (hh:DW x.binds n=true) (hlt:Bp x.binds n<x.binds.length):E 132 [x.sv,.str n] []=some (.tup [(x.binds[Bp x.binds n]).term.sv,.bool true],[]):=by
 have hb:=TR x.binds n hl hx
 have hg:=get_at Bd.d hlt
 rw [Bd.d_eq] at hg
 have hni:((Bp x.binds n:Nat):Int).toNat=Bp x.binds n:=yL _
 refine Ae EJ A7 (of_decide_eq_true rfl) ?_
 simp (disch:=omega) only [Dj,go_sem,Aa,hb,hni,hg,hh,AG]
theorem TS (x:Sb) (hx:NB x.binds) (n:ByteArray) (hl:x.binds.length≤1099511627776) (hh:DW x.binds n=false):E 132 [x.sv,.str n] []=some (.tup [.agg [.str ⟨#[]⟩,.arr []],.bool false],[]):=by
 have hb:=TR x.binds n hl hx
 refine Ae EJ A7 (of_decide_eq_true rfl) ?_
 simp (disch:=omega) only [Dj,go_sem,Aa,hb,hh,AG]
theorem Zf (x:Sb) (hx:x.ok=true) (n:ByteArray) (hl:x.binds.length≤1099511627776) (hh:DW x.binds n=true) (hlt:Bp x.binds n<x.binds.length):E 132 [x.sv,.str n] []=some (.tup [(x.binds[Bp x.binds n]).term.sv,.bool true],[]):=RH x (Sb.JQ hx) n hl hh hlt
theorem Qbo (x:Sb) (hx:x.ok=true) (n:ByteArray) (hl:x.binds.length≤1099511627776) (hh:DW x.binds n=false):E 132 [x.sv,.str n] []=some (.tup [.agg [.str ⟨#[]⟩,.arr []],.bool false],[]):=TS x (Sb.JQ hx) n hl hh
mutual
noncomputable def Tm.ap (f:ByteArray→Option Tm):Tm→Tm
 | .mk name args=>if An name then (f name).getD (.mk name []) else .mk name (Tm.apL f args)
noncomputable def Tm.apL (f:ByteArray→Option Tm):List Tm→List Tm
 | []=>[]
 | x :: xs=>Tm.ap f x :: Tm.apL f xs
end
theorem Tm.HX (f:ByteArray→Option Tm) (x:Tm):x.ap f=if An x.name then (f x.name).getD (.mk x.name []) else .mk x.name (Tm.apL f x.args):=by
 obtain ⟨name,args⟩:=x
 rw [Tm.ap]; rfl
theorem Tm.Ql (f:ByteArray→Option Tm):∀ xs:List Tm,(Tm.apL f xs).length=xs.length
 | []=>by rw [Tm.apL]
 | x :: xs=>by rw [Tm.apL]; simp only [z7,Tm.Ql f xs]
theorem Tm.NC (f:ByteArray→Option Tm):∀ xs:List Tm,Tm.apL f xs=xs.map (Tm.ap f)
 | []=>by rw [Tm.apL]; rfl
 | x :: xs=>by rw [Tm.apL,Tm.NC f xs]; rfl
def okF (f:ByteArray→Option Tm):Prop:=∀ n t,f n=some t→t.names=true∧t.nodes≤30
theorem Tm.ND (f:ByteArray→Option Tm):∀ xs:List Tm,(∀ y∈xs,(y.ap f).names=true)→Tm.Eg (Tm.apL f xs)=true
 | [],_=>by rw [Tm.apL,Tm.Eg]
 | x :: xs,h=>by rw [Tm.apL,Tm.Eg,h x (by simp),Tm.ND f xs fun y hy=>h y (by simp [hy])]; rfl
theorem Tm.KN {f:ByteArray→Option Tm} (hf:okF f) (x:Tm) (hx:x.names=true):(x.ap f).names=true:=by
 rw [Tm.HX]
 rw [Tm.Gp] at hx
 split
 ·rename_i hv
  cases hq:f x.name with
  | none =>
   rw [yZ,Tm.Gp]
   show (if An x.name then _ else _)=true
   rw [if_pos hv]; rfl
  | some t=>exact (hf _ _ hq).1
 ·rename_i hv
  rw [if_neg hv,zA,zA] at hx
  rw [Tm.Gp]
  show (if An x.name then _ else F7 x.name&&decide ((Tm.apL f x.args).length≤4)&&Tm.Eg (Tm.apL f x.args))=true
  rw [if_neg hv,Tm.Ql,hx.1.1,hx.1.2,Tm.ND f x.args fun y hy=>Tm.KN hf y (by
   have:=hx.2
   rw [Tm.Ds,zN] at this
   exact this y hy)]
  rfl
termination_by SizeOf.sizeOf x
decreasing_by exact Tm.Az hy
theorem Tm.WS {f:ByteArray→Option Tm}:∀ xs:List Tm,(∀ y∈xs,(y.ap f).nodes≤30*y.nodes)→Tm.Bl (Tm.apL f xs)≤30*Tm.Bl xs
 | [],_=>by rw [Tm.apL,Tm.Bl]; omega
 | x :: xs,h=>by
  have h1:=h x (by simp)
  have h2:=Tm.WS xs fun y hy=>h y (by simp [hy])
  rw [Tm.apL,Tm.Bl,Tm.Bl]; omega
theorem Tm.IY {f:ByteArray→Option Tm} (hf:okF f) (x:Tm):(x.ap f).nodes≤30*x.nodes:=by
 have hp:=Tm.L8 x
 rw [Tm.HX]
 split
 ·cases hq:f x.name with
  | none =>
   have:(Tm.mk x.name []).nodes=1+Tm.Bl []:=Tm.Ao (Tm.mk x.name [])
   rw [Tm.Bl] at this
   rw [yZ]; omega
  | some t=>have:=(hf _ _ hq).2; rw [Option.getD_some]; omega
 ·have h1:(Tm.mk x.name (Tm.apL f x.args)).nodes=1+Tm.Bl (Tm.apL f x.args):=Tm.Ao (Tm.mk x.name (Tm.apL f x.args))
  have h2:=Tm.WS (f:=f) x.args fun y hy=>Tm.IY hf y
  have h3:=Tm.Ao x
  omega
termination_by SizeOf.sizeOf x
decreasing_by exact Tm.Az hy
theorem Tm.Qc5 {f:ByteArray→Option Tm} (hf:okF f) (x:Tm) (hx:(x.valid || x.atom)=true):((x.ap f).valid || (x.ap f).atom)=(x.ap f).small:=by
 cases hs:(x.ap f).small with
 | false =>
  have h1:(x.ap f).valid=false:=by unfold Tm.valid; rw [hs]; rfl
  have h2:(x.ap f).atom=false:=by
   unfold Tm.atom; split
   ·rw [hs,zM,yH]
   ·rw [h1,zM]
  rw [h1,h2]; rfl
 | true =>
  cases hn:x.names with
  | true =>
   have:(x.ap f).valid=true:=by unfold Tm.valid; rw [hs,Tm.KN hf x hn]; rfl
   rw [this]; rfl
  | false =>
   have hv:x.valid=false:=by unfold Tm.valid; rw [hn,zM]
   rw [hv,yY] at hx
   unfold Tm.atom at hx
   split at hx
   ·rename_i he
    rw [zA,zA] at hx
    have hname:x.name=⟨#[61]⟩:=by unfold Tm.eqn at he; exact Av.1 he
    have hnv0:An ⟨#[61]⟩=false:=by kernel_rfl
    have hnv:¬ (An x.name=true):=by rw [hname,hnv0]; simp
    have e:x.ap f=.mk x.name (Tm.apL f x.args):=by rw [Tm.HX,if_neg hnv]
    have:(x.ap f).atom=true:=by
     have he2:(x.ap f).eqn=true:=by rw [e]; exact he
     unfold Tm.atom
     rw [if_pos he2,hs]
     rw [e]
     show ((Tm.apL f x.args).length == 2&&true&&Tm.Eg (Tm.apL f x.args))=true
     rw [Tm.Ql,hx.1.1,Tm.ND f x.args fun y hy=>Tm.KN hf y (by
      have:=hx.2
      rw [Tm.Ds,zN] at this
      exact this y hy)]
     rfl
    rw [this,Bool.or_true]
   ·rw [hv,zM] at hx; cases hx
theorem Tm.E1 {x:Tm} (h:x.names=true) (hv:An x.name=true):x.args=[]:=by
 rw [Tm.Gp,if_pos hv] at h
 exact zG (by simpa using h)
theorem Tm.E2 {x:Tm} (h:x.names=true) {y:Tm} (hy:y∈x.args):y.names=true:=by
 rw [Tm.Gp] at h
 split at h
 ·have:x.args=[]:=zG (by simpa using h)
  rw [this] at hy; cases hy
 ·rw [zA,Tm.Ds,zN] at h
  exact h.2 y hy
theorem Sb.JR {x:Sb} (h:x.ok=true) {k:Nat} (hk:k<x.binds.length):HH x.binds[k]=true:=by
 unfold Sb.ok at h
 rw [zA] at h
 exact QdZ hk (Qai h.2 hk)
theorem WT {x:Bd} (h:HH x=true):An x.var=true:=by unfold HH at h; rw [zA] at h; exact h.1
theorem D8 {x:Bd} (h:HH x=true):x.term.valid=true:=by unfold HH at h; rw [zA,zA] at h; exact h.2.1
theorem Vd {xs:List Bd} {n:ByteArray} (h:DW xs n=true) (hlt:Bp xs n<xs.length):(xs[Bp xs n]).var=n:=by
 have hh:DW xs n=dec (xs[Bp xs n].var=n):=by unfold DW; rw [zS hlt]
 rw [hh] at h
 exact Av.1 h
theorem Sb.Fx {x:Sb} (h:x.ok=true):okF x.look:=by
 intro n t ht
 unfold Sb.look at ht
 split at ht
 ·rename_i hh
  have hv:=D8 (Sb.JR h (HW hh))
  obtain rfl:=yK ht
  unfold Tm.valid Tm.small at hv
  rw [zA,zA,decide_eq_true_eq] at hv
  exact ⟨hv.2,hv.1.1⟩
 ·cases ht
theorem Sb.KO {x:Sb} {n:ByteArray} (h:DW x.binds n=true) (hlt:Bp x.binds n<x.binds.length):x.look n=some (x.binds[Bp x.binds n]).term:=by
 unfold Sb.look; rw [dif_pos h]
theorem Sb.Qm {x:Sb} {n:ByteArray} (h:DW x.binds n=false):x.look n=none:=by
 unfold Sb.look; rw [dif_neg (by rw [h]; simp)]
def Sb.fine (s:Sb):Prop:=NB s.binds∧∀ b∈s.binds,An b.var=true
theorem Sb.Ve {s:Sb} (h:s.ok=true):s.fine:=⟨Sb.JQ h,fun b hb=>by
 obtain ⟨k,hk,rfl⟩:=zR hb
 exact WT (Sb.JR h hk)⟩
def Ci:SC:=(.seq (.reg [⟨some 2,none,.boxv 76 1 (.t 0)⟩,⟨some 3,none,.boxv 71 2 (.t 1)⟩,⟨(some 4),none,(.alloc 71 [(.str ⟨#[]⟩),.nil])⟩]) (.seq (.seq (.reg [⟨some 10,none,.faddr 1 (.t 3)⟩,⟨some 11,none,.load false 1 (.t 10)⟩,⟨some 12,none,.len false (.t 11)⟩,⟨some 13,none,.bin .eql false (.t 12) (.c (.int .i64 0))⟩]) (.cond (.t 13) (.seq (.seq (.reg [⟨some 15,none,.load true 1 (.t 2)⟩,⟨some 16,none,.faddr 0 (.t 3)⟩,⟨some 17,none,.load false 1 (.t 16)⟩,⟨some 18,none,.call 132 [(.t 15),(.t 17)]⟩,⟨some 14,none,.mv (.t 18)⟩,⟨some 19,none,.ext (.t 14) 0⟩,⟨some 20,none,.ext (.t 14) 1⟩,⟨(some 5),none,(.alloc 71 [(.str ⟨#[]⟩),.nil])⟩,⟨none,none,(.store 2 (.t 5) (.t 19))⟩,⟨some 6,none,.mv (.t 20)⟩]) (.seq (.reg [⟨some 21,none,.mv (.t 6)⟩]) (.cond (.t 21) (.seq (.reg [⟨some 22,none,.load true 2 (.t 5)⟩,⟨some 23,none,.call 133 [(.t 22)]⟩,⟨none,none,(.store 2 (.t 4) (.t 23))⟩]) .ret) .skip))) (.seq (.reg [⟨some 24,none,.faddr 0 (.t 3)⟩,⟨some 25,none,.load false 1 (.t 24)⟩,⟨(some 26),none,(.build [(.str ⟨#[]⟩),.nil] [(0,(1,(.t 25)))])⟩,⟨none,none,(.store 2 (.t 4) (.t 26))⟩]) .ret)) .skip)) (.seq (.dreg [[],[0],[],[2],[3,2],[4,3,2],[1,0,5,4,3,2],[],[7,6,1,0,5,4,3,2]] [⟨some 27,none,.faddr 0 (.t 3)⟩,⟨some 28,none,.load false 1 (.t 27)⟩,⟨some 29,none,.faddr 1 (.t 3)⟩,⟨some 30,none,.load false 1 (.t 29)⟩,⟨some 31,none,.len false (.t 30)⟩,⟨(some 32),none,(.mkslice 71 2 40 [(.str ⟨#[]⟩),.nil] (.t 31))⟩,⟨(some 33),none,(.build [(.str ⟨#[]⟩),.nil] [(0,(1,(.t 28))),(1,(1,(.t 32)))])⟩,⟨(some 7),none,(.alloc 71 [(.str ⟨#[]⟩),.nil])⟩,⟨none,none,(.store 2 (.t 7) (.t 33))⟩]) (.seq (.seq (.reg [⟨some 34,none,.faddr 1 (.t 3)⟩,⟨some 35,none,.load false 1 (.t 34)⟩,⟨some 36,none,.len false (.t 35)⟩,⟨some 37,none,.mv (.c (.int .i64 0))⟩]) (.block 0 (.loop [0,0,1,0,1,0,0,1,0,0,0,0,0,0,0,0,0,0,0,0,0,0,0,0,0,0,0,0,0,0,0,0,0,0,0,1,1,1,0,0,0,0,0,0,0,0,0,0,0,0,0] (.seq (.reg [⟨some 38,none,.bin .lss false (.t 37) (.t 36)⟩]) (.seq (.cond (.t 38) .skip (.exit 0)) (.seq (.block 1 (.seq (.reg [⟨some 39,none,.mv (.t 37)⟩,⟨some 40,none,.iaddr 2 (.t 35) (.t 37)⟩,⟨some 41,none,.load true 2 (.t 40)⟩,⟨(some 9),none,(.alloc 71 [(.str ⟨#[]⟩),.nil])⟩,⟨some 8,none,.mv (.t 39)⟩,⟨none,none,(.store 2 (.t 9) (.t 41))⟩]) (.dreg [[],[0],[],[],[],[3,4],[1,0,2,3,4,5],[6,1,0,2,3,4,5]] [⟨some 42,none,.faddr 1 (.t 7)⟩,⟨some 43,none,.load false 1 (.t 42)⟩,⟨some 44,none,.mv (.t 8)⟩,⟨some 45,none,.load true 1 (.t 2)⟩,⟨some 46,none,.load true 2 (.t 9)⟩,⟨some 47,none,.call 126 [(.t 45),(.t 46)]⟩,⟨some 48,none,.iaddr 2 (.t 43) (.t 44)⟩,⟨none,none,(.store 2 (.t 48) (.t 47))⟩]))) (.reg [⟨some 49,none,.bin .add false (.t 37) (.c (.int .i64 1))⟩,⟨some 37,none,.mv (.t 49)⟩]))))))) (.seq (.reg [⟨some 50,none,.load true 2 (.t 7)⟩,⟨none,none,(.store 2 (.t 4) (.t 50))⟩]) .ret)))))
theorem CV:codeOf Tryz.prog 126=some ⟨51,Ci,[(.cell 4 true 2)]⟩:=by kernel_rfl
theorem Aw:modes 126=⟨[],.own [none,some (71,2)],none,false⟩:=by unfold modes; rfl
def Fy:SC:=(.seq (.reg [⟨some 2,none,.boxv 76 1 (.t 0)⟩,⟨some 3,none,.boxv 71 2 (.t 1)⟩,⟨(some 4),none,(.alloc 71 [(.str ⟨#[]⟩),.nil])⟩]) (.seq (.seq (.reg [⟨some 8,none,.faddr 0 (.t 3)⟩,⟨some 9,none,.load false 1 (.t 8)⟩,⟨some 10,none,.call 77 [(.t 9)]⟩]) (.cond (.t 10) (.seq (.seq (.reg [⟨some 11,none,.load true 1 (.t 2)⟩,⟨some 12,none,.faddr 0 (.t 3)⟩,⟨some 13,none,.load false 1 (.t 12)⟩,⟨some 14,none,.call 147 [(.t 11),(.t 13)]⟩,⟨some 5,none,.mv (.t 14)⟩]) (.seq (.reg [⟨some 15,none,.mv (.t 5)⟩,⟨some 16,none,.bin .geq false (.t 15) (.c (.int .i64 0))⟩]) (.cond (.t 16) (.seq (.reg [⟨some 17,none,.faddr 0 (.t 2)⟩,⟨some 18,none,.load false 1 (.t 17)⟩,⟨some 19,none,.mv (.t 5)⟩,⟨some 20,none,.iaddr 3 (.t 18) (.t 19)⟩,⟨some 21,none,.faddr 1 (.t 20)⟩,⟨some 22,none,.load true 2 (.t 21)⟩,⟨some 23,none,.call 148 [(.t 22)]⟩,⟨none,none,(.store 2 (.t 4) (.t 23))⟩]) .ret) .skip))) (.seq (.reg [⟨some 24,none,.faddr 0 (.t 3)⟩,⟨some 25,none,.load false 1 (.t 24)⟩,⟨(some 26),none,(.build [(.str ⟨#[]⟩),.nil] [(0,(1,(.t 25)))])⟩,⟨none,none,(.store 2 (.t 4) (.t 26))⟩]) .ret)) .skip)) (.seq (.reg [⟨some 27,none,.faddr 0 (.t 3)⟩,⟨some 28,none,.load false 1 (.t 27)⟩,⟨(some 29),none,(.build [(.str ⟨#[]⟩),.nil] [(0,(1,(.t 28)))])⟩,⟨(some 6),none,(.alloc 71 [(.str ⟨#[]⟩),.nil])⟩,⟨none,none,(.store 2 (.t 6) (.t 29))⟩]) (.seq (.seq (.reg [⟨some 7,none,.mv (.c (.int .i64 0))⟩]) (.block 0 (.loop [0,0,1,1,1,0,1,1,0,0,0,0,0,0,0,0,0,0,0,0,0,0,0,0,0,0,0,0,0,0,0,0,0,0,0,0,0,0,0,0,0,0,0,0,0,0,0,0,0,0] (.seq (.seq (.reg [⟨some 30,none,.mv (.t 7)⟩,⟨some 31,none,.faddr 1 (.t 3)⟩,⟨some 32,none,.load false 1 (.t 31)⟩,⟨some 33,none,.len false (.t 32)⟩,⟨some 34,none,.bin .lss false (.t 30) (.t 33)⟩]) (.cond (.t 34) .skip (.exit 0))) (.seq (.block 1 (.dreg [[],[0],[],[],[3],[],[4,3,5],[6,4,3,5],[2,7,6,4,3,5],[8,2,7,6,4,3,5],[1,0,9,8,2,7,6,4,3,5],[0,1,2,3,4,5,6,7,8,9,10],[11,0,1,2,3,4,5,6,7,8,9,10]] [⟨some 37,none,.faddr 1 (.t 6)⟩,⟨some 38,none,.load false 1 (.t 37)⟩,⟨some 39,none,.load true 1 (.t 2)⟩,⟨some 40,none,.faddr 1 (.t 3)⟩,⟨some 41,none,.load false 1 (.t 40)⟩,⟨some 42,none,.mv (.t 7)⟩,⟨some 43,none,.iaddr 2 (.t 41) (.t 42)⟩,⟨some 44,none,.load true 2 (.t 43)⟩,⟨some 45,none,.call 111 [(.t 39),(.t 44)]⟩,⟨(some 46),none,(.mkrow 71 2 [(.str ⟨#[]⟩),.nil] 1 [(0,(.t 45))])⟩,⟨(some 47),none,(.append 71 2 40 [(.str ⟨#[]⟩),.nil] (.t 38) (.t 46))⟩,⟨some 48,none,.faddr 1 (.t 6)⟩,⟨none,none,(.store 1 (.t 48) (.t 47))⟩])) (.reg [⟨some 35,none,.mv (.t 7)⟩,⟨some 36,none,.bin .add false (.t 35) (.c (.int .i64 1))⟩,⟨some 7,none,.mv (.t 36)⟩])))))) (.seq (.reg [⟨some 49,none,.load true 2 (.t 6)⟩,⟨none,none,(.store 2 (.t 4) (.t 49))⟩]) .ret)))))
theorem Hz:codeOf Tryz.prog 111=some ⟨50,Fy,[(.cell 4 true 2)]⟩:=by kernel_rfl
theorem AI:modes 111=⟨[],.frz,none,false⟩:=by unfold modes; rfl
theorem WU (s:Sb) (hs:s.fine) (ht:s.tame) (x:Tm) (hx:An x.name=true→x.args=[]) (hn:x.nodes≤1099511627776) (ih:∀ y∈x.args,E 126 [s.sv,y.sv] []=some ((y.ap s.look).osv,(y.ap s.look).obs)):E 126 [s.sv,x.sv] []=some ((x.ap s.look).osv,(x.ap s.look).obs):=by
 have hsl:=ht.1
 have hl:=Tm.length_le x.args
 have hne:=Tm.Ao x
 rcases zI x.args.length with h0 | h0
 ·have hx0:x.args=[]:=zG h0
  cases hh:DW s.binds x.name with
  | true =>
   have hlt:=HW hh
   have hc:=RH s hs.1 x.name hsl hh hlt
   have hd:=J7 (s.binds[Bp s.binds x.name]).term (Sb.tame_at ht hlt)
   have hv:An x.name=true:=by rw [←Vd hh hlt]; exact hs.2 _ (zC hlt)
   have e:x.ap s.look=(s.binds[Bp s.binds x.name]).term:=by rw [Tm.HX,if_pos hv,Sb.KO hh hlt]; rfl
   rw [e]
   refine Ae CV Aw (of_decide_eq_true rfl) ?_
   simp (disch:=omega) only [Ci,go_sem,Aa,hx0,hc,hd,zK,zT,A7,Ba,Tm.osv,Tm.obs]
  | false =>
   have hc:=TS s hs.1 x.name hsl hh
   have e:x.ap s.look=.mk x.name []:=by
    rw [Tm.HX,Sb.Qm hh,hx0]
    split
    ·rfl
    ·rw [Tm.apL]
   rw [e]
   have e1:(Tm.mk x.name []).osv=.agg [.str x.name,.ref 0]:=rfl
   have e2:(Tm.mk x.name []).obs=[.row 71 2 []]:=rfl
   rw [e1,e2]
   refine Ae CV Aw (of_decide_eq_true rfl) ?_
   simp (disch:=omega) only [Ci,go_sem,Aa,hx0,hc,zK,zT,A7]
 ·have hv:¬ An x.name=true:=fun h=>by rw [hx h] at h0; simp at h0
  have e:x.ap s.look=.mk x.name (x.args.map (Tm.ap s.look)):=by rw [Tm.HX,if_neg hv,Tm.NC]
  rw [e]
  have e1:(Tm.mk x.name (x.args.map (Tm.ap s.look))).osv=.agg [.str x.name,.ref 0]:=rfl
  have e2:(Tm.mk x.name (x.args.map (Tm.ap s.look))).obs=[.row 71 2 ((x.args.map (Tm.ap s.look)).map Tm.o)]:=rfl
  rw [e1,e2]
  have hrl:List.replicate x.args.length ([.str ⟨#[]⟩,.ow []]:List OT)=Gm Tm.o [.str ⟨#[]⟩,.ow []] (x.args.map (Tm.ap s.look)) 0:=by rw [J1,zD]
  refine Ae CV Aw (of_decide_eq_true rfl) ?_
  simp (disch:=omega) only [Ci,go_sem,Aa]
  refine go_loop (α:=Int) (fun a=>⟨slots 51 0 [(2,.ptr 0 0),(4,.ptr 1 0),(7,.ptr 2 0),(35,.arr (x.args.map Tm.d)),(36,.int .i64 x.args.length),(37,.int .i64 a)],[.box 76 [.arr (s.binds.map Bd.d)],.box 71 [.str ⟨#[]⟩,.nil],.box 71 [.str x.name,.ref 3],.row 71 2 (Gm Tm.o [.str ⟨#[]⟩,.ow []] (x.args.map (Tm.ap s.look)) a.toNat)]⟩) (fun a=>∃ k:Nat,a=k∧k≤(x.args).length) (fun a=>(x.args).length-(a).toNat) 0 ⟨0,rfl,zF _⟩ (by simp (disch:=omega) only [go_sem,Aa,hrl,yA]) ?_
  rintro i ⟨k,hi,hk⟩
  have hni:i.toNat=k:=by omega
  have hni1:(i+1).toNat=k+1:=by omega
  rcases zB k (x.args).length with hlt | hge
  ·have hg:=get_at Tm.d hlt
   rw [Tm.d_eq] at hg
   have hltm:k<(x.args.map (Tm.ap s.look)).length:=by rw [zD]; exact hlt
   have hz:=L6 Tm.o [.str ⟨#[]⟩,.ow []] hltm
   have hc:=ih x.args[k] (zC hlt)
   have hse:=L7 Tm.o [.str ⟨#[]⟩,.ow []] hltm
   rw [Tm.o_eq,zY] at hse
   simp (disch:=omega) only [go_sem,Aa,hni,hg,hc,hz,L4,zD,Aw,Tm.osv,Tm.obs]
   refine ⟨i+1,⟨k+1,by omega,hlt⟩,by omega,?_⟩
   simp (disch:=omega) only [go_sem,Aa,hni1,hse]
  ·obtain rfl:k=x.args.length:=by omega
   have hend:Gm Tm.o [.str ⟨#[]⟩,.ow []] (x.args.map (Tm.ap s.look)) x.args.length=(x.args.map (Tm.ap s.look)).map Tm.o:=by
    have:=L5 Tm.o [.str ⟨#[]⟩,.ow []] (xs:=x.args.map (Tm.ap s.look))
    rwa [zD] at this
   simp (disch:=omega) only [go_sem,Aa,hni,hend]
theorem Qak (s:Sb) (hs:s.fine) (ht:s.tame) (x:Tm) (hx:x.names=true) (hn:x.nodes≤1099511627776):E 126 [s.sv,x.sv] []=some ((x.ap s.look).osv,(x.ap s.look).obs) :=
 WU s hs ht x (Tm.E1 hx) hn fun y hy=>Qak s hs ht y (Tm.E2 hx hy) (by have:=Tm.AX hy; have:=Tm.Ao x; omega)
termination_by SizeOf.sizeOf x
decreasing_by exact Tm.Az hy
theorem Qal (s:Sb) (hs:s.ok=true) (ht:s.tame) (x:Tm) (hx:x.names=true) (hn:x.nodes≤1099511627776):E 126 [s.sv,x.sv] []=some ((x.ap s.look).osv,(x.ap s.look).obs):=Qak s (Sb.Ve hs) ht x hx hn
theorem Zg (s:Sb) (hs:s.fine) (ht:s.tame) (x:Tm) (hn:x.nodes≤1099511627776) (ih:∀ y∈x.args,E 111 [s.sv,y.sv] []=some ((y.ap s.look).sv,[])):E 111 [s.sv,x.sv] []=some ((x.ap s.look).sv,[]):=by
 have hsl:=ht.1
 have hl:=Tm.length_le x.args
 have hne:=Tm.Ao x
 have hf:=WQ s x.name hsl
 rw [RG hs.1] at hf
 cases hv:An x.name with
 | true =>
  cases hh:DW s.binds x.name with
  | true =>
   have hlt:=HW hh
   have hg:=get_at Bd.d hlt
   rw [Bd.d_eq] at hg
   have hni:((Bp s.binds x.name:Nat):Int).toNat=Bp s.binds x.name:=yL _
   have hd:=Qj (s.binds[Bp s.binds x.name]).term (Sb.tame_at ht hlt)
   have e:x.ap s.look=(s.binds[Bp s.binds x.name]).term:=by rw [Tm.HX,if_pos hv,Sb.KO hh hlt]; rfl
   rw [hh,if_pos rfl] at hf
   rw [e]
   refine Ae Hz AI (of_decide_eq_true rfl) ?_
   simp (disch:=omega) only [Fy,go_sem,Aa,hv,hf,hg,hni,hd,BQ,Ah,Am,Db]
  | false =>
   have e:x.ap s.look=.mk x.name []:=by rw [Tm.HX,if_pos hv,Sb.Qm hh]; rfl
   rw [hh,if_neg (by simp)] at hf
   rw [e]
   have e1:(Tm.mk x.name []).sv=.agg [.str x.name,.arr []]:=rfl
   rw [e1]
   refine Ae Hz AI (of_decide_eq_true rfl) ?_
   simp (disch:=omega) only [Fy,go_sem,Aa,hv,hf,BQ,Ah,Am]
 | false =>
  have e:x.ap s.look=.mk x.name (x.args.map (Tm.ap s.look)):=by rw [Tm.HX,if_neg (by rw [hv]; simp),Tm.NC]
  rw [e]
  have e1:(Tm.mk x.name (x.args.map (Tm.ap s.look))).sv=.agg [.str x.name,.arr ((x.args.map (Tm.ap s.look)).map Tm.d)]:=rfl
  rw [e1]
  have h10:((1:Int)=0)=False:=by simp
  have hfu:=Tm.N7 (x.args.map (Tm.ap s.look))
  have her:=Tm.UX (x.args.map (Tm.ap s.look))
  refine Ae Hz AI (of_decide_eq_true rfl) ?_
  simp (disch:=omega) only [Fy,go_sem,Aa,hv,BQ,Ah,Am]
  refine go_loop (α:=Int) (fun a=>⟨slots 50 0 [(2,.ptr 0 0),(3,.ptr 1 0),(4,.ptr 2 0),(6,.ptr 3 0),(7,.int .i64 a)],(if a=0 then [.box 76 [.arr (s.binds.map Bd.d)],.box 71 [.str x.name,.arr (x.args.map Tm.d)],.box 71 [.str ⟨#[]⟩,.nil],.box 71 [.str x.name,.nil]] else [.box 76 [.arr (s.binds.map Bd.d)],.box 71 [.str x.name,.arr (x.args.map Tm.d)],.box 71 [.str ⟨#[]⟩,.nil],.box 71 [.str x.name,.ref 4],.row 71 2 (((x.args.map (Tm.ap s.look)).take a.toNat).map Tm.osh)])⟩) (fun a=>∃ k:Nat,a=k∧k≤(x.args).length) (fun a=>(x.args).length-(a).toNat) 0 ⟨0,rfl,zF _⟩ (by simp (disch:=omega) only [go_sem,Aa,eq_self,if_true]) ?_
  rintro i ⟨k,hi,hk⟩
  have hni:i.toNat=k:=by omega
  have hni1:(i+1).toNat=k+1:=by omega
  rcases zB k (x.args).length with hlt | hge
  ·have hg:=get_at Tm.d hlt
   rw [Tm.d_eq] at hg
   have hltm:k<(x.args.map (Tm.ap s.look)).length:=by rw [zD]; exact hlt
   have hc:=ih x.args[k] (zC hlt)
   have hse:=DJ Tm.osh hltm
   rw [Tm.R8,zY] at hse
   rcases zI k with h0 | h0
   ·subst h0
    obtain rfl:i=0:=hi
    rw [zZ,zK,zU] at hse
    simp (disch:=omega) only [go_sem,Aa,hni,hg,hc,AI,eq_self,if_true]
    refine ⟨1,⟨1,rfl,hlt⟩,by omega,?_⟩
    simp (disch:=omega) only [go_sem,Aa,h10,if_false,hse]
   ·have hi0:(i=0)=False:=by simp; omega
    have hi1:(i+1=0)=False:=by simp; omega
    have htl:((x.args.map (Tm.ap s.look)).take k).length=k:=by rw [zP]; omega
    simp (disch:=omega) only [go_sem,Aa,hni,hg,hc,AI,hi0,if_false,htl]
    refine ⟨i+1,⟨k+1,by omega,hlt⟩,by omega,?_⟩
    simp (disch:=omega) only [go_sem,Aa,hni1,hi1,if_false,hse]
  ·obtain rfl:k=x.args.length:=by omega
   have hta:(x.args.map (Tm.ap s.look)).take x.args.length=x.args.map (Tm.ap s.look):=by
    have:=zQ (l:=x.args.map (Tm.ap s.look))
    rwa [zD] at this
   rcases zI x.args.length with h0 | h0
   ·have hx:x.args=[]:=zG h0
    obtain rfl:i=0:=by omega
    simp (disch:=omega) only [go_sem,Aa,hni,hx,eq_self,if_true,zK,zT]
   ·have hi0:(i=0)=False:=by simp; omega
    simp (disch:=omega) only [go_sem,Aa,hni,hi0,if_false,hta,hfu,her]
theorem TT (s:Sb) (hs:s.fine) (ht:s.tame) (x:Tm) (hn:x.nodes≤1099511627776):E 111 [s.sv,x.sv] []=some ((x.ap s.look).sv,[]) :=
 Zg s hs ht x hn fun y hy=>TT s hs ht y (by have:=Tm.AX hy; have:=Tm.Ao x; omega)
termination_by SizeOf.sizeOf x
decreasing_by exact Tm.Az hy
theorem OO (s:Sb) (hs:s.ok=true) (ht:s.tame) (x:Tm) (hn:x.nodes≤1099511627776):E 111 [s.sv,x.sv] []=some ((x.ap s.look).sv,[]):=TT s (Sb.Ve hs) ht x hn
noncomputable def Tm.expr (x:Tm):Bool:=x.valid || x.atom
theorem Tm.RI {x:Tm} (h:x.expr=true):x.small=true:=by
 unfold Tm.expr Tm.atom Tm.valid at h
 cases hs:x.small with
 | true=>rfl
 | false =>
  rw [hs] at h
  split at h <;> simp at h
theorem Tm.Ar {x:Tm} (h:x.expr=true):x.nodes≤30:=by
 have:=Tm.RI h
 unfold Tm.small at this
 rw [zA,decide_eq_true_eq] at this
 exact this.1
theorem Tm.Qam {x:Tm} (h:x.eqn=true):An x.name=false:=by
 unfold Tm.eqn at h
 rw [Av.1 h]
 kernel_rfl
theorem Tm.MD {x:Tm} (h:x.expr=true):x.names=true∨(x.eqn=true∧Tm.Eg x.args=true):=by
 unfold Tm.expr Tm.valid at h
 cases hn:x.names with
 | true=>exact .inl rfl
 | false =>
  rw [hn,zM,yY] at h
  unfold Tm.atom at h
  split at h
  ·rename_i he
   rw [zA] at h
   exact .inr ⟨he,h.2⟩
  ·unfold Tm.valid at h; rw [hn,zM,zM] at h; cases h
theorem Tm.WV {x:Tm} (h:x.expr=true):An x.name=true→x.args=[]:=by
 intro hv
 rcases Tm.MD h with h1 | ⟨h1,h2⟩
 ·exact Tm.E1 h1 hv
 ·rw [Tm.Qam h1] at hv; cases hv
theorem Tm.KP {x:Tm} (h:x.expr=true) {y:Tm} (hy:y∈x.args):y.names=true:=by
 rcases Tm.MD h with h1 | ⟨h1,h2⟩
 ·exact Tm.E2 h1 hy
 ·rw [Tm.Ds,zN] at h2; exact h2 y hy
theorem Tm.RJ:∀ xs:List Tm,(∀ x∈xs,x.nodes≤1+x.bulk)→Tm.Bl xs≤xs.length+Tm.sumB xs
 | [],_=>by simp [Tm.Bl]
 | x :: xs,h=>by
  have h1:=h x (by simp)
  have h2:=Tm.RJ xs fun y hy=>h y (by simp [hy])
  rw [Tm.Bl,Tm.sumB]; simp only [z7]; omega
theorem Tm.RK (x:Tm):x.nodes≤1+x.bulk:=by
 rw [Tm.Ao,Tm.bulk_eq]
 have:=Tm.RJ x.args fun y hy=>Tm.RK y
 omega
termination_by SizeOf.sizeOf x
decreasing_by exact Tm.Az hy
theorem Qan (x:Tm) (hn:x.nodes≤1099511627776):E 110 [x.sv] []=some (.bool x.expr,[]):=by
 have h1:=R2 x hn
 have h3:=R4 x hn
 unfold Tm.expr
 cases hv:x.valid with
 | true =>
  rw [hv] at h1
  rw [Bool.true_or]
  refine Ae N1 Fs (of_decide_eq_true rfl) ?_
  simp (disch:=omega) only [J3,go_sem,Aa,h1,Bh]
 | false =>
  rw [hv] at h1
  rw [yY]
  refine Ae N1 Fs (of_decide_eq_true rfl) ?_
  simp (disch:=omega) only [J3,go_sem,Aa,h1,h3,Bh,AW]
def CF:SC:=(.seq (.reg [⟨some 2,none,.boxv 76 1 (.t 0)⟩,⟨some 3,none,.boxv 71 2 (.t 1)⟩,⟨(some 4),none,(.alloc 71 [(.str ⟨#[]⟩),.nil])⟩,⟨some 5,none,.mv (.c (.bool false))⟩]) (.seq (.reg [⟨some 7,none,.load true 1 (.t 2)⟩,⟨some 8,none,.load true 2 (.t 3)⟩,⟨some 9,none,.call 126 [(.t 7),(.t 8)]⟩,⟨(some 6),none,(.alloc 71 [(.str ⟨#[]⟩),.nil])⟩,⟨none,none,(.store 2 (.t 6) (.t 9))⟩]) (.seq (.seq (.reg [⟨some 10,none,.load true 2 (.t 6)⟩,⟨some 11,none,.call 127 [(.t 10)]⟩,⟨some 12,none,.un .not (.t 11)⟩]) (.cond (.t 12) (.seq (.reg [⟨(some 13),none,(.build [(.str ⟨#[]⟩),.nil] [])⟩,⟨none,none,(.store 2 (.t 4) (.t 13))⟩,⟨some 5,none,.mv (.c (.bool false))⟩]) .ret) .skip)) (.seq (.reg [⟨some 14,none,.load true 2 (.t 6)⟩,⟨none,none,(.store 2 (.t 4) (.t 14))⟩,⟨some 5,none,.mv (.c (.bool true))⟩]) .ret))))
theorem DY:codeOf Tryz.prog 87=some ⟨15,CF,[(.cell 4 true 2),(.tmp 5)]⟩:=by kernel_rfl
theorem Ab:modes 87=⟨[],.late,none,false⟩:=by unfold modes; rfl
def BA:SC:=(.seq (.reg [⟨some 2,none,.boxv 76 1 (.t 0)⟩,⟨some 3,none,.boxv 71 2 (.t 1)⟩,⟨(some 4),none,(.alloc 71 [(.str ⟨#[]⟩),.nil])⟩,⟨some 5,none,.mv (.c (.bool false))⟩]) (.seq (.seq (.reg [⟨some 7,none,.load true 1 (.t 2)⟩,⟨some 8,none,.call 109 [(.t 7)]⟩,⟨some 9,none,.un .not (.t 8)⟩,⟨some 10,none,.mv (.t 9)⟩,⟨(some 11),(some (10,false)),(.load true 2 (.t 3))⟩,⟨(some 12),(some (10,false)),(.call 110 [(.t 11)])⟩,⟨(some 13),(some (10,false)),(.un .not (.t 12))⟩,⟨some 14,none,.pick (.t 10) (.c (.bool true)) (.t 13)⟩]) (.cond (.t 14) (.seq (.reg [⟨(some 15),none,(.build [(.str ⟨#[]⟩),.nil] [])⟩,⟨none,none,(.store 2 (.t 4) (.t 15))⟩,⟨some 5,none,.mv (.c (.bool false))⟩]) .ret) .skip)) (.seq (.reg [⟨some 16,none,.load true 1 (.t 2)⟩,⟨some 17,none,.load true 2 (.t 3)⟩,⟨some 18,none,.call 111 [(.t 16),(.t 17)]⟩,⟨(some 6),none,(.alloc 71 [(.str ⟨#[]⟩),.nil])⟩,⟨none,none,(.store 2 (.t 6) (.t 18))⟩]) (.seq (.seq (.reg [⟨some 19,none,.load true 2 (.t 6)⟩,⟨some 20,none,.call 110 [(.t 19)]⟩,⟨some 21,none,.un .not (.t 20)⟩]) (.cond (.t 21) (.seq (.reg [⟨(some 22),none,(.build [(.str ⟨#[]⟩),.nil] [])⟩,⟨none,none,(.store 2 (.t 4) (.t 22))⟩,⟨some 5,none,.mv (.c (.bool false))⟩]) .ret) .skip)) (.seq (.reg [⟨some 23,none,.load true 2 (.t 6)⟩,⟨none,none,(.store 2 (.t 4) (.t 23))⟩,⟨some 5,none,.mv (.c (.bool true))⟩]) .ret)))))
theorem Cu:codeOf Tryz.prog 76=some ⟨24,BA,[(.cell 4 true 2),(.tmp 5)]⟩:=by kernel_rfl
theorem Ac:modes 76=⟨[],.frz,none,false⟩:=by unfold modes; rfl
noncomputable def Ca (s:Sb) (x:Tm):Bool:=s.ok&&(x.expr&&(x.ap s.look).small)
noncomputable def AM (s:Sb) (x:Tm):Tm:=if Ca s x then x.ap s.look else .mk ⟨#[]⟩ []
theorem Vf {s:Sb} {x:Tm} (h:Ca s x=false):AM s x=.mk ⟨#[]⟩ []:=by unfold AM; rw [if_neg (by rw [h]; simp)]
theorem Ep {s:Sb} {x:Tm} (h:Ca s x=true):AM s x=x.ap s.look:=by unfold AM; rw [if_pos h]
theorem Vg:(Tm.mk ⟨#[]⟩ []).sv=.agg [.str ⟨#[]⟩,.arr []]:=rfl
theorem TU (s:Sb) (hs:s.ok=true) (ht:s.tame) (x:Tm) (hx:x.expr=true):E 126 [s.sv,x.sv] []=some ((x.ap s.look).osv,(x.ap s.look).obs):=by
 have hn:=Tm.Ar hx
 exact WU s (Sb.Ve hs) ht x (Tm.WV hx) (by omega) fun y hy=>Qal s hs ht y (Tm.KP hx hy) (by have:=Tm.AX hy; have:=Tm.Ao x; omega)
theorem BL (s:Sb) (hs:s.ok=true) (ht:s.tame) (x:Tm) (hx:x.expr=true) (ho:Ca s x=true):E 87 [s.sv,x.sv] []=some (.tup [(AM s x).osv,.bool true],(AM s x).obs):=by
 have hn:=Tm.Ar hx
 have hk:=Tm.IY (Sb.Fx hs) x
 have h1:=TU s hs ht x hx
 have h2:=LC (x.ap s.look) (by omega)
 have hq:(x.ap s.look).small=true:=by unfold Ca at ho; rw [zA,zA] at ho; exact ho.2.2
 rw [hq] at h2
 rw [Ep ho]
 refine Ae DY Ab (of_decide_eq_true rfl) ?_
 simp (disch:=omega) only [CF,go_sem,Aa,h1,h2,Tm.osv,Tm.obs,Bm,Aw]
theorem Cr (s:Sb) (hs:s.ok=true) (ht:s.tame) (x:Tm) (hx:x.expr=true) (ho:Ca s x=false):E 87 [s.sv,x.sv] []=some (.tup [.agg [.str ⟨#[]⟩,.nil],.bool false],[]):=by
 have hn:=Tm.Ar hx
 have hk:=Tm.IY (Sb.Fx hs) x
 have h1:=TU s hs ht x hx
 have h2:=LC (x.ap s.look) (by omega)
 have hq:(x.ap s.look).small=false:=by unfold Ca at ho; rw [hs,hx,yC,yC] at ho; exact ho
 rw [hq] at h2
 refine Ae DY Ab (of_decide_eq_true rfl) ?_
 simp (disch:=omega) only [CF,go_sem,Aa,h1,h2,Tm.osv,Tm.obs,Bm,Aw]
theorem AY (s:Sb) (ht:s.tame) (x:Tm) (hn:x.nodes≤1099511627776):E 76 [s.sv,x.sv] []=some (.tup [(AM s x).sv,.bool (Ca s x)],[]):=by
 have h1:=NA s ht
 have h2:=Qan x hn
 cases hs:s.ok with
 | false =>
  have ho:Ca s x=false:=by unfold Ca; rw [hs]; rfl
  rw [hs] at h1
  rw [Vf ho,ho,Vg]
  refine Ae Cu Ac (of_decide_eq_true rfl) ?_
  simp (disch:=omega) only [BA,go_sem,Aa,h1,Ct]
 | true =>
  rw [hs] at h1
  cases hx:x.expr with
  | false =>
   have ho:Ca s x=false:=by unfold Ca; rw [hx,yH,zM]
   rw [hx] at h2
   rw [Vf ho,ho,Vg]
   refine Ae Cu Ac (of_decide_eq_true rfl) ?_
   simp (disch:=omega) only [BA,go_sem,Aa,h1,h2,Ct,Fs]
  | true =>
   rw [hx] at h2
   have hn:=Tm.Ar hx
   have hk:=Tm.IY (Sb.Fx hs) x
   have h3:=OO s hs ht x (by omega)
   have h4:=Qan (x.ap s.look) (by omega)
   have h5:(x.ap s.look).expr=(x.ap s.look).small:=Tm.Qc5 (Sb.Fx hs) x hx
   rw [h5] at h4
   cases hq:(x.ap s.look).small with
   | true =>
    have ho:Ca s x=true:=by unfold Ca; rw [hs,hx,hq]; rfl
    rw [hq] at h4
    rw [Ep ho,ho]
    refine Ae Cu Ac (of_decide_eq_true rfl) ?_
    simp (disch:=omega) only [BA,go_sem,Aa,h1,h2,h3,h4,Ct,Fs,AI]
   | false =>
    have ho:Ca s x=false:=by unfold Ca; rw [hq,zM,zM]
    rw [hq] at h4
    rw [Vf ho,ho,Vg]
    refine Ae Cu Ac (of_decide_eq_true rfl) ?_
    simp (disch:=omega) only [BA,go_sem,Aa,h1,h2,h3,h4,Ct,Fs,AI]
theorem Tm.C5 {x:Tm} (h:x.atom=true):x.expr=true:=by unfold Tm.expr; rw [h,Bool.or_true]
theorem Tm.CQ {x:Tm} (h:x.atom=true):x.nodes≤30:=Tm.Ar (Tm.C5 h)
def GA:SC:=(.seq (.reg [⟨some 1,none,.boxv 28 1 (.t 0)⟩,⟨some 2,none,.alloc 28 [.nil]⟩,⟨some 3,none,.mv (.c (.bool false))⟩]) (.seq (.seq (.reg [⟨some 4,none,.load true 1 (.t 1)⟩,⟨some 5,none,.call 54 [(.t 4)]⟩,⟨some 6,none,.un .not (.t 5)⟩]) (.cond (.t 6) (.seq (.reg [⟨some 7,none,.build [.nil] []⟩,⟨none,none,(.store 1 (.t 2) (.t 7))⟩,⟨some 3,none,.mv (.c (.bool false))⟩]) .ret) .skip)) (.seq (.reg [⟨some 8,none,.load true 1 (.t 1)⟩,⟨none,none,(.store 1 (.t 2) (.t 8))⟩,⟨some 3,none,.mv (.c (.bool true))⟩]) .ret)))
theorem JS:codeOf Tryz.prog 137=some ⟨9,GA,[(.cell 2 true 1),(.tmp 3)]⟩:=by kernel_rfl
theorem CX:modes 137=⟨[true],.own [some (73,3),none],none,false⟩:=by unfold modes; rfl
def Dl:SC:=(.seq (.reg [⟨some 2,none,.boxv 76 1 (.t 0)⟩,⟨some 4,none,.alloc 28 [.nil]⟩,⟨some 5,none,.mv (.c (.bool false))⟩]) (.seq (.reg [⟨(some 11),none,(.mkrow 73 3 [(.bool false),(.str ⟨#[]⟩),.nil] 0 [])⟩,⟨some 6,none,.mv (.t 11)⟩]) (.seq (.seq (.reg [⟨some 12,none,.mv (.t 1)⟩,⟨some 13,none,.len false (.t 12)⟩,⟨some 14,none,.mv (.c (.int .i64 0))⟩]) (.block 0 (.loop [0,0,1,0,1,0,1,0,0,0,0,0,1,1,1,0,0,0,0,0,0,0,0,0,0,0,0,0,0,0,0,0,0,0,0,0,0,0,0,0,0] (.seq (.reg [⟨some 15,none,.bin .lss false (.t 14) (.t 13)⟩]) (.seq (.cond (.t 15) .skip (.exit 0)) (.seq (.block 1 (.seq (.reg [⟨some 16,none,.iaddr 3 (.t 12) (.t 14)⟩,⟨some 17,none,.load true 3 (.t 16)⟩,⟨(some 8),none,(.alloc 73 [(.bool false),(.str ⟨#[]⟩),.nil])⟩,⟨none,none,(.store 3 (.t 8) (.t 17))⟩]) (.seq (.reg [⟨some 19,none,.load true 1 (.t 2)⟩,⟨some 20,none,.faddr 1 (.t 8)⟩,⟨some 21,none,.load true 2 (.t 20)⟩,⟨some 22,none,.call 87 [(.t 19),(.t 21)]⟩,⟨some 18,none,.mv (.t 22)⟩,⟨some 23,none,.ext (.t 18) 0⟩,⟨some 24,none,.ext (.t 18) 1⟩,⟨(some 9),none,(.alloc 71 [(.str ⟨#[]⟩),.nil])⟩,⟨none,none,(.store 2 (.t 9) (.t 23))⟩,⟨some 10,none,.mv (.t 24)⟩]) (.seq (.seq (.reg [⟨some 25,none,.mv (.t 10)⟩,⟨some 26,none,.un .not (.t 25)⟩]) (.cond (.t 26) (.seq (.reg [⟨some 27,none,.build [.nil] []⟩,⟨none,none,(.store 1 (.t 4) (.t 27))⟩,⟨some 5,none,.mv (.c (.bool false))⟩]) .ret) .skip)) (.reg [⟨some 28,none,.mv (.t 6)⟩,⟨some 29,none,.faddr 0 (.t 8)⟩,⟨some 30,none,.load false 1 (.t 29)⟩,⟨some 31,none,.load true 2 (.t 9)⟩,⟨(some 32),none,(.build [(.bool false),(.str ⟨#[]⟩),.nil] [(0,(1,(.t 30))),(1,(2,(.t 31)))])⟩,⟨(some 33),none,(.mkrow 73 3 [(.bool false),(.str ⟨#[]⟩),.nil] 1 [(0,(.t 32))])⟩,⟨(some 34),none,(.append 73 3 48 [(.bool false),(.str ⟨#[]⟩),.nil] (.t 28) (.t 33))⟩,⟨some 6,none,.mv (.t 34)⟩]))))) (.reg [⟨some 35,none,.bin .add false (.t 14) (.c (.int .i64 1))⟩,⟨some 14,none,.mv (.t 35)⟩]))))))) (.seq (.reg [⟨some 36,none,.mv (.t 6)⟩,⟨some 37,none,.call 138 [(.t 36)]⟩,⟨some 38,none,.call 137 [(.t 37)]⟩,⟨some 39,none,.ext (.t 38) 0⟩,⟨some 40,none,.ext (.t 38) 1⟩,⟨none,none,(.store 1 (.t 4) (.t 39))⟩,⟨some 5,none,.mv (.t 40)⟩]) .ret))))
theorem F8:codeOf Tryz.prog 92=some ⟨41,Dl,[(.cell 4 true 1),(.tmp 5)]⟩:=by kernel_rfl
theorem Bx:modes 92=⟨[],.own [some (73,3),none],none,false⟩:=by unfold modes; rfl
def KQ:SC:=(.seq (.reg [⟨some 2,none,.boxv 76 1 (.t 0)⟩,⟨some 4,none,.alloc 28 [.nil]⟩,⟨some 5,none,.mv (.c (.bool false))⟩]) (.seq (.reg [⟨(some 10),none,(.mkrow 73 3 [(.bool false),(.str ⟨#[]⟩),.nil] 0 [])⟩,⟨some 6,none,.mv (.t 10)⟩]) (.seq (.seq (.reg [⟨some 7,none,.mv (.c (.int .i64 0))⟩]) (.block 0 (.loop [0,1,1,0,1,0,1,1,0,0,0,0,0,0,0,0,0,0,0,0,0,0,0,0,0,0,0,0,0,0,0,0,0,0,0,0,0,0,0,0,0,0,0,0,0] (.seq (.seq (.reg [⟨some 11,none,.mv (.t 7)⟩,⟨some 12,none,.mv (.t 1)⟩,⟨some 13,none,.len false (.t 12)⟩,⟨some 14,none,.bin .lss false (.t 11) (.t 13)⟩]) (.cond (.t 14) .skip (.exit 0))) (.seq (.block 1 (.seq (.dreg [[],[],[],[1,2],[3,1,2],[4,3,1,2],[0,5,4,3,1,2],[],[7,6,0,5,4,3,1,2]] [⟨some 17,none,.load true 1 (.t 2)⟩,⟨some 18,none,.mv (.t 1)⟩,⟨some 19,none,.mv (.t 7)⟩,⟨some 20,none,.iaddr 3 (.t 18) (.t 19)⟩,⟨some 21,none,.faddr 1 (.t 20)⟩,⟨some 22,none,.load true 2 (.t 21)⟩,⟨some 23,none,.call 111 [(.t 17),(.t 22)]⟩,⟨(some 8),none,(.alloc 71 [(.str ⟨#[]⟩),.nil])⟩,⟨none,none,(.store 2 (.t 8) (.t 23))⟩]) (.seq (.seq (.reg [⟨some 24,none,.load true 2 (.t 8)⟩,⟨some 25,none,.call 72 [(.t 24)]⟩,⟨some 26,none,.un .not (.t 25)⟩]) (.cond (.t 26) (.seq (.reg [⟨some 27,none,.build [.nil] []⟩,⟨none,none,(.store 1 (.t 4) (.t 27))⟩,⟨some 5,none,.mv (.c (.bool false))⟩]) .ret) .skip)) (.dreg [[],[],[],[1,2],[3,1,2],[4,3,1,2],[],[5,4,3,1,2,6],[7,5,4,3,1,2,6],[0,8,7,5,4,3,1,2,6],[9,0,8,7,5,4,3,1,2,6]] [⟨some 28,none,.mv (.t 6)⟩,⟨some 29,none,.mv (.t 1)⟩,⟨some 30,none,.mv (.t 7)⟩,⟨some 31,none,.iaddr 3 (.t 29) (.t 30)⟩,⟨some 32,none,.faddr 0 (.t 31)⟩,⟨some 33,none,.load false 1 (.t 32)⟩,⟨some 34,none,.load true 2 (.t 8)⟩,⟨(some 35),none,(.build [(.bool false),(.str ⟨#[]⟩),.nil] [(0,(1,(.t 33))),(1,(2,(.t 34)))])⟩,⟨(some 36),none,(.mkrow 73 3 [(.bool false),(.str ⟨#[]⟩),.nil] 1 [(0,(.t 35))])⟩,⟨(some 37),none,(.append 73 3 48 [(.bool false),(.str ⟨#[]⟩),.nil] (.t 28) (.t 36))⟩,⟨some 6,none,.mv (.t 37)⟩])))) (.reg [⟨some 15,none,.mv (.t 7)⟩,⟨some 16,none,.bin .add false (.t 15) (.c (.int .i64 1))⟩,⟨some 7,none,.mv (.t 16)⟩])))))) (.seq (.reg [⟨some 38,none,.mv (.t 6)⟩,⟨some 39,none,.call 117 [(.t 38)]⟩,⟨some 9,none,.alloc 28 [.nil]⟩,⟨none,none,(.store 1 (.t 9) (.t 39))⟩]) (.seq (.seq (.reg [⟨some 40,none,.load true 1 (.t 9)⟩,⟨some 41,none,.call 47 [(.t 40)]⟩,⟨some 42,none,.un .not (.t 41)⟩]) (.cond (.t 42) (.seq (.reg [⟨some 43,none,.build [.nil] []⟩,⟨none,none,(.store 1 (.t 4) (.t 43))⟩,⟨some 5,none,.mv (.c (.bool false))⟩]) .ret) .skip)) (.seq (.reg [⟨some 44,none,.load true 1 (.t 9)⟩,⟨none,none,(.store 1 (.t 4) (.t 44))⟩,⟨some 5,none,.mv (.c (.bool true))⟩]) .ret))))))
theorem RL:codeOf Tryz.prog 79=some ⟨45,KQ,[(.cell 4 true 1),(.tmp 5)]⟩:=by kernel_rfl
theorem Fz:modes 79=⟨[],.frz,none,false⟩:=by unfold modes; rfl
theorem Vh (c:Cl) (hn:c.tame) (hv:c.ok=true):E 137 [c.osv] c.obs=some (.tup [c.osv,.bool true],c.obs):=by
 have h:=G9 c hn
 rw [hv] at h
 refine Ae JS CX (of_decide_eq_true rfl) ?_
 simp (disch:=omega) only [GA,go_sem,Aa,h,Cz,Lt.erss,Lt.noss,Lt.fus]
theorem WW (c:Cl) (hn:c.tame) (hv:c.ok=false):E 137 [c.osv] c.obs=some (.tup [.agg [.ref 1],.bool false],[.row 73 3 (c.lits.map Lt.o),.row 73 3 []]):=by
 have h:=G9 c hn
 rw [hv] at h
 refine Ae JS CX (of_decide_eq_true rfl) ?_
 simp (disch:=omega) only [GA,go_sem,Aa,h,Cz,Lt.erss,Lt.noss,Lt.fus]
theorem OP {s:ByteArray} (h:F7 s=true):An s=false:=by
 unfold F7 inB at h
 rw [zA,zA,zA,decide_eq_true_eq,decide_eq_true_eq] at h
 have hs:0<s.size:=by omega
 have h1:=Hr h.1.1 hs
 unfold K4 at h1
 simp at h1
 have h2:=h1.1
 have hu:QZ (JK s 0)=false:=by
  unfold U5 at h2
  unfold QZ
  simp at h2 ⊢
  omega
 rw [Bool.eq_false_iff]
 intro hv
 unfold An at hv
 rw [zA] at hv
 have h1:=Hr hv.1 hs
 unfold JL at h1
 rw [hu] at h1
 simp at h1
theorem Tm.Qao {f:ByteArray→Option Tm} (hf:okF f) (x:Tm) (hx:x.atom=true):(x.ap f).atom=(x.ap f).small:=by
 unfold Tm.atom at hx
 rcases he:x.eqn with _ | _
 ·rw [he,if_neg (by simp),zA] at hx
  have hnv:¬ (An x.name=true):=by rw [OP hx.1]; simp
  have e:x.ap f=.mk x.name (Tm.apL f x.args):=by rw [Tm.HX,if_neg hnv]
  have he2:¬ (x.ap f).eqn=true:=by rw [e]; show ¬ x.eqn=true; rw [he]; simp
  have hn:x.names=true:=by
   have:=hx.2
   unfold Tm.valid at this
   rw [zA] at this
   exact this.2
  have h3:=Tm.KN hf x hn
  unfold Tm.atom
  rw [if_neg he2]
  unfold Tm.valid
  rw [h3,yJ]
  have hname:(x.ap f).name=x.name:=by rw [e]; rfl
  rw [hname,hx.1,yC]
 ·rw [he,if_pos rfl,zA,zA] at hx
  have hnv:¬ (An x.name=true):=by rw [Tm.Qam he]; simp
  have e:x.ap f=.mk x.name (Tm.apL f x.args):=by rw [Tm.HX,if_neg hnv]
  have he2:(x.ap f).eqn=true:=by rw [e]; exact he
  unfold Tm.atom
  rw [if_pos he2]
  have h1:((x.ap f).args.length == 2)=true:=by
   rw [e]
   show ((Tm.apL f x.args).length == 2)=true
   rw [Tm.Ql]; exact hx.1.1
  have h2:Tm.Eg (x.ap f).args=true:=by
   rw [e]
   exact Tm.ND f x.args fun y hy=>Tm.KN hf y (by
    have:=hx.2
    rw [Tm.Ds,zN] at this
    exact this y hy)
  rw [h1,h2,yC,yJ]
noncomputable def Lt.ap (s:Sb) (x:Lt):Lt:=⟨x.pos,x.atom.ap s.look⟩
noncomputable def RN (s:Sb) (l:List Lt):Bool:=l.all fun x=>(x.atom.ap s.look).small
noncomputable def E9 (s:Sb) (l:List Lt):Bool:=RN s l&&(mkC (l.map (Lt.ap s))).ok
noncomputable def apC (s:Sb) (l:List Lt):Cl:=if E9 s l then mkC (l.map (Lt.ap s)) else ⟨[]⟩
theorem OQ {s:Sb} {l:List Lt} (h:E9 s l=false):apC s l=⟨[]⟩:=by unfold apC; rw [if_neg (by rw [h]; simp)]
theorem Vi {s:Sb} {l:List Lt} (h:E9 s l=true):apC s l=mkC (l.map (Lt.ap s)):=by unfold apC; rw [if_pos h]
theorem Lt.Qap {s:Sb} (hs:s.ok=true) {x:Lt} (hx:x.atom.atom=true) (hq:(x.atom.ap s.look).small=true):(x.ap s).fine:=by
 have ha:(x.atom.ap s.look).atom=true:=by rw [Tm.Qao (Sb.Fx hs) _ hx]; exact hq
 exact ⟨Tm.Hs ha,by
              have:(Lt.ap s x).atom.nodes≤30:=Tm.CQ ha
              omega⟩
theorem WX {l:List Lt} (hl:l.length≤1048576) (hf:∀ x∈l,x.fine):(mkC l).tame:=by
 have:=Qag l
 exact ⟨by omega,fun y hy=>(hf y ((Qk l y).1 hy)).2⟩
theorem TV:(Cl.mk []).osv=.agg [.ref 0]:=rfl
theorem TW:(Cl.mk []).obs=[.row 73 3 []]:=rfl
theorem WY:(Cl.mk []).sv=.agg [.arr []]:=rfl
theorem SS (s:Sb) (hs:s.ok=true) (ht:s.tame) (l:List Lt) (hl:l.length≤1048576) (hal:∀ x∈l,x.atom.atom=true):E 92 [s.sv,.arr (l.map Lt.d)] []=some (.tup [(apC s l).osv,.bool (E9 s l)],(apC s l).obs):=by
 have her:OT.erss (l.map (fun x:Lt=>(Lt.ap s x).d.map D.ot))=(l.map (Lt.ap s)).map Lt.d:=by
  have:=Lt.der (l.map (Lt.ap s))
  rw [yO] at this
  exact this
 have hfu:OT.AO (l.map (fun x:Lt=>(Lt.ap s x).d.map D.ot))=true:=by
  have:=Lt.dfu (l.map (Lt.ap s))
  rw [yO] at this
  exact this
 refine Ae F8 Bx (of_decide_eq_true rfl) ?_
 simp (disch:=omega) only [Dl,go_sem,Aa]
 refine go_loop (α:=Int) (fun a=>⟨slots 41 0 [(2,.ptr 0 0),(4,.ptr 1 0),(6,.ref 2),(12,.arr (l.map Lt.d)),(13,.int .i64 l.length),(14,.int .i64 a)],[.box 76 [.arr (s.binds.map Bd.d)],.box 28 [.nil],.row 73 3 ((l.take a.toNat).map (fun x:Lt=>(Lt.ap s x).d.map D.ot))]⟩) (fun a=>∃ k:Nat,a=k∧k≤(l).length∧∀ x∈l.take k,(x.atom.ap s.look).small=true) (fun a=>(l).length-(a).toNat) 0 ⟨0,rfl,zF _,fun x hx=>by simp at hx⟩ (by simp (disch:=omega) only [go_sem,Aa,yA]) ?_
 rintro i ⟨k,hi,hk,hR⟩
 have hni:i.toNat=k:=by omega
 have hni1:(i+1).toNat=k+1:=by omega
 rcases zB k (l).length with hlt | hge
 ·have hg:=get_at Lt.d hlt
  rw [Lt.d_eq] at hg
  have hat:=hal l[k] (zC hlt)
  have hex:=Tm.C5 hat
  have hsn:=DJ (fun x:Lt=>(Lt.ap s x).d.map D.ot) hlt
  have hs1:[[OT.bool l[k].pos,.str (l[k].atom.ap s.look).name,.sh ((l[k].atom.ap s.look).args.map Tm.d)]]=[(fun x:Lt=>(Lt.ap s x).d.map D.ot) l[k]]:=by simp only [Lt.d_eq]; rfl
  have htl:(l.take k).length=k:=by rw [zP]; omega
  cases hq:(l[k].atom.ap s.look).small with
  | true =>
   have ha:=BL s hs ht l[k].atom hex (by unfold Ca; rw [hs,hex,hq]; rfl)
   rw [Ep (by unfold Ca; rw [hs,hex,hq]; rfl)] at ha
   simp (disch:=omega) only [go_sem,Aa,hni,hg,ha,htl,Ab,CW,CX]
   refine ⟨i+1,⟨k+1,by omega,hlt,fun x hx=>?_⟩,by omega,?_⟩
   ·rcases yT.1 (by rw [yB hlt] at hx; exact hx) with hx | hx
    ·exact hR x hx
    ·rw [yV.1 hx]; exact hq
   ·simp (disch:=omega) only [go_sem,Aa,hni1,hs1,hsn,and_self]
  | false =>
   have ha:=Cr s hs ht l[k].atom hex (by unfold Ca; rw [hq,zM,zM])
   have hno:E9 s l=false:=by
    unfold E9 RN
    rw [show (l.all fun x=>(x.atom.ap s.look).small)=false from ?_,yH]
    rw [List.all_eq_false]
    exact ⟨l[k],zC hlt,by rw [hq]; simp⟩
   rw [OQ hno,hno,TV,TW]
   simp (disch:=omega) only [go_sem,Aa,hni,hg,ha,Ab,CW,CX]
 ·obtain rfl:k=l.length:=by omega
  have htk:l.take l.length=l:=zQ
  rw [htk] at hR
  have hal2:RN s l=true:=by unfold RN; rw [zN]; exact hR
  have hfine:∀ x∈l.map (Lt.ap s),x.fine:=fun x hx=>by
   obtain ⟨y,hy,rfl⟩:=yP.1 hx
   exact Lt.Qap hs (hal y hy) (hR y hy)
  have hlen:(l.map (Lt.ap s)).length≤1048576:=by rw [zD]; exact hl
  have hc:=R9 (l.map (Lt.ap s)) hlen hfine
  have htm:=WX hlen hfine
  cases hv:(mkC (l.map (Lt.ap s))).ok with
  | true =>
   have hok:E9 s l=true:=by unfold E9; rw [hal2,hv]; rfl
   have hi2:=Vh _ htm hv
   rw [Vi hok,hok]
   simp (disch:=omega) only [go_sem,Aa,hni,htk,hc,hi2,her,hfu,Lt.noss,Ab,CW,CX]
  | false =>
   have hok:E9 s l=false:=by unfold E9; rw [hv,zM]
   have hi2:=WW _ htm hv
   rw [OQ hok,hok,TV,TW]
   simp (disch:=omega) only [go_sem,Aa,hni,htk,hc,hi2,her,hfu,Lt.noss,Ab,CW,CX]
theorem Tm.FS {x:Tm} (h:x.atom=true):(An x.name=true→x.args=[])∧∀ y∈x.args,y.names=true:=by
 unfold Tm.atom at h
 cases he:x.eqn with
 | true =>
  rw [he,if_pos rfl,zA,zA] at h
  have h2:=h.2
  rw [Tm.Ds,zN] at h2
  refine ⟨fun hv=>?_,h2⟩
  have hn:=Av.1 he
  have hnv0:An ⟨#[61]⟩=false:=by kernel_rfl
  rw [hn,hnv0] at hv
  cases hv
 | false =>
  rw [he,if_neg (by simp),zA] at h
  have hnm:x.names=true:=by have h3:=h.2; unfold Tm.valid at h3; rw [zA] at h3; exact h3.2
  exact ⟨fun hv=>Tm.E1 hnm hv,fun y hy=>Tm.E2 hnm hy⟩
mutual
noncomputable def Tm.vs:Tm→List ByteArray
 | .mk name args=>bif An name then [name] else Tm.vsL args
noncomputable def Tm.vsL:List Tm→List ByteArray
 | []=>[]
 | x :: xs=>Tm.vs x++Tm.vsL xs
end
theorem Tm.FE (x:Tm):x.vs=bif An x.name then [x.name] else Tm.vsL x.args:=by
 obtain ⟨n,a⟩:=x
 rw [Tm.vs]; rfl
theorem Tm.vsL_mem {v:ByteArray}:∀ {xs:List Tm},v∈Tm.vsL xs ↔ ∃ x∈xs,v∈x.vs
 | []=>by simp [Tm.vsL]
 | x :: xs=>by rw [Tm.vsL,yT,Tm.vsL_mem (xs:=xs)]; simp
theorem Tm.Qaq:∀ xs:List Tm,(∀ x∈xs,x.vs.length≤x.nodes)→(Tm.vsL xs).length≤Tm.Bl xs
 | [],_=>by simp [Tm.vsL]
 | x :: xs,h=>by
  have h1:=h x (by simp)
  have h2:=Tm.Qaq xs fun y hy=>h y (by simp [hy])
  rw [Tm.vsL,Tm.Bl,yF]; omega
theorem Tm.vs_len (x:Tm):x.vs.length≤x.nodes:=by
 have h:=Tm.Qaq x.args fun y hy=>Tm.vs_len y
 rw [Tm.FE,Tm.Ao]
 cases An x.name with
 | true=>simp
 | false=>simp only [cond_false]; omega
termination_by SizeOf.sizeOf x
decreasing_by exact Tm.Az hy
noncomputable def LK (l:List ByteArray) (n:ByteArray):List ByteArray:=bif dec (n∈l) then l else l++[n]
theorem Qc6 (l:List ByteArray) (n:ByteArray):(LK l n).length≤l.length+1:=by
 unfold LK
 cases dec (n∈l) <;> simp
theorem Qc7 {l:List ByteArray} {n m:ByteArray}:m∈LK l n ↔ m∈l∨m=n:=by
 unfold LK
 by_cases h:n∈l
 ·rw [As h,cond_true]
  exact ⟨.inl,fun h'=>h'.elim id fun e=>e▸h⟩
 ·rw [Ay h,cond_false]
  simp
theorem Zh {l:List ByteArray} {n:ByteArray} (h:l.Nodup):(LK l n).Nodup:=by
 unfold LK
 by_cases k:n∈l
 ·rw [As k]; exact h
 ·rw [Ay k,cond_false,List.nodup_append]
  exact ⟨h,by simp,fun a ha b hb e=>by simp at hb; subst hb; subst e; exact k ha⟩
noncomputable def CB (l ns:List ByteArray):List ByteArray:=ns.foldl LK l
theorem IZ:∀ (ns l:List ByteArray),(CB l ns).length≤l.length+ns.length
 | [],l=>by simp [CB]
 | n :: ns,l=>by
  have h:=IZ ns (LK l n)
  have h2:=Qc6 l n
  simp only [CB,zV,z7] at h ⊢
  omega
theorem WZ:∀ {ns l:List ByteArray} {m:ByteArray},m∈CB l ns ↔ m∈l∨m∈ns
 | [],l,m=>by simp [CB]
 | n :: ns,l,m=>by
  have h:=WZ (ns:=ns) (l:=LK l n) (m:=m)
  simp only [CB,zV] at h ⊢
  rw [h,Qc7]
  simp only [yD]
  exact or_assoc
theorem RO:∀ {ns l:List ByteArray},l.Nodup→(CB l ns).Nodup
 | [],l,h=>h
 | n :: ns,l,h=>RO (ns:=ns) (Zh h)
theorem NE (l a b:List ByteArray):CB l (a++b)=CB (CB l a) b:=yX
def DK:SC:=(.seq (.reg [⟨some 4,none,.mv (.c (.int .i64 0))⟩]) (.seq (.seq (.reg [⟨some 6,none,.mv (.t 0)⟩,⟨some 7,none,.len false (.t 6)⟩,⟨some 8,none,.mv (.c (.int .i64 0))⟩]) (.block 0 (.loop [1,1,0,0,0,0,0,1,1,0,0,0,0,0,0,0,0,0,0] (.seq (.reg [⟨some 9,none,.bin .lss false (.t 8) (.t 7)⟩]) (.seq (.cond (.t 9) .skip (.exit 0)) (.seq (.block 1 (.seq (.reg [⟨some 10,none,.mv (.t 8)⟩,⟨some 5,none,.mv (.t 10)⟩]) (.seq (.reg [⟨some 11,none,.mv (.t 1)⟩,⟨some 12,none,.mv (.t 0)⟩,⟨some 13,none,.mv (.t 5)⟩,⟨some 14,none,.iaddr 1 (.t 12) (.t 13)⟩,⟨some 15,none,.load false 1 (.t 14)⟩,⟨some 16,none,.bin .eql false (.t 11) (.t 15)⟩]) (.cond (.t 16) (.seq (.reg [⟨some 17,none,.mv (.t 5)⟩,⟨some 4,none,.mv (.t 17)⟩]) .ret) .skip)))) (.reg [⟨some 18,none,.bin .add false (.t 8) (.c (.int .i64 1))⟩,⟨some 8,none,.mv (.t 18)⟩]))))))) (.seq (.reg [⟨some 4,none,.mv (.c (.int .i64 (-(0+1))))⟩]) .ret)))
theorem GB:codeOf Tryz.prog 179=some ⟨19,DK,[(.tmp 4)]⟩:=by kernel_rfl
theorem DL:modes 179=⟨[],.asis,none,false⟩:=by unfold modes; rfl
def Dm:SC:=(.seq (.reg [⟨some 4,none,.mv (.c (.bool false))⟩]) (.seq (.reg [⟨some 5,none,.mv (.t 0)⟩,⟨some 6,none,.mv (.t 1)⟩,⟨some 7,none,.call 179 [(.t 5),(.t 6)]⟩,⟨some 8,none,.bin .geq false (.t 7) (.c (.int .i64 0))⟩,⟨some 4,none,.mv (.t 8)⟩]) .ret))
theorem F9:codeOf Tryz.prog 157=some ⟨9,Dm,[(.tmp 4)]⟩:=by kernel_rfl
theorem Ch:modes 157=⟨[],.asis,none,false⟩:=by unfold modes; rfl
theorem Qc8 (xs:List ByteArray) (n:ByteArray) (hl:xs.length≤1099511627776):E 179 [.arr (xs.map fun s=>[D.str s]),.str n] []=some (.int .i64 (Ey (fun s=>dec (n=s)) xs 0),[]):=by
 refine Ae GB DL (of_decide_eq_true rfl) ?_
 simp (disch:=omega) only [DK,go_sem,Aa]
 refine go_loop (α:=Int) (fun a=>⟨slots 19 0 [(0,.arr (xs.map fun s=>[D.str s])),(1,.str n),(7,.int .i64 xs.length),(8,.int .i64 a)],[]⟩) (fun a=>∃ k:Nat,a=k∧k≤(xs).length∧Ey (fun s=>dec (n=s)) (xs.drop k) a=Ey (fun s=>dec (n=s)) xs 0) (fun a=>(xs).length-(a).toNat) 0 ⟨0,rfl,zF _,by rw [zJ]⟩ (by simp (disch:=omega) only [go_sem,Aa]) ?_
 rintro i ⟨k,hi,hk,hR⟩
 have hni:i.toNat=k:=by omega
 have hni1:(i+1).toNat=k+1:=by omega
 rcases zB k (xs).length with hlt | hge
 ·have hg:=get_at (fun s=>[D.str s]) hlt
  rw [zE hlt,Ey] at hR
  cases hp:dec (n=xs[k]) with
  | true =>
   rw [hp] at hR
   simp (disch:=omega) only [go_sem,Aa,hni,hg,hp]
   simpa using hR
  | false =>
   rw [hp] at hR
   simp (disch:=omega) only [go_sem,Aa,hni,hg,hp]
   exact ⟨i+1,⟨k+1,by omega,hlt,by simpa using hR⟩,by omega,by first | trivial | rfl⟩
 ·rw [zH hge,Ey] at hR
  simp (disch:=omega) only [go_sem,Aa,hni]
  exact hR
theorem Xa (xs:List ByteArray) (n:ByteArray) (hl:xs.length≤1099511627776):E 157 [.arr (xs.map fun s=>[D.str s]),.str n] []=some (.bool (dec (n∈xs)),[]):=by
 have h:=Qc8 xs n hl
 have e:dec (n∈xs)=dec (0≤Ey (fun s=>dec (n=s)) xs 0):=by
  rw [Nv]
  by_cases hm:n∈xs
  ·rw [As hm]
   exact (List.any_eq_true.2 ⟨n,hm,As rfl⟩).symm
  ·rw [Ay hm]
   refine Eq.symm (Bool.eq_false_iff.2 fun h=>?_)
   obtain ⟨x,h1,h2⟩:=List.any_eq_true.1 h
   have e:=Av.1 h2
   subst e
   exact hm h1
 rw [e]
 refine Ae F9 Ch (of_decide_eq_true rfl) ?_
 simp (disch:=omega) only [Dm,go_sem,Aa,h,DL]
theorem OR:∀ (ns l:List ByteArray),l.length≤(CB l ns).length
 | [],l=>by simp [CB]
 | n :: ns,l=>by
  have h:=OR ns (LK l n)
  have h2:l.length≤(LK l n).length:=by unfold LK; cases dec (n∈l) <;> simp
  simp only [CB,zV] at h ⊢
  omega
def Er:SC:=(.seq (.reg [⟨some 3,none,.boxv 71 2 (.t 1)⟩,⟨some 4,none,.mv (.c .nil)⟩]) (.seq (.seq (.reg [⟨some 7,none,.faddr 1 (.t 3)⟩,⟨some 8,none,.load false 1 (.t 7)⟩,⟨some 9,none,.len false (.t 8)⟩,⟨some 10,none,.bin .eql false (.t 9) (.c (.int .i64 0))⟩,⟨some 11,none,.mv (.t 10)⟩,⟨(some 12),(some (11,true)),(.load true 2 (.t 3))⟩,⟨(some 13),(some (11,true)),(.call 89 [(.t 12)])⟩,⟨some 14,none,.pick (.t 11) (.t 13) (.c (.bool false))⟩]) (.cond (.t 14) (.seq (.seq (.reg [⟨some 15,none,.mv (.t 0)⟩,⟨some 16,none,.faddr 0 (.t 3)⟩,⟨some 17,none,.load false 1 (.t 16)⟩,⟨some 18,none,.call 157 [(.t 15),(.t 17)]⟩,⟨some 19,none,.un .not (.t 18)⟩]) (.cond (.t 19) (.reg [⟨some 20,none,.mv (.t 0)⟩,⟨some 21,none,.faddr 0 (.t 3)⟩,⟨some 22,none,.load false 1 (.t 21)⟩,⟨(some 23),none,(.mkrow 9 1 [(.str ⟨#[]⟩)] 1 [(0,(.t 22))])⟩,⟨(some 24),none,(.append 9 1 16 [(.str ⟨#[]⟩)] (.t 20) (.t 23))⟩,⟨some 0,none,.mv (.t 24)⟩]) .skip)) (.seq (.reg [⟨some 25,none,.mv (.t 0)⟩,⟨some 4,none,.mv (.t 25)⟩]) .ret)) .skip)) (.seq (.seq (.reg [⟨some 26,none,.faddr 1 (.t 3)⟩,⟨some 27,none,.load false 1 (.t 26)⟩,⟨some 28,none,.len false (.t 27)⟩,⟨some 29,none,.mv (.c (.int .i64 0))⟩]) (.block 0 (.loop [1,0,0,0,0,0,0,0,0,0,0,0,0,0,0,0,0,0,0,0,0,0,0,0,0,0,0,1,1,1,0,0,0,0,0,0,0,0] (.seq (.reg [⟨some 30,none,.bin .lss false (.t 29) (.t 28)⟩]) (.seq (.cond (.t 30) .skip (.exit 0)) (.seq (.block 1 (.seq (.reg [⟨some 31,none,.iaddr 2 (.t 27) (.t 29)⟩,⟨some 32,none,.load true 2 (.t 31)⟩,⟨(some 6),none,(.alloc 71 [(.str ⟨#[]⟩),.nil])⟩,⟨none,none,(.store 2 (.t 6) (.t 32))⟩]) (.reg [⟨some 33,none,.mv (.t 0)⟩,⟨some 34,none,.load true 2 (.t 6)⟩,⟨some 35,none,.call 124 [(.t 33),(.t 34)]⟩,⟨some 0,none,.mv (.t 35)⟩]))) (.reg [⟨some 36,none,.bin .add false (.t 29) (.c (.int .i64 1))⟩,⟨some 29,none,.mv (.t 36)⟩]))))))) (.seq (.reg [⟨some 37,none,.mv (.t 0)⟩,⟨some 4,none,.mv (.t 37)⟩]) .ret))))
theorem F0:codeOf Tryz.prog 124=some ⟨38,Er,[(.tmp 4)]⟩:=by kernel_rfl
theorem Dt:modes 124=⟨[true],.asis,none,false⟩:=by unfold modes; rfl
abbrev Qeb (x:Tm):Prop:=∀ l:List ByteArray,l.length+x.nodes≤1048576→E 124 [.ref 0,x.sv] [.row 9 1 (l.map fun s=>[OT.str s])]=some ((bif dec (l.length<(CB l x.vs).length) then .ref 1 else .ref 0),(bif dec (l.length<(CB l x.vs).length) then [.gone,.row 9 1 ((CB l x.vs).map fun s=>[OT.str s])] else [.row 9 1 ((CB l x.vs).map fun s=>[OT.str s])]))
theorem RP (x:Tm) (hva:An x.name=true→x.args=[]) (hc:x.cok=true) (ih:∀ y∈x.args,Qeb y):Qeb x:=by
 intro l hn
 have hl:=Tm.length_le x.args
 have hne:=Tm.Ao x
 have hv:=Dp x hc
 have hvs:=Tm.FE x
 rcases zI x.args.length with h0 | h0
 ·have hx0:x.args=[]:=zG h0
  have hz:((x.args.length:Int)=0)=True:=by rw [hx0]; simp
  cases hvv:An x.name with
  | true =>
   rw [hvv] at hv hvs
   have h1:=Xa l x.name (by omega)
   rw [hvs]
   cases hm:dec (x.name∈l) with
   | true =>
    have e:CB l [x.name]=l:=by simp only [CB,zV,yQ,LK,hm,cond_true]
    rw [hm] at h1
    simp only [cond_true,e]
    refine Ae F0 Dt (of_decide_eq_true rfl) ?_
    simp (disch:=omega) only [Er,go_sem,Aa,hz,hv,h1,Ak,Ch]
   | false =>
    have e:CB l [x.name]=l++[x.name]:=by simp only [CB,zV,yQ,LK,hm,cond_false]
    have hg:l.length<(l++[x.name]).length:=by simp
    rw [hm] at h1
    simp only [cond_true,e,As hg]
    refine Ae F0 Dt (of_decide_eq_true rfl) ?_
    simp (disch:=omega) only [Er,go_sem,Aa,hz,hv,h1,Ak,Ch]
    simp only [yG,zL,zK]
  | false =>
   rw [hvv] at hv hvs
   have e:CB l x.vs=l:=by rw [hvs,hx0]; simp only [cond_false,Tm.vsL]; rfl
   rw [e]
   refine Ae F0 Dt (of_decide_eq_true rfl) ?_
   simp (disch:=omega) only [Er,go_sem,Aa,hz,hv,Ak]
   refine go_loop (α:=Int) (fun a=>⟨slots 38 0 [(0,.ref 0),(27,.arr (x.args.map Tm.d)),(28,.int .i64 x.args.length),(29,.int .i64 a)],[.row 9 1 (l.map fun s=>[OT.str s])]⟩) (fun a=>∃ k:Nat,a=k∧k≤(x.args).length) (fun a=>(x.args).length-(a).toNat) 0 ⟨0,rfl,zF _⟩ (by simp (disch:=omega) only [go_sem,Aa]) ?_
   rintro i ⟨k,hi,hk⟩
   have hni:i.toNat=k:=by omega
   have hni1:(i+1).toNat=k+1:=by omega
   rcases zB k (x.args).length with hlt | hge
   ·omega
   ·simp (disch:=omega) only [go_sem,Aa,hni]
 ·have hz:((x.args.length:Int)=0)=False:=eq_false (by omega)
  have hvv:An x.name=false:=by
   cases h:An x.name with
   | false=>rfl
   | true=>rw [hva h] at h0; simp at h0
  rw [hvv] at hvs
  simp only [cond_false] at hvs
  rw [hvs]
  refine Ae F0 Dt (of_decide_eq_true rfl) ?_
  simp (disch:=omega) only [Er,go_sem,Aa,hz]
  refine go_loop (α:=Int × (List ByteArray)) (fun a=>⟨slots 38 0 [(0,(bif dec (l.length<(a.2).length) then .ref 1 else .ref 0)),(27,.arr (x.args.map Tm.d)),(28,.int .i64 x.args.length),(29,.int .i64 (a.1))],(bif dec (l.length<(a.2).length) then [.gone,.row 9 1 ((a.2).map fun s=>[OT.str s])] else [.row 9 1 ((a.2).map fun s=>[OT.str s])])⟩) (fun a=>∃ k:Nat,a.1=k∧k≤(x.args).length∧CB (a.2) (Tm.vsL (x.args.drop k))=CB l (Tm.vsL x.args)∧(a.2).length+Tm.Bl (x.args.drop k)≤1048576∧l.length≤(a.2).length) (fun a=>(x.args).length-(a.1).toNat) (0,l) ⟨0,rfl,zF _,by rw [zJ],by rw [zJ]; dsimp only; omega,zO _⟩ (by simp (disch:=omega) only [go_sem,Aa]) ?_
  rintro ⟨i,acc⟩ ⟨k,hi,hk,hR⟩
  dsimp only at hi hR
  have hni:i.toNat=k:=by omega
  have hni1:(i+1).toNat=k+1:=by omega
  rcases zB k (x.args).length with hlt | hge
  ·have hg:=get_at Tm.d hlt
   rw [Tm.d_eq] at hg
   obtain ⟨hR1,hR2,hR3⟩:=hR
   rw [zE hlt,Tm.vsL,NE] at hR1
   rw [zE hlt,Tm.Bl] at hR2
   have hc:=ih x.args[k] (zC hlt) acc (by omega)
   have hlen:=IZ x.args[k].vs acc
   have hgr:=OR x.args[k].vs acc
   have hvl:=Tm.vs_len x.args[k]
   obtain ⟨acc2,ha2⟩:∃ a,a=CB acc x.args[k].vs:=⟨_,rfl⟩
   rw [←ha2] at hc hlen hgr hR1
   rcases zB l.length acc.length with q1 | q1 <;> rcases zB acc.length acc2.length with q2 | q2
   all_goals
    first
     |rw [As q2] at hc
     |rw [Ay (y2.2 q2)] at hc
    simp only [cond_true,cond_false] at hc
    simp (disch:=omega) only [go_sem,Aa,hni,hg,hc,Dt]
    refine ⟨(i+1,acc2),⟨k+1,by dsimp only; omega,hlt,hR1,by dsimp only; omega,by dsimp only; omega⟩,by dsimp only; omega,?_⟩
    first | done | simp (disch:=omega) only [go_sem,Aa]
  ·rw [zH hge,Tm.vsL] at hR
   obtain ⟨hR1,hR2,hR3⟩:=hR
   have hR1:acc=CB l (Tm.vsL x.args):=hR1
   rw [←hR1]
   rcases zB l.length acc.length with q1 | q1
   ·simp (disch:=omega) only [go_sem,Aa,hni]
   ·simp (disch:=omega) only [go_sem,Aa,hni]
theorem TX (x:Tm) (hx:x.names=true) (hc:x.cok=true):Qeb x :=
 RP x (fun h=>Tm.E1 hx h) hc fun y hy=>TX y (Tm.E2 hx hy) (by rw [Tm.K7,zA] at hc; exact Tm.Hj hc.2 hy)
termination_by SizeOf.sizeOf x
decreasing_by exact Tm.Az hy
theorem Zi (x:Tm) (h:x.atom=true):Qeb x :=
 RP x (Tm.FS h).1 (Tm.Hs h) fun y hy=>TX y ((Tm.FS h).2 y hy) (Tm.IS y ((Tm.FS h).2 y hy))
noncomputable def Lt.vsL:List Lt→List ByteArray
 | []=>[]
 | x :: xs=>x.atom.vs++Lt.vsL xs
theorem Cl.ok_len {x:Cl} (h:x.ok=true):x.lits.length≤8:=by
 unfold Cl.ok at h
 rw [zA,decide_eq_true_eq] at h
 exact h.1
theorem Cl.J8 {x:Cl} (h:x.ok=true) {k:Nat} (hk:k<x.lits.length):x.lits[k].atom.atom=true:=by
 unfold Cl.ok at h
 rw [zA,decide_eq_true_eq] at h
 exact OM h.2 hk hk
theorem Cl.Dc {x:Cl} (h:x.ok=true):∀ y∈x.lits,y.atom.atom=true:=fun y hy=>by
 obtain ⟨k,hk,rfl⟩:=zR hy
 exact Cl.J8 h hk
theorem Cl.vs_len {c:Cl} (hc:c.ok=true):(Lt.vsL c.lits).length≤240:=by
 have hl:=Cl.ok_len hc
 have key:∀ xs:List Lt,(∀ x∈xs,x.atom.nodes≤30)→(Lt.vsL xs).length≤30*xs.length:=by
  intro xs
  induction xs with
  | nil=>intro _; exact zO _
  | cons x xs ih =>
   intro h
   have h1:=h x (by simp)
   have h2:=ih fun y hy=>h y (by simp [hy])
   have h3:=Tm.vs_len x.atom
   rw [Lt.vsL,yF,z7]; omega
 have:=key c.lits fun x hx=>by
  obtain ⟨k,hk,rfl⟩:=zR hx
  exact Tm.CQ (Cl.J8 hc hk)
 omega
def KR:SC:=(.seq (.reg [⟨some 1,none,.boxv 28 1 (.t 0)⟩,⟨some 2,none,.mv (.c .nil)⟩]) (.seq (.reg [⟨(some 6),none,(.mkrow 9 1 [(.str ⟨#[]⟩)] 0 [])⟩,⟨some 3,none,.mv (.t 6)⟩]) (.seq (.seq (.reg [⟨some 7,none,.faddr 0 (.t 1)⟩,⟨some 8,none,.load false 1 (.t 7)⟩,⟨some 9,none,.len false (.t 8)⟩,⟨some 10,none,.mv (.c (.int .i64 0))⟩]) (.block 0 (.loop [0,0,0,1,0,0,0,0,1,1,1,0,0,0,0,0,0,0,0,0] (.seq (.reg [⟨some 11,none,.bin .lss false (.t 10) (.t 9)⟩]) (.seq (.cond (.t 11) .skip (.exit 0)) (.seq (.block 1 (.seq (.reg [⟨some 12,none,.iaddr 3 (.t 8) (.t 10)⟩,⟨some 13,none,.load true 3 (.t 12)⟩,⟨(some 5),none,(.alloc 73 [(.bool false),(.str ⟨#[]⟩),.nil])⟩,⟨none,none,(.store 3 (.t 5) (.t 13))⟩]) (.reg [⟨some 14,none,.mv (.t 3)⟩,⟨some 15,none,.faddr 1 (.t 5)⟩,⟨some 16,none,.load true 2 (.t 15)⟩,⟨some 17,none,.call 124 [(.t 14),(.t 16)]⟩,⟨some 3,none,.mv (.t 17)⟩]))) (.reg [⟨some 18,none,.bin .add false (.t 10) (.c (.int .i64 1))⟩,⟨some 10,none,.mv (.t 18)⟩]))))))) (.seq (.reg [⟨some 19,none,.mv (.t 3)⟩,⟨some 2,none,.mv (.t 19)⟩]) .ret))))
theorem RQ:codeOf Tryz.prog 84=some ⟨20,KR,[(.tmp 2)]⟩:=by kernel_rfl
theorem Du:modes 84=⟨[],.asis,none,false⟩:=by unfold modes; rfl
theorem OS (c:Cl) (hc:c.ok=true):E 84 [c.sv] []=some (.ref 0,[.row 9 1 ((CB [] (Lt.vsL c.lits)).map fun s=>[OT.str s])]):=by
 have hl:=Cl.ok_len hc
 refine Ae RQ Du (of_decide_eq_true rfl) ?_
 simp (disch:=omega) only [KR,go_sem,Aa]
 refine go_loop (α:=Int × (List ByteArray)) (fun a=>⟨slots 20 0 [(3,.ref 0),(8,.arr (c.lits.map Lt.d)),(9,.int .i64 c.lits.length),(10,.int .i64 (a.1))],[.row 9 1 ((a.2).map fun s=>[OT.str s])]⟩) (fun a=>∃ k:Nat,a.1=k∧k≤(c.lits).length∧CB (a.2) (Lt.vsL (c.lits.drop k))=CB [] (Lt.vsL c.lits)∧(a.2).length≤30*k) (fun a=>(c.lits).length-(a.1).toNat) (0,[]) ⟨0,rfl,zF _,by rw [zJ],zO _⟩ (by simp (disch:=omega) only [go_sem,Aa]) ?_
 rintro ⟨i,acc⟩ ⟨k,hi,hk,hR⟩
 dsimp only at hi hR
 have hni:i.toNat=k:=by omega
 have hni1:(i+1).toNat=k+1:=by omega
 rcases zB k (c.lits).length with hlt | hge
 ·have hg:=get_at Lt.d hlt
  rw [Lt.d_eq] at hg
  obtain ⟨hR1,hR2⟩:=hR
  rw [zE hlt,Lt.vsL,NE] at hR1
  have hnn:=Tm.CQ (Cl.J8 hc hlt)
  have hcl:=Zi c.lits[k].atom (Cl.J8 hc hlt) acc (by omega)
  have has:c.lits[k].atom.sv=.agg [.str c.lits[k].atom.name,.arr (c.lits[k].atom.args.map Tm.d)]:=rfl
  have hlen:=IZ c.lits[k].atom.vs acc
  have hvl:=Tm.vs_len c.lits[k].atom
  obtain ⟨acc2,ha2⟩:∃ a,a=CB acc c.lits[k].atom.vs:=⟨_,rfl⟩
  rw [←ha2] at hcl hlen hR1
  rcases zB acc.length acc2.length with q2 | q2
  all_goals
   first
    |rw [As q2] at hcl
    |rw [Ay (y2.2 q2)] at hcl
   simp only [cond_true,cond_false] at hcl
   simp (disch:=omega) only [go_sem,Aa,hni,hg,has,hcl,Dt]
   refine ⟨(i+1,acc2),⟨k+1,by dsimp only; omega,hlt,hR1,by dsimp only; omega⟩,by dsimp only; omega,?_⟩
   first | trivial | rfl | exact ⟨rfl,rfl⟩
 ·rw [zH hge,Lt.vsL] at hR
  obtain ⟨hR1,hR2⟩:=hR
  have hR1:acc=_:=hR1
  rw [←hR1]
  simp (disch:=omega) only [go_sem,Aa,hni]
theorem Qbp (s:Sb) (hs:s.ok=true) (ht:s.tame) (l:List Lt) (hl:l.length≤1048576) (hal:∀ x∈l,x.atom.atom=true):E 79 [s.sv,.arr (l.map Lt.d)] []=some (.tup [(apC s l).sv,.bool (E9 s l)],[]):=by
 have her:OT.erss (l.map (fun x:Lt=>(Lt.ap s x).d.map D.ot))=(l.map (Lt.ap s)).map Lt.d:=by
  have:=Lt.der (l.map (Lt.ap s))
  rw [yO] at this
  exact this
 have hfu:OT.AO (l.map (fun x:Lt=>(Lt.ap s x).d.map D.ot))=true:=by
  have:=Lt.dfu (l.map (Lt.ap s))
  rw [yO] at this
  exact this
 refine Ae RL Fz (of_decide_eq_true rfl) ?_
 simp (disch:=omega) only [KQ,go_sem,Aa]
 refine go_loop (α:=Int) (fun a=>⟨slots 45 0 [(1,.arr (l.map Lt.d)),(2,.ptr 0 0),(4,.ptr 1 0),(6,.ref 2),(7,.int .i64 a)],[.box 76 [.arr (s.binds.map Bd.d)],.box 28 [.nil],.row 73 3 ((l.take a.toNat).map (fun x:Lt=>(Lt.ap s x).d.map D.ot))]⟩) (fun a=>∃ k:Nat,a=k∧k≤(l).length∧∀ x∈l.take k,(x.atom.ap s.look).small=true) (fun a=>(l).length-(a).toNat) 0 ⟨0,rfl,zF _,fun x hx=>by simp at hx⟩ (by simp (disch:=omega) only [go_sem,Aa,yA]) ?_
 rintro i ⟨k,hi,hk,hR⟩
 have hni:i.toNat=k:=by omega
 have hni1:(i+1).toNat=k+1:=by omega
 rcases zB k (l).length with hlt | hge
 ·have hg:=get_at Lt.d hlt
  rw [Lt.d_eq] at hg
  have hat:=hal l[k] (zC hlt)
  have hsn:=DJ (fun x:Lt=>(Lt.ap s x).d.map D.ot) hlt
  have hs1:[[OT.bool l[k].pos,.str (l[k].atom.ap s.look).name,.sh ((l[k].atom.ap s.look).args.map Tm.d)]]=[(fun x:Lt=>(Lt.ap s x).d.map D.ot) l[k]]:=by simp only [Lt.d_eq]; rfl
  have htl:(l.take k).length=k:=by rw [zP]; omega
  have hnd:=Tm.CQ hat
  have ha:=OO s hs ht l[k].atom (by omega)
  have hap:=Tm.IY (Sb.Fx hs) l[k].atom
  have hb:=R4 (l[k].atom.ap s.look) (by omega)
  rw [Tm.Qao (Sb.Fx hs) _ hat] at hb
  cases hq:(l[k].atom.ap s.look).small with
  | true =>
   rw [hq] at hb
   simp (disch:=omega) only [go_sem,Aa,hni,hg,ha,hb,htl,AI,AW,Di,B9]
   refine ⟨i+1,⟨k+1,by omega,hlt,fun x hx=>?_⟩,by omega,?_⟩
   ·rcases yT.1 (by rw [yB hlt] at hx; exact hx) with hx | hx
    ·exact hR x hx
    ·rw [yV.1 hx]; exact hq
   ·simp (disch:=omega) only [go_sem,Aa,hni1,hs1,hsn,and_self]
  | false =>
   rw [hq] at hb
   have hno:E9 s l=false:=by
    unfold E9 RN
    rw [show (l.all fun x=>(x.atom.ap s.look).small)=false from ?_,yH]
    rw [List.all_eq_false]
    exact ⟨l[k],zC hlt,by rw [hq]; simp⟩
   rw [OQ hno,hno,WY]
   simp (disch:=omega) only [go_sem,Aa,hni,hg,ha,hb,AI,AW,Di,B9]
 ·obtain rfl:k=l.length:=by omega
  have htk:l.take l.length=l:=zQ
  rw [htk] at hR
  have hal2:RN s l=true:=by unfold RN; rw [zN]; exact hR
  have hfine:∀ x∈l.map (Lt.ap s),x.fine:=fun x hx=>by
   obtain ⟨y,hy,rfl⟩:=yP.1 hx
   exact Lt.Qap hs (hal y hy) (hR y hy)
  have hlen:(l.map (Lt.ap s)).length≤1048576:=by rw [zD]; exact hl
  have hc:=RC (l.map (Lt.ap s)) hlen hfine
  have hgd:=R7 (mkC (l.map (Lt.ap s))) (WX hlen hfine)
  cases hv:(mkC (l.map (Lt.ap s))).ok with
  | true =>
   have hok:E9 s l=true:=by unfold E9; rw [hal2,hv]; rfl
   rw [hv] at hgd
   rw [Vi hok,hok]
   simp (disch:=omega) only [go_sem,Aa,hni,htk,hc,hgd,her,hfu,AI,AW,Di,B9]
  | false =>
   have hok:E9 s l=false:=by unfold E9; rw [hv,zM]
   rw [hv] at hgd
   rw [OQ hok,hok,WY]
   simp (disch:=omega) only [go_sem,Aa,hni,htk,hc,hgd,her,hfu,AI,AW,Di,B9]
abbrev SEnv:=ByteArray→Option ByteArray
def Fh (e:SEnv):MF
 | .str s=>match e s with
  | some n=>some (false,[.str n])
  | none=>none
 | .int _=>none
theorem LE (e:SEnv) (s:ByteArray):Fh e (.str s)=match e s with | some n=>some (false,[.str n]) | none=>none:=rfl
noncomputable def Qbq (e:SEnv) (s n:ByteArray):SEnv:=fun q=>bif dec (q=s) then some n else e q
theorem TY (e:SEnv) (s n:ByteArray):Om (Fh e) (.str s) (false,[.str n])=Fh (Qbq e s n):=by
 funext k
 cases k with
 | int i=>rw [Jq (fun h=>by cases h)]; rfl
 | str q =>
  rw [QG,LE,LE]
  unfold Qbq
  cases dec (q=s) <;> rfl
theorem Zj:Fh (fun _=>none)=nomap:=by
 funext k
 cases k <;> rfl
mutual
noncomputable def Tm.rn (e:SEnv):Tm→Tm
 | .mk n args=>.mk (bif args.isEmpty then (e n).getD n else n) (Tm.rnL e args)
noncomputable def Tm.rnL (e:SEnv):List Tm→List Tm
 | []=>[]
 | x :: xs=>Tm.rn e x :: Tm.rnL e xs
end
theorem Tm.Qar (e:SEnv):∀ xs:List Tm,Tm.rnL e xs=xs.map (Tm.rn e)
 | []=>by rw [Tm.rnL]; rfl
 | x :: xs=>by rw [Tm.rnL,Tm.Qar e xs]; rfl
theorem Tm.RR (e:SEnv) (x:Tm):x.rn e=.mk (bif x.args.isEmpty then (e x.name).getD x.name else x.name) (x.args.map (Tm.rn e)):=by
 obtain ⟨n,args⟩:=x
 rw [Tm.rn,Tm.Qar]; rfl
theorem Tm.Xb (e:SEnv) (x:Tm):(x.rn e).nodes=x.nodes:=by
 have key:∀ xs:List Tm,(∀ y∈xs,(y.rn e).nodes=y.nodes)→Tm.Bl (xs.map (Tm.rn e))=Tm.Bl xs:=by
  intro xs
  induction xs with
  | nil=>intro _; rfl
  | cons y ys ih =>
   intro h
   rw [zL,Tm.Bl,Tm.Bl,h y (by simp),ih fun z hz=>h z (by simp [hz])]
 rw [Tm.RR,Tm.Ao,Tm.Ao]
 show 1+Tm.Bl (x.args.map (Tm.rn e))=_
 rw [key x.args fun y hy=>Tm.Xb e y]
termination_by SizeOf.sizeOf x
decreasing_by exact Tm.Az hy
theorem Zk {n:Int} (h0:0≤n) (h:n<10):Fn n=⟨#[UInt8.ofNat (48+n.toNat)]⟩:=by
 obtain ⟨u,rfl⟩:∃ u:Nat,n=u:=⟨n.toNat,by omega⟩
 unfold Fn
 rw [Lib.itoa_nonneg,Lib.decDigits,dif_pos (by omega)]
 rfl
theorem Qc9 {n:Int} (h:10≤n):Fn n=Fn (n.tdiv 10)++⟨#[UInt8.ofNat (48+(n.tmod 10).toNat)]⟩:=by
 obtain ⟨u,rfl⟩:∃ u:Nat,n=u:=⟨n.toNat,by omega⟩
 have e1:(u:Int).tdiv 10=((u / 10:Nat):Int):=by rw [zW (by omega)]; rfl
 have e2:((u:Int).tmod 10).toNat=u % 10:=by rw [yW (by omega)]; omega
 rw [e1,e2]
 unfold Fn
 rw [Lib.itoa_nonneg,Lib.itoa_nonneg,Lib.decDigits,dif_neg (by omega)]
 have key:∀ (x:List UInt8) (y:UInt8),(⟨(x++[y]).toArray⟩:ByteArray)=⟨x.toArray⟩++⟨#[y]⟩:=fun x y=>by
  have e:∀ a b:ByteArray,a.data=b.data→a=b:=fun a b h=>by cases a; cases b; cases h; rfl
  apply e
  simp
 exact key _ _
def pre (p:ByteArray) (n:Int):ByteArray:=p++Fn n
theorem F1:modes 85=⟨[],.asis,some (Nk TK),false⟩:=by unfold modes; rfl
theorem QcA (n:Int) (h0:0≤n) (h1:n≤1099511627776):E 85 [.int .i64 n] []=some (.str (Fn n),[]) :=
 WC (g:=TK) (congrArg FM.ext F1) (by simp only [TK,As (⟨h0,h1⟩:0≤n∧n≤1099511627776),cond_true])
noncomputable def Cl.ns (c:Cl):List ByteArray:=CB [] (Lt.vsL c.lits)
def LL:ByteArray:=⟨#[88]⟩
def Gt:ByteArray:=⟨#[89]⟩
theorem Cl.ME {c:Cl} (h:c.ok=true):c.ns.length≤240:=by
 have h1:=IZ (Lt.vsL c.lits) []
 have h2:=Cl.vs_len h
 unfold Cl.ns
 simp only [zT] at h1
 omega
theorem Cl.ns_nodup (c:Cl):c.ns.Nodup:=RO List.nodup_nil
theorem Lt.vsL_mem {v:ByteArray}:∀ {xs:List Lt},v∈Lt.vsL xs ↔ ∃ x∈xs,v∈x.atom.vs
 | []=>by simp [Lt.vsL]
 | x :: xs=>by rw [Lt.vsL,yT,Lt.vsL_mem (xs:=xs)]; simp
theorem Cl.QcB {c:Cl} {v:ByteArray}:v∈c.ns ↔ ∃ x∈c.lits,v∈x.atom.vs:=by
 unfold Cl.ns
 rw [WZ,Lt.vsL_mem]
 simp
noncomputable def Dv (p:ByteArray) (l:List ByteArray):SEnv:=l.zipIdx.foldl (fun e x=>Qbq e x.1 (pre p (x.2:Nat))) fun _=>none
theorem LF (p:ByteArray) {l:List ByteArray} {k:Nat} (h:k<l.length):Dv p (l.take (k+1))=Qbq (Dv p (l.take k)) l[k] (pre p (k:Nat)):=by
 unfold Dv
 rw [←List.take_append_getElem h,List.zipIdx_append,yX]
 have e:(l.take k).length=k:=by rw [zP]; omega
 simp only [List.zipIdx_cons,List.zipIdx_nil,zV,yQ,e,Nat.zero_add]
theorem Qas (p:ByteArray) {l:List ByteArray} (hn:l.Nodup):∀ (n k:Nat) (hk:k<l.length),n≤l.length→k<n→Dv p (l.take n) l[k]=some (pre p (k:Nat))
 | 0,k,hk,_,h=>absurd h (by omega)
 | n+1,k,hk,hl,h=>by
  rw [LF p (by omega:n<l.length)]
  unfold Qbq
  by_cases e:k=n
  ·subst e
   rw [As rfl,cond_true]
  ·have hne:l[k]≠l[n]:=fun he=>e ((List.getElem_inj hn).1 he)
   rw [Ay hne,cond_false]
   exact Qas p hn n k hk (by omega) (by omega)
theorem RS (p:ByteArray) {l:List ByteArray} (hn:l.Nodup) {k:Nat} (hk:k<l.length):Dv p l l[k]=some (pre p (k:Nat)):=by
 have h:=Qas p hn l.length k hk (zO _) hk
 rw [zQ] at h
 exact h
theorem Xc (p:ByteArray) {l:List ByteArray} {q:ByteArray} (hq:q ∉ l):∀ n,n≤l.length→Dv p (l.take n) q=none
 | 0,_=>by rw [zZ]; rfl
 | n+1,h=>by
  rw [LF p (by omega:n<l.length)]
  unfold Qbq
  rw [Ay (show ¬ q=l[n] from fun e=>hq (by rw [e]; exact zC _)),cond_false]
  exact Xc p hq n (by omega)
theorem OU (p:ByteArray) {l:List ByteArray} {q:ByteArray} (hq:q ∉ l):Dv p l q=none:=by
 have h:=Xc p hq l.length (zO _)
 rw [zQ] at h
 exact h
def NF (e:SEnv):Prop:=∀ s n,e s=some n→An s=true∧An n=true
theorem QcC:∀ i:_root_.Fin 300,An (pre LL (i.val:Nat))=true:=by decide +kernel
theorem QcD:∀ i:_root_.Fin 300,An (pre Gt (i.val:Nat))=true:=by decide +kernel
theorem TZ {p:ByteArray} (hp:∀ i:_root_.Fin 300,An (pre p (i.val:Nat))=true) {l:List ByteArray} (hn:l.Nodup) (hl:l.length≤240) (hv:∀ s∈l,An s=true):NF (Dv p l):=fun s n h=>by
 by_cases hs:s∈l
 ·obtain ⟨k,hk,rfl⟩:=zR hs
  rw [RS p hn hk] at h
  obtain rfl:=yK h
  exact ⟨hv _ hs,hp ⟨k,by omega⟩⟩
 ·rw [OU p hs] at h
  cases h
theorem Tm.QcE {v:ByteArray}:∀ x:Tm,v∈x.vs→An v=true
 | .mk n a=>fun h=>by
  rw [Tm.vs] at h
  cases hv:An n with
  | true =>
   rw [hv,cond_true,yV] at h
   subst h; exact hv
  | false =>
   rw [hv,cond_false,Tm.vsL_mem] at h
   obtain ⟨y,hy,h⟩:=h
   exact Tm.QcE y h
termination_by x=>SizeOf.sizeOf x
decreasing_by exact Tm.Az (x:=.mk n a) hy
theorem Cl.Zl {c:Cl} {s:ByteArray} (h:s∈c.ns):An s=true:=by
 obtain ⟨x,_,h⟩:=Cl.QcB.1 h
 exact Tm.QcE _ h
theorem Tm.Mf (e:SEnv) (x:Tm):(x.rn e).name=(bif x.args.isEmpty then (e x.name).getD x.name else x.name)∧(x.rn e).args=x.args.map (Tm.rn e):=by
 rw [Tm.RR]; exact ⟨rfl,rfl⟩
theorem Ua {e:SEnv} {xs:List Tm} (h:∀ y∈xs,(y.rn e).names=true):Tm.Eg (xs.map (Tm.rn e))=true:=by
 rw [Tm.Ds,zN]
 intro z hz
 obtain ⟨y,hy,rfl⟩:=yP.1 hz
 exact h y hy
theorem Tm.J9 {e:SEnv} (he:NF e) (x:Tm) (hv:An x.name=false):(x.rn e).name=x.name:=by
 rw [(Tm.Mf e x).1]
 cases hx:e x.name with
 | none=>cases x.args.isEmpty <;> rfl
 | some n =>
  have:=(he _ _ hx).1
  rw [hv] at this; cases this
theorem Tm.RT {e:SEnv} (he:NF e) (x:Tm) (h:x.names=true):(x.rn e).names=true:=by
 have h1:=Tm.Mf e x
 rw [Tm.Gp] at h ⊢
 rw [h1.2,zD]
 cases hv:An x.name with
 | true =>
  rw [hv,if_pos rfl] at h
  have h0:x.args=[]:=zG (by simpa using h)
  have hn:An (x.rn e).name=true:=by
   rw [h1.1,h0]
   show An ((e x.name).getD x.name)=true
   cases hx:e x.name with
   | none=>exact hv
   | some n=>exact (he _ _ hx).2
  rw [hn,if_pos rfl]
  exact h
 | false =>
  rw [hv,if_neg (by simp)] at h
  rw [Tm.J9 he x hv,hv,if_neg (by simp)]
  rw [zA] at h ⊢
  refine ⟨h.1,Ua fun y hy=>Tm.RT he y ?_⟩
  have h2:=h.2
  rw [Tm.Ds,zN] at h2
  exact h2 y hy
termination_by SizeOf.sizeOf x
decreasing_by exact Tm.Az hy
theorem Tm.Qat (e:SEnv) (x:Tm):(x.rn e).deep=x.deep:=by
 have key:∀ xs:List Tm,(∀ y∈xs,(y.rn e).deep=y.deep)→Tm.E8 (xs.map (Tm.rn e))=Tm.E8 xs:=by
  intro xs
  induction xs with
  | nil=>intro _; rfl
  | cons y ys ih =>
   intro h
   rw [zL,Tm.E8,Tm.E8,h y (by simp),ih fun z hz=>h z (by simp [hz])]
 rw [Tm.RR,Tm.L9,Tm.L9]
 show Tm.E8 (x.args.map (Tm.rn e))+1=_
 rw [key x.args fun y hy=>Tm.Qat e y]
termination_by SizeOf.sizeOf x
decreasing_by exact Tm.Az hy
theorem Tm.Xd (e:SEnv) (x:Tm):(x.rn e).small=x.small:=by
 unfold Tm.small
 rw [Tm.Xb,Tm.Qat]
theorem Tm.Qec {e:SEnv} (he:NF e) (x:Tm) (h:x.atom=true):(x.rn e).atom=true:=by
 have hv:An x.name=false:=by
  unfold Tm.atom at h
  split at h
  ·rename_i hq
   have:x.name=⟨#[61]⟩:=Av.1 hq
   rw [this]; decide +kernel
  ·rw [zA] at h
   exact OP h.1
 have hn:=Tm.J9 he x hv
 have hq:(x.rn e).eqn=x.eqn:=by unfold Tm.eqn; rw [hn]
 unfold Tm.atom at h ⊢
 rw [hq,hn,Tm.Xd,(Tm.Mf e x).2,zD]
 split at h
 ·rename_i hb
  rw [if_pos hb]
  rw [zA] at h ⊢
  refine ⟨h.1,Ua fun y hy=>Tm.RT he y ?_⟩
  have h2:=h.2
  rw [Tm.Ds,zN] at h2
  exact h2 y hy
 ·rename_i hb
  rw [if_neg hb]
  rw [zA] at h ⊢
  refine ⟨h.1,?_⟩
  have h2:=h.2
  unfold Tm.valid at h2 ⊢
  rw [zA] at h2 ⊢
  exact ⟨by rw [Tm.Xd]; exact h2.1,Tm.RT he x h2.2⟩
noncomputable def Lt.rn (e:SEnv) (x:Lt):Lt:=⟨x.pos,x.atom.rn e⟩
noncomputable def Cl.rn (e:SEnv) (c:Cl):Cl:=mkC (c.lits.map (Lt.rn e))
theorem OV {x:Lt} (h:x.atom.atom=true):x.fine:=⟨Tm.Hs h,by have:=Tm.CQ h; omega⟩
theorem OW {xs:List Lt}:∀ {k:Nat},GO xs k=true→k≤xs.length→∀ (j:Nat) (h:j+1<k) (hl:j+1<xs.length),(xs[j]'(by omega)).cmp xs[j+1]<0
 | 0,_,_,j,h,_=>absurd h (by omega)
 | k+1,hk,hle,j,h,hl=>by
  rw [GO,zA] at hk
  rcases zB (j+1) k with h1 | h1
  ·exact OW hk.1 (by omega) j h1 hl
  ·obtain rfl:k=j+1:=by omega
   have h2:=hk.2
   rw [Ez hl,zA,decide_eq_true_eq] at h2
   exact h2.2
theorem Xe {xs:List Lt} (h:GO xs xs.length=true):Da xs:=by
 unfold Da
 rw [yI]
 intro i j hi hj hij
 obtain ⟨d,rfl⟩:∃ d,j=i+1+d:=⟨j-(i+1),by omega⟩
 clear hij
 induction d with
 | zero=>exact OW h (zO _) i hj hj
 | succ d ih =>
  have h1:=ih (by omega)
  have h2:=OW h (zO _) (i+1+d) hj hj
  exact (Lt.cmp_ord _ _ _).trans h1 h2
theorem Xf {xs:List Lt} (h2:∀ x∈xs,x.atom.atom=true) (h3:Da xs):GO xs xs.length=true:=by
 have key:∀ k,k≤xs.length→GO xs k=true:=by
  intro k
  induction k with
  | zero=>intro _; rfl
  | succ k ih =>
   intro hk
   rw [GO,ih (by omega),yC]
   cases k with
   | zero=>rw [GU (by omega)]; exact h2 _ (zC _)
   | succ k =>
    rw [Ez (by omega),h2 _ (zC _),yC,decide_eq_true_eq]
    exact yI.1 h3 k (k+1) (by omega) (by omega) (by omega)
 exact key _ (zO _)
theorem Cl.Ub {c:Cl} (h:c.ok=true):Da c.lits:=by
 unfold Cl.ok at h
 rw [zA] at h
 exact Xe h.2
theorem Cl.Qfq {l:List Lt} (h1:l.length≤8) (h2:∀ x∈l,x.atom.atom=true) (h3:Da l):(Cl.mk l).ok=true:=by
 unfold Cl.ok
 rw [zA,decide_eq_true_eq]
 exact ⟨h1,Xf h2 h3⟩
theorem QeP {l:List Lt} (h1:l.length≤8) (h2:∀ x∈l,x.atom.atom=true):(mkC l).ok=true :=
 Cl.Qfq (Nat.le_trans (Qag l) h1) (fun x hx=>h2 x ((Qk l x).1 hx)) (MC l)
theorem Xg {l:List Lt} (h:Da l):mkC l=⟨l⟩:=by
 have:(mkC l).lits=l:=Jz (MC l) h fun z=>Qk l z
 exact congrArg Cl.mk this
theorem Lt.RU {e:SEnv} (he:NF e) {l:List Lt} (h:∀ x∈l,x.atom.atom=true):∀ x∈l.map (Lt.rn e),x.atom.atom=true:=fun z hz=>by
 obtain ⟨x,hx,rfl⟩:=yP.1 hz
 exact Tm.Qec he _ (h x hx)
theorem Cl.Qau {e:SEnv} (he:NF e) {c:Cl} (h:c.ok=true):(c.rn e).ok=true :=
 QeP (by rw [zD]; exact Cl.ok_len h) (Lt.RU he (Cl.Dc h))
theorem Cl.xE {c:Cl} (h:c.ok=true):NF (Dv LL c.ns):=TZ QcC c.ns_nodup (Cl.ME h) fun s=>Cl.Zl
theorem Cl.yE {c:Cl} (h:c.ok=true):NF (Dv Gt c.ns):=TZ QcD c.ns_nodup (Cl.ME h) fun s=>Cl.Zl
def NG (l:List ByteArray):Prop:=∀ (i:Nat) (h:i<l.length),l[i]=pre LL (i:Nat)
noncomputable def Cl.norm (c:Cl):Bool:=dec (NG c.ns)
noncomputable def nz:Nat→Cl→Cl
 | 0,c=>c
 | n+1,c=>bif c.norm then c else nz n (c.rn (Dv LL c.ns))
theorem Qav:∀ (n:Nat) {c:Cl},c.ok=true→(nz n c).ok=true
 | 0,c,h=>h
 | n+1,c,h=>by
  rw [nz]
  cases c.norm with
  | true=>exact h
  | false=>exact Qav n (Cl.Qau (Cl.xE h) h)
def F2:SC:=(.seq (.reg [⟨some 2,none,.boxv 71 2 (.t 0)⟩,⟨(some 4),none,(.alloc 71 [(.str ⟨#[]⟩),.nil])⟩]) (.seq (.reg [⟨some 10,none,.faddr 0 (.t 2)⟩,⟨some 11,none,.load false 1 (.t 10)⟩,⟨(some 12),none,(.build [(.str ⟨#[]⟩),.nil] [(0,(1,(.t 11)))])⟩,⟨(some 5),none,(.alloc 71 [(.str ⟨#[]⟩),.nil])⟩,⟨none,none,(.store 2 (.t 5) (.t 12))⟩]) (.seq (.seq (.reg [⟨some 14,none,.mv (.t 1)⟩,⟨some 15,none,.faddr 0 (.t 2)⟩,⟨some 16,none,.load false 1 (.t 15)⟩,⟨(some 17),none,(.mget true true false [(.str ⟨#[]⟩)] (.t 14) (.t 16))⟩,⟨some 13,none,.mv (.t 17)⟩,⟨some 18,none,.ext (.t 13) 0⟩,⟨some 19,none,.ext (.t 13) 1⟩,⟨some 6,none,.mv (.t 18)⟩,⟨some 7,none,.mv (.t 19)⟩]) (.seq (.reg [⟨some 20,none,.mv (.t 7)⟩,⟨some 21,none,.mv (.t 20)⟩,⟨(some 22),(some (21,true)),(.faddr 1 (.t 2))⟩,⟨(some 23),(some (21,true)),(.load false 1 (.t 22))⟩,⟨(some 24),(some (21,true)),(.len false (.t 23))⟩,⟨(some 25),(some (21,true)),(.bin .eql false (.t 24) (.c (.int .i64 0)))⟩,⟨some 26,none,.pick (.t 21) (.t 25) (.c (.bool false))⟩]) (.cond (.t 26) (.reg [⟨some 27,none,.mv (.t 6)⟩,⟨some 28,none,.faddr 0 (.t 5)⟩,⟨none,none,(.store 1 (.t 28) (.t 27))⟩]) .skip))) (.seq (.seq (.reg [⟨some 29,none,.faddr 1 (.t 2)⟩,⟨some 30,none,.load false 1 (.t 29)⟩,⟨some 31,none,.len false (.t 30)⟩,⟨some 32,none,.mv (.c (.int .i64 0))⟩]) (.block 0 (.loop [0,1,0,0,1,1,0,0,0,0,0,0,0,0,0,0,0,0,0,0,0,0,0,0,0,0,0,0,0,0,1,1,1,0,0,0,0,0,0,0,0,0,0,0,0,0] (.seq (.reg [⟨some 33,none,.bin .lss false (.t 32) (.t 31)⟩]) (.seq (.cond (.t 33) .skip (.exit 0)) (.seq (.block 1 (.seq (.reg [⟨some 34,none,.iaddr 2 (.t 30) (.t 32)⟩,⟨some 35,none,.load true 2 (.t 34)⟩,⟨(some 9),none,(.alloc 71 [(.str ⟨#[]⟩),.nil])⟩,⟨none,none,(.store 2 (.t 9) (.t 35))⟩]) (.dreg [[],[0],[],[],[2,3],[4,2,3],[1,0,5,4,2,3],[0,1,2,3,4,5,6],[7,0,1,2,3,4,5,6]] [⟨some 36,none,.faddr 1 (.t 5)⟩,⟨some 37,none,.load false 1 (.t 36)⟩,⟨some 38,none,.load true 2 (.t 9)⟩,⟨some 39,none,.mv (.t 1)⟩,⟨some 40,none,.call 143 [(.t 38),(.t 39)]⟩,⟨(some 41),none,(.mkrow 71 2 [(.str ⟨#[]⟩),.nil] 1 [(0,(.t 40))])⟩,⟨(some 42),none,(.append 71 2 40 [(.str ⟨#[]⟩),.nil] (.t 37) (.t 41))⟩,⟨some 43,none,.faddr 1 (.t 5)⟩,⟨none,none,(.store 1 (.t 43) (.t 42))⟩]))) (.reg [⟨some 44,none,.bin .add false (.t 32) (.c (.int .i64 1))⟩,⟨some 32,none,.mv (.t 44)⟩]))))))) (.seq (.reg [⟨some 45,none,.load true 2 (.t 5)⟩,⟨none,none,(.store 2 (.t 4) (.t 45))⟩]) .ret)))))
theorem H0:codeOf Tryz.prog 143=some ⟨46,F2,[(.cell 4 true 2)]⟩:=by kernel_rfl
theorem BB:modes 143=⟨[],.own [none,some (71,2)],none,false⟩:=by unfold modes; rfl
abbrev RnC (e:SEnv) (x:Tm):Prop:=E 143 [x.sv,.mp true (Fh e)] []=some ((x.rn e).osv,(x.rn e).obs)
theorem Zm (e:SEnv) (x:Tm) (hn:x.args.length≤1099511627776) (ih:∀ y∈x.args,RnC e y):RnC e x:=by
 unfold RnC
 obtain ⟨nm,hnm⟩:∃ nm,nm=bif x.args.isEmpty then (e x.name).getD x.name else x.name:=⟨_,rfl⟩
 have e0:x.rn e=.mk nm (x.args.map (Tm.rn e)):=by rw [Tm.RR,hnm]
 have e1:(Tm.mk nm (x.args.map (Tm.rn e))).osv=.agg [.str nm,.ref 0]:=rfl
 have e2:(Tm.mk nm (x.args.map (Tm.rn e))).obs=[.row 71 2 ((x.args.map (Tm.rn e)).map Tm.o)]:=rfl
 rw [e0,e1,e2]
 have h10:((1:Int)=0)=False:=by simp
 cases he:e x.name with
 | none =>
  have hme:Fh e (.str x.name)=none:=by rw [LE,he]
  have hnn:nm=x.name:=by
   rw [hnm,he]
   cases x.args.isEmpty <;> rfl
  rw [hnn]
  clear hnm e0 e1 e2 hnn nm
  obtain ⟨nm,hnm⟩:∃ nm,nm=x.name:=⟨_,rfl⟩
  rw [←hnm] at hme ⊢
  refine Ae H0 BB (of_decide_eq_true rfl) ?_
  simp (disch:=omega) only [F2,go_sem,Aa,hme,← hnm]
  refine go_loop (α:=Int) (fun a=>⟨slots 46 0 [(1,.mp true (Fh e)),(4,.ptr 0 0),(5,.ptr 1 0),(30,.arr (x.args.map Tm.d)),(31,.int .i64 x.args.length),(32,.int .i64 a)],(if a=0 then [.box 71 [.str ⟨#[]⟩,.nil],.box 71 [.str nm,.nil]] else [.box 71 [.str ⟨#[]⟩,.nil],.box 71 [.str nm,.ref 2],.row 71 2 (((x.args.map (Tm.rn e)).take a.toNat).map Tm.o)])⟩) (fun a=>∃ k:Nat,a=k∧k≤(x.args).length) (fun a=>(x.args).length-(a).toNat) 0 ⟨0,rfl,zF _⟩ (by simp (disch:=omega) only [go_sem,Aa,eq_self,if_true]) ?_
  rintro i ⟨k,hi,hk⟩
  have hni:i.toNat=k:=by omega
  have hni1:(i+1).toNat=k+1:=by omega
  rcases zB k (x.args).length with hlt | hge
  ·have hg:=get_at Tm.d hlt
   rw [Tm.d_eq] at hg
   have hc:=ih x.args[k] (zC hlt)
   have hlm:k<(x.args.map (Tm.rn e)).length:=by rw [zD]; exact hlt
   have hs:=DJ Tm.o hlm
   rw [Tm.o_eq,zY] at hs
   rcases zI k with h0 | h0
   ·subst h0
    obtain rfl:i=0:=hi
    rw [zZ,zK,zU] at hs
    simp (disch:=omega) only [go_sem,Aa,hni,hg,hc,Tm.osv,Tm.obs,BB,eq_self,if_true]
    refine ⟨1,⟨1,rfl,hlt⟩,by omega,?_⟩
    simp (disch:=omega) only [go_sem,Aa,h10,if_false,hs]
   ·have hi0:(i=0)=False:=by simp; omega
    have hi1:(i+1=0)=False:=by simp; omega
    have htl:((x.args.map (Tm.rn e)).take k).length=k:=by rw [zP,zD]; omega
    simp (disch:=omega) only [go_sem,Aa,hni,hg,hc,Tm.osv,Tm.obs,BB,hi0,if_false,htl]
    refine ⟨i+1,⟨k+1,by omega,hlt⟩,by omega,?_⟩
    simp (disch:=omega) only [go_sem,Aa,hni1,hi1,if_false,hs]
  ·obtain rfl:k=x.args.length:=by omega
   have ht:(x.args.map (Tm.rn e)).take x.args.length=x.args.map (Tm.rn e):=by rw [←zD (f:=Tm.rn e)]; exact zQ
   rcases zI x.args.length with h0 | h0
   ·have hx:x.args=[]:=zG h0
    obtain rfl:i=0:=by omega
    first | omega | simp (disch:=omega) only [go_sem,Aa,hni,hx,eq_self,if_true,zK,zT]
   ·have hi0:(i=0)=False:=by simp; omega
    first | omega | simp (disch:=omega) only [go_sem,Aa,hni,hi0,if_false,ht]
 | some v =>
  have hme:Fh e (.str x.name)=some (false,[.str v]):=by rw [LE,he]
  rcases zI x.args.length with hz | hz
  ·have hx:x.args=[]:=zG hz
   have hz0:((x.args.length:Int)=0)=True:=by rw [hx]; simp
   have hnn:nm=v:=by rw [hnm,he,hx]; rfl
   rw [hnn]
   clear hnm e0 e1 e2 hnn nm
   obtain ⟨nm,hnm⟩:∃ nm,nm=v:=⟨_,rfl⟩
   rw [←hnm] at hme ⊢
   refine Ae H0 BB (of_decide_eq_true rfl) ?_
   simp (disch:=omega) only [F2,go_sem,Aa,hme,hz0,Qcu]
   refine go_loop (α:=Int) (fun a=>⟨slots 46 0 [(1,.mp true (Fh e)),(4,.ptr 0 0),(5,.ptr 1 0),(30,.arr (x.args.map Tm.d)),(31,.int .i64 x.args.length),(32,.int .i64 a)],(if a=0 then [.box 71 [.str ⟨#[]⟩,.nil],.box 71 [.str nm,.nil]] else [.box 71 [.str ⟨#[]⟩,.nil],.box 71 [.str nm,.ref 2],.row 71 2 (((x.args.map (Tm.rn e)).take a.toNat).map Tm.o)])⟩) (fun a=>∃ k:Nat,a=k∧k≤(x.args).length) (fun a=>(x.args).length-(a).toNat) 0 ⟨0,rfl,zF _⟩ (by simp (disch:=omega) only [go_sem,Aa,eq_self,if_true]) ?_
   rintro i ⟨k,hi,hk⟩
   have hni:i.toNat=k:=by omega
   have hni1:(i+1).toNat=k+1:=by omega
   rcases zB k (x.args).length with hlt | hge
   ·have hg:=get_at Tm.d hlt
    rw [Tm.d_eq] at hg
    have hc:=ih x.args[k] (zC hlt)
    have hlm:k<(x.args.map (Tm.rn e)).length:=by rw [zD]; exact hlt
    have hs:=DJ Tm.o hlm
    rw [Tm.o_eq,zY] at hs
    rcases zI k with h0 | h0
    ·subst h0
     obtain rfl:i=0:=hi
     rw [zZ,zK,zU] at hs
     simp (disch:=omega) only [go_sem,Aa,hni,hg,hc,Tm.osv,Tm.obs,BB,eq_self,if_true]
     refine ⟨1,⟨1,rfl,hlt⟩,by omega,?_⟩
     simp (disch:=omega) only [go_sem,Aa,h10,if_false,hs]
    ·have hi0:(i=0)=False:=by simp; omega
     have hi1:(i+1=0)=False:=by simp; omega
     have htl:((x.args.map (Tm.rn e)).take k).length=k:=by rw [zP,zD]; omega
     simp (disch:=omega) only [go_sem,Aa,hni,hg,hc,Tm.osv,Tm.obs,BB,hi0,if_false,htl]
     refine ⟨i+1,⟨k+1,by omega,hlt⟩,by omega,?_⟩
     simp (disch:=omega) only [go_sem,Aa,hni1,hi1,if_false,hs]
   ·obtain rfl:k=x.args.length:=by omega
    have ht:(x.args.map (Tm.rn e)).take x.args.length=x.args.map (Tm.rn e):=by rw [←zD (f:=Tm.rn e)]; exact zQ
    rcases zI x.args.length with h0 | h0
    ·have hx:x.args=[]:=zG h0
     obtain rfl:i=0:=by omega
     first | omega | simp (disch:=omega) only [go_sem,Aa,hni,hx,eq_self,if_true,zK,zT]
    ·have hi0:(i=0)=False:=by simp; omega
     first | omega | simp (disch:=omega) only [go_sem,Aa,hni,hi0,if_false,ht]
  ·have hz0:((x.args.length:Int)=0)=False:=eq_false (by omega)
   have hnn:nm=x.name:=by
    rw [hnm]
    cases hx:x.args with
    | nil=>rw [hx] at hz; simp at hz
    | cons a r=>rfl
   rw [hnn]
   clear hnm e0 e1 e2 hnn nm
   obtain ⟨nm,hnm⟩:∃ nm,nm=x.name:=⟨_,rfl⟩
   rw [←hnm] at hme ⊢
   refine Ae H0 BB (of_decide_eq_true rfl) ?_
   simp (disch:=omega) only [F2,go_sem,Aa,hme,hz0,Qcv,← hnm]
   refine go_loop (α:=Int) (fun a=>⟨slots 46 0 [(1,.mp true (Fh e)),(4,.ptr 0 0),(5,.ptr 1 0),(30,.arr (x.args.map Tm.d)),(31,.int .i64 x.args.length),(32,.int .i64 a)],(if a=0 then [.box 71 [.str ⟨#[]⟩,.nil],.box 71 [.str nm,.nil]] else [.box 71 [.str ⟨#[]⟩,.nil],.box 71 [.str nm,.ref 2],.row 71 2 (((x.args.map (Tm.rn e)).take a.toNat).map Tm.o)])⟩) (fun a=>∃ k:Nat,a=k∧k≤(x.args).length) (fun a=>(x.args).length-(a).toNat) 0 ⟨0,rfl,zF _⟩ (by simp (disch:=omega) only [go_sem,Aa,eq_self,if_true]) ?_
   rintro i ⟨k,hi,hk⟩
   have hni:i.toNat=k:=by omega
   have hni1:(i+1).toNat=k+1:=by omega
   rcases zB k (x.args).length with hlt | hge
   ·have hg:=get_at Tm.d hlt
    rw [Tm.d_eq] at hg
    have hc:=ih x.args[k] (zC hlt)
    have hlm:k<(x.args.map (Tm.rn e)).length:=by rw [zD]; exact hlt
    have hs:=DJ Tm.o hlm
    rw [Tm.o_eq,zY] at hs
    rcases zI k with h0 | h0
    ·subst h0
     obtain rfl:i=0:=hi
     rw [zZ,zK,zU] at hs
     simp (disch:=omega) only [go_sem,Aa,hni,hg,hc,Tm.osv,Tm.obs,BB,eq_self,if_true]
     refine ⟨1,⟨1,rfl,hlt⟩,by omega,?_⟩
     simp (disch:=omega) only [go_sem,Aa,h10,if_false,hs]
    ·have hi0:(i=0)=False:=by simp; omega
     have hi1:(i+1=0)=False:=by simp; omega
     have htl:((x.args.map (Tm.rn e)).take k).length=k:=by rw [zP,zD]; omega
     simp (disch:=omega) only [go_sem,Aa,hni,hg,hc,Tm.osv,Tm.obs,BB,hi0,if_false,htl]
     refine ⟨i+1,⟨k+1,by omega,hlt⟩,by omega,?_⟩
     simp (disch:=omega) only [go_sem,Aa,hni1,hi1,if_false,hs]
   ·obtain rfl:k=x.args.length:=by omega
    have ht:(x.args.map (Tm.rn e)).take x.args.length=x.args.map (Tm.rn e):=by rw [←zD (f:=Tm.rn e)]; exact zQ
    rcases zI x.args.length with h0 | h0
    ·have hx:x.args=[]:=zG h0
     obtain rfl:i=0:=by omega
     first | omega | simp (disch:=omega) only [go_sem,Aa,hni,hx,eq_self,if_true,zK,zT]
    ·have hi0:(i=0)=False:=by simp; omega
     first | omega | simp (disch:=omega) only [go_sem,Aa,hni,hi0,if_false,ht]
theorem Uc (e:SEnv) (x:Tm) (hn:x.nodes≤1099511627776):RnC e x :=
 Zm e x (by have:=Tm.length_le x.args; have:=Tm.Ao x; omega) fun y hy=>Uc e y (by have:=Tm.AX hy; have:=Tm.Ao x; omega)
termination_by SizeOf.sizeOf x
decreasing_by exact Tm.Az hy
def JA:SC:=(.seq (.reg [⟨(some 2),none,(.mv (.c (.str ⟨#[]⟩)))⟩]) (.seq (.seq (.reg [⟨some 3,none,.mv (.t 0)⟩,⟨some 4,none,.bin .lss false (.t 3) (.c (.int .i64 0))⟩]) (.cond (.t 4) (.seq (.reg [⟨some 5,none,.mv (.t 0)⟩,⟨some 6,none,.un .neg (.t 5)⟩,⟨some 7,none,.call 75 [(.t 6)]⟩,⟨(some 8),none,(.bin .add false (.c (.str ⟨#[45]⟩)) (.t 7))⟩,⟨some 2,none,.mv (.t 8)⟩]) .ret) .skip)) (.seq (.seq (.reg [⟨some 9,none,.mv (.t 0)⟩,⟨some 10,none,.bin .lss false (.t 9) (.c (.int .i64 10))⟩]) (.cond (.t 10) (.seq (.reg [⟨some 11,none,.mv (.t 0)⟩,⟨some 12,none,.mv (.t 0)⟩,⟨some 13,none,.bin .add false (.t 12) (.c (.int .i64 1))⟩,⟨(some 14),none,(.slice true 0 (.c (.str ⟨#[48,49,50,51,52,53,54,55,56,57]⟩)) (some (.t 11)) (some (.t 13)))⟩,⟨some 2,none,.mv (.t 14)⟩]) .ret) .skip)) (.seq (.dreg [[],[0],[1,0],[],[3],[],[5],[6,5],[4,3,7,6,5],[2,1,0,8,4,3,7,6,5],[9,2,1,0,8,4,3,7,6,5]] [⟨some 15,none,.mv (.t 0)⟩,⟨some 16,none,.bin .quo false (.t 15) (.c (.int .i64 10))⟩,⟨some 17,none,.call 75 [(.t 16)]⟩,⟨some 18,none,.mv (.t 0)⟩,⟨some 19,none,.bin .rem false (.t 18) (.c (.int .i64 10))⟩,⟨some 20,none,.mv (.t 0)⟩,⟨some 21,none,.bin .rem false (.t 20) (.c (.int .i64 10))⟩,⟨some 22,none,.bin .add false (.t 21) (.c (.int .i64 1))⟩,⟨(some 23),none,(.slice true 0 (.c (.str ⟨#[48,49,50,51,52,53,54,55,56,57]⟩)) (some (.t 19)) (some (.t 22)))⟩,⟨some 24,none,.bin .add false (.t 17) (.t 23)⟩,⟨some 2,none,.mv (.t 24)⟩]) .ret))))
theorem NH:codeOf Tryz.prog 75=some ⟨25,JA,[(.tmp 2)]⟩:=by kernel_rfl
theorem D9:modes 75=⟨[],.asis,none,false⟩:=by unfold modes; rfl
theorem Qe1 (d:Nat) (h:d<10):(⟨#[48,49,50,51,52,53,54,55,56,57]⟩:ByteArray).extract d (d+1)=⟨#[UInt8.ofNat (48+d)]⟩:=by
 have key:∀ d:_root_.Fin 10,(⟨#[48,49,50,51,52,53,54,55,56,57]⟩:ByteArray).extract d.val (d.val+1)=⟨#[UInt8.ofNat (48+d.val)]⟩:=by decide +kernel
 exact key ⟨d,h⟩
theorem QcF (n:Int) (h0:0≤n) (h1:n≤1099511627776) (ih:10≤n→E 75 [.int .i64 (n.tdiv 10)] []=some (.str (Fn (n.tdiv 10)),[])):E 75 [.int .i64 n] []=some (.str (Fn n),[]):=by
 have hsz:(⟨#[48,49,50,51,52,53,54,55,56,57]⟩:ByteArray).size=10:=rfl
 rcases Int.lt_or_le n 10 with h | h
 ·have e1:=Qe1 n.toNat (by omega)
  have e2:(n+1).toNat=n.toNat+1:=by omega
  rw [Zk h0 h]
  refine Ae NH D9 (of_decide_eq_true rfl) ?_
  simp (disch:=omega) only [JA,go_sem,Aa,e1,e2,hsz]
 ·have hc:=ih h
  have hq:n.tdiv 10=n / 10:=zW h0
  have hr:n.tmod 10=n % 10:=yW h0
  have hq2:0≤n.tdiv 10∧n.tdiv 10≤n:=by omega
  have hr2:0≤n.tmod 10∧n.tmod 10<10:=by omega
  have hs:=FP hq2.1 (by omega:n.tdiv 10≤1099511627776)
  have e1:=Qe1 (n.tmod 10).toNat (by omega)
  have e2:(n.tmod 10+1).toNat=(n.tmod 10).toNat+1:=by omega
  rw [Qc9 h]
  clear hq hr
  have hs1:(⟨#[UInt8.ofNat (48+(n.tmod 10).toNat)]⟩:ByteArray).size=1:=rfl
  refine Ae NH D9 (of_decide_eq_true rfl) ?_
  simp (disch:=omega) only [JA,go_sem,Aa,hc,e1,e2,hsz,hs1,D9]
theorem Vj (n:Int) (h0:0≤n) (h1:n≤1099511627776):E 75 [.int .i64 n] []=some (.str (Fn n),[]) :=
 QcF n h0 h1 fun h=>Vj (n.tdiv 10) (by rw [zW h0]; omega) (by rw [zW h0]; omega)
termination_by n.toNat
decreasing_by rw [zW h0]; omega
def P9:SC:=(.seq (.reg [⟨some 4,none,.mv (.c (.bool false))⟩]) (.seq (.seq (.reg [⟨some 5,none,.mv (.c (.int .i64 0))⟩]) (.block 0 (.loop [1,1,0,0,0,1,0,0,0,0,0,0,0,0,0,0,0,0] (.seq (.seq (.reg [⟨some 6,none,.mv (.t 5)⟩,⟨some 7,none,.mv (.t 0)⟩,⟨some 8,none,.len false (.t 7)⟩,⟨some 9,none,.bin .lss false (.t 6) (.t 8)⟩]) (.cond (.t 9) .skip (.exit 0))) (.seq (.block 1 (.seq (.reg [⟨some 12,none,.mv (.t 0)⟩,⟨some 13,none,.mv (.t 5)⟩,⟨some 14,none,.iaddr 1 (.t 12) (.t 13)⟩,⟨some 15,none,.load false 1 (.t 14)⟩,⟨some 16,none,.mv (.t 1)⟩,⟨some 17,none,.bin .eql false (.t 15) (.t 16)⟩]) (.cond (.t 17) (.seq (.reg [⟨some 4,none,.mv (.c (.bool true))⟩]) .ret) .skip))) (.reg [⟨some 10,none,.mv (.t 5)⟩,⟨some 11,none,.bin .add false (.t 10) (.c (.int .i64 1))⟩,⟨some 5,none,.mv (.t 11)⟩])))))) (.seq (.reg [⟨some 4,none,.mv (.c (.bool false))⟩]) .ret)))
theorem Xh:codeOf Tryz.prog 113=some ⟨18,P9,[(.tmp 4)]⟩:=by kernel_rfl
theorem Gu:modes 113=⟨[],.asis,none,false⟩:=by unfold modes; rfl
theorem QcG (xs:List ByteArray) (n:ByteArray) (hl:xs.length≤1099511627776):E 113 [.arr (xs.map fun s=>[D.str s]),.str n] []=some (.bool (dec (n∈xs)),[]):=by
 refine Ae Xh Gu (of_decide_eq_true rfl) ?_
 simp (disch:=omega) only [P9,go_sem,Aa]
 refine go_loop (α:=Int) (fun a=>⟨slots 18 0 [(0,.arr (xs.map fun s=>[D.str s])),(1,.str n),(5,.int .i64 a)],[]⟩) (fun a=>∃ k:Nat,a=k∧k≤(xs).length∧dec (n∈xs.drop k)=dec (n∈xs)) (fun a=>(xs).length-(a).toNat) 0 ⟨0,rfl,zF _,by rw [zJ]⟩ (by simp (disch:=omega) only [go_sem,Aa]) ?_
 rintro i ⟨k,hi,hk,hR⟩
 have hni:i.toNat=k:=by omega
 have hni1:(i+1).toNat=k+1:=by omega
 rcases zB k (xs).length with hlt | hge
 ·have hg:=get_at (fun s=>[D.str s]) hlt
  rw [zE hlt] at hR
  by_cases hp:xs[k]=n
  ·have hq:=eq_true hp
   have ht:dec (n∈xs)=true:=As (hp▸zC hlt)
   simp (disch:=omega) only [go_sem,Aa,hni,hg,hq]
   exact ht.symm
  ·have hq:=eq_false hp
   have hR:dec (n∈xs.drop (k+1))=dec (n∈xs):=by
    rw [←hR]
    exact Fo (by simp only [yD]; exact ⟨.inr,fun h=>h.elim (fun e=>absurd e.symm hp) id⟩)
   simp (disch:=omega) only [go_sem,Aa,hni,hg,hq]
   exact ⟨i+1,⟨k+1,by omega,hlt,hR⟩,by omega,by first | trivial | rfl⟩
 ·rw [zH hge,Ay (by simp)] at hR
  simp (disch:=omega) only [go_sem,Aa,hni]
  exact hR
def F3:SC:=(.seq (.reg [⟨some 2,none,.boxv 71 2 (.t 0)⟩,⟨some 4,none,.mv (.c .nil)⟩]) (.seq (.seq (.reg [⟨some 6,none,.faddr 0 (.t 2)⟩,⟨some 7,none,.load false 1 (.t 6)⟩,⟨some 8,none,.call 77 [(.t 7)]⟩]) (.cond (.t 8) (.seq (.seq (.reg [⟨some 9,none,.mv (.t 1)⟩,⟨some 10,none,.faddr 0 (.t 2)⟩,⟨some 11,none,.load false 1 (.t 10)⟩,⟨some 12,none,.call 113 [(.t 9),(.t 11)]⟩]) (.cond (.t 12) (.seq (.reg [⟨some 13,none,.mv (.t 1)⟩,⟨some 4,none,.mv (.t 13)⟩]) .ret) .skip)) (.seq (.reg [⟨some 14,none,.mv (.t 1)⟩,⟨some 15,none,.faddr 0 (.t 2)⟩,⟨some 16,none,.load false 1 (.t 15)⟩,⟨(some 17),none,(.mkrow 9 1 [(.str ⟨#[]⟩)] 1 [(0,(.t 16))])⟩,⟨(some 18),none,(.append 9 1 16 [(.str ⟨#[]⟩)] (.t 14) (.t 17))⟩,⟨some 4,none,.mv (.t 18)⟩]) .ret)) .skip)) (.seq (.seq (.reg [⟨some 5,none,.mv (.c (.int .i64 0))⟩]) (.block 0 (.loop [0,1,1,0,0,1,0,0,0,0,0,0,0,0,0,0,0,0,0,0,0,0,0,0,0,0,0,0,0,0,0,0,0,0] (.seq (.seq (.reg [⟨some 19,none,.mv (.t 5)⟩,⟨some 20,none,.faddr 1 (.t 2)⟩,⟨some 21,none,.load false 1 (.t 20)⟩,⟨some 22,none,.len false (.t 21)⟩,⟨some 23,none,.bin .lss false (.t 19) (.t 22)⟩]) (.cond (.t 23) .skip (.exit 0))) (.seq (.block 1 (.reg [⟨some 26,none,.faddr 1 (.t 2)⟩,⟨some 27,none,.load false 1 (.t 26)⟩,⟨some 28,none,.mv (.t 5)⟩,⟨some 29,none,.iaddr 2 (.t 27) (.t 28)⟩,⟨some 30,none,.load true 2 (.t 29)⟩,⟨some 31,none,.mv (.t 1)⟩,⟨some 32,none,.call 108 [(.t 30),(.t 31)]⟩,⟨some 1,none,.mv (.t 32)⟩])) (.reg [⟨some 24,none,.mv (.t 5)⟩,⟨some 25,none,.bin .add false (.t 24) (.c (.int .i64 1))⟩,⟨some 5,none,.mv (.t 25)⟩])))))) (.seq (.reg [⟨some 33,none,.mv (.t 1)⟩,⟨some 4,none,.mv (.t 33)⟩]) .ret))))
theorem H3:codeOf Tryz.prog 108=some ⟨34,F3,[(.tmp 4)]⟩:=by kernel_rfl
theorem Es:modes 108=⟨[false,true],.asis,none,false⟩:=by unfold modes; rfl
def KS:SC:=(.seq (.reg [⟨some 1,none,.boxv 28 1 (.t 0)⟩,⟨some 2,none,.mv (.c .nil)⟩]) (.seq (.reg [⟨(some 5),none,(.mkrow 9 1 [(.str ⟨#[]⟩)] 0 [])⟩,⟨some 3,none,.mv (.t 5)⟩]) (.seq (.seq (.reg [⟨some 4,none,.mv (.c (.int .i64 0))⟩]) (.block 0 (.loop [0,1,0,1,1,0,0,0,0,0,0,0,0,0,0,0,0,0,0,0,0,0] (.seq (.seq (.reg [⟨some 6,none,.mv (.t 4)⟩,⟨some 7,none,.faddr 0 (.t 1)⟩,⟨some 8,none,.load false 1 (.t 7)⟩,⟨some 9,none,.len false (.t 8)⟩,⟨some 10,none,.bin .lss false (.t 6) (.t 9)⟩]) (.cond (.t 10) .skip (.exit 0))) (.seq (.block 1 (.reg [⟨some 13,none,.faddr 0 (.t 1)⟩,⟨some 14,none,.load false 1 (.t 13)⟩,⟨some 15,none,.mv (.t 4)⟩,⟨some 16,none,.iaddr 3 (.t 14) (.t 15)⟩,⟨some 17,none,.faddr 1 (.t 16)⟩,⟨some 18,none,.load true 2 (.t 17)⟩,⟨some 19,none,.mv (.t 3)⟩,⟨some 20,none,.call 108 [(.t 18),(.t 19)]⟩,⟨some 3,none,.mv (.t 20)⟩])) (.reg [⟨some 11,none,.mv (.t 4)⟩,⟨some 12,none,.bin .add false (.t 11) (.c (.int .i64 1))⟩,⟨some 4,none,.mv (.t 12)⟩])))))) (.seq (.reg [⟨some 21,none,.mv (.t 3)⟩,⟨some 2,none,.mv (.t 21)⟩]) .ret))))
theorem RV:codeOf Tryz.prog 74=some ⟨22,KS,[(.tmp 2)]⟩:=by kernel_rfl
theorem Dw:modes 74=⟨[],.asis,none,false⟩:=by unfold modes; rfl
def HY:SC:=(.seq (.reg [⟨some 1,none,.boxv 28 1 (.t 0)⟩,⟨some 2,none,.mv (.c (.bool false))⟩]) (.seq (.reg [⟨some 5,none,.load true 1 (.t 1)⟩,⟨some 6,none,.call 74 [(.t 5)]⟩,⟨some 3,none,.mv (.t 6)⟩]) (.seq (.seq (.reg [⟨some 4,none,.mv (.c (.int .i64 0))⟩]) (.block 0 (.loop [0,0,0,1,1,0,0,0,0,0,0,0,0,0,0,0,0,0,0,0,0] (.seq (.seq (.reg [⟨some 7,none,.mv (.t 4)⟩,⟨some 8,none,.mv (.t 3)⟩,⟨some 9,none,.len false (.t 8)⟩,⟨some 10,none,.bin .lss false (.t 7) (.t 9)⟩]) (.cond (.t 10) .skip (.exit 0))) (.seq (.block 1 (.seq (.dreg [[],[],[0,1],[2,0,1],[],[4],[5,4],[3,2,0,1,6,5,4]] [⟨some 13,none,.mv (.t 3)⟩,⟨some 14,none,.mv (.t 4)⟩,⟨some 15,none,.iaddr 1 (.t 13) (.t 14)⟩,⟨some 16,none,.load false 1 (.t 15)⟩,⟨some 17,none,.mv (.t 4)⟩,⟨some 18,none,.call 75 [(.t 17)]⟩,⟨(some 19),none,(.bin .add false (.c (.str ⟨#[88]⟩)) (.t 18))⟩,⟨some 20,none,.bin .neq false (.t 16) (.t 19)⟩]) (.cond (.t 20) (.seq (.reg [⟨some 2,none,.mv (.c (.bool false))⟩]) .ret) .skip))) (.reg [⟨some 11,none,.mv (.t 4)⟩,⟨some 12,none,.bin .add false (.t 11) (.c (.int .i64 1))⟩,⟨some 4,none,.mv (.t 12)⟩])))))) (.seq (.reg [⟨some 2,none,.mv (.c (.bool true))⟩]) .ret))))
theorem NI:codeOf Tryz.prog 48=some ⟨21,HY,[(.tmp 2)]⟩:=by kernel_rfl
theorem BV:modes 48=⟨[],.asis,none,false⟩:=by unfold modes; rfl
def GC:SC:=(.seq (.reg [⟨some 1,none,.boxv 28 1 (.t 0)⟩,⟨some 2,none,.mv (.c (.bool false))⟩]) (.seq (.reg [⟨some 3,none,.load true 1 (.t 1)⟩,⟨some 4,none,.call 47 [(.t 3)]⟩,⟨some 5,none,.mv (.t 4)⟩,⟨(some 6),(some (5,true)),(.load true 1 (.t 1))⟩,⟨(some 7),(some (5,true)),(.call 48 [(.t 6)])⟩,⟨some 8,none,.pick (.t 5) (.t 7) (.c (.bool false))⟩,⟨some 2,none,.mv (.t 8)⟩]) .ret))
theorem JT:codeOf Tryz.prog 29=some ⟨9,GC,[(.tmp 2)]⟩:=by kernel_rfl
theorem CY:modes 29=⟨[],.asis,none,false⟩:=by unfold modes; rfl
abbrev QeQ (x:Tm):Prop:=∀ l:List ByteArray,l.length+x.nodes≤1048576→E 108 [x.sv,.ref 0] [.row 9 1 (l.map fun s=>[OT.str s])]=some ((bif dec (l.length<(CB l x.vs).length) then .ref 1 else .ref 0),(bif dec (l.length<(CB l x.vs).length) then [.gone,.row 9 1 ((CB l x.vs).map fun s=>[OT.str s])] else [.row 9 1 ((CB l x.vs).map fun s=>[OT.str s])]))
theorem Zn (x:Tm) (ih:∀ y∈x.args,QeQ y):QeQ x:=by
 intro l hn
 have hl:=Tm.length_le x.args
 have hne:=Tm.Ao x
 have hvs:=Tm.FE x
 have hv:=Am x.name
 cases hvv:An x.name with
 | true =>
  rw [hvv] at hvs hv
  have h1:=QcG l x.name (by omega)
  rw [hvs]
  cases hm:dec (x.name∈l) with
  | true =>
   have e:CB l [x.name]=l:=by simp only [CB,zV,yQ,LK,hm,cond_true]
   have hg:dec (l.length<l.length)=false:=Ay (by omega)
   rw [hm] at h1
   simp only [cond_true,e,hg]
   refine Ae H3 Es (of_decide_eq_true rfl) ?_
   simp (disch:=omega) only [F3,go_sem,Aa,hv,h1,Ah,Gu]
  | false =>
   have e:CB l [x.name]=l++[x.name]:=by simp only [CB,zV,yQ,LK,hm,cond_false]
   have hg:l.length<(l++[x.name]).length:=by simp
   rw [hm] at h1
   simp only [cond_true,e,As hg]
   refine Ae H3 Es (of_decide_eq_true rfl) ?_
   simp (disch:=omega) only [F3,go_sem,Aa,hv,h1,Ah,Gu]
   first | done | simp only [yG,zL,zK]
 | false =>
  rw [hvv] at hvs hv
  simp only [cond_false] at hvs
  rw [hvs]
  have hgl:dec (l.length<l.length)=false:=Ay (by omega)
  refine Ae H3 Es (of_decide_eq_true rfl) ?_
  simp (disch:=omega) only [F3,go_sem,Aa,hv,Ah]
  refine go_loop (α:=Int × (List ByteArray)) (fun a=>⟨slots 34 0 [(1,(bif dec (l.length<(a.2).length) then .ref 1 else .ref 0)),(2,(bif dec (l.length<(a.2).length) then .ptr 2 0 else .ptr 1 0)),(5,.int .i64 (a.1))],(bif dec (l.length<(a.2).length) then [.gone,.row 9 1 ((a.2).map fun s=>[OT.str s]),.box 71 [.str x.name,.arr (x.args.map Tm.d)]] else [.row 9 1 ((a.2).map fun s=>[OT.str s]),.box 71 [.str x.name,.arr (x.args.map Tm.d)]])⟩) (fun a=>∃ k:Nat,a.1=k∧k≤(x.args).length∧CB (a.2) (Tm.vsL (x.args.drop k))=CB l (Tm.vsL x.args)∧(a.2).length+Tm.Bl (x.args.drop k)≤1048576∧l.length≤(a.2).length) (fun a=>(x.args).length-(a.1).toNat) (0,l) ⟨0,rfl,zF _,by rw [zJ],by rw [zJ]; dsimp only; omega,zO _⟩ (by simp (disch:=omega) only [go_sem,Aa,hgl]) ?_
  rintro ⟨i,acc⟩ ⟨k,hi,hk,hR⟩
  dsimp only at hi hR
  have hni:i.toNat=k:=by omega
  have hni1:(i+1).toNat=k+1:=by omega
  rcases zB k (x.args).length with hlt | hge
  ·have hg:=get_at Tm.d hlt
   rw [Tm.d_eq] at hg
   obtain ⟨hR1,hR2,hR3⟩:=hR
   rw [zE hlt,Tm.vsL,NE] at hR1
   rw [zE hlt,Tm.Bl] at hR2
   have hc:=ih x.args[k] (zC hlt) acc (by omega)
   have hlen:=IZ x.args[k].vs acc
   have hgr:=OR x.args[k].vs acc
   have hvl:=Tm.vs_len x.args[k]
   have has:x.args[k].sv=.agg [.str x.args[k].name,.arr (x.args[k].args.map Tm.d)]:=rfl
   rw [has] at hc
   obtain ⟨acc2,ha2⟩:∃ a,a=CB acc x.args[k].vs:=⟨_,rfl⟩
   rw [←ha2] at hc hlen hgr hR1
   rcases zB l.length acc.length with q1 | q1 <;> rcases zB acc.length acc2.length with q2 | q2
   all_goals
    first
     |rw [As q2] at hc
     |rw [Ay (y2.2 q2)] at hc
    simp only [cond_true,cond_false] at hc
    simp (disch:=omega) only [go_sem,Aa,hni,hg,hc,Es]
    refine ⟨(i+1,acc2),⟨k+1,by dsimp only; omega,hlt,hR1,by dsimp only; omega,by dsimp only; omega⟩,by dsimp only; omega,?_⟩
    first | done | simp (disch:=omega) only [go_sem,Aa]
  ·rw [zH hge,Tm.vsL] at hR
   obtain ⟨hR1,hR2,hR3⟩:=hR
   have hR1:acc=CB l (Tm.vsL x.args):=hR1
   rw [←hR1]
   rcases zB l.length acc.length with q1 | q1
   ·simp (disch:=omega) only [go_sem,Aa,hni]
   ·simp (disch:=omega) only [go_sem,Aa,hni]
theorem Ud (x:Tm):QeQ x:=Zn x fun y hy=>Ud y
termination_by SizeOf.sizeOf x
decreasing_by exact Tm.Az hy
theorem OX (c:Cl) (hc:c.ok=true):E 74 [c.sv] []=some (.ref 0,[.row 9 1 (c.ns.map fun s=>[OT.str s])]):=by
 have hl:=Cl.ok_len hc
 have hsv:c.sv=.agg [.arr (c.lits.map Lt.d)]:=rfl
 have hns:c.ns=CB [] (Lt.vsL c.lits):=rfl
 rw [hsv,hns]
 refine Ae RV Dw (of_decide_eq_true rfl) ?_
 simp (disch:=omega) only [KS,go_sem,Aa]
 refine go_loop (α:=Int × (List ByteArray)) (fun a=>⟨slots 22 0 [(1,.ptr 0 0),(3,.ref 1),(4,.int .i64 (a.1))],[.box 28 [.arr (c.lits.map Lt.d)],.row 9 1 ((a.2).map fun s=>[OT.str s])]⟩) (fun a=>∃ k:Nat,a.1=k∧k≤(c.lits).length∧CB (a.2) (Lt.vsL (c.lits.drop k))=CB [] (Lt.vsL c.lits)∧(a.2).length≤30*k) (fun a=>(c.lits).length-(a.1).toNat) (0,[]) ⟨0,rfl,zF _,by rw [zJ],zO _⟩ (by simp (disch:=omega) only [go_sem,Aa]) ?_
 rintro ⟨i,acc⟩ ⟨k,hi,hk,hR⟩
 dsimp only at hi hR
 have hni:i.toNat=k:=by omega
 have hni1:(i+1).toNat=k+1:=by omega
 rcases zB k (c.lits).length with hlt | hge
 ·have hg:=get_at Lt.d hlt
  rw [Lt.d_eq] at hg
  obtain ⟨hR1,hR2⟩:=hR
  rw [zE hlt,Lt.vsL,NE] at hR1
  have hnn:=Tm.CQ (Cl.J8 hc hlt)
  have hcl:=Ud c.lits[k].atom acc (by omega)
  have has:c.lits[k].atom.sv=.agg [.str c.lits[k].atom.name,.arr (c.lits[k].atom.args.map Tm.d)]:=rfl
  rw [has] at hcl
  have hlen:=IZ c.lits[k].atom.vs acc
  have hvl:=Tm.vs_len c.lits[k].atom
  obtain ⟨acc2,ha2⟩:∃ a,a=CB acc c.lits[k].atom.vs:=⟨_,rfl⟩
  rw [←ha2] at hcl hlen hR1
  rcases zB acc.length acc2.length with q2 | q2
  all_goals
   first
    |rw [As q2] at hcl
    |rw [Ay (y2.2 q2)] at hcl
   simp only [cond_true,cond_false] at hcl
   simp (disch:=omega) only [go_sem,Aa,hni,hg,hcl,Es]
   refine ⟨(i+1,acc2),⟨k+1,by dsimp only; omega,hlt,hR1,by dsimp only; omega⟩,by dsimp only; omega,?_⟩
   first | trivial | rfl | exact ⟨rfl,rfl⟩
 ·rw [zH hge,Lt.vsL] at hR
  obtain ⟨hR1,hR2⟩:=hR
  have hR1:acc=_:=hR1
  rw [←hR1]
  simp (disch:=omega) only [go_sem,Aa,hni]
theorem JB (c:Cl) (hc:c.ok=true):E 48 [c.sv] []=some (.bool c.norm,[]):=by
 have h1:=OX c hc
 have hn:=Cl.ME hc
 have hcs:c.sv=.agg [.arr (c.lits.map Lt.d)]:=rfl
 obtain ⟨ns,hns⟩:∃ ns,ns=c.ns:=⟨_,rfl⟩
 have hnm:c.norm=dec (NG ns):=by unfold Cl.norm; rw [hns]
 rw [←hns] at hn h1
 rw [hnm]
 refine Ae NI BV (of_decide_eq_true rfl) ?_
 simp (disch:=omega) only [HY,go_sem,Aa,h1,Dw]
 refine go_loop (α:=Int) (fun a=>⟨slots 21 0 [(3,.ref 0),(4,.int .i64 a)],[.row 9 1 (ns.map fun s=>[OT.str s])]⟩) (fun a=>∃ k:Nat,a=k∧k≤(ns).length∧∀ (j:Nat),j<k→∀ hj:j<ns.length,ns[j]=pre LL (j:Nat)) (fun a=>(ns).length-(a).toNat) 0 ⟨0,rfl,zF _,fun j hj=>absurd hj (Nat.not_lt_zero _)⟩ (by simp (disch:=omega) only [go_sem,Aa]) ?_
 rintro i ⟨k,hi,hk,hR⟩
 have hni:i.toNat=k:=by omega
 have hni1:(i+1).toNat=k+1:=by omega
 rcases zB k (ns).length with hlt | hge
 ·have hg:=get_at (fun s=>[OT.str s]) hlt
  have hit:=Vj i (by omega) (by omega)
  have hz:=FP (show 0≤i by omega) (show i≤1099511627776 by omega)
  have hb:dec ((#[88]:Array UInt8).size+(Fn i).size≤9223372036854775807)=true:=As (by simp; omega)
  by_cases he:ns[k]=pre LL (k:Nat)
  ·have he':dec (ns[k]=(⟨#[88]⟩:ByteArray)++Fn i)=true:=As (by rw [he,hi]; rfl)
   simp (disch:=omega) only [go_sem,Aa,hni,hg,hit,hb,he',D9]
   refine ⟨i+1,⟨k+1,by omega,hlt,fun j hj hjl=>?_⟩,by omega,by first | trivial | rfl⟩
   rcases zB j k with h2 | h2
   ·exact hR j h2 hjl
   ·obtain rfl:j=k:=by omega
    exact he
  ·have he':dec (ns[k]=(⟨#[88]⟩:ByteArray)++Fn i)=false:=Ay (fun e=>he (by rw [e,hi]; rfl))
   have hno:dec (NG ns)=false:=Ay fun h=>he (h k hlt)
   rw [hno]
   simp (disch:=omega) only [go_sem,Aa,hni,hg,hit,hb,he',D9]
 ·have hy:dec (NG ns)=true:=As fun j hj=>hR j (by omega) hj
  rw [hy]
  simp (disch:=omega) only [go_sem,Aa,hni]
theorem MG (c:Cl) (hc:c.tame):E 29 [c.sv] []=some (.bool (c.ok&&c.norm),[]):=by
 have h1:=R7 c hc
 cases hv:c.ok with
 | false =>
  rw [hv] at h1
  refine Ae JT CY (of_decide_eq_true rfl) ?_
  simp (disch:=omega) only [GC,go_sem,Aa,h1,B9]
 | true =>
  rw [hv] at h1
  have h2:=JB c hv
  refine Ae JT CY (of_decide_eq_true rfl) ?_
  simp (disch:=omega) only [GC,go_sem,Aa,h1,h2,B9,BV]
def GD:SC:=(.seq (.reg [⟨some 3,none,.boxv 71 2 (.t 0)⟩,⟨(some 6),none,(.alloc 71 [(.str ⟨#[]⟩),.nil])⟩]) (.seq (.seq (.reg [⟨some 10,none,.faddr 0 (.t 3)⟩,⟨some 11,none,.load false 1 (.t 10)⟩,⟨some 12,none,.call 77 [(.t 11)]⟩]) (.cond (.t 12) (.seq (.seq (.reg [⟨some 7,none,.mv (.c (.int .i64 0))⟩]) (.block 0 (.loop [0,1,1,1,0,0,1,1,0,0,0,0,0,0,0,0,0,0,0,0,0,0,0,0,0,0,0,0,0,0,0,0,0,0,0,0,0,0,0,0,0,0,0,0,0,0,0,0,0,0,0,0,0,0,0,0,0,0] (.seq (.seq (.reg [⟨some 13,none,.mv (.t 7)⟩,⟨some 14,none,.mv (.t 1)⟩,⟨some 15,none,.len false (.t 14)⟩,⟨some 16,none,.bin .lss false (.t 13) (.t 15)⟩]) (.cond (.t 16) .skip (.exit 0))) (.seq (.block 1 (.seq (.dreg [[],[],[0,1],[2,0,1],[],[4],[3,2,0,1,5,4]] [⟨some 19,none,.mv (.t 1)⟩,⟨some 20,none,.mv (.t 7)⟩,⟨some 21,none,.iaddr 1 (.t 19) (.t 20)⟩,⟨some 22,none,.load false 1 (.t 21)⟩,⟨some 23,none,.faddr 0 (.t 3)⟩,⟨some 24,none,.load false 1 (.t 23)⟩,⟨some 25,none,.bin .eql false (.t 22) (.t 24)⟩]) (.cond (.t 25) (.seq (.reg [⟨some 26,none,.mv (.t 2)⟩,⟨some 27,none,.mv (.t 7)⟩,⟨some 28,none,.call 75 [(.t 27)]⟩,⟨some 29,none,.bin .add false (.t 26) (.t 28)⟩,⟨(some 30),none,(.build [(.str ⟨#[]⟩),.nil] [(0,(1,(.t 29)))])⟩,⟨none,none,(.store 2 (.t 6) (.t 30))⟩]) .ret) .skip))) (.reg [⟨some 17,none,.mv (.t 7)⟩,⟨some 18,none,.bin .add false (.t 17) (.c (.int .i64 1))⟩,⟨some 7,none,.mv (.t 18)⟩])))))) (.seq (.reg [⟨some 31,none,.faddr 0 (.t 3)⟩,⟨some 32,none,.load false 1 (.t 31)⟩,⟨(some 33),none,(.build [(.str ⟨#[]⟩),.nil] [(0,(1,(.t 32)))])⟩,⟨none,none,(.store 2 (.t 6) (.t 33))⟩]) .ret)) .skip)) (.seq (.reg [⟨some 34,none,.faddr 0 (.t 3)⟩,⟨some 35,none,.load false 1 (.t 34)⟩,⟨(some 36),none,(.build [(.str ⟨#[]⟩),.nil] [(0,(1,(.t 35)))])⟩,⟨(some 8),none,(.alloc 71 [(.str ⟨#[]⟩),.nil])⟩,⟨none,none,(.store 2 (.t 8) (.t 36))⟩]) (.seq (.seq (.reg [⟨some 9,none,.mv (.c (.int .i64 0))⟩]) (.block 2 (.loop [0,1,1,1,0,0,1,0,1,1,0,0,0,0,0,0,0,0,0,0,0,0,0,0,0,0,0,0,0,0,0,0,0,0,0,0,0,0,0,0,0,0,0,0,0,0,0,0,0,0,0,0,0,0,0,0,0,0] (.seq (.seq (.reg [⟨some 37,none,.mv (.t 9)⟩,⟨some 38,none,.faddr 1 (.t 3)⟩,⟨some 39,none,.load false 1 (.t 38)⟩,⟨some 40,none,.len false (.t 39)⟩,⟨some 41,none,.bin .lss false (.t 37) (.t 40)⟩]) (.cond (.t 41) .skip (.exit 2))) (.seq (.block 3 (.dreg [[],[0],[],[2],[],[3,2,4],[5,3,2,4],[],[],[6,5,3,2,4,7,8],[9,6,5,3,2,4,7,8],[1,0,10,9,6,5,3,2,4,7,8],[0,1,2,3,4,5,6,7,8,9,10,11],[12,0,1,2,3,4,5,6,7,8,9,10,11]] [⟨some 44,none,.faddr 1 (.t 8)⟩,⟨some 45,none,.load false 1 (.t 44)⟩,⟨some 46,none,.faddr 1 (.t 3)⟩,⟨some 47,none,.load false 1 (.t 46)⟩,⟨some 48,none,.mv (.t 9)⟩,⟨some 49,none,.iaddr 2 (.t 47) (.t 48)⟩,⟨some 50,none,.load true 2 (.t 49)⟩,⟨some 51,none,.mv (.t 1)⟩,⟨some 52,none,.mv (.t 2)⟩,⟨some 53,none,.call 142 [(.t 50),(.t 51),(.t 52)]⟩,⟨(some 54),none,(.mkrow 71 2 [(.str ⟨#[]⟩),.nil] 1 [(0,(.t 53))])⟩,⟨(some 55),none,(.append 71 2 40 [(.str ⟨#[]⟩),.nil] (.t 45) (.t 54))⟩,⟨some 56,none,.faddr 1 (.t 8)⟩,⟨none,none,(.store 1 (.t 56) (.t 55))⟩])) (.reg [⟨some 42,none,.mv (.t 9)⟩,⟨some 43,none,.bin .add false (.t 42) (.c (.int .i64 1))⟩,⟨some 9,none,.mv (.t 43)⟩])))))) (.seq (.reg [⟨some 57,none,.load true 2 (.t 8)⟩,⟨none,none,(.store 2 (.t 6) (.t 57))⟩]) .ret)))))
theorem JU:codeOf Tryz.prog 142=some ⟨58,GD,[(.cell 6 true 2)]⟩:=by kernel_rfl
theorem DM:modes 142=⟨[],.frz,none,false⟩:=by unfold modes; rfl
abbrev RnS (ns:List ByteArray) (p:ByteArray) (x:Tm):Prop:=E 142 [x.sv,.arr (ns.map fun s=>[D.str s]),.str p] []=some ((x.rn (Dv p ns)).sv,[])
theorem PA (ns:List ByteArray) (p:ByteArray) (hp:p.size≤1048576) (hnd:ns.Nodup) (hnl:ns.length≤1048576) (hnv:∀ s∈ns,An s=true) (x:Tm) (hx:An x.name=true→x.args=[]) (hn:x.args.length≤1099511627776) (ih:∀ y∈x.args,RnS ns p y):RnS ns p x:=by
 unfold RnS
 have hv:=Am x.name
 obtain ⟨e,he⟩:∃ e,e=Dv p ns:=⟨_,rfl⟩
 rw [←he]
 cases hb:An x.name with
 | true =>
  rw [hb] at hv
  have hx0:=hx hb
  refine Ae JU DM (of_decide_eq_true rfl) ?_
  simp (disch:=omega) only [GD,go_sem,Aa,hv,Ah]
  refine go_loop (α:=Int) (fun a=>⟨slots 58 0 [(1,.arr (ns.map fun s=>[D.str s])),(2,.str p),(3,.ptr 0 0),(6,.ptr 1 0),(7,.int .i64 a)],[.box 71 [.str x.name,.arr (x.args.map Tm.d)],.box 71 [.str ⟨#[]⟩,.nil]]⟩) (fun a=>∃ k:Nat,a=k∧k≤(ns).length∧∀ (j:Nat),j<k→∀ hj:j<ns.length,¬ ns[j]=x.name) (fun a=>(ns).length-(a).toNat) 0 ⟨0,rfl,zF _,fun j hj=>absurd hj (Nat.not_lt_zero _)⟩ (by simp (disch:=omega) only [go_sem,Aa]) ?_
  rintro i ⟨k,hi,hk,hR⟩
  have hni:i.toNat=k:=by omega
  have hni1:(i+1).toNat=k+1:=by omega
  rcases zB k (ns).length with hlt | hge
  ·have hg:=get_at (fun s=>[D.str s]) hlt
   by_cases hq:ns[k]=x.name
   ·have hq1:=eq_true hq
    have hq2:=As hq
    have hit:=Vj i (by omega) (by omega)
    have hz:=FP (show 0≤i by omega) (show i≤1099511627776 by omega)
    have hbd:dec (p.size+(Fn i).size≤9223372036854775807)=true:=As (by omega)
    have e1:x.rn e=.mk (p++Fn i) []:=by
     rw [Tm.RR,hx0,← hq,he,RS p hnd hlt,hi]; rfl
    have e2:(Tm.mk (p++Fn i) []).sv=.agg [.str (p++Fn i),.arr []]:=rfl
    rw [e1,e2]
    simp (disch:=omega) only [go_sem,Aa,hni,hg,hq1,hq2,hit,hbd,D9]
   ·have hq1:=eq_false hq
    have hq2:=Ay hq
    simp (disch:=omega) only [go_sem,Aa,hni,hg,hq1,hq2,D9]
    refine ⟨i+1,⟨k+1,by omega,hlt,fun j hj hjl=>?_⟩,by omega,by first | trivial | rfl⟩
    rcases zB j k with h2 | h2
    ·exact hR j h2 hjl
    ·obtain rfl:j=k:=by omega
     exact hq
  ·have hno:x.name ∉ ns:=fun h=>by
    obtain ⟨j,hj,h⟩:=zR h
    exact hR j (by omega) hj h
   have e1:x.rn e=.mk x.name []:=by rw [Tm.RR,hx0,he,OU p hno]; rfl
   have e2:(Tm.mk x.name []).sv=.agg [.str x.name,.arr []]:=rfl
   rw [e1,e2]
   simp (disch:=omega) only [go_sem,Aa,hni]
 | false =>
  rw [hb] at hv
  have hen:e x.name=none:=by rw [he]; exact OU p fun h=>by have:=hnv _ h; rw [hb] at this; cases this
  have e1:x.rn e=.mk x.name (x.args.map (Tm.rn e)):=by
   rw [Tm.RR,hen]
   cases x.args.isEmpty <;> rfl
  have e2:(Tm.mk x.name (x.args.map (Tm.rn e))).sv=.agg [.str x.name,.arr ((x.args.map (Tm.rn e)).map Tm.d)]:=rfl
  rw [e1,e2]
  have h10:((1:Int)=0)=False:=by simp
  have hfu:=Tm.N7 (x.args.map (Tm.rn e))
  have her:=Tm.UX (x.args.map (Tm.rn e))
  refine Ae JU DM (of_decide_eq_true rfl) ?_
  simp (disch:=omega) only [GD,go_sem,Aa,hv,Ah]
  refine go_loop (α:=Int) (fun a=>⟨slots 58 0 [(1,.arr (ns.map fun s=>[D.str s])),(2,.str p),(3,.ptr 0 0),(6,.ptr 1 0),(8,.ptr 2 0),(9,.int .i64 a)],(if a=0 then [.box 71 [.str x.name,.arr (x.args.map Tm.d)],.box 71 [.str ⟨#[]⟩,.nil],.box 71 [.str x.name,.nil]] else [.box 71 [.str x.name,.arr (x.args.map Tm.d)],.box 71 [.str ⟨#[]⟩,.nil],.box 71 [.str x.name,.ref 3],.row 71 2 (((x.args.map (Tm.rn e)).take a.toNat).map Tm.osh)])⟩) (fun a=>∃ k:Nat,a=k∧k≤(x.args).length) (fun a=>(x.args).length-(a).toNat) 0 ⟨0,rfl,zF _⟩ (by simp (disch:=omega) only [go_sem,Aa,eq_self,if_true]) ?_
  rintro i ⟨k,hi,hk⟩
  have hni:i.toNat=k:=by omega
  have hni1:(i+1).toNat=k+1:=by omega
  rcases zB k (x.args).length with hlt | hge
  ·have hg:=get_at Tm.d hlt
   rw [Tm.d_eq] at hg
   have hc:=ih x.args[k] (zC hlt)
   unfold RnS at hc
   rw [←he] at hc
   have hlm:k<(x.args.map (Tm.rn e)).length:=by rw [zD]; exact hlt
   have hs:=DJ Tm.osh hlm
   rw [Tm.R8,zY] at hs
   rcases zI k with h0 | h0
   ·subst h0
    obtain rfl:i=0:=hi
    rw [zZ,zK,zU] at hs
    simp (disch:=omega) only [go_sem,Aa,hni,hg,hc,DM,eq_self,if_true]
    refine ⟨1,⟨1,rfl,hlt⟩,by omega,?_⟩
    simp (disch:=omega) only [go_sem,Aa,h10,if_false,hs]
   ·have hi0:(i=0)=False:=by simp; omega
    have hi1:(i+1=0)=False:=by simp; omega
    have htl:((x.args.map (Tm.rn e)).take k).length=k:=by rw [zP,zD]; omega
    simp (disch:=omega) only [go_sem,Aa,hni,hg,hc,DM,hi0,if_false,htl]
    refine ⟨i+1,⟨k+1,by omega,hlt⟩,by omega,?_⟩
    simp (disch:=omega) only [go_sem,Aa,hni1,hi1,if_false,hs]
  ·obtain rfl:k=x.args.length:=by omega
   have ht:(x.args.map (Tm.rn e)).take x.args.length=x.args.map (Tm.rn e):=by rw [←zD (f:=Tm.rn e)]; exact zQ
   rcases zI x.args.length with h0 | h0
   ·have hx:x.args=[]:=zG h0
    obtain rfl:i=0:=by omega
    simp (disch:=omega) only [go_sem,Aa,hni,hx,eq_self,if_true,zK,zT]
   ·have hi0:(i=0)=False:=by simp; omega
    simp (disch:=omega) only [go_sem,Aa,hni,hi0,if_false,ht,hfu,her]
theorem RW (ns:List ByteArray) (p:ByteArray) (hp:p.size≤1048576) (hnd:ns.Nodup) (hnl:ns.length≤1048576) (hnv:∀ s∈ns,An s=true) (x:Tm) (hx:x.names=true) (hn:x.nodes≤1099511627776):RnS ns p x :=
 PA ns p hp hnd hnl hnv x (fun h=>Tm.E1 hx h) (by have:=Tm.length_le x.args; have:=Tm.Ao x; omega) fun y hy=>RW ns p hp hnd hnl hnv y (Tm.E2 hx hy) (by have:=Tm.AX hy; have:=Tm.Ao x; omega)
termination_by SizeOf.sizeOf x
decreasing_by exact Tm.Az hy
theorem Xi (ns:List ByteArray) (p:ByteArray) (hp:p.size≤1048576) (hnd:ns.Nodup) (hnl:ns.length≤1048576) (hnv:∀ s∈ns,An s=true) (x:Tm) (hx:x.atom=true):RnS ns p x:=by
 have hn:=Tm.CQ hx
 have h1:=Tm.Ao x
 have h2:=Tm.length_le x.args
 exact PA ns p hp hnd hnl hnv x (Tm.FS hx).1 (by omega) fun y hy=>RW ns p hp hnd hnl hnv y ((Tm.FS hx).2 y hy) (by have:=Tm.AX hy; omega)
def JV:SC:=(.seq (.reg [⟨some 3,none,.boxv 28 1 (.t 0)⟩,⟨some 6,none,.alloc 28 [.nil]⟩]) (.seq (.reg [⟨(some 9),none,(.mkrow 73 3 [(.bool false),(.str ⟨#[]⟩),.nil] 0 [])⟩,⟨some 7,none,.mv (.t 9)⟩]) (.seq (.seq (.reg [⟨some 8,none,.mv (.c (.int .i64 0))⟩]) (.block 0 (.loop [0,1,1,1,0,0,1,1,1,0,0,0,0,0,0,0,0,0,0,0,0,0,0,0,0,0,0,0,0,0,0,0,0,0,0,0,0,0] (.seq (.seq (.reg [⟨some 10,none,.mv (.t 8)⟩,⟨some 11,none,.faddr 0 (.t 3)⟩,⟨some 12,none,.load false 1 (.t 11)⟩,⟨some 13,none,.len false (.t 12)⟩,⟨some 14,none,.bin .lss false (.t 10) (.t 13)⟩]) (.cond (.t 14) .skip (.exit 0))) (.seq (.block 1 (.dreg [[],[],[1],[],[2,1,3],[4,2,1,3],[5,4,2,1,3],[],[7],[],[8,7,9],[10,8,7,9],[11,10,8,7,9],[],[],[12,11,10,8,7,9,13,14],[6,5,4,2,1,3,15,12,11,10,8,7,9,13,14],[16,6,5,4,2,1,3,15,12,11,10,8,7,9,13,14],[0,17,16,6,5,4,2,1,3,15,12,11,10,8,7,9,13,14],[18,0,17,16,6,5,4,2,1,3,15,12,11,10,8,7,9,13,14]] [⟨some 17,none,.mv (.t 7)⟩,⟨some 18,none,.faddr 0 (.t 3)⟩,⟨some 19,none,.load false 1 (.t 18)⟩,⟨some 20,none,.mv (.t 8)⟩,⟨some 21,none,.iaddr 3 (.t 19) (.t 20)⟩,⟨some 22,none,.faddr 0 (.t 21)⟩,⟨some 23,none,.load false 1 (.t 22)⟩,⟨some 24,none,.faddr 0 (.t 3)⟩,⟨some 25,none,.load false 1 (.t 24)⟩,⟨some 26,none,.mv (.t 8)⟩,⟨some 27,none,.iaddr 3 (.t 25) (.t 26)⟩,⟨some 28,none,.faddr 1 (.t 27)⟩,⟨some 29,none,.load true 2 (.t 28)⟩,⟨some 30,none,.mv (.t 1)⟩,⟨some 31,none,.mv (.t 2)⟩,⟨some 32,none,.call 142 [(.t 29),(.t 30),(.t 31)]⟩,⟨(some 33),none,(.build [(.bool false),(.str ⟨#[]⟩),.nil] [(0,(1,(.t 23))),(1,(2,(.t 32)))])⟩,⟨(some 34),none,(.mkrow 73 3 [(.bool false),(.str ⟨#[]⟩),.nil] 1 [(0,(.t 33))])⟩,⟨(some 35),none,(.append 73 3 48 [(.bool false),(.str ⟨#[]⟩),.nil] (.t 17) (.t 34))⟩,⟨some 7,none,.mv (.t 35)⟩])) (.reg [⟨some 15,none,.mv (.t 8)⟩,⟨some 16,none,.bin .add false (.t 15) (.c (.int .i64 1))⟩,⟨some 8,none,.mv (.t 16)⟩])))))) (.seq (.reg [⟨some 36,none,.mv (.t 7)⟩,⟨some 37,none,.call 117 [(.t 36)]⟩,⟨none,none,(.store 1 (.t 6) (.t 37))⟩]) .ret))))
theorem PQ:codeOf Tryz.prog 97=some ⟨38,JV,[(.cell 6 true 1)]⟩:=by kernel_rfl
theorem DN:modes 97=⟨[],.frz,none,false⟩:=by unfold modes; rfl
theorem RY (c:Cl) (hc:c.ok=true) (ns:List ByteArray) (hns:ns=c.ns) (p:ByteArray) (hp:p.size≤1048576) (hf:NF (Dv p ns)):E 97 [c.sv,.arr (ns.map fun s=>[D.str s]),.str p] []=some ((c.rn (Dv p ns)).sv,[]):=by
 have hl:=Cl.ok_len hc
 have hsv:∀ d:Cl,d.sv=.agg [.arr (d.lits.map Lt.d)]:=fun d=>rfl
 have hnd:ns.Nodup:=by rw [hns]; exact c.ns_nodup
 have hnl:ns.length≤240:=by rw [hns]; exact Cl.ME hc
 have hnv:∀ s∈ns,An s=true:=fun s hs=>Cl.Zl (c:=c) (by rw [←hns]; exact hs)
 have hat:=Lt.RU hf (Cl.Dc hc)
 have hr0:∀ x:Tm,x.atom=true→RnS ns p x:=fun x hx=>Xi ns p hp hnd (by omega) hnv x hx
 unfold RnS at hr0
 obtain ⟨e,he⟩:∃ e,e=Dv p ns:=⟨_,rfl⟩
 rw [←he] at hat hr0 ⊢
 have hco:=RC (c.lits.map (Lt.rn e)) (by rw [zD]; omega) (fun x hx=>OV (hat x hx))
 rw [show mkC (c.lits.map (Lt.rn e))=c.rn e from rfl] at hco
 rw [hsv] at hco
 rw [hsv,hsv]
 have her:=Lt.der (c.lits.map (Lt.rn e))
 have hfu:=Lt.dfu (c.lits.map (Lt.rn e))
 clear he
 refine Ae PQ DN (of_decide_eq_true rfl) ?_
 simp (disch:=omega) only [JV,go_sem,Aa]
 refine go_loop (α:=Int) (fun a=>⟨slots 38 0 [(1,.arr (ns.map fun s=>[D.str s])),(2,.str p),(3,.ptr 0 0),(6,.ptr 1 0),(7,.ref 2),(8,.int .i64 a)],[.box 28 [.arr (c.lits.map Lt.d)],.box 28 [.nil],.row 73 3 (((c.lits.map (Lt.rn e)).take a.toNat).map (fun b:Lt=>b.d.map D.ot))]⟩) (fun a=>∃ k:Nat,a=k∧k≤(c.lits).length) (fun a=>(c.lits).length-(a).toNat) 0 ⟨0,rfl,zF _⟩ (by simp (disch:=omega) only [go_sem,Aa]) ?_
 rintro i ⟨k,hi,hk⟩
 have hni:i.toNat=k:=by omega
 have hni1:(i+1).toNat=k+1:=by omega
 rcases zB k (c.lits).length with hlt | hge
 ·have hg:=get_at Lt.d hlt
  rw [Lt.d_eq] at hg
  have hr:=hr0 c.lits[k].atom (Cl.J8 hc hlt)
  have hrs:c.lits[k].atom.sv=.agg [.str c.lits[k].atom.name,.arr (c.lits[k].atom.args.map Tm.d)]:=rfl
  have hrt:(c.lits[k].atom.rn e).sv=.agg [.str (c.lits[k].atom.rn e).name,.arr ((c.lits[k].atom.rn e).args.map Tm.d)]:=rfl
  rw [hrs,hrt] at hr
  have hlm:k<(c.lits.map (Lt.rn e)).length:=by rw [zD]; exact hlt
  have hs:=DJ (fun b:Lt=>b.d.map D.ot) hlm
  rw [zY] at hs
  have hs':((c.lits.map (Lt.rn e)).take k).map (fun b:Lt=>b.d.map D.ot)++[[OT.bool c.lits[k].pos,OT.str (c.lits[k].atom.rn e).name,OT.sh ((c.lits[k].atom.rn e).args.map Tm.d)]]=((c.lits.map (Lt.rn e)).take (k+1)).map (fun b:Lt=>b.d.map D.ot):=hs
  have htl:((c.lits.map (Lt.rn e)).take k).length=k:=by rw [zP,zD]; omega
  simp (disch:=omega) only [go_sem,Aa,hni,hg,hr,htl,DM]
  refine ⟨i+1,⟨k+1,by omega,hlt⟩,by omega,?_⟩
  simp (disch:=omega) only [go_sem,Aa,hni1,hs']
 ·have ht:(c.lits.map (Lt.rn e)).take k=c.lits.map (Lt.rn e):=List.take_of_length_le (by rw [zD]; exact hge)
  simp (disch:=omega) only [go_sem,Aa,hni,ht,hco,her,hfu,Di]
def KT:SC:=(.seq (.reg [⟨some 1,none,.boxv 28 1 (.t 0)⟩,⟨some 2,none,.alloc 28 [.nil]⟩]) (.seq (.dreg [[],[],[1],[0,2,1],[3,0,2,1]] [⟨some 3,none,.load true 1 (.t 1)⟩,⟨some 4,none,.load true 1 (.t 1)⟩,⟨some 5,none,.call 74 [(.t 4)]⟩,⟨(some 6),none,(.call 97 [(.t 3),(.t 5),(.c (.str ⟨#[89]⟩))])⟩,⟨none,none,(.store 1 (.t 2) (.t 6))⟩]) .ret))
theorem RZ:codeOf Tryz.prog 64=some ⟨7,KT,[(.cell 2 true 1)]⟩:=by kernel_rfl
theorem Dx:modes 64=⟨[],.frz,none,false⟩:=by unfold modes; rfl
theorem Qbr (c:Cl) (hc:c.ok=true):E 64 [c.sv] []=some ((c.rn (Dv Gt c.ns)).sv,[]):=by
 have hsv:∀ d:Cl,d.sv=.agg [.arr (d.lits.map Lt.d)]:=fun d=>rfl
 have n2:=OX c hc
 have n4:=RY c hc c.ns rfl ⟨#[89]⟩ (by decide +kernel) (Cl.yE hc)
 rw [hsv] at n2
 rw [hsv,hsv] at n4
 rw [show Gt=⟨#[89]⟩ from rfl,hsv,hsv]
 refine Ae RZ Dx (of_decide_eq_true rfl) ?_
 simp (disch:=omega) only [KT,go_sem,Aa,n2,n4,Dw,DN]
def JW:SC:=(.seq (.reg [⟨some 1,none,.boxv 28 1 (.t 0)⟩,⟨some 2,none,.alloc 28 [.nil]⟩,⟨some 3,none,.mv (.c (.bool false))⟩]) (.seq (.reg [⟨some 6,none,.faddr 0 (.t 1)⟩,⟨some 7,none,.load false 1 (.t 6)⟩,⟨some 8,none,.call 117 [(.t 7)]⟩,⟨some 4,none,.alloc 28 [.nil]⟩,⟨none,none,(.store 1 (.t 4) (.t 8))⟩]) (.seq (.seq (.reg [⟨some 5,none,.mv (.c (.int .i64 0))⟩]) (.block 0 (.loop [0,0,1,0,1,1,0,0,0,0,0,0,0,0,0,0,0,0,0,0,0,0,0,0,0] (.seq (.seq (.reg [⟨some 9,none,.mv (.t 5)⟩,⟨some 10,none,.bin .lss false (.t 9) (.c (.int .i64 10))⟩,⟨some 11,none,.mv (.t 10)⟩,⟨(some 12),(some (11,true)),(.load true 1 (.t 4))⟩,⟨(some 13),(some (11,true)),(.call 48 [(.t 12)])⟩,⟨(some 14),(some (11,true)),(.un .not (.t 13))⟩,⟨some 15,none,.pick (.t 11) (.t 14) (.c (.bool false))⟩]) (.cond (.t 15) .skip (.exit 0))) (.seq (.block 1 (.dreg [[],[],[1],[0,2,1],[3,0,2,1]] [⟨some 18,none,.load true 1 (.t 4)⟩,⟨some 19,none,.load true 1 (.t 4)⟩,⟨some 20,none,.call 74 [(.t 19)]⟩,⟨(some 21),none,(.call 97 [(.t 18),(.t 20),(.c (.str ⟨#[88]⟩))])⟩,⟨none,none,(.store 1 (.t 4) (.t 21))⟩])) (.reg [⟨some 16,none,.mv (.t 5)⟩,⟨some 17,none,.bin .add false (.t 16) (.c (.int .i64 1))⟩,⟨some 5,none,.mv (.t 17)⟩])))))) (.seq (.dreg [[],[],[1],[0,2,1],[2,1,3,0]] [⟨some 22,none,.load true 1 (.t 4)⟩,⟨some 23,none,.load true 1 (.t 4)⟩,⟨some 24,none,.call 47 [(.t 23)]⟩,⟨none,none,(.store 1 (.t 2) (.t 22))⟩,⟨some 3,none,.mv (.t 24)⟩]) .ret))))
theorem PR:codeOf Tryz.prog 80=some ⟨25,JW,[(.cell 2 true 1),(.tmp 3)]⟩:=by kernel_rfl
theorem GE:modes 80=⟨[],.frz,none,false⟩:=by unfold modes; rfl
theorem Zo (c:Cl) (hc:c.ok=true):E 80 [c.sv] []=some (.tup [(nz 10 c).sv,.bool true],[]):=by
 have hl:=Cl.ok_len hc
 have hsv:∀ d:Cl,d.sv=.agg [.arr (d.lits.map Lt.d)]:=fun d=>rfl
 have h1:=RC c.lits (by omega) (fun x hx=>OV (Cl.Dc hc x hx))
 rw [Xg (Cl.Ub hc),hsv] at h1
 rw [hsv,hsv]
 refine Ae PR GE (of_decide_eq_true rfl) ?_
 simp (disch:=omega) only [JW,go_sem,Aa,h1,Di]
 refine go_loop (α:=Int × Cl) (fun a=>⟨slots 25 0 [(2,.ptr 0 0),(4,.ptr 1 0),(5,.int .i64 a.1)],[.box 28 [.nil],.box 28 [.arr (a.2.lits.map Lt.d)]]⟩) (fun a=>∃ k:Nat,a.1=k∧k≤10∧a.2.ok=true∧nz (10-k) a.2=nz 10 c) (fun a=>10-a.1.toNat) (0,c) ⟨0,rfl,zF _,hc,rfl⟩ (by simp (disch:=omega) only [go_sem,Aa]) ?_
 rintro ⟨i,d⟩ ⟨k,hi,hk,hd,hR⟩
 dsimp only at hi hd hR
 have n1:=JB d hd
 have n2:=OX d hd
 have n4:=RY d hd d.ns rfl ⟨#[88]⟩ (by decide +kernel) (Cl.xE hd)
 have n5:=R7 d ⟨by have:=Cl.ok_len hd; omega,fun y hy=>by have:=Tm.CQ (Cl.Dc hd y hy); omega⟩
 rw [hd] at n5
 rw [hsv] at n1 n2 n5
 rw [hsv,hsv] at n4
 rcases zB k 10 with hlt | hge
 ·obtain ⟨m,hm⟩:∃ m,10-k=m+1:=⟨9-k,by omega⟩
  rw [hm,nz] at hR
  cases hn:d.norm with
  | true =>
   rw [hn,cond_true] at hR
   rw [hn] at n1
   rw [←hR]
   simp (disch:=omega) only [go_sem,Aa,n1,n2,n4,n5,BV,Dw,DN,B9]
  | false =>
   rw [hn,cond_false] at hR
   rw [hn] at n1
   simp (disch:=omega) only [go_sem,Aa,n1,n2,n4,n5,BV,Dw,DN,B9]
   refine ⟨(i+1,d.rn (Dv LL d.ns)),⟨k+1,by dsimp only; omega,by omega,Cl.Qau (Cl.xE hd) hd,by rw [show 10-(k+1)=m by omega]; exact hR⟩,by dsimp only; omega,?_⟩
   first | trivial | rfl
 ·obtain rfl:k=10:=by omega
  have hR:d=nz 10 c:=hR
  rw [←hR]
  simp (disch:=omega) only [go_sem,Aa,n1,n2,n4,n5,BV,Dw,DN,B9]
theorem LG (a:ByteArray):a.toList=a.data.toList:=ByteArray.toList_eq a
theorem Ue (p a b:ByteArray):strLt (p++a) (p++b)=strLt a b:=by
 unfold strLt
 rw [LG,LG,LG a,LG b,yS,yS,yU,yU]
 induction p.data.toList with
 | nil=>rfl
 | cons c l ih =>
  rw [z8,z8]
  simp only [Op.bytesLess,ih]
  simp
theorem NJ {p a b:ByteArray}:p++a=p++b ↔ a=b:=by
 constructor
 ·intro h
  have h2:=congrArg (fun x:ByteArray=>x.data.toList) h
  simp only [yS,yU] at h2
  have h3:=List.append_cancel_left h2
  exact W6 (by rw [LG,LG]; exact h3)
 ·intro h; rw [h]
theorem QcH (p q a b:ByteArray):Ew (p++a) (p++b)=Ew (q++a) (q++b):=by
 unfold Ew
 rw [Ue,Ue]
 by_cases h:a=b
 ·rw [As (NJ.2 h),As (NJ.2 h)]
 ·rw [Ay (fun e=>h (NJ.1 e)),Ay (fun e=>h (NJ.1 e))]
def YOf (e:SEnv) (x:Tm):Prop:=∀ v∈x.vs,∃ r,v=LL++r∧e v=some (Gt++r)
theorem Tm.QcI {e:SEnv} {x:Tm} (hy:YOf e x) (hn:x.names=true) (hv:An x.name=true):∃ r,x.name=LL++r∧(x.rn e).name=Gt++r∧x.args=[]∧(x.rn e).args=[]:=by
 have h0:=Tm.E1 hn hv
 obtain ⟨r,h1,h2⟩:=hy x.name (by rw [Tm.FE,hv]; simp)
 refine ⟨r,h1,?_,h0,?_⟩
 ·rw [(Tm.Mf e x).1,h0,h2]; rfl
 ·rw [(Tm.Mf e x).2,h0]; rfl
theorem Tm.Qaw {e:SEnv} (he:NF e) {x:Tm} (hn:x.names=true):An (x.rn e).name=An x.name:=by
 cases hv:An x.name with
 | false=>rw [Tm.J9 he x hv,hv]
 | true =>
  rw [(Tm.Mf e x).1,Tm.E1 hn hv]
  show An ((e x.name).getD x.name)=true
  cases h:e x.name with
  | none=>exact hv
  | some n=>exact (he _ _ h).2
theorem YOf.arg {e:SEnv} {x:Tm} (hy:YOf e x) (hv:An x.name=false) {y:Tm} (h:y∈x.args):YOf e y:=fun v hv2=>hy v (by
 rw [Tm.FE,hv,cond_false,Tm.vsL_mem]
 exact ⟨y,h,hv2⟩)
theorem QcJ {p a b:Int} (h:p=0→a=b):orZ p a=orZ p b:=by
 unfold orZ
 by_cases hp:p=0
 ·rw [if_pos hp,if_pos hp,h hp]
 ·rw [if_neg hp,if_neg hp]
theorem Qed {n m:ByteArray} (h:GM (kvZ n) (kvZ m)=0):An n=An m:=by
 have:=(EG _ _ 0).zero.1 h
 unfold kvZ at this
 cases h1:An n <;> cases h2:An m <;> rw [h1,h2] at this <;> first | rfl | (simp at this)
theorem Qe2 {n m:ByteArray} (h:An n=An m):kvZ n=kvZ m:=by unfold kvZ; rw [h]
mutual
theorem Tm.QeR {e:SEnv} (he:NF e):∀ x y:Tm,x.names=true→y.names=true→YOf e x→YOf e y→(x.rn e).cmp (y.rn e)=x.cmp y
 | .mk n xs,.mk m ys=>fun hx hy ex ey=>by
  have k1:=Qe2 (Tm.Qaw he hx)
  have k2:=Qe2 (Tm.Qaw he hy)
  rw [Tm.Iw,Tm.Iw (.mk n xs),k1,k2]
  refine QcJ fun hk=>?_
  have hk:=Qed hk
  cases hv:An (Tm.mk n xs).name with
  | true =>
   have hw:An (Tm.mk m ys).name=true:=by rw [←hk]; exact hv
   obtain ⟨r,a1,a2,a3,a4⟩:=Tm.QcI ex hx hv
   obtain ⟨q,b1,b2,b3,b4⟩:=Tm.QcI ey hy hw
   rw [a1,a2,a3,a4,b1,b2,b3,b4,QcH Gt LL]
  | false =>
   have hw:An (Tm.mk m ys).name=false:=by rw [←hk]; exact hv
   rw [Tm.J9 he _ hv,Tm.J9 he _ hw,(Tm.Mf e _).2,(Tm.Mf e _).2,zD,zD]
   rw [show Tm.cmpL ((Tm.mk n xs).args.map (Tm.rn e)) ((Tm.mk m ys).args.map (Tm.rn e))=Tm.cmpL (Tm.mk n xs).args (Tm.mk m ys).args from Tm.Vk he xs ys (fun z hz=>Tm.E2 hx hz) (fun z hz=>Tm.E2 hy hz) (fun z hz=>ex.arg hv hz) fun z hz=>ey.arg hw hz]
theorem Tm.Vk {e:SEnv} (he:NF e):∀ xs ys:List Tm,(∀ z∈xs,z.names=true)→(∀ z∈ys,z.names=true)→(∀ z∈xs,YOf e z)→(∀ z∈ys,YOf e z)→Tm.cmpL (xs.map (Tm.rn e)) (ys.map (Tm.rn e))=Tm.cmpL xs ys
 | [],[]=>fun _ _ _ _=>rfl
 | [],y :: ys=>fun _ _ _ _=>by rw [zL,zK,Tm.cmpL,Tm.cmpL]
 | x :: xs,[]=>fun _ _ _ _=>by rw [zL,zK,Tm.cmpL,Tm.cmpL]
 | x :: xs,y :: ys=>fun h1 h2 h3 h4=>by
  rw [zL,zL,Tm.cmpL,Tm.cmpL,Tm.QeR he x y (h1 _ (by simp)) (h2 _ (by simp)) (h3 _ (by simp)) (h4 _ (by simp)),Tm.Vk he xs ys (fun z hz=>h1 z (by simp [hz])) (fun z hz=>h2 z (by simp [hz])) (fun z hz=>h3 z (by simp [hz])) fun z hz=>h4 z (by simp [hz])]
end
theorem Sa {x:Tm} (h:x.atom=true):An x.name=false:=by
 unfold Tm.atom at h
 split at h
 ·rename_i hq
  have:x.name=⟨#[61]⟩:=Av.1 hq
  rw [this]; decide +kernel
 ·rw [zA] at h
  exact OP h.1
theorem Tm.Qee {e:SEnv} (he:NF e) (x y:Tm) (hx:x.atom=true) (hy:y.atom=true) (ex:YOf e x) (ey:YOf e y):(x.rn e).cmp (y.rn e)=x.cmp y:=by
 have hv:=Sa hx
 have hw:=Sa hy
 rw [Tm.Iw,Tm.Iw x,Tm.J9 he _ hv,Tm.J9 he _ hw,(Tm.Mf e _).2,(Tm.Mf e _).2,zD,zD]
 rw [Tm.Vk he x.args y.args (Tm.FS hx).2 (Tm.FS hy).2 (fun z hz=>ex.arg hv hz) fun z hz=>ey.arg hw hz]
theorem Cl.Zp {c:Cl} (hc:c.ok=true) (hn:c.norm=true):(c.rn (Dv Gt c.ns)).lits=c.lits.map (Lt.rn (Dv Gt c.ns)):=by
 have he:=Cl.yE hc
 have hnl:NG c.ns:=Av.1 hn
 have hy:∀ x∈c.lits,YOf (Dv Gt c.ns) x.atom:=fun x hx v hv=>by
  have hm:v∈c.ns:=Cl.QcB.2 ⟨x,hx,hv⟩
  obtain ⟨k,hk,rfl⟩:=zR hm
  exact ⟨Fn k,hnl k hk,RS Gt c.ns_nodup hk⟩
 have hs:Da (c.lits.map (Lt.rn (Dv Gt c.ns))):=by
  unfold Da
  rw [List.pairwise_map]
  refine List.Pairwise.imp_of_mem ?_ (Cl.Ub hc)
  intro a b ha hb h
  have e:((Lt.rn (Dv Gt c.ns) a).cmp (Lt.rn (Dv Gt c.ns) b))=a.cmp b:=by
   unfold Lt.cmp Lt.rn
   dsimp only
   rw [Tm.Qee he _ _ (Cl.Dc hc a ha) (Cl.Dc hc b hb) (hy a ha) (hy b hb)]
  rw [e]; exact h
 unfold Cl.rn
 rw [Xg hs]
def bdLe (x y:Bd):Bool:=!strLt y.var x.var
def Gv:List Bd→Bd→List Bd
 | [],b=>[b]
 | x :: xs,b=>bif strLt x.var b.var then x :: Gv xs b else b :: x :: xs
theorem LH (b:Bd):∀ xs:List Bd,(Gv xs b).Perm (b :: xs)
 | []=>.refl _
 | x :: xs=>by
  rw [Gv]
  cases strLt x.var b.var with
  | true=>exact ((LH b xs).cons x).trans (.swap b x xs)
  | false=>exact .refl _
theorem Sc {a b c:Bd} (h:bdLe a b=true) (k:bdLe b c=true):bdLe a c=true:=by
 unfold bdLe at *
 cases hq:strLt c.var a.var with
 | false=>rfl
 | true =>
  cases hb:strLt b.var a.var with
  | true=>rw [hb] at h; cases h
  | false =>
   cases hc:strLt c.var b.var with
   | true=>rw [hc] at k; cases k
   | false =>
    cases hab:strLt a.var b.var with
    | true=>rw [KL hq hab] at hc; cases hc
    | false =>
     have:=KJ hab hb
     rw [this] at hq; rw [hq] at hc; cases hc
theorem Zq (a b:Bd):(bdLe a b || bdLe b a)=true:=by
 unfold bdLe
 cases h:strLt b.var a.var with
 | false=>rfl
 | true=>rw [KI h]; rfl
theorem PB (b:Bd):∀ xs:List Bd,xs.Pairwise (fun x y=>bdLe x y=true)→(Gv xs b).Pairwise fun x y=>bdLe x y=true
 | [],_=>by simp [Gv]
 | x :: xs,h=>by
  rw [Gv]
  rw [zX] at h
  cases hq:strLt x.var b.var with
  | true =>
   rw [cond_true,zX]
   refine ⟨fun y hy=>?_,PB b xs h.2⟩
   rcases yD.1 ((LH b xs).mem_iff.1 hy) with rfl | hy
   ·unfold bdLe; rw [KI hq]; rfl
   ·exact h.1 y hy
  | false =>
   have hb:bdLe b x=true:=by unfold bdLe; rw [hq]; rfl
   rw [cond_false,zX,zX]
   refine ⟨fun y hy=>?_,h⟩
   rcases yD.1 hy with rfl | hy
   ·exact hb
   ·exact Sc hb (h.1 y hy)
def I7 (xs ys:List Bd):List Bd:=ys.foldl Gv xs
theorem OY:∀ (ys xs:List Bd),(I7 xs ys).Perm (xs++ys)
 | [],xs=>by simp [I7]
 | y :: ys,xs=>by
  have h:=OY ys (Gv xs y)
  simp only [I7,zV] at h ⊢
  refine h.trans ?_
  have h2:(Gv xs y++ys).Perm ((y :: xs)++ys):=(LH y xs).append_right ys
  exact h2.trans List.perm_middle.symm
theorem PC:∀ (ys xs:List Bd),xs.Pairwise (fun x y=>bdLe x y=true)→(I7 xs ys).Pairwise fun x y=>bdLe x y=true
 | [],xs,h=>h
 | y :: ys,xs,h=>by
  simp only [I7,zV]
  exact PC ys (Gv xs y) (PB y xs h)
theorem QcK (xs a b:List Bd):I7 xs (a++b)=I7 (I7 xs a) b:=yX
theorem Qbs {ys:List Bd} (hn:(ys.map Bd.var).Nodup):I7 [] ys=ys.mergeSort bdLe:=by
 have h1:(I7 [] ys).Perm ys:=by simpa using OY ys []
 have h2:(ys.mergeSort bdLe).Perm ys:=List.mergeSort_perm _ _
 refine List.Perm.eq_of_pairwise (le:=fun x y=>bdLe x y=true) ?_ (PC ys [] y3) (List.pairwise_mergeSort (le:=bdLe) (fun _ _ _ h k=>Sc h k) Zq ys) (h1.trans h2.symm)
 intro a b ha hb hab hba
 unfold bdLe at hab hba
 have e:a.var=b.var:=KJ (by simpa using hba) (by simpa using hab)
 have ha:=h1.mem_iff.1 ha
 have hb:=h2.mem_iff.1 hb
 obtain ⟨i,hi,rfl⟩:=zR ha
 obtain ⟨j,hj,rfl⟩:=zR hb
 have hij:i=j:=(List.getElem_inj (h₀:=by simpa using hi) (h₁:=by simpa using hj) hn).1 (by simpa using e)
 subst hij; rfl
theorem Xj (b:Bd):∀ xs:List Bd,Gv xs b=xs.take (Bp xs b.var)++b :: xs.drop (Bp xs b.var)
 | []=>by simp [Gv,Bp]
 | x :: xs=>by
  rw [Gv,Bp]
  cases h:strLt x.var b.var with
  | true=>rw [cond_true,Xj b xs]; simp
  | false=>simp
noncomputable def CR (u:Sb) (b:Bd):Option Bd:=bif dec ((b.term.ap u.look).name=b.var) then none else some ⟨b.var,b.term.ap u.look⟩
noncomputable def H4 (s u:Sb):List Bd:=s.binds.filterMap (CR u)
noncomputable def Qax (s u:Sb):List Bd:=u.binds.filter fun b=>!DW s.binds b.var
noncomputable def C0 (s u:Sb):List Bd:=H4 s u++Qax s u
noncomputable def Cv (s u:Sb):Sb:=⟨(C0 s u).mergeSort bdLe⟩
theorem MH:∀ {xs:List Bd},NB xs→(xs.map Bd.var).Nodup:=by
 intro xs h
 unfold List.Nodup
 rw [yI]
 intro i j hi hj hij e
 rw [zD] at hj
 have:=h i j hij hj
 simp only [zY] at e
 rw [e,Ht] at this
 cases this
theorem Xk {xs:List Bd} (hs:NB xs) (n:ByteArray):DW xs n=xs.any fun b=>dec (b.var=n):=by
 rw [←Nv,RG hs]
 cases DW xs n with
 | true=>rw [if_pos rfl]; exact (As (by omega)).symm
 | false=>rw [if_neg (by simp)]; exact (Ay (by omega)).symm
theorem Uf {s u:Sb} {b:Bd} (h:b∈H4 s u):∃ c∈s.binds,b.var=c.var∧b.term=c.term.ap u.look:=by
 obtain ⟨c,hc,h⟩:=List.mem_filterMap.1 h
 refine ⟨c,hc,?_⟩
 unfold CR at h
 cases hq:dec ((c.term.ap u.look).name=c.var) with
 | true=>rw [hq] at h; cases h
 | false=>rw [hq] at h; obtain rfl:=yK h; exact ⟨rfl,rfl⟩
theorem KU (u:Sb):∀ xs:List Bd,((xs.filterMap (CR u)).map Bd.var).Sublist (xs.map Bd.var)
 | []=>.slnil
 | x :: xs=>by
  rw [List.filterMap_cons,zL]
  have h:=KU u xs
  cases hq:CR u x with
  | none=>exact h.cons _
  | some c =>
   have e:c.var=x.var:=by
    unfold CR at hq
    cases hd:dec ((x.term.ap u.look).name=x.var) with
    | true=>rw [hd] at hq; cases hq
    | false=>rw [hd] at hq; obtain rfl:=yK hq; rfl
   simp only [zL,e]
   exact h.cons_cons _
theorem NK {s u:Sb} (hs:NB s.binds) (hu:NB u.binds):((C0 s u).map Bd.var).Nodup:=by
 unfold C0
 rw [yG,List.nodup_append]
 refine ⟨(KU u s.binds).nodup (MH hs),(List.Sublist.map _ List.filter_sublist).nodup (MH hu),fun a ha b hb e=>?_⟩
 subst e
 obtain ⟨x,hx,rfl⟩:=yP.1 ha
 obtain ⟨y,hy,e⟩:=yP.1 hb
 obtain ⟨c,hc,h1,_⟩:=Uf hx
 have hy2:=(List.mem_filter.1 hy).2
 rw [Xk hs,Bool.not_eq_true'] at hy2
 have:=List.any_eq_false.1 hy2 c hc
 exact this (As (by rw [←h1,e]))
theorem Sd (s u:Sb):(C0 s u).length≤s.binds.length+u.binds.length:=by
 unfold C0 H4 Qax
 rw [yF]
 have h1:=List.length_filterMap_le (CR u) s.binds
 have h2:=List.length_filter_le (fun b=>!DW s.binds b.var) u.binds
 omega
def Mg:SC:=(.seq (.reg [⟨some 2,none,.boxv 65 2 (.t 0)⟩,⟨some 4,none,.mv (.c (.int .i64 0))⟩]) (.seq (.reg [⟨some 5,none,.mv (.t 1)⟩,⟨some 6,none,.faddr 0 (.t 2)⟩,⟨some 7,none,.load false 1 (.t 6)⟩,⟨some 8,none,.len true (.t 7)⟩,⟨some 9,none,.bin .sub false (.t 5) (.t 8)⟩,⟨some 1,none,.mv (.t 9)⟩]) (.seq (.seq (.reg [⟨some 10,none,.mv (.t 1)⟩,⟨some 11,none,.bin .lss false (.t 10) (.c (.int .i64 0))⟩]) (.cond (.t 11) (.seq (.reg [⟨some 4,none,.mv (.c (.int .i64 (-(0+1))))⟩]) .ret) .skip)) (.seq (.reg [⟨some 12,none,.faddr 1 (.t 2)⟩,⟨some 13,none,.load false 1 (.t 12)⟩,⟨some 14,none,.mv (.t 1)⟩,⟨some 15,none,.call 102 [(.t 13),(.t 14)]⟩,⟨some 1,none,.mv (.t 15)⟩]) (.seq (.seq (.reg [⟨some 16,none,.mv (.t 1)⟩,⟨some 17,none,.bin .lss false (.t 16) (.c (.int .i64 0))⟩]) (.cond (.t 17) (.seq (.reg [⟨some 4,none,.mv (.c (.int .i64 (-(0+1))))⟩]) .ret) .skip)) (.seq (.reg [⟨some 18,none,.mv (.t 1)⟩,⟨some 4,none,.mv (.t 18)⟩]) .ret))))))
theorem ST:codeOf Tryz.prog 71=some ⟨19,Mg,[(.tmp 4)]⟩:=by kernel_rfl
theorem Gc:modes 71=⟨[],.asis,none,false⟩:=by unfold modes; rfl
def KV:SC:=(.seq (.reg [⟨some 4,none,.mv (.c (.int .i64 0))⟩]) (.seq (.reg [⟨some 6,none,.mv (.t 1)⟩,⟨some 7,none,.mv (.t 0)⟩,⟨some 8,none,.len false (.t 7)⟩,⟨some 9,none,.bin .sub false (.t 6) (.t 8)⟩,⟨some 1,none,.mv (.t 9)⟩]) (.seq (.seq (.reg [⟨some 10,none,.mv (.t 1)⟩,⟨some 11,none,.bin .lss false (.t 10) (.c (.int .i64 0))⟩]) (.cond (.t 11) (.seq (.reg [⟨some 4,none,.mv (.c (.int .i64 (-(0+1))))⟩]) .ret) .skip)) (.seq (.seq (.reg [⟨some 5,none,.mv (.c (.int .i64 0))⟩]) (.block 0 (.loop [1,1,0,0,0,1,0,0,0,0,0,0,0,0,0,0,0,0,0,0,0,0,0,0,0,0,0] (.seq (.seq (.reg [⟨some 12,none,.mv (.t 5)⟩,⟨some 13,none,.mv (.t 0)⟩,⟨some 14,none,.len false (.t 13)⟩,⟨some 15,none,.bin .lss false (.t 12) (.t 14)⟩]) (.cond (.t 15) .skip (.exit 0))) (.seq (.block 1 (.seq (.reg [⟨some 18,none,.mv (.t 0)⟩,⟨some 19,none,.mv (.t 5)⟩,⟨some 20,none,.iaddr 2 (.t 18) (.t 19)⟩,⟨some 21,none,.load true 2 (.t 20)⟩,⟨some 22,none,.mv (.t 1)⟩,⟨some 23,none,.call 71 [(.t 21),(.t 22)]⟩,⟨some 1,none,.mv (.t 23)⟩]) (.seq (.reg [⟨some 24,none,.mv (.t 1)⟩,⟨some 25,none,.bin .lss false (.t 24) (.c (.int .i64 0))⟩]) (.cond (.t 25) (.seq (.reg [⟨some 4,none,.mv (.c (.int .i64 (-(0+1))))⟩]) .ret) .skip)))) (.reg [⟨some 16,none,.mv (.t 5)⟩,⟨some 17,none,.bin .add false (.t 16) (.c (.int .i64 1))⟩,⟨some 5,none,.mv (.t 17)⟩])))))) (.seq (.reg [⟨some 26,none,.mv (.t 1)⟩,⟨some 4,none,.mv (.t 26)⟩]) .ret)))))
theorem Se:codeOf Tryz.prog 102=some ⟨27,KV,[(.tmp 4)]⟩:=by kernel_rfl
theorem H5:modes 102=⟨[],.asis,none,false⟩:=by unfold modes; rfl
abbrev NL (x:Tm):Prop:=D.fits x.d→∀ left:Int,0≤left→left≤1048576→E 71 [x.sv,.int .i64 left] []=some (.int .i64 (szR left x.bulk),[])
abbrev Ug (xs:List Tm):Prop:=D.fit (.arr (xs.map Tm.d))→∀ left:Int,0≤left→left≤1048576→E 102 [.arr (xs.map Tm.d),.int .i64 left] []=some (.int .i64 (szR left (xs.length+Tm.sumB xs:Nat)),[])
theorem Vl (xs:List Tm) (h:∀ x∈xs,NL x):Ug xs:=by
 intro hfit left h0 h1
 simp only [D.fit,zD] at hfit
 have q0:=B8 left (xs.length+Tm.sumB xs)
 refine Ae Se H5 (of_decide_eq_true rfl) ?_
 simp (disch:=omega) only [KV,go_sem,Aa]
 repeat' (refine D5 (fun hq=>?_) (fun hq=>?_) <;> (first | replace hq:=Av.1 hq | replace hq:=CT.1 hq) <;> (try simp (disch:=omega) only [go_sem,Aa]))
 ·omega
 refine go_loop (α:=Int × Int) (fun a=>⟨slots 27 0 [(0,.arr (xs.map Tm.d)),(1,.int .i64 a.2),(5,.int .i64 a.1)],[]⟩) (fun a=>∃ k:Nat,a.1=k∧k≤xs.length∧0≤a.2∧a.2≤1048576∧szR a.2 (Tm.sumB (xs.drop k))=szR left (xs.length+Tm.sumB xs:Nat)) (fun a=>xs.length-a.1.toNat) (0,left-xs.length) ⟨0,rfl,zF _,by omega,by omega,?_⟩ (by simp (disch:=omega) only [go_sem,Aa]) ?_
 ·have q1:=B8 (left-xs.length) (Tm.sumB xs)
  rw [zJ]
  dsimp only
  omega
 ·rintro ⟨i,l⟩ ⟨k,hi,hk,hl0,hl1,hs⟩
  dsimp only at hi hl0 hl1 hs
  rcases zB k xs.length with hlt | hge
  ·have hg:=get_at Tm.d hlt
   rw [Tm.d_eq] at hg
   have hd:Tm.sumB (xs.drop k)=xs[k].bulk+Tm.sumB (xs.drop (k+1)):=by rw [zE hlt,Tm.sumB]
   rw [hd] at hs
   have hc:=h xs[k] (zC hlt) (D.OH hfit.2 _ (zC hlt)) l hl0 hl1
   have q1:=B8 l xs[k].bulk
   have q2:=B8 l (xs[k].bulk+Tm.sumB (xs.drop (k+1)))
   have q3:=B8 (l-xs[k].bulk) (Tm.sumB (xs.drop (k+1)))
   have hn:i.toNat=k:=by omega
   simp (disch:=omega) only [go_sem,Aa,hn,hg,hc,Gc]
   repeat' (refine D5 (fun hq=>?_) (fun hq=>?_) <;> (first | replace hq:=Av.1 hq | replace hq:=CT.1 hq) <;> (try simp (disch:=omega) only [go_sem,Aa]))
   ·omega
   ·refine ⟨(i+1,l-xs[k].bulk),⟨k+1,by dsimp only; omega,hlt,by dsimp only; omega,by dsimp only; omega,by dsimp only; omega⟩,by dsimp only; omega,?_⟩
    have e:szR l xs[k].bulk=l-xs[k].bulk:=by omega
    simp only [e,and_self]
  ·have hd:xs.drop k=[]:=zH hge
   rw [hd] at hs
   have q1:=B8 l (Tm.sumB [])
   simp only [Tm.sumB] at hs q1
   simp (disch:=omega) only [go_sem,Aa]
   omega
theorem Xl (x:Tm) (h_args:Ug x.args):NL x:=by
 intro hfit left h0 h1
 rw [Tm.d_eq] at hfit
 simp only [D.fits,D.fit] at hfit
 replace h_args:=h_args (by simp only [D.fit,zD]; simp only [zD] at hfit; simp only [hfit,and_self])
 have q:=B8 left x.bulk
 have qb:=Tm.bulk_eq x
 have q0:=B8 (left-(x.name.size:Int)) ((x.args.length+Tm.sumB x.args))
 refine Ae ST Gc (of_decide_eq_true rfl) ?_
 simp (disch:=omega) only [Mg,go_sem,Aa,h_args,H5]
 repeat' (refine D5 (fun hq=>?_) (fun hq=>?_) <;> (first | replace hq:=Av.1 hq | replace hq:=CT.1 hq) <;> (try simp (disch:=omega) only [go_sem,Aa,h_args,H5]))
 all_goals omega
theorem Xm (x:Tm):NL x:=Xl x (Vl x.args fun y hy=>Xm y)
termination_by SizeOf.sizeOf x
decreasing_by exact Tm.Az hy
def Ja:SC:=(.seq (.reg [⟨some 2,none,.boxv 67 3 (.t 0)⟩,⟨some 4,none,.mv (.c (.int .i64 0))⟩]) (.seq (.reg [⟨some 5,none,.faddr 1 (.t 2)⟩,⟨some 6,none,.load true 2 (.t 5)⟩,⟨some 7,none,.mv (.t 1)⟩,⟨some 8,none,.call 71 [(.t 6),(.t 7)]⟩,⟨some 1,none,.mv (.t 8)⟩]) (.seq (.seq (.reg [⟨some 9,none,.mv (.t 1)⟩,⟨some 10,none,.bin .lss false (.t 9) (.c (.int .i64 0))⟩]) (.cond (.t 10) (.seq (.reg [⟨some 4,none,.mv (.c (.int .i64 (-(0+1))))⟩]) .ret) .skip)) (.seq (.reg [⟨some 11,none,.mv (.t 1)⟩,⟨some 4,none,.mv (.t 11)⟩]) .ret))))
theorem OZ:codeOf Tryz.prog 46=some ⟨12,Ja,[(.tmp 4)]⟩:=by kernel_rfl
theorem Jb:modes 46=⟨[],.asis,none,false⟩:=by unfold modes; rfl
def HZ:SC:=(.seq (.reg [⟨some 4,none,.mv (.c (.int .i64 0))⟩]) (.seq (.reg [⟨some 6,none,.mv (.t 1)⟩,⟨some 7,none,.mv (.t 0)⟩,⟨some 8,none,.len false (.t 7)⟩,⟨some 9,none,.bin .sub false (.t 6) (.t 8)⟩,⟨some 1,none,.mv (.t 9)⟩]) (.seq (.seq (.reg [⟨some 10,none,.mv (.t 1)⟩,⟨some 11,none,.bin .lss false (.t 10) (.c (.int .i64 0))⟩]) (.cond (.t 11) (.seq (.reg [⟨some 4,none,.mv (.c (.int .i64 (-(0+1))))⟩]) .ret) .skip)) (.seq (.seq (.reg [⟨some 5,none,.mv (.c (.int .i64 0))⟩]) (.block 0 (.loop [1,1,0,0,0,1,0,0,0,0,0,0,0,0,0,0,0,0,0,0,0,0,0,0,0,0,0] (.seq (.seq (.reg [⟨some 12,none,.mv (.t 5)⟩,⟨some 13,none,.mv (.t 0)⟩,⟨some 14,none,.len false (.t 13)⟩,⟨some 15,none,.bin .lss false (.t 12) (.t 14)⟩]) (.cond (.t 15) .skip (.exit 0))) (.seq (.block 1 (.seq (.reg [⟨some 18,none,.mv (.t 0)⟩,⟨some 19,none,.mv (.t 5)⟩,⟨some 20,none,.iaddr 3 (.t 18) (.t 19)⟩,⟨some 21,none,.load true 3 (.t 20)⟩,⟨some 22,none,.mv (.t 1)⟩,⟨some 23,none,.call 46 [(.t 21),(.t 22)]⟩,⟨some 1,none,.mv (.t 23)⟩]) (.seq (.reg [⟨some 24,none,.mv (.t 1)⟩,⟨some 25,none,.bin .lss false (.t 24) (.c (.int .i64 0))⟩]) (.cond (.t 25) (.seq (.reg [⟨some 4,none,.mv (.c (.int .i64 (-(0+1))))⟩]) .ret) .skip)))) (.reg [⟨some 16,none,.mv (.t 5)⟩,⟨some 17,none,.bin .add false (.t 16) (.c (.int .i64 1))⟩,⟨some 5,none,.mv (.t 17)⟩])))))) (.seq (.reg [⟨some 26,none,.mv (.t 1)⟩,⟨some 4,none,.mv (.t 26)⟩]) .ret)))))
theorem NM:codeOf Tryz.prog 28=some ⟨27,HZ,[(.tmp 4)]⟩:=by kernel_rfl
theorem F4:modes 28=⟨[],.asis,none,false⟩:=by unfold modes; rfl
abbrev KW (x:Lt):Prop:=D.fits x.d→∀ left:Int,0≤left→left≤1048576→E 46 [x.sv,.int .i64 left] []=some (.int .i64 (szR left x.bulk),[])
abbrev NN (xs:List Lt):Prop:=D.fit (.arr (xs.map Lt.d))→∀ left:Int,0≤left→left≤1048576→E 28 [.arr (xs.map Lt.d),.int .i64 left] []=some (.int .i64 (szR left (xs.length+Lt.sumB xs:Nat)),[])
theorem PS (xs:List Lt) (h:∀ x∈xs,KW x):NN xs:=by
 intro hfit left h0 h1
 simp only [D.fit,zD] at hfit
 have q0:=B8 left (xs.length+Lt.sumB xs)
 refine Ae NM F4 (of_decide_eq_true rfl) ?_
 simp (disch:=omega) only [HZ,go_sem,Aa]
 repeat' (refine D5 (fun hq=>?_) (fun hq=>?_) <;> (first | replace hq:=Av.1 hq | replace hq:=CT.1 hq) <;> (try simp (disch:=omega) only [go_sem,Aa]))
 ·omega
 refine go_loop (α:=Int × Int) (fun a=>⟨slots 27 0 [(0,.arr (xs.map Lt.d)),(1,.int .i64 a.2),(5,.int .i64 a.1)],[]⟩) (fun a=>∃ k:Nat,a.1=k∧k≤xs.length∧0≤a.2∧a.2≤1048576∧szR a.2 (Lt.sumB (xs.drop k))=szR left (xs.length+Lt.sumB xs:Nat)) (fun a=>xs.length-a.1.toNat) (0,left-xs.length) ⟨0,rfl,zF _,by omega,by omega,?_⟩ (by simp (disch:=omega) only [go_sem,Aa]) ?_
 ·have q1:=B8 (left-xs.length) (Lt.sumB xs)
  rw [zJ]
  dsimp only
  omega
 ·rintro ⟨i,l⟩ ⟨k,hi,hk,hl0,hl1,hs⟩
  dsimp only at hi hl0 hl1 hs
  rcases zB k xs.length with hlt | hge
  ·have hg:=get_at Lt.d hlt
   rw [Lt.d_eq] at hg
   have hd:Lt.sumB (xs.drop k)=xs[k].bulk+Lt.sumB (xs.drop (k+1)):=by rw [zE hlt,Lt.sumB]
   rw [hd] at hs
   have hc:=h xs[k] (zC hlt) (D.OH hfit.2 _ (zC hlt)) l hl0 hl1
   have q1:=B8 l xs[k].bulk
   have q2:=B8 l (xs[k].bulk+Lt.sumB (xs.drop (k+1)))
   have q3:=B8 (l-xs[k].bulk) (Lt.sumB (xs.drop (k+1)))
   have hn:i.toNat=k:=by omega
   simp (disch:=omega) only [go_sem,Aa,hn,hg,hc,Jb]
   repeat' (refine D5 (fun hq=>?_) (fun hq=>?_) <;> (first | replace hq:=Av.1 hq | replace hq:=CT.1 hq) <;> (try simp (disch:=omega) only [go_sem,Aa]))
   ·omega
   ·refine ⟨(i+1,l-xs[k].bulk),⟨k+1,by dsimp only; omega,hlt,by dsimp only; omega,by dsimp only; omega,by dsimp only; omega⟩,by dsimp only; omega,?_⟩
    have e:szR l xs[k].bulk=l-xs[k].bulk:=by omega
    simp only [e,and_self]
  ·have hd:xs.drop k=[]:=zH hge
   rw [hd] at hs
   have q1:=B8 l (Lt.sumB [])
   simp only [Lt.sumB] at hs q1
   simp (disch:=omega) only [go_sem,Aa]
   omega
theorem Sf (x:Lt) (h_atom:NL x.atom):KW x:=by
 intro hfit left h0 h1
 rw [Lt.d_eq] at hfit
 simp only [D.fits,D.fit] at hfit
 replace h_atom:=h_atom (by rw [Tm.d_eq]; simp only [D.fits,D.fit,hfit,and_self])
 have q:=B8 left x.bulk
 have qb:=Lt.bulk_eq x
 have q0:=B8 left (x.atom.bulk)
 refine Ae OZ Jb (of_decide_eq_true rfl) ?_
 simp (disch:=omega) only [Ja,go_sem,Aa,h_atom,Gc]
 repeat' (refine D5 (fun hq=>?_) (fun hq=>?_) <;> (first | replace hq:=Av.1 hq | replace hq:=CT.1 hq) <;> (try simp (disch:=omega) only [go_sem,Aa,h_atom,Gc]))
 all_goals omega
theorem Xn (x:Lt):KW x:=Sf x (Xm x.atom)
def JX:SC:=(.seq (.reg [⟨some 2,none,.boxv 24 1 (.t 0)⟩,⟨some 4,none,.mv (.c (.int .i64 0))⟩]) (.seq (.reg [⟨some 5,none,.faddr 0 (.t 2)⟩,⟨some 6,none,.load false 1 (.t 5)⟩,⟨some 7,none,.mv (.t 1)⟩,⟨some 8,none,.call 28 [(.t 6),(.t 7)]⟩,⟨some 1,none,.mv (.t 8)⟩]) (.seq (.seq (.reg [⟨some 9,none,.mv (.t 1)⟩,⟨some 10,none,.bin .lss false (.t 9) (.c (.int .i64 0))⟩]) (.cond (.t 10) (.seq (.reg [⟨some 4,none,.mv (.c (.int .i64 (-(0+1))))⟩]) .ret) .skip)) (.seq (.reg [⟨some 11,none,.mv (.t 1)⟩,⟨some 4,none,.mv (.t 11)⟩]) .ret))))
theorem PT:codeOf Tryz.prog 8=some ⟨12,JX,[(.tmp 4)]⟩:=by kernel_rfl
theorem Cd:modes 8=⟨[],.asis,none,false⟩:=by unfold modes; rfl
abbrev Sg (x:Cl):Prop:=D.fits x.d→∀ left:Int,0≤left→left≤1048576→E 8 [x.sv,.int .i64 left] []=some (.int .i64 (szR left x.bulk),[])
theorem SU (x:Cl) (h_lits:NN x.lits):Sg x:=by
 intro hfit left h0 h1
 rw [Cl.d_eq] at hfit
 simp only [D.fits,D.fit] at hfit
 replace h_lits:=h_lits (by simp only [D.fit,zD]; simp only [zD] at hfit; simp only [hfit,and_self])
 have q:=B8 left x.bulk
 have qb:=Cl.bulk_eq x
 have q0:=B8 left ((x.lits.length+Lt.sumB x.lits))
 refine Ae PT Cd (of_decide_eq_true rfl) ?_
 simp (disch:=omega) only [JX,go_sem,Aa,h_lits,F4]
 repeat' (refine D5 (fun hq=>?_) (fun hq=>?_) <;> (first | replace hq:=Av.1 hq | replace hq:=CT.1 hq) <;> (try simp (disch:=omega) only [go_sem,Aa,h_lits,F4]))
 all_goals omega
theorem MJ (x:Cl):Sg x:=SU x (PS x.lits fun y hy=>Xn y)
def Mh:SC:=(.seq (.reg [⟨some 1,none,.boxv 65 2 (.t 0)⟩,⟨(some 2),none,(.alloc 71 [(.str ⟨#[]⟩),.nil])⟩]) (.seq (.reg [⟨(some 3),none,(.alloc 71 [(.str ⟨#[]⟩),.nil])⟩]) (.seq (.reg [⟨some 4,none,.faddr 0 (.t 1)⟩,⟨some 5,none,.load false 1 (.t 4)⟩,⟨some 6,none,.faddr 0 (.t 3)⟩,⟨none,none,(.store 1 (.t 6) (.t 5))⟩]) (.seq (.reg [⟨some 7,none,.faddr 1 (.t 1)⟩,⟨some 8,none,.load false 1 (.t 7)⟩,⟨some 9,none,.call 118 [(.t 8)]⟩,⟨some 10,none,.faddr 1 (.t 3)⟩,⟨none,none,(.store 1 (.t 10) (.t 9))⟩]) (.seq (.reg [⟨some 11,none,.load true 2 (.t 3)⟩,⟨none,none,(.store 2 (.t 2) (.t 11))⟩]) .ret)))))
theorem SW:codeOf Tryz.prog 81=some ⟨12,Mh,[(.cell 2 true 2)]⟩:=by kernel_rfl
theorem I8:modes 81=⟨[],.asis,none,false⟩:=by unfold modes; rfl
def KX:SC:=(.seq (.reg [⟨some 2,none,.mv (.c .nil)⟩]) (.seq (.reg [⟨some 5,none,.mv (.t 0)⟩,⟨some 6,none,.len false (.t 5)⟩,⟨(some 7),none,(.mkslice 71 2 40 [(.str ⟨#[]⟩),.nil] (.t 6))⟩,⟨some 3,none,.mv (.t 7)⟩]) (.seq (.seq (.reg [⟨some 4,none,.mv (.c (.int .i64 0))⟩]) (.block 0 (.loop [1,0,0,1,1,0,0,0,0,0,0,0,0,0,0,0,0,0,0,0,0,0,0] (.seq (.seq (.reg [⟨some 8,none,.mv (.t 4)⟩,⟨some 9,none,.mv (.t 0)⟩,⟨some 10,none,.len false (.t 9)⟩,⟨some 11,none,.bin .lss false (.t 8) (.t 10)⟩]) (.cond (.t 11) .skip (.exit 0))) (.seq (.block 1 (.reg [⟨some 14,none,.mv (.t 3)⟩,⟨some 15,none,.mv (.t 4)⟩,⟨some 16,none,.mv (.t 0)⟩,⟨some 17,none,.mv (.t 4)⟩,⟨some 18,none,.iaddr 2 (.t 16) (.t 17)⟩,⟨some 19,none,.load true 2 (.t 18)⟩,⟨some 20,none,.call 81 [(.t 19)]⟩,⟨some 21,none,.iaddr 2 (.t 14) (.t 15)⟩,⟨none,none,(.store 2 (.t 21) (.t 20))⟩])) (.reg [⟨some 12,none,.mv (.t 4)⟩,⟨some 13,none,.bin .add false (.t 12) (.c (.int .i64 1))⟩,⟨some 4,none,.mv (.t 13)⟩])))))) (.seq (.reg [⟨some 22,none,.mv (.t 3)⟩,⟨some 2,none,.mv (.t 22)⟩]) .ret))))
theorem Sh:codeOf Tryz.prog 118=some ⟨23,KX,[(.tmp 2)]⟩:=by kernel_rfl
theorem KY:modes 118=⟨[],.asis,none,false⟩:=by unfold modes; rfl
abbrev NO (x:Tm):Prop:=x.bulk≤1048576→E 81 [x.sv] []=some (x.osv,x.obs)
abbrev Uh (xs:List Tm):Prop:=xs.length+Tm.sumB xs≤1048576→E 118 [.arr (xs.map Tm.d)] []=some (.ref 0,[.row 71 2 (xs.map Tm.o)])
theorem Vm (xs:List Tm) (h:∀ x∈xs,NO x):Uh xs:=by
 intro hb
 refine Ae Sh KY (of_decide_eq_true rfl) ?_
 simp (disch:=omega) only [KX,go_sem,Aa]
 refine go_loop (α:=Int) (fun i=>⟨slots 23 0 [(0,.arr (xs.map Tm.d)),(3,.ref 0),(4,.int .i64 i)],[.row 71 2 (Gm Tm.o [.str ⟨#[]⟩,.ow []] xs i.toNat)]⟩) (fun i=>∃ k:Nat,i=k∧k≤xs.length) (fun i=>xs.length-i.toNat) 0 ⟨0,rfl,zF _⟩ (by simp (disch:=omega) only [go_sem,Aa,J1,yA]) ?_
 ·rintro i ⟨k,rfl,hk⟩
  obtain ⟨i,hi⟩:∃ i:Int,i=(k:Int):=⟨_,rfl⟩
  rw [←hi]
  have hn:i.toNat=k:=by omega
  have hn1:(i+1).toNat=k+1:=by omega
  rcases zB k xs.length with hlt | hge
  ·have hg:=get_at Tm.d hlt
   rw [Tm.d_eq] at hg
   have hz:=L6 Tm.o [.str ⟨#[]⟩,.ow []] hlt
   have hle:=Tm.bulk_le xs k hlt
   have hc:=h xs[k] (zC hlt) (by omega)
   have hs:=L7 Tm.o [.str ⟨#[]⟩,.ow []] hlt
   rw [Tm.o_eq] at hs
   simp (disch:=omega) only [go_sem,Aa,hn,hg,hc,hz,L4,I8,Tm.osv,Tm.obs]
   refine ⟨i+1,⟨k+1,by omega,hlt⟩,by omega,?_⟩
   simp (disch:=omega) only [go_sem,Aa,hn1,hs]
  ·obtain rfl:k=xs.length:=by omega
   simp (disch:=omega) only [go_sem,Aa,hn,L5]
theorem Xo (x:Tm) (h_args:Uh x.args):NO x:=by
 intro hb
 have qb:=Tm.bulk_eq x
 replace h_args:=h_args (by omega)
 refine Ae SW I8 (of_decide_eq_true rfl) ?_
 simp (disch:=omega) only [Mh,go_sem,Aa,h_args,KY]
theorem Xp (x:Tm):NO x:=Xo x (Vm x.args fun y hy=>Xp y)
termination_by SizeOf.sizeOf x
decreasing_by exact Tm.Az hy
def Jc:SC:=(.seq (.reg [⟨some 1,none,.boxv 67 3 (.t 0)⟩,⟨(some 2),none,(.alloc 73 [(.bool false),(.str ⟨#[]⟩),.nil])⟩]) (.seq (.reg [⟨(some 3),none,(.alloc 73 [(.bool false),(.str ⟨#[]⟩),.nil])⟩]) (.seq (.reg [⟨some 4,none,.faddr 0 (.t 1)⟩,⟨some 5,none,.load false 1 (.t 4)⟩,⟨some 6,none,.faddr 0 (.t 3)⟩,⟨none,none,(.store 1 (.t 6) (.t 5))⟩]) (.seq (.reg [⟨some 7,none,.faddr 1 (.t 1)⟩,⟨some 8,none,.load true 2 (.t 7)⟩,⟨some 9,none,.call 81 [(.t 8)]⟩,⟨some 10,none,.faddr 1 (.t 3)⟩,⟨none,none,(.store 2 (.t 10) (.t 9))⟩]) (.seq (.reg [⟨some 11,none,.load true 3 (.t 3)⟩,⟨none,none,(.store 3 (.t 2) (.t 11))⟩]) .ret)))))
theorem Pa:codeOf Tryz.prog 53=some ⟨12,Jc,[(.cell 2 true 3)]⟩:=by kernel_rfl
theorem Jd:modes 53=⟨[],.asis,none,false⟩:=by unfold modes; rfl
def Ia:SC:=(.seq (.reg [⟨some 2,none,.mv (.c .nil)⟩]) (.seq (.reg [⟨some 5,none,.mv (.t 0)⟩,⟨some 6,none,.len false (.t 5)⟩,⟨(some 7),none,(.mkslice 73 3 48 [(.bool false),(.str ⟨#[]⟩),.nil] (.t 6))⟩,⟨some 3,none,.mv (.t 7)⟩]) (.seq (.seq (.reg [⟨some 4,none,.mv (.c (.int .i64 0))⟩]) (.block 0 (.loop [1,0,0,1,1,0,0,0,0,0,0,0,0,0,0,0,0,0,0,0,0,0,0] (.seq (.seq (.reg [⟨some 8,none,.mv (.t 4)⟩,⟨some 9,none,.mv (.t 0)⟩,⟨some 10,none,.len false (.t 9)⟩,⟨some 11,none,.bin .lss false (.t 8) (.t 10)⟩]) (.cond (.t 11) .skip (.exit 0))) (.seq (.block 1 (.reg [⟨some 14,none,.mv (.t 3)⟩,⟨some 15,none,.mv (.t 4)⟩,⟨some 16,none,.mv (.t 0)⟩,⟨some 17,none,.mv (.t 4)⟩,⟨some 18,none,.iaddr 3 (.t 16) (.t 17)⟩,⟨some 19,none,.load true 3 (.t 18)⟩,⟨some 20,none,.call 53 [(.t 19)]⟩,⟨some 21,none,.iaddr 3 (.t 14) (.t 15)⟩,⟨none,none,(.store 3 (.t 21) (.t 20))⟩])) (.reg [⟨some 12,none,.mv (.t 4)⟩,⟨some 13,none,.bin .add false (.t 12) (.c (.int .i64 1))⟩,⟨some 4,none,.mv (.t 13)⟩])))))) (.seq (.reg [⟨some 22,none,.mv (.t 3)⟩,⟨some 2,none,.mv (.t 22)⟩]) .ret))))
theorem NP:codeOf Tryz.prog 31=some ⟨23,Ia,[(.tmp 2)]⟩:=by kernel_rfl
theorem Ib:modes 31=⟨[],.asis,none,false⟩:=by unfold modes; rfl
abbrev KZ (x:Lt):Prop:=x.bulk≤1048576→E 53 [x.sv] []=some (x.osv,x.obs)
abbrev NQ (xs:List Lt):Prop:=xs.length+Lt.sumB xs≤1048576→E 31 [.arr (xs.map Lt.d)] []=some (.ref 0,[.row 73 3 (xs.map Lt.o)])
theorem PU (xs:List Lt) (h:∀ x∈xs,KZ x):NQ xs:=by
 intro hb
 refine Ae NP Ib (of_decide_eq_true rfl) ?_
 simp (disch:=omega) only [Ia,go_sem,Aa]
 refine go_loop (α:=Int) (fun i=>⟨slots 23 0 [(0,.arr (xs.map Lt.d)),(3,.ref 0),(4,.int .i64 i)],[.row 73 3 (Gm Lt.o [.bool false,.str ⟨#[]⟩,.ow []] xs i.toNat)]⟩) (fun i=>∃ k:Nat,i=k∧k≤xs.length) (fun i=>xs.length-i.toNat) 0 ⟨0,rfl,zF _⟩ (by simp (disch:=omega) only [go_sem,Aa,J1,yA]) ?_
 ·rintro i ⟨k,rfl,hk⟩
  obtain ⟨i,hi⟩:∃ i:Int,i=(k:Int):=⟨_,rfl⟩
  rw [←hi]
  have hn:i.toNat=k:=by omega
  have hn1:(i+1).toNat=k+1:=by omega
  rcases zB k xs.length with hlt | hge
  ·have hg:=get_at Lt.d hlt
   rw [Lt.d_eq] at hg
   have hz:=L6 Lt.o [.bool false,.str ⟨#[]⟩,.ow []] hlt
   have hle:=Lt.bulk_le xs k hlt
   have hc:=h xs[k] (zC hlt) (by omega)
   have hs:=L7 Lt.o [.bool false,.str ⟨#[]⟩,.ow []] hlt
   rw [Lt.o_eq] at hs
   simp (disch:=omega) only [go_sem,Aa,hn,hg,hc,hz,L4,Jd,Lt.osv,Lt.obs]
   refine ⟨i+1,⟨k+1,by omega,hlt⟩,by omega,?_⟩
   simp (disch:=omega) only [go_sem,Aa,hn1,hs]
  ·obtain rfl:k=xs.length:=by omega
   simp (disch:=omega) only [go_sem,Aa,hn,L5]
theorem Si (x:Lt) (h_atom:NO x.atom):KZ x:=by
 intro hb
 have qb:=Lt.bulk_eq x
 replace h_atom:=h_atom (by omega)
 refine Ae Pa Jd (of_decide_eq_true rfl) ?_
 simp (disch:=omega) only [Jc,go_sem,Aa,h_atom,I8]
theorem Xq (x:Lt):KZ x:=Si x (Xp x.atom)
def JY:SC:=(.seq (.reg [⟨some 1,none,.boxv 24 1 (.t 0)⟩,⟨some 2,none,.alloc 28 [.nil]⟩]) (.seq (.reg [⟨some 3,none,.alloc 28 [.nil]⟩]) (.seq (.reg [⟨some 4,none,.faddr 0 (.t 1)⟩,⟨some 5,none,.load false 1 (.t 4)⟩,⟨some 6,none,.call 31 [(.t 5)]⟩,⟨some 7,none,.faddr 0 (.t 3)⟩,⟨none,none,(.store 1 (.t 7) (.t 6))⟩]) (.seq (.reg [⟨some 8,none,.load true 1 (.t 3)⟩,⟨none,none,(.store 1 (.t 2) (.t 8))⟩]) .ret))))
theorem PV:codeOf Tryz.prog 10=some ⟨9,JY,[(.cell 2 true 1)]⟩:=by kernel_rfl
theorem DO:modes 10=⟨[],.asis,none,false⟩:=by unfold modes; rfl
abbrev Sj (x:Cl):Prop:=x.bulk≤1048576→E 10 [x.sv] []=some (x.osv,x.obs)
theorem SY (x:Cl) (h_lits:NQ x.lits):Sj x:=by
 intro hb
 have qb:=Cl.bulk_eq x
 replace h_lits:=h_lits (by omega)
 refine Ae PV DO (of_decide_eq_true rfl) ?_
 simp (disch:=omega) only [JY,go_sem,Aa,h_lits,Ib]
theorem ML (x:Cl):Sj x:=SY x (PU x.lits fun y hy=>Xq y)
def Mi:SC:=(.seq (.reg [⟨some 2,none,.boxv 71 2 (.t 0)⟩,⟨some 3,none,.boxv 71 2 (.t 1)⟩,⟨some 4,none,.mv (.c (.bool false))⟩]) (.seq (.seq (.reg [⟨some 5,none,.faddr 0 (.t 2)⟩,⟨some 6,none,.load false 1 (.t 5)⟩,⟨some 7,none,.faddr 0 (.t 3)⟩,⟨some 8,none,.load false 1 (.t 7)⟩,⟨some 9,none,.bin .neq false (.t 6) (.t 8)⟩]) (.cond (.t 9) (.seq (.reg [⟨some 4,none,.mv (.c (.bool false))⟩]) .ret) .skip)) (.seq (.seq (.reg [⟨some 10,none,.faddr 1 (.t 2)⟩,⟨some 11,none,.load false 1 (.t 10)⟩,⟨some 12,none,.faddr 1 (.t 3)⟩,⟨some 13,none,.load false 1 (.t 12)⟩,⟨some 14,none,.call 141 [(.t 11),(.t 13)]⟩,⟨some 15,none,.un .not (.t 14)⟩]) (.cond (.t 15) (.seq (.reg [⟨some 4,none,.mv (.c (.bool false))⟩]) .ret) .skip)) (.seq (.reg [⟨some 4,none,.mv (.c (.bool true))⟩]) .ret))))
theorem SZ:codeOf Tryz.prog 96=some ⟨16,Mi,[(.tmp 4)]⟩:=by kernel_rfl
theorem I9:modes 96=⟨[],.asis,none,false⟩:=by unfold modes; rfl
def La:SC:=(.seq (.reg [⟨some 4,none,.mv (.c (.bool false))⟩]) (.seq (.seq (.reg [⟨some 6,none,.mv (.t 0)⟩,⟨some 7,none,.len false (.t 6)⟩,⟨some 8,none,.mv (.t 1)⟩,⟨some 9,none,.len false (.t 8)⟩,⟨some 10,none,.bin .neq false (.t 7) (.t 9)⟩]) (.cond (.t 10) (.seq (.reg [⟨some 4,none,.mv (.c (.bool false))⟩]) .ret) .skip)) (.seq (.seq (.reg [⟨some 5,none,.mv (.c (.int .i64 0))⟩]) (.block 0 (.loop [1,1,0,0,0,1,0,0,0,0,0,0,0,0,0,0,0,0,0,0,0,0,0,0,0,0,0] (.seq (.seq (.reg [⟨some 11,none,.mv (.t 5)⟩,⟨some 12,none,.mv (.t 0)⟩,⟨some 13,none,.len false (.t 12)⟩,⟨some 14,none,.bin .lss false (.t 11) (.t 13)⟩]) (.cond (.t 14) .skip (.exit 0))) (.seq (.block 1 (.seq (.dreg [[],[],[0,1],[2,0,1],[],[],[4,5],[6,4,5],[3,2,0,1,7,6,4,5],[8,3,2,0,1,7,6,4,5]] [⟨some 17,none,.mv (.t 0)⟩,⟨some 18,none,.mv (.t 5)⟩,⟨some 19,none,.iaddr 2 (.t 17) (.t 18)⟩,⟨some 20,none,.load true 2 (.t 19)⟩,⟨some 21,none,.mv (.t 1)⟩,⟨some 22,none,.mv (.t 5)⟩,⟨some 23,none,.iaddr 2 (.t 21) (.t 22)⟩,⟨some 24,none,.load true 2 (.t 23)⟩,⟨some 25,none,.call 96 [(.t 20),(.t 24)]⟩,⟨some 26,none,.un .not (.t 25)⟩]) (.cond (.t 26) (.seq (.reg [⟨some 4,none,.mv (.c (.bool false))⟩]) .ret) .skip))) (.reg [⟨some 15,none,.mv (.t 5)⟩,⟨some 16,none,.bin .add false (.t 15) (.c (.int .i64 1))⟩,⟨some 5,none,.mv (.t 16)⟩])))))) (.seq (.reg [⟨some 4,none,.mv (.c (.bool true))⟩]) .ret))))
theorem Sk:codeOf Tryz.prog 141=some ⟨27,La,[(.tmp 4)]⟩:=by kernel_rfl
theorem Lb:modes 141=⟨[],.asis,none,false⟩:=by unfold modes; rfl
abbrev NR (x:Tm):Prop:=x.bulk≤1048576→E 96 [x.sv,x.sv] []=some (.bool true,[])
abbrev Ui (xs:List Tm):Prop:=xs.length+Tm.sumB xs≤1048576→E 141 [.arr (xs.map Tm.d),.arr (xs.map Tm.d)] []=some (.bool true,[])
theorem Vn (xs:List Tm) (h:∀ x∈xs,NR x):Ui xs:=by
 intro hb
 refine Ae Sk Lb (of_decide_eq_true rfl) ?_
 simp (disch:=omega) only [La,go_sem,Aa]
 refine go_loop (α:=Int) (fun i=>⟨slots 27 0 [(0,.arr (xs.map Tm.d)),(1,.arr (xs.map Tm.d)),(5,.int .i64 i)],[]⟩) (fun i=>∃ k:Nat,i=k∧k≤xs.length) (fun i=>xs.length-i.toNat) 0 ⟨0,rfl,zF _⟩ (by simp (disch:=omega) only [go_sem,Aa]) ?_
 ·rintro i ⟨k,rfl,hk⟩
  obtain ⟨i,hi⟩:∃ i:Int,i=(k:Int):=⟨_,rfl⟩
  rw [←hi]
  have hn:i.toNat=k:=by omega
  rcases zB k xs.length with hlt | hge
  ·have hg:=get_at Tm.d hlt
   rw [Tm.d_eq] at hg
   have hle:=Tm.bulk_le xs k hlt
   have hc:=h xs[k] (zC hlt) (by omega)
   simp (disch:=omega) only [go_sem,Aa,hn,hg,hc,I9]
   refine ⟨i+1,⟨k+1,by omega,hlt⟩,by omega,?_⟩
   trivial
  ·obtain rfl:k=xs.length:=by omega
   simp (disch:=omega) only [go_sem,Aa,hn]
theorem Xr (x:Tm) (h_args:Ui x.args):NR x:=by
 intro hb
 have qb:=Tm.bulk_eq x
 replace h_args:=h_args (by omega)
 refine Ae SZ I9 (of_decide_eq_true rfl) ?_
 simp (disch:=omega) only [Mi,go_sem,Aa,h_args,Lb,EH]
theorem Xs (x:Tm):NR x:=Xr x (Vn x.args fun y hy=>Xs y)
termination_by SizeOf.sizeOf x
decreasing_by exact Tm.Az hy
def Je:SC:=(.seq (.reg [⟨some 2,none,.boxv 73 3 (.t 0)⟩,⟨some 3,none,.boxv 73 3 (.t 1)⟩,⟨some 4,none,.mv (.c (.bool false))⟩]) (.seq (.seq (.reg [⟨some 5,none,.faddr 0 (.t 2)⟩,⟨some 6,none,.load false 1 (.t 5)⟩,⟨some 7,none,.faddr 0 (.t 3)⟩,⟨some 8,none,.load false 1 (.t 7)⟩,⟨some 9,none,.bin .neq true (.t 6) (.t 8)⟩]) (.cond (.t 9) (.seq (.reg [⟨some 4,none,.mv (.c (.bool false))⟩]) .ret) .skip)) (.seq (.seq (.reg [⟨some 10,none,.faddr 1 (.t 2)⟩,⟨some 11,none,.load true 2 (.t 10)⟩,⟨some 12,none,.faddr 1 (.t 3)⟩,⟨some 13,none,.load true 2 (.t 12)⟩,⟨some 14,none,.call 96 [(.t 11),(.t 13)]⟩,⟨some 15,none,.un .not (.t 14)⟩]) (.cond (.t 15) (.seq (.reg [⟨some 4,none,.mv (.c (.bool false))⟩]) .ret) .skip)) (.seq (.reg [⟨some 4,none,.mv (.c (.bool true))⟩]) .ret))))
theorem Pb:codeOf Tryz.prog 60=some ⟨16,Je,[(.tmp 4)]⟩:=by kernel_rfl
theorem Jf:modes 60=⟨[],.asis,none,false⟩:=by unfold modes; rfl
def Ic:SC:=(.seq (.reg [⟨some 4,none,.mv (.c (.bool false))⟩]) (.seq (.seq (.reg [⟨some 6,none,.mv (.t 0)⟩,⟨some 7,none,.len false (.t 6)⟩,⟨some 8,none,.mv (.t 1)⟩,⟨some 9,none,.len false (.t 8)⟩,⟨some 10,none,.bin .neq false (.t 7) (.t 9)⟩]) (.cond (.t 10) (.seq (.reg [⟨some 4,none,.mv (.c (.bool false))⟩]) .ret) .skip)) (.seq (.seq (.reg [⟨some 5,none,.mv (.c (.int .i64 0))⟩]) (.block 0 (.loop [1,1,0,0,0,1,0,0,0,0,0,0,0,0,0,0,0,0,0,0,0,0,0,0,0,0,0] (.seq (.seq (.reg [⟨some 11,none,.mv (.t 5)⟩,⟨some 12,none,.mv (.t 0)⟩,⟨some 13,none,.len false (.t 12)⟩,⟨some 14,none,.bin .lss false (.t 11) (.t 13)⟩]) (.cond (.t 14) .skip (.exit 0))) (.seq (.block 1 (.seq (.dreg [[],[],[0,1],[2,0,1],[],[],[4,5],[6,4,5],[3,2,0,1,7,6,4,5],[8,3,2,0,1,7,6,4,5]] [⟨some 17,none,.mv (.t 0)⟩,⟨some 18,none,.mv (.t 5)⟩,⟨some 19,none,.iaddr 3 (.t 17) (.t 18)⟩,⟨some 20,none,.load true 3 (.t 19)⟩,⟨some 21,none,.mv (.t 1)⟩,⟨some 22,none,.mv (.t 5)⟩,⟨some 23,none,.iaddr 3 (.t 21) (.t 22)⟩,⟨some 24,none,.load true 3 (.t 23)⟩,⟨some 25,none,.call 60 [(.t 20),(.t 24)]⟩,⟨some 26,none,.un .not (.t 25)⟩]) (.cond (.t 26) (.seq (.reg [⟨some 4,none,.mv (.c (.bool false))⟩]) .ret) .skip))) (.reg [⟨some 15,none,.mv (.t 5)⟩,⟨some 16,none,.bin .add false (.t 15) (.c (.int .i64 1))⟩,⟨some 5,none,.mv (.t 16)⟩])))))) (.seq (.reg [⟨some 4,none,.mv (.c (.bool true))⟩]) .ret))))
theorem NS:codeOf Tryz.prog 34=some ⟨27,Ic,[(.tmp 4)]⟩:=by kernel_rfl
theorem Id:modes 34=⟨[],.asis,none,false⟩:=by unfold modes; rfl
abbrev Lc (x:Lt):Prop:=x.bulk≤1048576→E 60 [x.sv,x.sv] []=some (.bool true,[])
abbrev NT (xs:List Lt):Prop:=xs.length+Lt.sumB xs≤1048576→E 34 [.arr (xs.map Lt.d),.arr (xs.map Lt.d)] []=some (.bool true,[])
theorem PW (xs:List Lt) (h:∀ x∈xs,Lc x):NT xs:=by
 intro hb
 refine Ae NS Id (of_decide_eq_true rfl) ?_
 simp (disch:=omega) only [Ic,go_sem,Aa]
 refine go_loop (α:=Int) (fun i=>⟨slots 27 0 [(0,.arr (xs.map Lt.d)),(1,.arr (xs.map Lt.d)),(5,.int .i64 i)],[]⟩) (fun i=>∃ k:Nat,i=k∧k≤xs.length) (fun i=>xs.length-i.toNat) 0 ⟨0,rfl,zF _⟩ (by simp (disch:=omega) only [go_sem,Aa]) ?_
 ·rintro i ⟨k,rfl,hk⟩
  obtain ⟨i,hi⟩:∃ i:Int,i=(k:Int):=⟨_,rfl⟩
  rw [←hi]
  have hn:i.toNat=k:=by omega
  rcases zB k xs.length with hlt | hge
  ·have hg:=get_at Lt.d hlt
   rw [Lt.d_eq] at hg
   have hle:=Lt.bulk_le xs k hlt
   have hc:=h xs[k] (zC hlt) (by omega)
   simp (disch:=omega) only [go_sem,Aa,hn,hg,hc,Jf]
   refine ⟨i+1,⟨k+1,by omega,hlt⟩,by omega,?_⟩
   trivial
  ·obtain rfl:k=xs.length:=by omega
   simp (disch:=omega) only [go_sem,Aa,hn]
theorem Sl (x:Lt) (h_atom:NR x.atom):Lc x:=by
 intro hb
 have qb:=Lt.bulk_eq x
 replace h_atom:=h_atom (by omega)
 refine Ae Pb Jf (of_decide_eq_true rfl) ?_
 simp (disch:=omega) only [Je,go_sem,Aa,h_atom,I9,EH]
theorem Xt (x:Lt):Lc x:=Sl x (Xs x.atom)
def JZ:SC:=(.seq (.reg [⟨some 2,none,.boxv 28 1 (.t 0)⟩,⟨some 3,none,.boxv 28 1 (.t 1)⟩,⟨some 4,none,.mv (.c (.bool false))⟩]) (.seq (.seq (.reg [⟨some 5,none,.faddr 0 (.t 2)⟩,⟨some 6,none,.load false 1 (.t 5)⟩,⟨some 7,none,.faddr 0 (.t 3)⟩,⟨some 8,none,.load false 1 (.t 7)⟩,⟨some 9,none,.call 34 [(.t 6),(.t 8)]⟩,⟨some 10,none,.un .not (.t 9)⟩]) (.cond (.t 10) (.seq (.reg [⟨some 4,none,.mv (.c (.bool false))⟩]) .ret) .skip)) (.seq (.reg [⟨some 4,none,.mv (.c (.bool true))⟩]) .ret)))
theorem PX:codeOf Tryz.prog 12=some ⟨11,JZ,[(.tmp 4)]⟩:=by kernel_rfl
theorem DP:modes 12=⟨[],.asis,none,false⟩:=by unfold modes; rfl
abbrev Sm (x:Cl):Prop:=x.bulk≤1048576→E 12 [x.sv,x.sv] []=some (.bool true,[])
theorem Ta (x:Cl) (h_lits:NT x.lits):Sm x:=by
 intro hb
 have qb:=Cl.bulk_eq x
 replace h_lits:=h_lits (by omega)
 refine Ae PX DP (of_decide_eq_true rfl) ?_
 simp (disch:=omega) only [JZ,go_sem,Aa,h_lits,Id,EH]
theorem MM (x:Cl):Sm x:=Ta x (PW x.lits fun y hy=>Xt y)
end Go.Proofs.YtibdknkacmimgaaGreatDoor
