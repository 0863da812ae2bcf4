/-
  This text holds, one behind the other: This text tells what the comparison of literals answers, as a function that takes no draw back. No condition.
  This text tells what the equality of terms answers in both packages. No condition.
  This text tells what copies of terms answer in both packages. No condition.
  This text holds a rule for runs of which a part of the answer is left open. No condition.
  This text tells what the reference's copies of terms answer. No condition.
  This text tells what making a clause of a list of literals answers in both packages: the list in order, without repeats. No condition.
  This text tells what the reference's making of a clause answers. No condition.
  This text holds plain laws of the order of names. No condition.
  This text tells what the validity of substitutions answers in both packages, and the place of a binding. No condition.
  This text tells what the search for a binding answers. No condition.
  This text holds the plain laws of applying a substitution to a term. No condition.
  This text tells what applying a substitution answers in both packages. No condition.
  This text holds plain laws of expressions and of the sizes of terms. No condition.
  This text tells what ApplySubstitution answers in both packages. No condition.
  This text holds plain laws of atoms. No condition.
  This text tells what applying a substitution to a clause answers in both packages. No condition.
  This text holds a plain law of atoms. No condition.
  This text tells what the variables of a term answer in both packages. No condition.
  This text tells what the variables of a clause answer. No condition.
  This text tells what the reference's application of a substitution to a clause answers, and ApplyToClause of both packages. No condition.
  This text holds plain laws of renaming variables: maps from names to names, fresh names. No condition.
  This text holds plain laws of numerals: no two numbers have the same; numbered names, the next one that is not taken. No condition.
  This text holds plain laws of renaming the variables of clauses. No condition.
  This text tells what renaming a term by a map and printing a number answer. No condition.
  This text tells what copying, renaming and normalizing a clause answer in the program. No condition.
  This text tells what renaming and normalizing a clause answer in the program. No condition.
  This text tells what renaming a clause apart, and literals left out and joined, answer in the program. No condition.
  This text holds the plain laws of composing substitutions. No condition.
  This text tells what the laws' marks answer. No condition.
  This text tells what the laws read of the marks. No condition.
  This text tells what the laws' marks of a record answer. No condition.
  This text tells what the laws' measuring functions answer. No condition.
  This text tells what the laws' copying functions answer. No condition.
-/
import Derived.Test.YtibdknkacmimgaaGreatDoorK46c
set_option maxHeartbeats 16000000
set_option maxRecDepth 100000
set_option linter.unusedSimpArgs false
set_option linter.unusedVariables false
set_option linter.unusedSectionVars false
namespace Go.Proofs.YtibdknkacmimgaaGreatDoor
open Go.RowKit
namespace Wd
attribute [local go_sem] Fn SN SV.isNil Ob.idsB SV.idsB SV.M0 List.getElem?_cons_zero List.getElem?_cons_succ OT.AS OT.Dm OT.full entry Cd VH SU VG Gk GA EO YZ PJ Xu OT.erss OT.ers OT.er OT.Cy OT.EK OT.noSh quiet obB RS G3 EJ IV Ul Um Bk XP Un XQ QC Uo Up Uq XR XS XT Qb6 Qb7 Qb8 Ur Us QD NV Ut QE NW Uu XW XX Qb9 XY XZ Ya QbA Yb Yc QG Ye Yf Yg Yh Yi Yj Yk Yl Qf SR CT seen NX Md Uv Uw Ym NY Ef QH QI QJ Yo Yp Uz Yq order opF fOp Fu V6 Qbi V4 V5 YY Ja eqK A7 gets Ap PU ED Dn LS Ph AR VA SV.cellsN SV.one JS splice Em TO JR Ly DL BF Cj BB JT JU Vh eOp.mkEs eOp.addS D.sv OT.sv D.ot Ic Ft Fo SV.refs SV.Qd SV.ptrs SV.Qe Ob.refs Ob.liveB FQ E3 SV.back SV.M2 Ob.back Ib Iz CG Bn Bz Ie FD SV.ren SV.LU Ob.ren mkU sgp gc M3 names LY Zd Ze Zf NI Qaa Zh Zi Zj Zk Zl Zm SC.Qo Qk FR slots NE Vx rxV Lr SQ SV.noSh SV.Mz Ob.noSh SV.own SV.RV Gj cond_true cond_false List.length_cons List.length_nil List.map_cons List.map_nil List.drop_succ_cons List.drop_zero List.drop_nil List.take_succ_cons List.take_zero List.take_nil List.append_nil List.nil_append List.cons_append List.all_cons List.all_nil List.getD_cons_zero List.getD_cons_succ List.any_cons List.any_nil List.contains_cons List.contains_nil List.isEmpty_nil List.isEmpty_cons List.flatten_cons List.flatten_nil List.replicate_succ List.replicate_zero List.set_cons_zero List.set_cons_succ Nat.add_zero Nat.zero_add Nat.le_refl Nat.zero_le Bool.and_true Bool.true_and Bool.and_self Bool.or_false Bool.false_or Bool.true_or Bool.or_true Bool.not_true Bool.not_false Bool.false_and Bool.and_false decide_true decide_false beq_self_eq_true if_true if_false Option.map_some Option.map_none Option.some.injEq Option.getD_some Option.getD_none Int.toNat_natCast true_and and_true and_self eq_self_iff_true List.length_map Bool.false_eq_true Bool.true_eq_false Prod.mk.injEq SV.int.injEq SV.bool.injEq SV.str.injEq SV.agg.injEq SV.tup.injEq SV.arr.injEq List.cons.injEq St.mk.injEq Int.zero_add QbB QbC Zu A4 AC QdF svK svD ZO svM MV.sv Vg V8 Qc V9 GK St.app TX MK.sv NZ Oa Oc Ux Uy Qev
def C8:SC:=(.seq (.reg [⟨some 2,none,.mv (.c (.bool false))⟩]) (.seq (.reg [⟨some 3,none,.mv (.t 0)⟩,⟨some 4,none,.mv (.t 0)⟩,⟨some 5,none,.bin .neq false (.t 3) (.t 4)⟩,⟨some 2,none,.mv (.t 5)⟩]) .ret))
theorem EI:Am Tryz.prog 168=some ⟨6,C8,[(.tmp 2)]⟩:=by kernel_rfl
theorem Bl:modes 168=⟨[],.asis,none,false⟩:=by unfold modes; rfl
def D3:SC:=(.seq (.reg [⟨some 2,none,.mv (.c (.bool false))⟩]) (.seq (.reg [⟨some 3,none,.mv (.t 0)⟩,⟨some 4,none,.mv (.t 0)⟩,⟨some 5,none,.bin .neq false (.t 3) (.t 4)⟩,⟨some 2,none,.mv (.t 5)⟩]) .ret))
theorem Gm:Am Tryz.prog 156=some ⟨6,D3,[(.tmp 2)]⟩:=by kernel_rfl
theorem BC:modes 156=⟨[],.asis,none,false⟩:=by unfold modes; rfl
def AV:SC:=(.seq (.reg [⟨some 4,none,.mv (.c (.int .i64 0))⟩]) (.seq (.reg [⟨some 7,none,.mv (.t 0)⟩,⟨some 8,none,.call 168 [(.t 7)]⟩,⟨some 5,none,.mv (.t 8)⟩]) (.seq (.reg [⟨some 9,none,.mv (.t 1)⟩,⟨some 10,none,.call 168 [(.t 9)]⟩,⟨some 6,none,.mv (.t 10)⟩]) (.seq (.seq (.reg [⟨some 11,none,.mv (.t 5)⟩]) (.cond (.t 11) (.seq (.seq (.reg [⟨some 12,none,.mv (.t 6)⟩]) (.cond (.t 12) (.seq (.reg [⟨some 4,none,.mv (.c (.int .i64 0))⟩]) .ret) .skip)) (.seq (.reg [⟨some 4,none,.mv (.c (.int .i64 (-(0+1))))⟩]) .ret)) .skip)) (.seq (.seq (.reg [⟨some 13,none,.mv (.t 6)⟩]) (.cond (.t 13) (.seq (.reg [⟨some 4,none,.mv (.c (.int .i64 1))⟩]) .ret) .skip)) (.seq (.seq (.reg [⟨some 14,none,.mv (.t 0)⟩,⟨some 15,none,.mv (.t 1)⟩,⟨some 16,none,.bin .lss false (.t 14) (.t 15)⟩]) (.cond (.t 16) (.seq (.reg [⟨some 4,none,.mv (.c (.int .i64 (-(0+1))))⟩]) .ret) .skip)) (.seq (.seq (.reg [⟨some 17,none,.mv (.t 0)⟩,⟨some 18,none,.mv (.t 1)⟩,⟨some 19,none,.bin .gtr false (.t 17) (.t 18)⟩]) (.cond (.t 19) (.seq (.reg [⟨some 4,none,.mv (.c (.int .i64 1))⟩]) .ret) .skip)) (.seq (.reg [⟨some 4,none,.mv (.c (.int .i64 0))⟩]) .ret))))))))
theorem B3:Am Tryz.prog 136=some ⟨20,AV,[(.tmp 4)]⟩:=by kernel_rfl
theorem AF:modes 136=⟨[],.asis,none,false⟩:=by unfold modes; rfl
def Bv:SC:=(.seq (.reg [⟨some 4,none,.mv (.c (.int .i64 0))⟩]) (.seq (.reg [⟨some 7,none,.mv (.t 0)⟩,⟨some 8,none,.call 156 [(.t 7)]⟩,⟨some 5,none,.mv (.t 8)⟩]) (.seq (.reg [⟨some 9,none,.mv (.t 1)⟩,⟨some 10,none,.call 156 [(.t 9)]⟩,⟨some 6,none,.mv (.t 10)⟩]) (.seq (.seq (.reg [⟨some 11,none,.mv (.t 5)⟩]) (.cond (.t 11) (.seq (.seq (.reg [⟨some 12,none,.mv (.t 6)⟩]) (.cond (.t 12) (.seq (.reg [⟨some 4,none,.mv (.c (.int .i64 0))⟩]) .ret) .skip)) (.seq (.reg [⟨some 4,none,.mv (.c (.int .i64 (-(0+1))))⟩]) .ret)) .skip)) (.seq (.seq (.reg [⟨some 13,none,.mv (.t 6)⟩]) (.cond (.t 13) (.seq (.reg [⟨some 4,none,.mv (.c (.int .i64 1))⟩]) .ret) .skip)) (.seq (.seq (.reg [⟨some 14,none,.mv (.t 0)⟩,⟨some 15,none,.mv (.t 1)⟩,⟨some 16,none,.bin .lss false (.t 14) (.t 15)⟩]) (.cond (.t 16) (.seq (.reg [⟨some 4,none,.mv (.c (.int .i64 (-(0+1))))⟩]) .ret) .skip)) (.seq (.seq (.reg [⟨some 17,none,.mv (.t 0)⟩,⟨some 18,none,.mv (.t 1)⟩,⟨some 19,none,.bin .gtr false (.t 17) (.t 18)⟩]) (.cond (.t 19) (.seq (.reg [⟨some 4,none,.mv (.c (.int .i64 1))⟩]) .ret) .skip)) (.seq (.reg [⟨some 4,none,.mv (.c (.int .i64 0))⟩]) .ret))))))))
theorem BP:Am Tryz.prog 122=some ⟨20,Bv,[(.tmp 4)]⟩:=by kernel_rfl
theorem AM:modes 122=⟨[],.asis,none,false⟩:=by unfold modes; rfl
def EW:SC:=(.seq (.reg [⟨some 2,none,.mv (.c (.int .i64 0))⟩]) (.seq (.reg [⟨some 3,none,.mv (.c (.int .i64 0))⟩]) (.seq (.seq (.reg [⟨some 6,none,.mv (.t 0)⟩,⟨some 7,none,.len false (.t 6)⟩,⟨some 8,none,.mv (.c (.int .i64 0))⟩]) (.block 0 (.loop [0,0,0,1,0,0,1,1,1,0,0,0,0,0,0,0,0,0] (.seq (.reg [⟨some 9,none,.bin .lss false (.t 8) (.t 7)⟩]) (.seq (.cond (.t 9) .skip (.exit 0)) (.seq (.block 1 (.seq (.reg [⟨some 10,none,.iaddr 1 (.t 6) (.t 8)⟩,⟨some 11,none,.load false 1 (.t 10)⟩,⟨some 5,none,.mv (.t 11)⟩]) (.seq (.reg [⟨some 12,none,.mv (.t 5)⟩,⟨some 13,none,.mv (.t 3)⟩,⟨some 14,none,.bin .neq false (.t 12) (.t 13)⟩]) (.cond (.t 14) (.seq (.reg [⟨some 15,none,.mv (.t 5)⟩,⟨some 2,none,.mv (.t 15)⟩]) .ret) .skip)))) (.reg [⟨some 16,none,.bin .add false (.t 8) (.c (.int .i64 1))⟩,⟨some 8,none,.mv (.t 16)⟩]))))))) (.seq (.reg [⟨some 17,none,.mv (.t 3)⟩,⟨some 2,none,.mv (.t 17)⟩]) .ret))))
theorem Jp:Am Tryz.prog 120=some ⟨18,EW,[(.tmp 2)]⟩:=by kernel_rfl
theorem Cz:modes 120=⟨[],.asis,none,false⟩:=by unfold modes; rfl
theorem Ks (a:ByteArray):E 168 [.str a] []=some (.bool false,[]):=by
  refine Ah EI Bl (of_decide_eq_true rfl) ?_
  simp (disch:=omega) only [C8,go_sem,Aa]
theorem Kt (a:Int):E 156 [.int .i64 a] []=some (.bool false,[]):=by
  refine Ah Gm BC (of_decide_eq_true rfl) ?_
  simp (disch:=omega) only [D3,go_sem,Aa]
theorem Jq (a b:ByteArray):E 136 [.str a,.str b] []=some (.int .i64 (EF a b),[]):=by
  have h1:=Ks a
  have h2:=Ks b
  unfold EF
  cases h3:AD a b
  · cases h4:dec (a=b)
    · refine Ah B3 AF (of_decide_eq_true rfl) ?_
      simp (disch:=omega) only [AV,go_sem,Aa,h1,h2,h3,h4,Bl]
    · refine Ah B3 AF (of_decide_eq_true rfl) ?_
      simp (disch:=omega) only [AV,go_sem,Aa,h1,h2,h3,h4,Bl]
  · refine Ah B3 AF (of_decide_eq_true rfl) ?_
    simp (disch:=omega) only [AV,go_sem,Aa,h1,h2,h3,Bl]
theorem Hi (a b:Int):E 122 [.int .i64 a,.int .i64 b] []=some (.int .i64 (GV a b),[]):=by
  have h1:=Kt a
  have h2:=Kt b
  unfold GV
  cases h3:dec (a < b)
  · cases h4:dec (b < a)
    · refine Ah BP AM (of_decide_eq_true rfl) ?_
      simp (disch:=omega) only [Bv,go_sem,Aa,h1,h2,h3,h4,BC]
    · refine Ah BP AM (of_decide_eq_true rfl) ?_
      simp (disch:=omega) only [Bv,go_sem,Aa,h1,h2,h3,h4,BC]
  · refine Ah BP AM (of_decide_eq_true rfl) ?_
    simp (disch:=omega) only [Bv,go_sem,Aa,h1,h2,h3,BC]
def orL:List Int→Int
  | []=>0
  | x :: xs=>if x=0 then orL xs else x
theorem QdM (xs:List Int) (hl:xs.length≤1099511627776):E 120 [.arr (xs.map fun n=>[D.int n])] []=some (.int .i64 (orL xs),[]):=by
  refine Ah Jp Cz (of_decide_eq_true rfl) ?_
  simp (disch:=omega) only [EW,go_sem,Aa]
  refine As (α:=Int) (fun a=>⟨slots 18 0 [(3,.int .i64 0),(6,.arr (xs.map fun n=>[D.int n])),(7,.int .i64 xs.length),(8,.int .i64 a)],[]⟩) (fun a=>∃ k:Nat,a=k∧k≤(xs).length∧orL (xs.drop k)=orL xs) (fun a=>(xs).length - (a).toNat) 0 ⟨0,rfl,Nat.zero_le _,by rw [List.drop_zero]⟩ (by simp (disch:=omega) only [go_sem,Aa]) ?_
  rintro i ⟨k,hi,hk,hR⟩
  have hni:i.toNat=k:=by omega
  have hni1:(i+1).toNat=k+1:=by omega
  rcases Nat.lt_or_ge k (xs).length with hlt | hge
  · have hg:=Aq (fun n=>[D.int n]) hlt
    rw [List.drop_eq_getElem_cons hlt,orL] at hR
    by_cases h0:xs[k]=0
    · rw [if_pos h0] at hR
      simp (disch:=omega) only [go_sem,Aa,hni,hg,h0]
      exact ⟨i+1,⟨k+1,by omega,hlt,hR⟩,by omega,by first | trivial | rfl⟩
    · rw [if_neg h0] at hR
      simp (disch:=omega) only [go_sem,Aa,hni,hg,h0]
      exact hR
  · rw [List.drop_eq_nil_of_le hge,orL] at hR
    simp (disch:=omega) only [go_sem,Aa,hni]
    exact hR
theorem Wc (a b:Int):E 120 [.arr [[.int a],[.int b]]] []=some (.int .i64 (orZ a b),[]):=by
  have h:=QdM [a,b] (by simp)
  have e:orL [a,b]=orZ a b:=by
    simp only [orL,orZ]
    split
    · split <;> omega
    · rfl
  rw [e] at h
  exact h
def C9:SC:=(.seq (.reg [⟨some 2,none,.mv (.c (.bool false))⟩]) (.seq (.reg [⟨some 3,none,.mv (.t 0)⟩,⟨some 4,none,.bin .geq false (.t 3) (.c (.int .u8 65))⟩,⟨some 5,none,.mv (.t 4)⟩,⟨(some 6),(some (5,true)),(.mv (.t 0))⟩,⟨(some 7),(some (5,true)),(.bin .leq false (.t 6) (.c (.int .u8 90)))⟩,⟨some 8,none,.pick (.t 5) (.t 7) (.c (.bool false))⟩,⟨some 2,none,.mv (.t 8)⟩]) .ret))
theorem DS:Am Tryz.prog 129=some ⟨9,C9,[(.tmp 2)]⟩:=by kernel_rfl
theorem CA:modes 129=⟨[],.asis,none,false⟩:=by unfold modes; rfl
def EX:SC:=(.seq (.reg [⟨some 1,none,.boxv 71 2 (.t 0)⟩,⟨some 2,none,.mv (.c (.bool false))⟩]) (.seq (.reg [⟨some 3,none,.faddr 0 (.t 1)⟩,⟨some 4,none,.load false 1 (.t 3)⟩,⟨some 5,none,.idx (.t 4) (.c (.int .i64 0))⟩,⟨some 6,none,.call 129 [(.t 5)]⟩,⟨some 2,none,.mv (.t 6)⟩]) .ret))
theorem Jr:Am Tryz.prog 89=some ⟨7,EX,[(.tmp 2)]⟩:=by kernel_rfl
theorem Ak:modes 89=⟨[],.asis,none,false⟩:=by unfold modes; rfl
theorem Oh (n:Int):E 129 [.int .u8 n] []=some (.bool (dec (65≤n)&&dec (n≤90)),[]):=by
  cases h1:dec (65≤n)
  · refine Ah DS CA (of_decide_eq_true rfl) ?_
    simp (disch:=omega) only [C9,go_sem,Aa,h1]
  · refine Ah DS CA (of_decide_eq_true rfl) ?_
    simp (disch:=omega) only [C9,go_sem,Aa,h1]
theorem Dd (x:Tm) (h:x.cok=true):E 89 [x.sv] []=some (.bool (At x.name),[]):=by
  rw [Tm.Kk,Bool.and_eq_true] at h
  obtain ⟨h1,h2⟩:=Tw h.1
  have h3:=Oh (IW x.name 0)
  rw [h2] at h3
  refine Ah Jr Ak (of_decide_eq_true rfl) ?_
  simp (disch:=omega) only [EX,go_sem,Aa,h3,CA]
def Av:SC:=(.seq (.reg [⟨some 6,none,.mv (.c (.int .i64 0))⟩]) (.seq (.seq (.reg [⟨some 11,none,.mv (.t 0)⟩,⟨some 12,none,.len false (.t 11)⟩,⟨some 13,none,.mv (.c (.int .i64 0))⟩]) (.block 0 (.loop [1,1,1,0,0,0,0,0,0,0,0,1,1,1,0,0,0,0,0,0,0,0,0,0,0,0,0,0,0,0,0,0,0,0,0,0,0,0,0] (.seq (.reg [⟨some 14,none,.bin .lss false (.t 13) (.t 12)⟩]) (.seq (.cond (.t 14) .skip (.exit 0)) (.seq (.block 1 (.seq (.reg [⟨some 15,none,.mv (.t 13)⟩,⟨some 16,none,.iaddr 2 (.t 11) (.t 13)⟩,⟨some 17,none,.load true 2 (.t 16)⟩,⟨(some 8),none,(.alloc 71 [(.str ⟨#[]⟩),.nil])⟩,⟨some 7,none,.mv (.t 15)⟩,⟨none,none,(.store 2 (.t 8) (.t 17))⟩]) (.seq (.seq (.reg [⟨some 18,none,.mv (.t 7)⟩,⟨some 19,none,.mv (.t 1)⟩,⟨some 20,none,.len false (.t 19)⟩,⟨some 21,none,.bin .geq false (.t 18) (.t 20)⟩]) (.cond (.t 21) (.seq (.reg [⟨some 6,none,.mv (.c (.int .i64 1))⟩]) .ret) .skip)) (.seq (.reg [⟨some 22,none,.mv (.t 1)⟩,⟨some 23,none,.mv (.t 7)⟩,⟨some 24,none,.iaddr 2 (.t 22) (.t 23)⟩,⟨some 25,none,.load true 2 (.t 24)⟩,⟨(some 9),none,(.alloc 71 [(.str ⟨#[]⟩),.nil])⟩,⟨none,none,(.store 2 (.t 9) (.t 25))⟩]) (.seq (.reg [⟨some 26,none,.mv (.t 2)⟩,⟨some 27,none,.load true 2 (.t 8)⟩,⟨some 28,none,.load true 2 (.t 9)⟩,⟨some 29,none,.callv (.t 26) [(.t 27),(.t 28)]⟩,⟨some 10,none,.mv (.t 29)⟩]) (.seq (.reg [⟨some 30,none,.mv (.t 10)⟩,⟨some 31,none,.bin .neq false (.t 30) (.c (.int .i64 0))⟩]) (.cond (.t 31) (.seq (.reg [⟨some 32,none,.mv (.t 10)⟩,⟨some 6,none,.mv (.t 32)⟩]) .ret) .skip))))))) (.reg [⟨some 33,none,.bin .add false (.t 13) (.c (.int .i64 1))⟩,⟨some 13,none,.mv (.t 33)⟩]))))))) (.seq (.seq (.reg [⟨some 34,none,.mv (.t 0)⟩,⟨some 35,none,.len false (.t 34)⟩,⟨some 36,none,.mv (.t 1)⟩,⟨some 37,none,.len false (.t 36)⟩,⟨some 38,none,.bin .lss false (.t 35) (.t 37)⟩]) (.cond (.t 38) (.seq (.reg [⟨some 6,none,.mv (.c (.int .i64 (-(0+1))))⟩]) .ret) .skip)) (.seq (.reg [⟨some 6,none,.mv (.c (.int .i64 0))⟩]) .ret))))
theorem AG:Am Tryz.prog 155=some ⟨39,Av,[(.tmp 6)]⟩:=by kernel_rfl
theorem Aw:modes 155=⟨[],.asis,none,false⟩:=by unfold modes; rfl
def B7:SC:=(.seq (.reg [⟨some 2,none,.boxv 71 2 (.t 0)⟩,⟨some 3,none,.boxv 71 2 (.t 1)⟩,⟨some 4,none,.mv (.c (.int .i64 0))⟩]) (.seq (.dreg [[],[0],[],[2,1,0],[1,0,3,2],[3,2,1,0,4]] [⟨some 8,none,.load true 2 (.t 2)⟩,⟨some 9,none,.call 89 [(.t 8)]⟩,⟨some 10,none,.load true 2 (.t 3)⟩,⟨some 11,none,.call 89 [(.t 10)]⟩,⟨some 5,none,.mv (.t 9)⟩,⟨some 6,none,.mv (.t 11)⟩]) (.seq (.block 0 (.seq (.reg [⟨some 13,none,.mv (.t 5)⟩,⟨some 14,none,.mv (.t 13)⟩,⟨(some 15),(some (14,true)),(.mv (.t 6))⟩,⟨(some 16),(some (14,true)),(.un .not (.t 15))⟩,⟨some 17,none,.pick (.t 14) (.t 16) (.c (.bool false))⟩,⟨some 12,none,.mv (.t 17)⟩]) (.cond (.t 12) (.seq (.reg [⟨some 4,none,.mv (.c (.int .i64 (-(0+1))))⟩]) .ret) (.seq (.reg [⟨some 19,none,.mv (.t 6)⟩,⟨some 20,none,.mv (.t 19)⟩,⟨(some 21),(some (20,true)),(.mv (.t 5))⟩,⟨(some 22),(some (20,true)),(.un .not (.t 21))⟩,⟨some 23,none,.pick (.t 20) (.t 22) (.c (.bool false))⟩,⟨some 18,none,.mv (.t 23)⟩]) (.cond (.t 18) (.seq (.reg [⟨some 4,none,.mv (.c (.int .i64 1))⟩]) .ret) .skip))))) (.seq (.seq (.dreg [[],[0],[],[2],[1,0,3,2],[],[5],[6,5],[],[8],[9,8],[7,6,5,10,9,8,4,1,0,3,2],[4,1,0,3,2,11,7,6,5,10,9,8],[12,4,1,0,3,2,11,7,6,5,10,9,8],[13,12,4,1,0,3,2,11,7,6,5,10,9,8]] [⟨some 24,none,.faddr 0 (.t 2)⟩,⟨some 25,none,.load false 1 (.t 24)⟩,⟨some 26,none,.faddr 0 (.t 3)⟩,⟨some 27,none,.load false 1 (.t 26)⟩,⟨some 28,none,.call 136 [(.t 25),(.t 27)]⟩,⟨some 29,none,.faddr 1 (.t 2)⟩,⟨some 30,none,.load false 1 (.t 29)⟩,⟨some 31,none,.len false (.t 30)⟩,⟨some 32,none,.faddr 1 (.t 3)⟩,⟨some 33,none,.load false 1 (.t 32)⟩,⟨some 34,none,.len false (.t 33)⟩,⟨some 35,none,.call 122 [(.t 31),(.t 34)]⟩,⟨some 36,none,.mkrow 3 1 [(.int .i64 0)] 2 [(0,(.t 28)),(1,(.t 35))]⟩,⟨some 37,none,.call 120 [(.t 36)]⟩,⟨some 7,none,.mv (.t 37)⟩]) (.seq (.reg [⟨some 38,none,.mv (.t 7)⟩,⟨some 39,none,.bin .neq false (.t 38) (.c (.int .i64 0))⟩]) (.cond (.t 39) (.seq (.reg [⟨some 40,none,.mv (.t 7)⟩,⟨some 4,none,.mv (.t 40)⟩]) .ret) .skip))) (.seq (.reg [⟨some 41,none,.faddr 1 (.t 2)⟩,⟨some 42,none,.load false 1 (.t 41)⟩,⟨some 43,none,.faddr 1 (.t 3)⟩,⟨some 44,none,.load false 1 (.t 43)⟩,⟨some 45,none,.call 155 [(.t 42),(.t 44),(.c (.fn 121 []))]⟩,⟨some 4,none,.mv (.t 45)⟩]) .ret)))))
theorem Cv:Am Tryz.prog 121=some ⟨46,B7,[(.tmp 4)]⟩:=by kernel_rfl
theorem Bb:modes 121=⟨[],.asis,none,false⟩:=by unfold modes; rfl
theorem Ep:Lq Tryz.prog 121=true:=by kernel_rfl
theorem Ij (fid:Nat) (xs ys:List Tm) (hl:xs.length≤1099511627776) (hl':ys.length≤1099511627776) (hg:Lq Tryz.prog fid=true) (hm:(modes fid).hand=[]) (hE:∀ x∈xs,∀ y∈ys,E fid [x.sv,y.sv] []=some (.int .i64 (x.cmp y),[])):E 155 [.arr (xs.map Tm.d),.arr (ys.map Tm.d),.fn fid []] []=some (.int .i64 (Tm.cmpL xs ys),[]):=by
  refine Ah AG Aw (of_decide_eq_true rfl) ?_
  simp (disch:=omega) only [Av,go_sem,Aa]
  refine As (α:=Int) (fun a=>⟨slots 39 0 [(0,.arr (xs.map Tm.d)),(1,.arr (ys.map Tm.d)),(2,.fn fid []),(11,.arr (xs.map Tm.d)),(12,.int .i64 xs.length),(13,.int .i64 a)],[]⟩) (fun a=>∃ k:Nat,a=k∧k≤(xs).length∧k≤ys.length∧Tm.cmpL (xs.drop k) (ys.drop k)=Tm.cmpL xs ys) (fun a=>(xs).length - (a).toNat) 0 ⟨0,rfl,Nat.zero_le _,Nat.zero_le _,by rw [List.drop_zero,List.drop_zero]⟩ (by simp (disch:=omega) only [go_sem,Aa]) ?_
  rintro i ⟨k,hi,hk,hR⟩
  have hni:i.toNat=k:=by omega
  have hni1:(i+1).toNat=k+1:=by omega
  rcases Nat.lt_or_ge k (xs).length with hlt | hge
  · obtain ⟨hk',hR⟩:=hR
    have hgx:=Aq Tm.d hlt
    rw [Tm.d_eq] at hgx
    rcases Nat.lt_or_ge k ys.length with hlt' | hge'
    · have hgy:=Aq Tm.d hlt'
      rw [Tm.d_eq] at hgy
      have hc:=hE xs[k] (List.getElem_mem hlt) ys[k] (List.getElem_mem hlt')
      rw [Of hlt hlt'] at hR
      by_cases h0:xs[k].cmp ys[k]=0
      · rw [orZ,if_pos h0] at hR
        rw [h0] at hc
        simp (disch:=omega) only [go_sem,Aa,hni,hgx,hgy,hc,hg,hm]
        exact ⟨i+1,⟨k+1,by omega,hlt,hlt',hR⟩,by omega,by first | trivial | rfl⟩
      · rw [orZ,if_neg h0] at hR
        simp (disch:=omega) only [go_sem,Aa,hni,hgx,hgy,hc,hg,hm,h0]
        exact hR
    · rw [QR hlt hge'] at hR
      simp (disch:=omega) only [go_sem,Aa,hni,hgx]
      exact hR
  · obtain ⟨hk',hR⟩:=hR
    obtain rfl:k=xs.length:=by omega
    rcases Nat.lt_or_ge xs.length ys.length with hlt' | hge'
    · rw [Wb (Nat.le_refl _) hlt'] at hR
      simp (disch:=omega) only [go_sem,Aa,hni]
      exact hR
    · rw [Og (Nat.le_refl _) hge'] at hR
      simp (disch:=omega) only [go_sem,Aa,hni]
      exact hR
abbrev Si (f:FuncId) (x y:Tm):Prop:=x.cok=true→y.cok=true→x.nodes≤1099511627776→y.nodes≤1099511627776→E f [x.sv,y.sv] []=some (.int .i64 (x.cmp y),[])
theorem Gn (x:Tm) (ih:∀ x'∈x.args,∀ y,Si 121 x' y) (y:Tm):Si 121 x y:=by
  intro hx hy hnx hny
  have lx:=Tm.AB x.args
  have ly:=Tm.AB y.args
  have nx:=Tm.Ao x
  have ny:=Tm.Ao y
  have h1:=Dd x hx
  have h2:=Dd y hy
  have h3:=Jq x.name y.name
  have h4:=Hi x.args.length y.args.length
  have h5:=Wc (EF x.name y.name) (GV x.args.length y.args.length)
  rw [Tm.Kk,Bool.and_eq_true] at hx hy
  have h6:=Ij 121 x.args y.args (by omega) (by omega) Ep (by rw [Bb]) fun x' hx' y' hy'=>ih x' hx' y' (Tm.GW hx.2 hx') (Tm.GW hy.2 hy') (by have:=Tm.AZ hx'; omega) (by have:=Tm.AZ hy'; omega)
  rw [Tm.Ug]
  cases vx:At x.name <;> rw [vx] at h1 <;> cases vy:At y.name <;> rw [vy] at h2
  all_goals
    simp only [Bool.not_true,Bool.not_false,Bool.and_true,Bool.and_false,Bool.true_and,Bool.false_and,if_true,if_false,Bool.false_eq_true]
    by_cases h0:orZ (EF x.name y.name) (GV x.args.length y.args.length)=0
    · rw [h0] at h5
      try rw [h0]
      refine Ah Cv Bb (of_decide_eq_true rfl) ?_
      simp (disch:=omega) only [B7,go_sem,Aa,h1,h2,h3,h4,h5,h6,Ak,AF,AM,Cz,Aw]
      try rfl
    · try rw [orZ.eq_1 (orZ _ _) _,if_neg h0]
      refine Ah Cv Bb (of_decide_eq_true rfl) ?_
      simp (disch:=omega) only [B7,go_sem,Aa,h0,h1,h2,h3,h4,h5,Ak,AF,AM,Cz]
theorem DT (x y:Tm):Si 121 x y:=Gn x (fun x' hx' y'=>DT x' y') y
termination_by SizeOf.sizeOf x
decreasing_by exact Tm.Az hx'
def DU:SC:=(.seq (.reg [⟨some 2,none,.mv (.c (.int .i64 0))⟩]) (.seq (.seq (.reg [⟨some 3,none,.mv (.t 0)⟩]) (.cond (.t 3) (.seq (.reg [⟨some 2,none,.mv (.c (.int .i64 1))⟩]) .ret) .skip)) (.seq (.reg [⟨some 2,none,.mv (.c (.int .i64 0))⟩]) .ret)))
theorem FV:Am Tryz.prog 123=some ⟨4,DU,[(.tmp 2)]⟩:=by kernel_rfl
theorem DV:modes 123=⟨[],.asis,none,false⟩:=by unfold modes; rfl
def BQ:SC:=(.seq (.reg [⟨some 2,none,.boxv 73 3 (.t 0)⟩,⟨some 3,none,.boxv 73 3 (.t 1)⟩,⟨some 4,none,.mv (.c (.int .i64 0))⟩]) (.seq (.dreg [[],[0],[],[2],[1,0,3,2],[],[5],[6,5,4,1,0,3,2],[],[8],[9,8,7,6,5,4,1,0,3,2],[7,6,5,4,1,0,3,2,10,9,8],[4,1,0,3,2,11,7,6,5,10,9,8],[12,4,1,0,3,2,11,7,6,5,10,9,8],[13,12,4,1,0,3,2,11,7,6,5,10,9,8]] [⟨some 5,none,.faddr 1 (.t 2)⟩,⟨some 6,none,.load true 2 (.t 5)⟩,⟨some 7,none,.faddr 1 (.t 3)⟩,⟨some 8,none,.load true 2 (.t 7)⟩,⟨some 9,none,.call 121 [(.t 6),(.t 8)]⟩,⟨some 10,none,.faddr 0 (.t 2)⟩,⟨some 11,none,.load false 1 (.t 10)⟩,⟨some 12,none,.call 123 [(.t 11)]⟩,⟨some 13,none,.faddr 0 (.t 3)⟩,⟨some 14,none,.load false 1 (.t 13)⟩,⟨some 15,none,.call 123 [(.t 14)]⟩,⟨some 16,none,.call 122 [(.t 12),(.t 15)]⟩,⟨some 17,none,.mkrow 3 1 [(.int .i64 0)] 2 [(0,(.t 9)),(1,(.t 16))]⟩,⟨some 18,none,.call 120 [(.t 17)]⟩,⟨some 4,none,.mv (.t 18)⟩]) .ret))
theorem Du:Am Tryz.prog 83=some ⟨19,BQ,[(.tmp 4)]⟩:=by kernel_rfl
theorem Bm:modes 83=⟨[],.asis,none,false⟩:=by unfold modes; rfl
theorem QS (b:Bool):E 123 [.bool b] []=some (.int .i64 (GX b),[]):=by
  cases b
  · refine Ah FV DV (of_decide_eq_true rfl) ?_
    simp (disch:=omega) only [DU,go_sem,Aa]
    rfl
  · refine Ah FV DV (of_decide_eq_true rfl) ?_
    simp (disch:=omega) only [DU,go_sem,Aa]
    rfl
theorem compareLiterals_E (x y:Lt) (hx:x.atom.cok=true) (hy:y.atom.cok=true) (hnx:x.atom.nodes≤1099511627776) (hny:y.atom.nodes≤1099511627776):E 83 [x.sv,y.sv] []=some (.int .i64 (x.cmp y),[]):=by
  have h1:=DT x.atom y.atom hx hy hnx hny
  have h2:=QS x.pos
  have h3:=QS y.pos
  have h4:=Hi (GX x.pos) (GX y.pos)
  have h5:=Wc (x.atom.cmp y.atom) (GV (GX x.pos) (GX y.pos))
  unfold Lt.cmp
  refine Ah Du Bm (of_decide_eq_true rfl) ?_
  simp (disch:=omega) only [BQ,go_sem,Aa,h1,h2,h3,h4,h5,Bb,DV,AM,Cz]
end Wd
theorem MR (x y:Lt) (hx:x.atom.cok=true) (hy:y.atom.cok=true) (hnx:x.atom.nodes≤1099511627776) (hny:y.atom.nodes≤1099511627776):QcP Tryz.prog 83 [x.sv,y.sv] [] (.int .i64 (x.cmp y)) []:=Wd.E_told (Wd.compareLiterals_E x y hx hy hnx hny)
def AH:SC:=(.seq (.reg [⟨some 6,none,.mv (.c (.bool false))⟩]) (.seq (.seq (.reg [⟨some 10,none,.mv (.t 0)⟩,⟨some 11,none,.len false (.t 10)⟩,⟨some 12,none,.mv (.t 1)⟩,⟨some 13,none,.len false (.t 12)⟩,⟨some 14,none,.bin .neq false (.t 11) (.t 13)⟩]) (.cond (.t 14) (.seq (.reg [⟨some 6,none,.mv (.c (.bool false))⟩]) .ret) .skip)) (.seq (.seq (.reg [⟨some 15,none,.mv (.t 0)⟩,⟨some 16,none,.len false (.t 15)⟩,⟨some 17,none,.mv (.c (.int .i64 0))⟩]) (.block 0 (.loop [0,1,1,0,0,0,0,0,0,0,0,0,0,0,0,1,1,1,0,0,0,0,0,0,0,0,0,0,0,0,0,0] (.seq (.reg [⟨some 18,none,.bin .lss false (.t 17) (.t 16)⟩]) (.seq (.cond (.t 18) .skip (.exit 0)) (.seq (.block 1 (.seq (.reg [⟨some 19,none,.mv (.t 17)⟩,⟨some 20,none,.iaddr 2 (.t 15) (.t 17)⟩,⟨some 21,none,.load true 2 (.t 20)⟩,⟨(some 8),none,(.alloc 71 [(.str ⟨#[]⟩),.nil])⟩,⟨some 7,none,.mv (.t 19)⟩,⟨none,none,(.store 2 (.t 8) (.t 21))⟩]) (.seq (.reg [⟨some 22,none,.mv (.t 1)⟩,⟨some 23,none,.mv (.t 7)⟩,⟨some 24,none,.iaddr 2 (.t 22) (.t 23)⟩,⟨some 25,none,.load true 2 (.t 24)⟩,⟨(some 9),none,(.alloc 71 [(.str ⟨#[]⟩),.nil])⟩,⟨none,none,(.store 2 (.t 9) (.t 25))⟩]) (.seq (.reg [⟨some 26,none,.mv (.t 2)⟩,⟨some 27,none,.load true 2 (.t 8)⟩,⟨some 28,none,.load true 2 (.t 9)⟩,⟨some 29,none,.callv (.t 26) [(.t 27),(.t 28)]⟩,⟨some 30,none,.un .not (.t 29)⟩]) (.cond (.t 30) (.seq (.reg [⟨some 6,none,.mv (.c (.bool false))⟩]) .ret) .skip))))) (.reg [⟨some 31,none,.bin .add false (.t 17) (.c (.int .i64 1))⟩,⟨some 17,none,.mv (.t 31)⟩]))))))) (.seq (.reg [⟨some 6,none,.mv (.c (.bool true))⟩]) .ret))))
theorem Bg:Am Tryz.prog 128=some ⟨32,AH,[(.tmp 6)]⟩:=by kernel_rfl
theorem AI:modes 128=⟨[],.asis,none,false⟩:=by unfold modes; rfl
def EZ:SC:=(.seq (.reg [⟨some 2,none,.boxv 71 2 (.t 0)⟩,⟨some 3,none,.boxv 71 2 (.t 1)⟩,⟨some 4,none,.mv (.c (.bool false))⟩]) (.seq (.reg [⟨some 5,none,.faddr 0 (.t 2)⟩,⟨some 6,none,.load false 1 (.t 5)⟩,⟨some 7,none,.faddr 0 (.t 3)⟩,⟨some 8,none,.load false 1 (.t 7)⟩,⟨some 9,none,.bin .eql false (.t 6) (.t 8)⟩,⟨some 10,none,.mv (.t 9)⟩,⟨(some 11),(some (10,true)),(.faddr 1 (.t 2))⟩,⟨(some 12),(some (10,true)),(.load false 1 (.t 11))⟩,⟨(some 13),(some (10,true)),(.faddr 1 (.t 3))⟩,⟨(some 14),(some (10,true)),(.load false 1 (.t 13))⟩,⟨(some 15),(some (10,true)),(.call 128 [(.t 12),(.t 14),(.c (.fn 88 []))])⟩,⟨some 16,none,.pick (.t 10) (.t 15) (.c (.bool false))⟩,⟨some 4,none,.mv (.t 16)⟩]) .ret))
theorem H8:Am Tryz.prog 88=some ⟨17,EZ,[(.tmp 4)]⟩:=by kernel_rfl
theorem Ad:modes 88=⟨[],.asis,none,false⟩:=by unfold modes; rfl
theorem MS:Lq Tryz.prog 88=true:=by kernel_rfl
def FG:SC:=(.seq (.reg [⟨some 2,none,.boxv 71 2 (.t 0)⟩,⟨some 3,none,.boxv 71 2 (.t 1)⟩,⟨some 4,none,.mv (.c (.bool false))⟩]) (.seq (.seq (.reg [⟨some 6,none,.faddr 0 (.t 2)⟩,⟨some 7,none,.load false 1 (.t 6)⟩,⟨some 8,none,.faddr 0 (.t 3)⟩,⟨some 9,none,.load false 1 (.t 8)⟩,⟨some 10,none,.bin .neq false (.t 7) (.t 9)⟩,⟨some 11,none,.mv (.t 10)⟩,⟨(some 12),(some (11,false)),(.faddr 1 (.t 2))⟩,⟨(some 13),(some (11,false)),(.load false 1 (.t 12))⟩,⟨(some 14),(some (11,false)),(.len false (.t 13))⟩,⟨(some 15),(some (11,false)),(.faddr 1 (.t 3))⟩,⟨(some 16),(some (11,false)),(.load false 1 (.t 15))⟩,⟨(some 17),(some (11,false)),(.len false (.t 16))⟩,⟨(some 18),(some (11,false)),(.bin .neq false (.t 14) (.t 17))⟩,⟨some 19,none,.pick (.t 11) (.c (.bool true)) (.t 18)⟩]) (.cond (.t 19) (.seq (.reg [⟨some 4,none,.mv (.c (.bool false))⟩]) .ret) .skip)) (.seq (.seq (.reg [⟨some 5,none,.mv (.c (.int .i64 0))⟩]) (.block 0 (.loop [0,0,1,1,0,1,0,0,0,0,0,0,0,0,0,0,0,0,0,0,0,0,0,0,0,0,0,0,0,0,0,0,0,0,0,0,0,0,0] (.seq (.seq (.reg [⟨some 20,none,.mv (.t 5)⟩,⟨some 21,none,.faddr 1 (.t 2)⟩,⟨some 22,none,.load false 1 (.t 21)⟩,⟨some 23,none,.len false (.t 22)⟩,⟨some 24,none,.bin .lss false (.t 20) (.t 23)⟩]) (.cond (.t 24) .skip (.exit 0))) (.seq (.block 1 (.seq (.dreg [[],[0],[],[1,0,2],[3,1,0,2],[],[5],[],[6,5,7],[8,6,5,7],[4,3,1,0,2,9,8,6,5,7],[10,4,3,1,0,2,9,8,6,5,7]] [⟨some 27,none,.faddr 1 (.t 2)⟩,⟨some 28,none,.load false 1 (.t 27)⟩,⟨some 29,none,.mv (.t 5)⟩,⟨some 30,none,.iaddr 2 (.t 28) (.t 29)⟩,⟨some 31,none,.load true 2 (.t 30)⟩,⟨some 32,none,.faddr 1 (.t 3)⟩,⟨some 33,none,.load false 1 (.t 32)⟩,⟨some 34,none,.mv (.t 5)⟩,⟨some 35,none,.iaddr 2 (.t 33) (.t 34)⟩,⟨some 36,none,.load true 2 (.t 35)⟩,⟨some 37,none,.call 68 [(.t 31),(.t 36)]⟩,⟨some 38,none,.un .not (.t 37)⟩]) (.cond (.t 38) (.seq (.reg [⟨some 4,none,.mv (.c (.bool false))⟩]) .ret) .skip))) (.reg [⟨some 25,none,.mv (.t 5)⟩,⟨some 26,none,.bin .add false (.t 25) (.c (.int .i64 1))⟩,⟨some 5,none,.mv (.t 26)⟩])))))) (.seq (.reg [⟨some 4,none,.mv (.c (.bool true))⟩]) .ret))))
theorem Im:Am Tryz.prog 68=some ⟨39,FG,[(.tmp 4)]⟩:=by kernel_rfl
theorem Ai:modes 68=⟨[],.asis,none,false⟩:=by unfold modes; rfl
theorem OU {α:Type} {xs ys:List α} {k:Nat} (hx:k < xs.length) (hy:k < ys.length):xs.drop k=ys.drop k ↔ xs[k]=ys[k]∧xs.drop (k+1)=ys.drop (k+1):=by
  rw [List.drop_eq_getElem_cons hx,List.drop_eq_getElem_cons hy,List.cons.injEq]
theorem We (fid:Nat) (xs ys:List Tm) (hl:xs.length≤1099511627776) (hl':ys.length≤1099511627776) (hg:Lq Tryz.prog fid=true) (hm:(modes fid).hand=[]) (hE:∀ x∈xs,∀ y∈ys,E fid [x.sv,y.sv] []=some (.bool (dec (x=y)),[])):E 128 [.arr (xs.map Tm.d),.arr (ys.map Tm.d),.fn fid []] []=some (.bool (dec (xs=ys)),[]):=by
  by_cases hlen:xs.length=ys.length
  · have hq:((xs.length:Int)=(ys.length:Int))=True:=by first | exact eq_true (by omega) | exact eq_false (by omega)
    refine Ah Bg AI (of_decide_eq_true rfl) ?_
    simp (disch:=omega) only [AH,go_sem,Aa,hq]
    refine As (α:=Int) (fun a=>⟨slots 32 0 [(1,.arr (ys.map Tm.d)),(2,.fn fid []),(15,.arr (xs.map Tm.d)),(16,.int .i64 xs.length),(17,.int .i64 a)],[]⟩) (fun a=>∃ k:Nat,a=k∧k≤(xs).length∧dec (xs.drop k=ys.drop k)=dec (xs=ys)) (fun a=>(xs).length - (a).toNat) 0 ⟨0,rfl,Nat.zero_le _,by rw [List.drop_zero,List.drop_zero]⟩ (by simp (disch:=omega) only [go_sem,Aa]) ?_
    rintro i ⟨k,hi,hk,hR⟩
    have hni:i.toNat=k:=by omega
    have hni1:(i+1).toNat=k+1:=by omega
    rcases Nat.lt_or_ge k (xs).length with hlt | hge
    · have hgx:=Aq Tm.d hlt
      rw [Tm.d_eq] at hgx
      have hlt':k < ys.length:=by omega
      have hgy:=Aq Tm.d hlt'
      rw [Tm.d_eq] at hgy
      have hc:=hE xs[k] (List.getElem_mem hlt) ys[k] (List.getElem_mem hlt')
      rw [ES (OU hlt hlt')] at hR
      by_cases h0:xs[k]=ys[k]
      · rw [A4 h0] at hc
        rw [ES (and_iff_right h0)] at hR
        simp (disch:=omega) only [go_sem,Aa,hni,hgx,hgy,hc,hg,hm]
        exact ⟨i+1,⟨k+1,by omega,hlt,hR⟩,by omega,by first | trivial | rfl⟩
      · rw [AC h0] at hc
        rw [AC (fun h=>h0 h.1)] at hR
        simp (disch:=omega) only [go_sem,Aa,hni,hgx,hgy,hc,hg,hm]
        exact hR
    · rw [List.drop_eq_nil_of_le hge,List.drop_eq_nil_of_le (by omega),D0] at hR
      simp (disch:=omega) only [go_sem,Aa,hni]
      exact hR
  · have hq:((xs.length:Int)=(ys.length:Int))=False:=by first | exact eq_true (by omega) | exact eq_false (by omega)
    have he:dec (xs=ys)=false:=AC fun h=>hlen (by rw [h])
    rw [he]
    refine Ah Bg AI (of_decide_eq_true rfl) ?_
    simp (disch:=omega) only [AH,go_sem,Aa,hq]
theorem Tm.QbK (x y:Tm):x=y ↔ x.name=y.name∧x.args=y.args:=by
  obtain ⟨n,a⟩:=x
  obtain ⟨m,b⟩:=y
  rw [Tm.mk.injEq]; rfl
theorem Sj (x:Tm) (y:Tm) (hnx:x.nodes≤1099511627776) (hny:y.nodes≤1099511627776) (ih:∀ x'∈x.args,∀ y':Tm,x'.nodes≤1099511627776→y'.nodes≤1099511627776→E 88 [x'.sv,y'.sv] []=some (.bool (dec (x'=y')),[])):E 88 [x.sv,y.sv] []=some (.bool (dec (x=y)),[]):=by
  have lx:=Tm.AB x.args
  have ly:=Tm.AB y.args
  have nx:=Tm.Ao x
  have ny:=Tm.Ao y
  have h6:=We 88 x.args y.args (by omega) (by omega) MS (by rw [Ad]) fun x' hx' y' hy'=>ih x' hx' y' (by have:=Tm.AZ hx'; omega) (by have:=Tm.AZ hy'; omega)
  rw [ES (Tm.QbK x y)]
  by_cases h0:x.name=y.name
  · rw [ES (and_iff_right h0)]
    have hq:(x.name=y.name)=True:=by simp [h0]
    refine Ah H8 Ad (of_decide_eq_true rfl) ?_
    simp (disch:=omega) only [EZ,go_sem,Aa,hq,h6,AI]
  · have hq:(x.name=y.name)=False:=by simp [h0]
    rw [AC (fun h=>h0 h.1)]
    refine Ah H8 Ad (of_decide_eq_true rfl) ?_
    simp (disch:=omega) only [EZ,go_sem,Aa,hq]
theorem Ei (x y:Tm) (hnx:x.nodes≤1099511627776) (hny:y.nodes≤1099511627776):E 88 [x.sv,y.sv] []=some (.bool (dec (x=y)),[]) :=
  Sj x y hnx hny fun x' hx' y' h h'=>Ei x' y' h h'
termination_by SizeOf.sizeOf x
decreasing_by exact Tm.Az hx'
theorem Qav (x:Tm) (y:Tm) (hnx:x.nodes≤1099511627776) (hny:y.nodes≤1099511627776) (ih:∀ x'∈x.args,∀ y':Tm,x'.nodes≤1099511627776→y'.nodes≤1099511627776→E 68 [x'.sv,y'.sv] []=some (.bool (dec (x'=y')),[])):E 68 [x.sv,y.sv] []=some (.bool (dec (x=y)),[]):=by
  have lx:=Tm.AB x.args
  have ly:=Tm.AB y.args
  have nx:=Tm.Ao x
  have ny:=Tm.Ao y
  rw [ES (Tm.QbK x y)]
  by_cases h0:x.name=y.name
  · rw [ES (and_iff_right h0)]
    have hq:(x.name=y.name)=True:=by simp [h0]
    by_cases hlen:x.args.length=y.args.length
    · have hq2:((x.args.length:Int)=(y.args.length:Int))=True:=by first | exact eq_true (by omega) | exact eq_false (by omega)
      refine Ah Im Ai (of_decide_eq_true rfl) ?_
      simp (disch:=omega) only [FG,go_sem,Aa,hq,hq2]
      refine As (α:=Int) (fun a=>⟨slots 39 0 [(2,.ptr 0 0),(3,.ptr 1 0),(5,.int .i64 a)],[.box 71 [.str x.name,.arr (x.args.map Tm.d)],.box 71 [.str y.name,.arr (y.args.map Tm.d)]]⟩) (fun a=>∃ k:Nat,a=k∧k≤(x.args).length∧dec (x.args.drop k=y.args.drop k)=dec (x.args=y.args)) (fun a=>(x.args).length - (a).toNat) 0 ⟨0,rfl,Nat.zero_le _,by rw [List.drop_zero,List.drop_zero]⟩ (by simp (disch:=omega) only [go_sem,Aa]) ?_
      rintro i ⟨k,hi,hk,hR⟩
      have hni:i.toNat=k:=by omega
      have hni1:(i+1).toNat=k+1:=by omega
      rcases Nat.lt_or_ge k (x.args).length with hlt | hge
      · have hgx:=Aq Tm.d hlt
        rw [Tm.d_eq] at hgx
        have hlt':k < y.args.length:=by omega
        have hgy:=Aq Tm.d hlt'
        rw [Tm.d_eq] at hgy
        have hc:=ih x.args[k] (List.getElem_mem hlt) y.args[k] (by have:=Tm.AZ (List.getElem_mem hlt); omega) (by have:=Tm.AZ (List.getElem_mem hlt'); omega)
        rw [ES (OU hlt hlt')] at hR
        by_cases h0:x.args[k]=y.args[k]
        · rw [A4 h0] at hc
          rw [ES (and_iff_right h0)] at hR
          simp (disch:=omega) only [go_sem,Aa,hni,hgx,hgy,hc,Ai]
          exact ⟨i+1,⟨k+1,by omega,hlt,hR⟩,by omega,by first | trivial | rfl⟩
        · rw [AC h0] at hc
          rw [AC (fun h=>h0 h.1)] at hR
          simp (disch:=omega) only [go_sem,Aa,hni,hgx,hgy,hc,Ai]
          exact hR
      · rw [List.drop_eq_nil_of_le hge,List.drop_eq_nil_of_le (by omega),D0] at hR
        simp (disch:=omega) only [go_sem,Aa,hni]
        exact hR
    · have hq2:((x.args.length:Int)=(y.args.length:Int))=False:=by first | exact eq_true (by omega) | exact eq_false (by omega)
      have he:dec (x.args=y.args)=false:=AC fun h=>hlen (by rw [h])
      rw [he]
      refine Ah Im Ai (of_decide_eq_true rfl) ?_
      simp (disch:=omega) only [FG,go_sem,Aa,hq,hq2]
  · have hq:(x.name=y.name)=False:=by simp [h0]
    rw [AC (fun h=>h0 h.1)]
    refine Ah Im Ai (of_decide_eq_true rfl) ?_
    simp (disch:=omega) only [FG,go_sem,Aa,hq]
theorem Kv (x y:Tm) (hnx:x.nodes≤1099511627776) (hny:y.nodes≤1099511627776):E 68 [x.sv,y.sv] []=some (.bool (dec (x=y)),[]) :=
  Qav x y hnx hny fun x' hx' y' h h'=>Kv x' y' h h'
termination_by SizeOf.sizeOf x
decreasing_by exact Tm.Az hx'
def F2:SC:=(.seq (.reg [⟨some 2,none,.mv (.c .nil)⟩]) (.seq (.seq (.reg [⟨some 6,none,.mv (.t 0)⟩,⟨some 7,none,.len false (.t 6)⟩,⟨some 8,none,.bin .eql false (.t 7) (.c (.int .i64 0))⟩]) (.cond (.t 8) (.seq (.reg [⟨some 2,none,.mv (.c .nil)⟩]) .ret) .skip)) (.seq (.reg [⟨some 9,none,.mv (.t 0)⟩,⟨some 10,none,.len false (.t 9)⟩,⟨(some 11),none,(.mkslice 71 2 40 [(.str ⟨#[]⟩),.nil] (.t 10))⟩,⟨some 3,none,.mv (.t 11)⟩]) (.seq (.seq (.reg [⟨some 12,none,.mv (.t 0)⟩,⟨some 13,none,.len false (.t 12)⟩,⟨some 14,none,.mv (.c (.int .i64 0))⟩]) (.block 0 (.loop [0,0,0,1,0,0,0,0,0,0,0,0,1,1,1,0,0,0,0,0,0,0,0,0,0,0] (.seq (.reg [⟨some 15,none,.bin .lss false (.t 14) (.t 13)⟩]) (.seq (.cond (.t 15) .skip (.exit 0)) (.seq (.block 1 (.seq (.reg [⟨some 16,none,.mv (.t 14)⟩,⟨some 17,none,.iaddr 2 (.t 12) (.t 14)⟩,⟨some 18,none,.load true 2 (.t 17)⟩,⟨(some 5),none,(.alloc 71 [(.str ⟨#[]⟩),.nil])⟩,⟨some 4,none,.mv (.t 16)⟩,⟨none,none,(.store 2 (.t 5) (.t 18))⟩]) (.reg [⟨some 19,none,.mv (.t 3)⟩,⟨some 20,none,.mv (.t 4)⟩,⟨some 21,none,.load true 2 (.t 5)⟩,⟨some 22,none,.call 133 [(.t 21)]⟩,⟨some 23,none,.iaddr 2 (.t 19) (.t 20)⟩,⟨none,none,(.store 2 (.t 23) (.t 22))⟩]))) (.reg [⟨some 24,none,.bin .add false (.t 14) (.c (.int .i64 1))⟩,⟨some 14,none,.mv (.t 24)⟩]))))))) (.seq (.reg [⟨some 25,none,.mv (.t 3)⟩,⟨some 2,none,.mv (.t 25)⟩]) .ret)))))
theorem IA:Am Tryz.prog 165=some ⟨26,F2,[(.tmp 2)]⟩:=by kernel_rfl
theorem F3:modes 165=⟨[],.own [some (71,2)],none,false⟩:=by unfold modes; rfl
def J7:SC:=(.seq (.reg [⟨some 1,none,.boxv 71 2 (.t 0)⟩,⟨(some 2),none,(.alloc 71 [(.str ⟨#[]⟩),.nil])⟩]) (.seq (.dreg [[],[0],[],[2],[3,2],[1,0,4,3,2],[5,1,0,4,3,2]] [⟨some 3,none,.faddr 0 (.t 1)⟩,⟨some 4,none,.load false 1 (.t 3)⟩,⟨some 5,none,.faddr 1 (.t 1)⟩,⟨some 6,none,.load false 1 (.t 5)⟩,⟨some 7,none,.call 165 [(.t 6)]⟩,⟨(some 8),none,(.build [(.str ⟨#[]⟩),.nil] [(0,(1,(.t 4))),(1,(1,(.t 7)))])⟩,⟨none,none,(.store 2 (.t 2) (.t 8))⟩]) .ret))
theorem Pm:Am Tryz.prog 133=some ⟨9,J7,[(.cell 2 true 2)]⟩:=by kernel_rfl
theorem Be:modes 133=⟨[],.asis,none,false⟩:=by unfold modes; rfl
def MT:SC:=(.seq (.reg [⟨some 1,none,.boxv 71 2 (.t 0)⟩,⟨(some 2),none,(.alloc 71 [(.str ⟨#[]⟩),.nil])⟩]) (.seq (.reg [⟨some 5,none,.faddr 0 (.t 1)⟩,⟨some 6,none,.load false 1 (.t 5)⟩,⟨(some 7),none,(.build [(.str ⟨#[]⟩),.nil] [(0,(1,(.t 6)))])⟩,⟨(some 3),none,(.alloc 71 [(.str ⟨#[]⟩),.nil])⟩,⟨none,none,(.store 2 (.t 3) (.t 7))⟩]) (.seq (.seq (.reg [⟨some 4,none,.mv (.c (.int .i64 0))⟩]) (.block 0 (.loop [0,1,1,1,1,0,0,0,0,0,0,0,0,0,0,0,0,0,0,0,0,0,0,0,0,0,0] (.seq (.seq (.reg [⟨some 8,none,.mv (.t 4)⟩,⟨some 9,none,.faddr 1 (.t 1)⟩,⟨some 10,none,.load false 1 (.t 9)⟩,⟨some 11,none,.len false (.t 10)⟩,⟨some 12,none,.bin .lss false (.t 8) (.t 11)⟩]) (.cond (.t 12) .skip (.exit 0))) (.seq (.block 1 (.dreg [[],[0],[],[2],[],[3,2,4],[5,3,2,4],[6,5,3,2,4],[7,6,5,3,2,4],[1,0,8,7,6,5,3,2,4],[0,1,2,3,4,5,6,7,8,9],[10,0,1,2,3,4,5,6,7,8,9]] [⟨some 15,none,.faddr 1 (.t 3)⟩,⟨some 16,none,.load false 1 (.t 15)⟩,⟨some 17,none,.faddr 1 (.t 1)⟩,⟨some 18,none,.load false 1 (.t 17)⟩,⟨some 19,none,.mv (.t 4)⟩,⟨some 20,none,.iaddr 2 (.t 18) (.t 19)⟩,⟨some 21,none,.load true 2 (.t 20)⟩,⟨some 22,none,.call 148 [(.t 21)]⟩,⟨(some 23),none,(.mkrow 71 2 [(.str ⟨#[]⟩),.nil] 1 [(0,(.t 22))])⟩,⟨(some 24),none,(.append 71 2 40 [(.str ⟨#[]⟩),.nil] (.t 16) (.t 23))⟩,⟨some 25,none,.faddr 1 (.t 3)⟩,⟨none,none,(.store 1 (.t 25) (.t 24))⟩])) (.reg [⟨some 13,none,.mv (.t 4)⟩,⟨some 14,none,.bin .add false (.t 13) (.c (.int .i64 1))⟩,⟨some 4,none,.mv (.t 14)⟩])))))) (.seq (.reg [⟨some 26,none,.load true 2 (.t 3)⟩,⟨none,none,(.store 2 (.t 2) (.t 26))⟩]) .ret))))
theorem U2:Am Tryz.prog 148=some ⟨27,MT,[(.cell 2 true 2)]⟩:=by kernel_rfl
theorem CO:modes 148=⟨[],.frz,none,false⟩:=by unfold modes; rfl
theorem U3 (xs:List Tm) (hl:xs.length≤1099511627776) (h:∀ x∈xs,E 133 [x.sv] []=some (x.osv,x.obs)):E 165 [.arr (xs.map Tm.d)] []=some (.ref 0,[.row 71 2 (xs.map Tm.o)]):=by
  cases xs with
  | nil =>
    refine Ah IA F3 (of_decide_eq_true rfl) ?_
    simp (disch:=omega) only [F2,go_sem,Aa]
  | cons x0 xs0 =>
  generalize hxs:x0 :: xs0=xs at *
  have hpos:0 < xs.length:=by rw [← hxs]; simp
  refine Ah IA F3 (of_decide_eq_true rfl) ?_
  simp (disch:=omega) only [F2,go_sem,Aa]
  refine As (α:=Int) (fun a=>⟨slots 26 0 [(3,.ref 0),(12,.arr (xs.map Tm.d)),(13,.int .i64 xs.length),(14,.int .i64 a)],[.row 71 2 (FS Tm.o [.str ⟨#[]⟩,.ow []] xs a.toNat)]⟩) (fun a=>∃ k:Nat,a=k∧k≤(xs).length) (fun a=>(xs).length - (a).toNat) 0 ⟨0,rfl,Nat.zero_le _⟩ (by simp (disch:=omega) only [go_sem,Aa,Jm,Int.toNat_zero]) ?_
  rintro i ⟨k,hi,hk⟩
  have hni:i.toNat=k:=by omega
  have hni1:(i+1).toNat=k+1:=by omega
  rcases Nat.lt_or_ge k (xs).length with hlt | hge
  · have hg:=Aq Tm.d hlt
    rw [Tm.d_eq] at hg
    have hz:=Lh Tm.o [.str ⟨#[]⟩,.ow []] hlt
    have hc:=h xs[k] (List.getElem_mem hlt)
    have hs:=Li Tm.o [.str ⟨#[]⟩,.ow []] hlt
    rw [Tm.o_eq] at hs
    simp (disch:=omega) only [go_sem,Aa,hni,hg,hc,hz,Lf,Be,Tm.osv,Tm.obs]
    refine ⟨i+1,⟨k+1,by omega,hlt⟩,by omega,?_⟩
    simp (disch:=omega) only [go_sem,Aa,hni1,hs]
  · obtain rfl:k=xs.length:=by omega
    simp (disch:=omega) only [go_sem,Aa,hni,Lg]
theorem Wg (x:Tm) (h:E 165 [.arr (x.args.map Tm.d)] []=some (.ref 0,[.row 71 2 (x.args.map Tm.o)])):E 133 [x.sv] []=some (x.osv,x.obs):=by
  refine Ah Pm Be (of_decide_eq_true rfl) ?_
  simp (disch:=omega) only [J7,go_sem,Aa,h,F3]
theorem Js (x:Tm) (hn:x.nodes≤1099511627776):E 133 [x.sv] []=some (x.osv,x.obs) :=
  Wg x (U3 x.args (by have:=Tm.Ao x; have:=Tm.AB x.args; omega) fun y hy=>Js y (by have:=Tm.AZ hy; have:=Tm.Ao x; omega))
termination_by SizeOf.sizeOf x
decreasing_by exact Tm.Az hy
def Qen (res:RM) (n0:Nat) (rs:List RX) (Q:SV × List Ob→Prop) (x:X) (st:St):Prop:=∃ out,Se res n0 rs out x st∧Q out
theorem exq {α:Type} {a:α} {Q:α→Prop}:(∃ out,some a=some out∧Q out)=Q a:=propext ⟨fun ⟨o,h,q⟩=>by obtain rfl:=Option.some.inj h; exact q,fun q=>⟨a,rfl,q⟩⟩
theorem QdN {res:RM} {n0:Nat} {rs:List RX} {Q:SV × List Ob→Prop} {sl:List SV} {ob:List Ob}:Qen res n0 rs Q .ret ⟨sl,ob⟩=∃ out,MG res n0 ob (NE ⟨sl,ob⟩ rs)=some out∧Q out:=rfl
theorem QdO {res:RM} {n0:Nat} {rs:List RX} {Q:SV × List Ob→Prop} {sl:List SV} {ob:List Ob}:Qen res n0 rs Q .normal ⟨sl,ob⟩=∃ out,MG res n0 ob (NE ⟨sl,ob⟩ rs)=some out∧Q out:=rfl
attribute [go_sem] QdN QdO exq
def Tm.osh (x:Tm):List OT:=[.str x.name,.sh (x.args.map Tm.d)]
theorem Tm.QU (x:Tm):x.osh=[.str x.name,.sh (x.args.map Tm.d)]:=rfl
theorem Tm.MU:∀ xs:List Tm,OT.AS (xs.map Tm.osh)=true
  | []=>rfl
  | x :: xs=>by rw [List.map_cons,Tm.QU]; simp [OT.AS,OT.Dm,OT.full,Tm.MU xs]
theorem Tm.U4:∀ xs:List Tm,OT.erss (xs.map Tm.osh)=xs.map Tm.d
  | []=>rfl
  | x :: xs=>by rw [List.map_cons,List.map_cons,Tm.QU,Tm.d_eq]; simp [OT.erss,OT.ers,OT.er,Tm.U4 xs]
theorem D4 {α β:Type} (f:α→β) {xs:List α} {k:Nat} (h:k < xs.length):(xs.take k).map f++[f xs[k]]=(xs.take (k+1)).map f:=by
  rw [List.take_succ_eq_append_getElem h,List.map_append]; rfl
theorem QbL (x:Tm) (hn:x.nodes≤1099511627776) (ih:∀ y∈x.args,E 148 [y.sv] []=some (y.sv,[])):E 148 [x.sv] []=some (x.sv,[]):=by
  have hl:=Tm.AB x.args
  have hne:=Tm.Ao x
  have h10:((1:Int)=0)=False:=by simp
  have hfu:=Tm.MU x.args
  have her:=Tm.U4 x.args
  refine Ah U2 CO (of_decide_eq_true rfl) ?_
  simp (disch:=omega) only [MT,go_sem,Aa]
  refine As (α:=Int) (fun a=>⟨slots 27 0 [(1,.ptr 0 0),(2,.ptr 1 0),(3,.ptr 2 0),(4,.int .i64 a)],(if a=0 then [.box 71 [.str x.name,.arr (x.args.map Tm.d)],.box 71 [.str ⟨#[]⟩,.nil],.box 71 [.str x.name,.nil]] else [.box 71 [.str x.name,.arr (x.args.map Tm.d)],.box 71 [.str ⟨#[]⟩,.nil],.box 71 [.str x.name,.ref 3],.row 71 2 ((x.args.take a.toNat).map Tm.osh)])⟩) (fun a=>∃ k:Nat,a=k∧k≤(x.args).length) (fun a=>(x.args).length - (a).toNat) 0 ⟨0,rfl,Nat.zero_le _⟩ (by simp (disch:=omega) only [go_sem,Aa,eq_self,if_true]) ?_
  rintro i ⟨k,hi,hk⟩
  have hni:i.toNat=k:=by omega
  have hni1:(i+1).toNat=k+1:=by omega
  rcases Nat.lt_or_ge k (x.args).length with hlt | hge
  · have hg:=Aq Tm.d hlt
    rw [Tm.d_eq] at hg
    have hc:=ih x.args[k] (List.getElem_mem hlt)
    have hs:=D4 Tm.osh hlt
    rw [Tm.QU] at hs
    rcases Nat.eq_zero_or_pos k with h0 | h0
    · subst h0
      obtain rfl:i=0:=hi
      rw [List.take_zero,List.map_nil,List.nil_append] at hs
      simp (disch:=omega) only [go_sem,Aa,hni,hg,hc,CO,eq_self,if_true]
      refine ⟨1,⟨1,rfl,hlt⟩,by omega,?_⟩
      simp (disch:=omega) only [go_sem,Aa,h10,if_false,hs]
    · have hi0:(i=0)=False:=by simp; omega
      have hi1:(i+1=0)=False:=by simp; omega
      have htl:(x.args.take k).length=k:=by rw [List.length_take]; omega
      simp (disch:=omega) only [go_sem,Aa,hni,hg,hc,CO,hi0,if_false,htl]
      refine ⟨i+1,⟨k+1,by omega,hlt⟩,by omega,?_⟩
      simp (disch:=omega) only [go_sem,Aa,hni1,hi1,if_false,hs]
  · obtain rfl:k=x.args.length:=by omega
    have ht:x.args.take x.args.length=x.args:=List.take_length
    rcases Nat.eq_zero_or_pos x.args.length with h0 | h0
    · have hx:x.args=[]:=List.eq_nil_of_length_eq_zero h0
      obtain rfl:i=0:=by omega
      simp (disch:=omega) only [go_sem,Aa,hni,hx,eq_self,if_true,List.map_nil,List.length_nil]
    · have hi0:(i=0)=False:=by simp; omega
      simp (disch:=omega) only [go_sem,Aa,hni,hi0,if_false,ht,hfu,her]
theorem P7 (x:Tm) (hn:x.nodes≤1099511627776):E 148 [x.sv] []=some (x.sv,[]) :=
  QbL x hn fun y hy=>P7 y (by have:=Tm.AZ hy; have:=Tm.Ao x; omega)
termination_by SizeOf.sizeOf x
decreasing_by exact Tm.Az hy
def Hj:SC:=(.seq (.reg [⟨some 1,none,.boxv 73 3 (.t 0)⟩,⟨(some 2),none,(.alloc 73 [(.bool false),(.str ⟨#[]⟩),.nil])⟩]) (.seq (.dreg [[],[0],[],[2],[3,2],[1,0,4,3,2],[5,1,0,4,3,2]] [⟨some 3,none,.faddr 0 (.t 1)⟩,⟨some 4,none,.load false 1 (.t 3)⟩,⟨some 5,none,.faddr 1 (.t 1)⟩,⟨some 6,none,.load true 2 (.t 5)⟩,⟨some 7,none,.call 133 [(.t 6)]⟩,⟨(some 8),none,(.build [(.bool false),(.str ⟨#[]⟩),.nil] [(0,(1,(.t 4))),(1,(2,(.t 7)))])⟩,⟨none,none,(.store 3 (.t 2) (.t 8))⟩]) .ret))
theorem Mg:Am Tryz.prog 169=some ⟨9,Hj,[(.cell 2 true 3)]⟩:=by kernel_rfl
theorem CB:modes 169=⟨[],.own [none,none,some (71,2)],none,false⟩:=by unfold modes; rfl
def Hk:SC:=(.seq (.reg [⟨some 2,none,.boxv 73 3 (.t 0)⟩,⟨some 3,none,.boxv 73 3 (.t 1)⟩,⟨some 4,none,.mv (.c (.bool false))⟩]) (.seq (.reg [⟨some 5,none,.faddr 0 (.t 2)⟩,⟨some 6,none,.load false 1 (.t 5)⟩,⟨some 7,none,.faddr 0 (.t 3)⟩,⟨some 8,none,.load false 1 (.t 7)⟩,⟨some 9,none,.bin .eql true (.t 6) (.t 8)⟩,⟨some 10,none,.mv (.t 9)⟩,⟨(some 11),(some (10,true)),(.faddr 1 (.t 2))⟩,⟨(some 12),(some (10,true)),(.load true 2 (.t 11))⟩,⟨(some 13),(some (10,true)),(.faddr 1 (.t 3))⟩,⟨(some 14),(some (10,true)),(.load true 2 (.t 13))⟩,⟨(some 15),(some (10,true)),(.call 88 [(.t 12),(.t 14)])⟩,⟨some 16,none,.pick (.t 10) (.t 15) (.c (.bool false))⟩,⟨some 4,none,.mv (.t 16)⟩]) .ret))
theorem Mh:Am Tryz.prog 101=some ⟨17,Hk,[(.tmp 4)]⟩:=by kernel_rfl
theorem Mi:modes 101=⟨[],.asis,none,false⟩:=by unfold modes; rfl
def J8:SC:=(.seq (.reg [⟨some 2,none,.alloc 28 [.nil]⟩]) (.seq (.reg [⟨some 6,none,.build [.nil] []⟩,⟨some 3,none,.alloc 28 [.nil]⟩,⟨none,none,(.store 1 (.t 3) (.t 6))⟩]) (.seq (.seq (.reg [⟨some 7,none,.mv (.t 0)⟩,⟨some 8,none,.len false (.t 7)⟩,⟨some 9,none,.mv (.c (.int .i64 0))⟩]) (.block 0 (.loop [0,0,1,1,0,0,0,1,1,1,0,0,0,0,0,0,0,0,0,0,0,0,0,0,0,0,0,0,0] (.seq (.reg [⟨some 10,none,.bin .lss false (.t 9) (.t 8)⟩]) (.seq (.cond (.t 10) .skip (.exit 0)) (.seq (.block 1 (.seq (.reg [⟨some 11,none,.iaddr 3 (.t 7) (.t 9)⟩,⟨some 12,none,.load true 3 (.t 11)⟩,⟨(some 5),none,(.alloc 73 [(.bool false),(.str ⟨#[]⟩),.nil])⟩,⟨none,none,(.store 3 (.t 5) (.t 12))⟩]) (.dreg [[],[0],[],[2],[3,2],[1,0,4,3,2],[0,1,2,3,4,5],[6,0,1,2,3,4,5]] [⟨some 13,none,.faddr 0 (.t 3)⟩,⟨some 14,none,.load false 1 (.t 13)⟩,⟨some 15,none,.load true 3 (.t 5)⟩,⟨some 16,none,.call 169 [(.t 15)]⟩,⟨(some 17),none,(.mkrow 73 3 [(.bool false),(.str ⟨#[]⟩),.nil] 1 [(0,(.t 16))])⟩,⟨(some 18),none,(.append 73 3 48 [(.bool false),(.str ⟨#[]⟩),.nil] (.t 14) (.t 17))⟩,⟨some 19,none,.faddr 0 (.t 3)⟩,⟨none,none,(.store 1 (.t 19) (.t 18))⟩]))) (.reg [⟨some 20,none,.bin .add false (.t 9) (.c (.int .i64 1))⟩,⟨some 9,none,.mv (.t 20)⟩]))))))) (.seq (.reg [⟨some 21,none,.faddr 0 (.t 3)⟩,⟨some 22,none,.load false 1 (.t 21)⟩,⟨some 23,none,.call 170 [(.t 22),(.c (.fn 83 []))]⟩]) (.seq (.reg [⟨some 24,none,.faddr 0 (.t 3)⟩,⟨some 25,none,.load false 1 (.t 24)⟩,⟨some 26,none,.call 171 [(.t 25),(.c (.fn 101 []))]⟩,⟨some 27,none,.faddr 0 (.t 3)⟩,⟨none,none,(.store 1 (.t 27) (.t 26))⟩]) (.seq (.reg [⟨some 28,none,.load true 1 (.t 3)⟩,⟨none,none,(.store 1 (.t 2) (.t 28))⟩]) .ret))))))
theorem Pn:Am Tryz.prog 138=some ⟨29,J8,[(.cell 2 true 1)]⟩:=by kernel_rfl
theorem CI:modes 138=⟨[],.own [some (73,3)],none,false⟩:=by unfold modes; rfl
def L9:SC:=(.seq (.reg [⟨some 2,none,.alloc 28 [.nil]⟩]) (.seq (.reg [⟨(some 7),none,(.mkrow 73 3 [(.bool false),(.str ⟨#[]⟩),.nil] 0 [])⟩,⟨some 3,none,.mv (.t 7)⟩]) (.seq (.seq (.reg [⟨some 4,none,.mv (.c (.int .i64 0))⟩]) (.block 0 (.loop [1,0,1,1,1,0,0,0,0,0,0,0,0,0,0,0,0,0,0,0,0,0,0,0,0,0,0,0,0,0,0,0,0,0,0,0,0,0,0,0,0,0,0,0,0,0,0,0,0,0,0,0,0,0,0,0,0,0,0,0,0,0,0,0,0,0,0,0,0,0,0,0,0,0] (.seq (.seq (.reg [⟨some 8,none,.mv (.t 4)⟩,⟨some 9,none,.mv (.t 0)⟩,⟨some 10,none,.len false (.t 9)⟩,⟨some 11,none,.bin .lss false (.t 8) (.t 10)⟩]) (.cond (.t 11) .skip (.exit 0))) (.seq (.block 1 (.seq (.reg [⟨some 5,none,.mv (.c (.int .i64 0))⟩]) (.seq (.block 2 (.loop [1,0,1,1,1,1,0,0,0,0,0,0,0,0,0,0,0,0,0,0,0,0,0,0,0,0,0,0,0,0,0,0,0,0,0,0,0,0,0,0,0,0,0,0,0,0,0,0,0,0,0,0,0,0,0,0,0,0,0,0,0,0,0,0,0,0,0,0,0,0,0,0,0,0] (.seq (.seq (.dreg [[],[],[1],[0,2,1],[3,0,2,1],[4,3,0,2,1],[4,3,0,2,1],[5,4,3,0,2,1,6],[7,5,4,3,0,2,1,6],[4,3,0,2,1],[4,3,0,2,1],[9,4,3,0,2,1,10],[11,9,4,3,0,2,1,10],[8,7,5,4,3,0,2,1,6,12,11,9,10],[13,8,7,5,4,3,0,2,1,6,12,11,9,10],[4,3,0,2,1,14,13,8,7,5,6,12,11,9,10]] [⟨some 14,none,.mv (.t 5)⟩,⟨some 15,none,.mv (.t 3)⟩,⟨some 16,none,.len false (.t 15)⟩,⟨some 17,none,.bin .lss false (.t 14) (.t 16)⟩,⟨some 18,none,.mv (.t 17)⟩,⟨(some 19),(some (18,true)),(.mv (.t 3))⟩,⟨(some 20),(some (18,true)),(.mv (.t 5))⟩,⟨(some 21),(some (18,true)),(.iaddr 3 (.t 19) (.t 20))⟩,⟨(some 22),(some (18,true)),(.load true 3 (.t 21))⟩,⟨(some 23),(some (18,true)),(.mv (.t 0))⟩,⟨(some 24),(some (18,true)),(.mv (.t 4))⟩,⟨(some 25),(some (18,true)),(.iaddr 3 (.t 23) (.t 24))⟩,⟨(some 26),(some (18,true)),(.load true 3 (.t 25))⟩,⟨(some 27),(some (18,true)),(.call 73 [(.t 22),(.t 26)])⟩,⟨(some 28),(some (18,true)),(.bin .lss false (.t 27) (.c (.int .i64 0)))⟩,⟨some 29,none,.pick (.t 18) (.t 28) (.c (.bool false))⟩]) (.cond (.t 29) .skip (.exit 2))) (.block 3 (.reg [⟨some 30,none,.mv (.t 5)⟩,⟨some 31,none,.bin .add false (.t 30) (.c (.int .i64 1))⟩,⟨some 5,none,.mv (.t 31)⟩]))))) (.seq (.seq (.dreg [[],[],[1],[0,2,1],[3,0,2,1],[4,3,0,2,1],[4,3,0,2,1],[5,4,3,0,2,1,6],[7,5,4,3,0,2,1,6],[4,3,0,2,1],[4,3,0,2,1],[9,4,3,0,2,1,10],[11,9,4,3,0,2,1,10],[8,7,5,4,3,0,2,1,6,12,11,9,10],[13,8,7,5,4,3,0,2,1,6,12,11,9,10],[4,3,0,2,1,14,13,8,7,5,6,12,11,9,10]] [⟨some 32,none,.mv (.t 5)⟩,⟨some 33,none,.mv (.t 3)⟩,⟨some 34,none,.len false (.t 33)⟩,⟨some 35,none,.bin .lss false (.t 32) (.t 34)⟩,⟨some 36,none,.mv (.t 35)⟩,⟨(some 37),(some (36,true)),(.mv (.t 3))⟩,⟨(some 38),(some (36,true)),(.mv (.t 5))⟩,⟨(some 39),(some (36,true)),(.iaddr 3 (.t 37) (.t 38))⟩,⟨(some 40),(some (36,true)),(.load true 3 (.t 39))⟩,⟨(some 41),(some (36,true)),(.mv (.t 0))⟩,⟨(some 42),(some (36,true)),(.mv (.t 4))⟩,⟨(some 43),(some (36,true)),(.iaddr 3 (.t 41) (.t 42))⟩,⟨(some 44),(some (36,true)),(.load true 3 (.t 43))⟩,⟨(some 45),(some (36,true)),(.call 73 [(.t 40),(.t 44)])⟩,⟨(some 46),(some (36,true)),(.bin .eql false (.t 45) (.c (.int .i64 0)))⟩,⟨some 47,none,.pick (.t 36) (.t 46) (.c (.bool false))⟩]) (.cond (.t 47) (.exit 1) .skip)) (.seq (.dreg [[],[],[0,1],[2,0,1],[3,2,0,1],[],[],[5,6],[7,5,6],[8,7,5,6],[9,8,7,5,6],[4,3,2,0,1,10,9,8,7,5,6],[],[12,11,4,3,2,0,1,10,9,8,7,5,6]] [⟨some 48,none,.mv (.t 0)⟩,⟨some 49,none,.mv (.t 4)⟩,⟨some 50,none,.iaddr 3 (.t 48) (.t 49)⟩,⟨some 51,none,.faddr 0 (.t 50)⟩,⟨some 52,none,.load false 1 (.t 51)⟩,⟨some 53,none,.mv (.t 0)⟩,⟨some 54,none,.mv (.t 4)⟩,⟨some 55,none,.iaddr 3 (.t 53) (.t 54)⟩,⟨some 56,none,.faddr 1 (.t 55)⟩,⟨some 57,none,.load true 2 (.t 56)⟩,⟨some 58,none,.call 148 [(.t 57)]⟩,⟨(some 59),none,(.build [(.bool false),(.str ⟨#[]⟩),.nil] [(0,(1,(.t 52))),(1,(2,(.t 58)))])⟩,⟨(some 6),none,(.alloc 73 [(.bool false),(.str ⟨#[]⟩),.nil])⟩,⟨none,none,(.store 3 (.t 6) (.t 59))⟩]) (.dreg [[],[],[],[1,2],[0,3,1,2],[],[5],[4,0,3,1,2,6,5],[],[],[8,9],[7,4,0,3,1,2,6,5,10,8,9],[11,7,4,0,3,1,2,6,5,10,8,9]] [⟨(some 60),none,(.mkrow 73 3 [(.bool false),(.str ⟨#[]⟩),.nil] 0 [])⟩,⟨some 61,none,.mv (.t 3)⟩,⟨some 62,none,.mv (.t 5)⟩,⟨some 63,none,.slice false 3 (.t 61) none (some (.t 62))⟩,⟨(some 64),none,(.append 73 3 48 [(.bool false),(.str ⟨#[]⟩),.nil] (.t 60) (.t 63))⟩,⟨some 65,none,.load true 3 (.t 6)⟩,⟨(some 66),none,(.mkrow 73 3 [(.bool false),(.str ⟨#[]⟩),.nil] 1 [(0,(.t 65))])⟩,⟨(some 67),none,(.append 73 3 48 [(.bool false),(.str ⟨#[]⟩),.nil] (.t 64) (.t 66))⟩,⟨some 68,none,.mv (.t 3)⟩,⟨some 69,none,.mv (.t 5)⟩,⟨some 70,none,.slice false 3 (.t 68) (some (.t 69)) none⟩,⟨(some 71),none,(.append 73 3 48 [(.bool false),(.str ⟨#[]⟩),.nil] (.t 67) (.t 70))⟩,⟨some 3,none,.mv (.t 71)⟩])))))) (.reg [⟨some 12,none,.mv (.t 4)⟩,⟨some 13,none,.bin .add false (.t 12) (.c (.int .i64 1))⟩,⟨some 4,none,.mv (.t 13)⟩])))))) (.seq (.reg [⟨some 72,none,.mv (.t 3)⟩,⟨some 73,none,.build [.nil] [(0,(1,(.t 72)))]⟩,⟨none,none,(.store 1 (.t 2) (.t 73))⟩]) .ret))))
theorem Sk:Am Tryz.prog 117=some ⟨74,L9,[(.cell 2 true 1)]⟩:=by kernel_rfl
theorem CV:modes 117=⟨[],.frl [10],none,false⟩:=by unfold modes; rfl
theorem LA (x:Lt) (hn:x.atom.nodes≤1099511627776):E 169 [x.sv] []=some (x.osv,x.obs):=by
  have h:=Js x.atom hn
  refine Ah Mg CB (of_decide_eq_true rfl) ?_
  simp (disch:=omega) only [Hj,go_sem,Aa,h,Be,Tm.osv,Tm.obs]
theorem Lt.QdP (x y:Lt):dec (x=y)=(bif RU x.pos y.pos then dec (x.atom=y.atom) else false):=by
  obtain ⟨p,a⟩:=x
  obtain ⟨q,b⟩:=y
  have e:((⟨p,a⟩:Lt)=⟨q,b⟩) ↔ (p=q∧a=b):=by rw [Lt.mk.injEq]
  rw [ES e]
  cases p <;> cases q
  · show _=dec (a=b)
    exact ES (and_iff_right rfl)
  · exact AC fun h=>by cases h.1
  · exact AC fun h=>by cases h.1
  · show _=dec (a=b)
    exact ES (and_iff_right rfl)
theorem Sl (x y:Lt) (hnx:x.atom.nodes≤1099511627776) (hny:y.atom.nodes≤1099511627776):E 101 [x.sv,y.sv] []=some (.bool (dec (x=y)),[]):=by
  have h:=Ei x.atom y.atom hnx hny
  have b1:(false == true)=false:=rfl
  have b2:(true == false)=false:=rfl
  rw [Lt.QdP]
  cases hp:x.pos <;> cases hq:y.pos
  all_goals
    refine Ah Mh Mi (of_decide_eq_true rfl) ?_
    simp (disch:=omega) only [Hk,go_sem,Aa,h,hp,hq,b1,b2,RU,Ad]
def Lt.fine (x:Lt):Prop:=x.atom.cok=true∧x.atom.nodes≤1099511627776
theorem AO:modes 170=⟨[true],.asis,some H2,false⟩:=by unfold modes; rfl
theorem Qdf (t:TypeId) (l:List Lt) (hl:l.length≤1099511627776) (hc:∀ x∈l,x.fine):E 170 [.ref 0,.fn 83 []] [.row t 3 (l.map Lt.o)]=some (.tup [],[.row t 3 ((MB l).map Lt.o)]):=by
  rw [Jk (g:=H2) (congrArg FM.ext AO)]
  unfold H2
  simp only
  rw [A4 ⟨by first | trivial | rfl,by first | trivial | rfl,by simpa using hl,l,rfl,fun x hx y hy=>MR x y (hc x hx).1 (hc y hy).1 (hc x hx).2 (hc y hy).2⟩,cond_true,P6]
theorem Qaw:E 170 [.nil,.fn 83 []] []=some (.tup [],[]):=by
  rw [Jk (g:=H2) (congrArg FM.ext AO)]
  unfold H2
  simp only
  rw [A4 (by first | trivial | rfl),cond_true]
theorem AK:modes 171=⟨[true],.asis,some DN,false⟩:=by unfold modes; rfl
theorem Yt (t:TypeId) (l:List Lt) (hl:l.length≤1099511627776) (hc:∀ x∈l,x.fine):E 171 [.ref 0,.fn 101 []] [.row t 3 (l.map Lt.o)]=some (.ref 1,[.gone,.row t 3 ((GZ l).map Lt.o)]):=by
  rw [Jk (g:=DN) (congrArg FM.ext AK)]
  unfold DN
  simp only
  rw [A4 ⟨by first | trivial | rfl,by first | trivial | rfl,by simpa using hl,l,rfl,fun x hx y hy=>E_told (Sl x y (hc x hx).2 (hc y hy).2)⟩,cond_true,P6]
theorem U5:E 171 [.nil,.fn 101 []] []=some (.nil,[]):=by
  rw [Jk (g:=DN) (congrArg FM.ext AK)]
  unfold DN
  simp only
  rw [A4 (by first | trivial | rfl),cond_true]
noncomputable def mkC (l:List Lt):Cl:=⟨GZ (MB l)⟩
theorem Qdg:(mkC []).lits=[]:=by
  have e0:MB []=[]:=List.mergeSort_nil
  unfold mkC
  rw [e0]; rfl
theorem Mj (l:List Lt):Dt (mkC l).lits:=Uj (OO l)
theorem P8 (l:List Lt) (z:Lt):z∈(mkC l).lits ↔ z∈l:=by
  show z∈GZ (MB l) ↔ _
  rw [Qaj]
  exact (GC l).mem_iff
theorem Z0 (l:List Lt):(mkC l).lits.length≤l.length:=by
  show (GZ (MB l)).length≤_
  rw [NR]
  have:=Zs (GY (MB l)) (MB l).length
  rw [(GC l).length_eq] at this
  exact Nat.le_trans (by rw [(GC l).length_eq]; exact Nat.le_refl _) this
theorem QV (l:List Lt) (hl:l.length≤1048576) (hf:∀ x∈l,x.fine):E 138 [.arr (l.map Lt.d)] []=some ((mkC l).osv,(mkC l).obs):=by
  have h10:((1:Int)=0)=False:=by simp
  have hsn:=Qaw
  have hcn:=U5
  have hs1:=Qdf 73 l (by omega) hf
  have hs2:=Yt 73 (MB l) (by rw [(GC l).length_eq]; omega) (fun x hx=>hf x ((GC l).mem_iff.1 hx))
  refine Ah Pn CI (of_decide_eq_true rfl) ?_
  simp (disch:=omega) only [J8,go_sem,Aa]
  refine As (α:=Int) (fun a=>⟨slots 29 0 [(2,.ptr 0 0),(3,.ptr 1 0),(7,.arr (l.map Lt.d)),(8,.int .i64 l.length),(9,.int .i64 a)],(if a=0 then [.box 28 [.nil],.box 28 [.nil]] else [.box 28 [.nil],.box 28 [.ref 2],.row 73 3 ((l.take a.toNat).map Lt.o)])⟩) (fun a=>∃ k:Nat,a=k∧k≤(l).length) (fun a=>(l).length - (a).toNat) 0 ⟨0,rfl,Nat.zero_le _⟩ (by simp (disch:=omega) only [go_sem,Aa,eq_self,if_true]) ?_
  rintro i ⟨k,hi,hk⟩
  have hni:i.toNat=k:=by omega
  have hni1:(i+1).toNat=k+1:=by omega
  rcases Nat.lt_or_ge k (l).length with hlt | hge
  · have hg:=Aq Lt.d hlt
    rw [Lt.d_eq] at hg
    have hc:=LA l[k] (hf _ (List.getElem_mem hlt)).2
    have hs:=D4 Lt.o hlt
    rw [Lt.o_eq] at hs
    rcases Nat.eq_zero_or_pos k with h0 | h0
    · subst h0
      obtain rfl:i=0:=hi
      rw [List.take_zero,List.map_nil,List.nil_append] at hs
      simp (disch:=omega) only [go_sem,Aa,hni,hg,hc,CB,eq_self,if_true]
      refine ⟨1,⟨1,rfl,hlt⟩,by omega,?_⟩
      simp (disch:=omega) only [go_sem,Aa,h10,if_false,hs]
    · have hi0:(i=0)=False:=by simp; omega
      have hi1:(i+1=0)=False:=by simp; omega
      have htl:(l.take k).length=k:=by rw [List.length_take]; omega
      simp (disch:=omega) only [go_sem,Aa,hni,hg,hc,CB,hi0,if_false,htl]
      refine ⟨i+1,⟨k+1,by omega,hlt⟩,by omega,?_⟩
      simp (disch:=omega) only [go_sem,Aa,hni1,hi1,if_false,hs]
  · obtain rfl:k=l.length:=by omega
    have ht:l.take l.length=l:=List.take_length
    rcases Nat.eq_zero_or_pos l.length with h0 | h0
    · have hx:l=[]:=List.eq_nil_of_length_eq_zero h0
      obtain rfl:i=0:=by omega
      have hm:(mkC l).lits=[]:=by rw [hx]; exact Qdg
      simp (disch:=omega) only [go_sem,Aa,hni,eq_self,if_true,hsn,hcn,hm,List.map_nil,AO,AK]
    · have hi0:(i=0)=False:=by simp; omega
      have hm:(GZ (MB l))=(mkC l).lits:=rfl
      simp (disch:=omega) only [go_sem,Aa,hni,hi0,if_false,ht,hs1,hs2,hm,AO,AK]
noncomputable def Dc:List Lt→Lt→Nat
  | [],_=>0
  | y :: r,x=>if y.cmp x < 0 then Dc r x+1 else 0
noncomputable def Hv:List Lt→Lt→List Lt
  | [],x=>[x]
  | y :: r,x=>if y.cmp x < 0 then y :: Hv r x else if y.cmp x=0 then y :: r else x :: y :: r
theorem Z1 (x:Lt):∀ xs:List Lt,Dc xs x≤xs.length
  | []=>Nat.le_refl _
  | y :: r=>by
    rw [Dc]
    have:=Z1 x r
    split <;> simp <;> omega
theorem Qax {xs:List Lt} {x:Lt} {k:Nat} (h:k+Dc (xs.drop k) x=Dc xs x) (hk:k < xs.length):(xs[k].cmp x < 0∧k+1+Dc (xs.drop (k+1)) x=Dc xs x)∨(¬ xs[k].cmp x < 0∧k=Dc xs x):=by
  rw [List.drop_eq_getElem_cons hk,Dc] at h
  by_cases hq:xs[k].cmp x < 0
  · rw [if_pos hq] at h; exact .inl ⟨hq,by omega⟩
  · rw [if_neg hq] at h; exact .inr ⟨hq,by omega⟩
theorem QW {x:Lt}:∀ {xs:List Lt} (hlt:Dc xs x < xs.length),xs[Dc xs x].cmp x=0→Hv xs x=xs
  | [],hlt,_=>by simp at hlt
  | y :: r,hlt,h=>by
    rw [Hv]
    by_cases hq:y.cmp x < 0
    · have e:Dc (y :: r) x=Dc r x+1:=by rw [Dc,if_pos hq]
      rw [if_pos hq]
      simp only [e,List.length_cons,List.getElem_cons_succ] at hlt h
      rw [QW (by omega) h]
    · have e:Dc (y :: r) x=0:=by rw [Dc,if_neg hq]
      simp only [e,List.getElem_cons_zero] at h
      rw [if_neg hq,if_pos h]
theorem QX {x:Lt}:∀ {xs:List Lt},(∀ hlt:Dc xs x < xs.length,xs[Dc xs x].cmp x≠0)→Hv xs x=xs.take (Dc xs x)++[x]++xs.drop (Dc xs x)
  | [],_=>rfl
  | y :: r,h=>by
    rw [Hv]
    by_cases hq:y.cmp x < 0
    · have e:Dc (y :: r) x=Dc r x+1:=by rw [Dc,if_pos hq]
      rw [if_pos hq,e,List.take_succ_cons,List.drop_succ_cons,List.cons_append,List.cons_append]
      rw [QX fun hlt=>?_]
      have:=h (by rw [e]; simpa using hlt)
      simp only [e,List.getElem_cons_succ] at this
      exact this
    · have e:Dc (y :: r) x=0:=by rw [Dc,if_neg hq]
      have:=h (by rw [e]; simp)
      simp only [e,List.getElem_cons_zero] at this
      rw [if_neg hq,if_neg this,e]
      rfl
theorem MW (x z:Lt):∀ xs:List Lt,z∈Hv xs x ↔ z=x∨z∈xs
  | []=>by simp [Hv]
  | y :: r=>by
    rw [Hv]
    split
    · rw [List.mem_cons,MW x z r,List.mem_cons]
      constructor
      · rintro (h | h | h) <;> simp [h]
      · rintro (h | h | h) <;> simp [h]
    · split
      · rename_i h0
        have e:y=x:=(Lt.cmp_ord y x x).zero.1 h0
        subst e
        simp
      · simp
theorem OV (x:Lt):∀ {xs:List Lt},Dt xs→Dt (Hv xs x)
  | [],_=>List.pairwise_singleton _ _
  | y :: r,h=>by
    obtain ⟨h1,h2⟩:=List.pairwise_cons.1 h
    rw [Hv]
    split
    · rename_i hq
      refine List.pairwise_cons.2 ⟨fun z hz=>?_,OV x h2⟩
      rcases (MW x z r).1 hz with rfl | hz
      · exact hq
      · exact h1 z hz
    · split
      · exact h
      · rename_i hq h0
        have ha:=(Lt.cmp_ord y x x).anti
        have hxy:x.cmp y < 0:=by omega
        refine List.pairwise_cons.2 ⟨fun z hz=>?_,h⟩
        rcases List.mem_cons.1 hz with rfl | hz
        · exact hxy
        · exact (Lt.cmp_ord x y z).trans hxy (h1 z hz)
theorem Wh (x:Lt):∀ xs:List Lt,(Hv xs x).length≤xs.length+1
  | []=>Nat.le_refl _
  | y :: r=>by
    rw [Hv]
    have:=Wh x r
    split
    · simpa using this
    · split <;> simp
noncomputable def Kw (out l:List Lt):List Lt:=l.foldl Hv out
theorem Tx (z:Lt):∀ (l out:List Lt),z∈Kw out l ↔ z∈out∨z∈l
  | [],out=>by simp [Kw]
  | x :: l,out=>by
    show z∈Kw (Hv out x) l ↔ _
    rw [Tx z l,MW,List.mem_cons]
    constructor
    · rintro ((h | h) | h) <;> simp [h]
    · rintro (h | h | h) <;> simp [h]
theorem MX:∀ (l:List Lt) {out:List Lt},Dt out→Dt (Kw out l)
  | [],_,h=>h
  | x :: l,_,h=>MX l (OV x h)
theorem Qay (l:List Lt):Kw [] l=(mkC l).lits:=Ji (MX l List.Pairwise.nil) (Mj l) fun z=>by
  rw [Tx,P8]; simp
theorem Lt.ot_take (xs:List Lt) (k:Nat):((xs.map Lt.d).take k).map (fun x=>x.map D.ot)=(xs.take k).map fun b=>b.d.map D.ot:=by
  rw [← List.map_take,List.map_map]; rfl
theorem Lt.ot_drop (xs:List Lt) (k:Nat):((xs.map Lt.d).drop k).map (fun x=>x.map D.ot)=(xs.drop k).map fun b=>b.d.map D.ot:=by
  rw [← List.map_drop,List.map_map]; rfl
theorem Lt.al3 (xs:List Lt):((xs.map fun b=>b.d.map D.ot).all fun l=>l.length == 3)=true:=by
  rw [List.all_map,List.all_eq_true]
  intro x _
  show ((x.d.map D.ot).length == 3)=true
  rw [Lt.d_eq]; rfl
theorem Lt.ald3 (xs:List Lt):((xs.map Lt.d).all fun l=>l.length == 3)=true:=by
  rw [List.all_map,List.all_eq_true]
  intro x _
  show (x.d.length == 3)=true
  rw [Lt.d_eq]; rfl
theorem Lt.dfu:∀ xs:List Lt,OT.AS (xs.map fun b=>b.d.map D.ot)=true
  | []=>rfl
  | x :: xs=>by rw [List.map_cons,Lt.d_eq]; simp [OT.AS,OT.Dm,OT.full,D.ot,Lt.dfu xs]
theorem Lt.der:∀ xs:List Lt,OT.erss (xs.map fun b=>b.d.map D.ot)=xs.map Lt.d
  | []=>rfl
  | x :: xs=>by rw [List.map_cons,List.map_cons,Lt.d_eq]; simp [OT.erss,OT.ers,OT.er,D.ot,Lt.der xs]
theorem QY (l:List Lt) (hl:l.length≤1048576) (hf:∀ x∈l,x.fine):E 117 [.arr (l.map Lt.d)] []=some ((mkC l).sv,[]):=by
  have hsv:(mkC l).sv=.agg [.arr ((Kw [] l).map Lt.d)]:=by rw [Qay]
  rw [hsv]
  refine Ah Sk CV (of_decide_eq_true rfl) ?_
  simp (disch:=omega) only [L9,go_sem,Aa]
  refine As (α:=Int × List Lt) (fun a=>⟨slots 74 0 [(0,.arr (l.map Lt.d)),(2,.ptr 0 0),(3,.arr (a.2.map Lt.d)),(4,.int .i64 a.1)],[.box 28 [.nil]]⟩) (fun a=>∃ k:Nat,a.1=k∧k≤l.length∧Kw a.2 (l.drop k)=Kw [] l∧a.2.length≤k∧∀ y∈a.2,y.fine) (fun a=>l.length - a.1.toNat) (0,[]) ⟨0,rfl,Nat.zero_le _,by rw [List.drop_zero],Nat.le_refl _,fun y hy=>by cases hy⟩ (by simp (disch:=omega) only [go_sem,Aa]) ?_
  rintro ⟨i,out⟩ ⟨k,hi,hk,hR,hol,hof⟩
  dsimp only at hi hR hol hof
  have hni:i.toNat=k:=by omega
  rcases Nat.lt_or_ge k l.length with hlt | hge
  · have hg := Aq Lt.d hlt
    rw [Lt.d_eq] at hg
    have hxf:=hf l[k] (List.getElem_mem hlt)
    have hxn:∀ out2:List Lt,Hv out l[k]=out2→Kw out2 (l.drop (k+1))=Kw [] l:=fun out2 h=>by
      rw [List.drop_eq_getElem_cons hlt] at hR
      rw [← h]
      exact hR
    simp (disch:=omega) only [go_sem,Aa,hni,hg]
    refine As (α:=Int) (fun a=>⟨slots 74 0 [(0,.arr (l.map Lt.d)),(2,.ptr 0 0),(3,.arr (out.map Lt.d)),(4,.int .i64 i),(5,.int .i64 a)],[.box 28 [.nil]]⟩) (fun a=>∃ m:Nat,a=m∧m≤out.length∧m+Dc (out.drop m) l[k]=Dc out l[k]) (fun a=>out.length - a.toNat) 0 ⟨0,rfl,Nat.zero_le _,by rw [List.drop_zero,Nat.zero_add]⟩ (by simp (disch:=omega) only [go_sem,Aa]) ?_
    rintro j ⟨m,hj,hm,hR2⟩
    have hnj:j.toNat=m:=by omega
    have ho:=P7 l[k].atom hxf.2
    have e1:=Lt.ot_take out (Dc out l[k])
    have e2:=Lt.ot_drop out (Dc out l[k])
    have e3:=Lt.al3 (out.take (Dc out l[k]))
    have e4:=Lt.al3 (out.drop (Dc out l[k]))
    have e5:=Lt.ald3 out
    have l1:=Z1 l[k] out
    have e6:(out.map Lt.d).take out.length=out.map Lt.d:=List.take_of_length_le (by simp)
    have e7:(out.take (Dc out l[k])).length=Dc out l[k]:=by rw [List.length_take]; omega
    have e8:(out.drop (Dc out l[k])).length=out.length - Dc out l[k]:=List.length_drop
    have hfu:=Lt.dfu (Hv out l[k])
    have her:=Lt.der (Hv out l[k])
    have hpl:=Wh l[k] out
    have hpf:∀ y∈Hv out l[k],y.fine:=fun y hy=>by
      rcases (MW l[k] y out).1 hy with rfl | hy
      · exact hxf
      · exact hof y hy
    rcases Nat.lt_or_ge m out.length with hltm | hgem
    · have hgm:=Aq Lt.d hltm
      rw [Lt.d_eq] at hgm
      have hof2:=hof out[m] (List.getElem_mem hltm)
      have hc:=MQ out[m] l[k] hof2.1 hxf.1 hof2.2 hxf.2
      rcases Qax hR2 hltm with ⟨q,hR'⟩ | ⟨q,hm'⟩
      · simp (disch:=omega) only [go_sem,Aa,hni,hg,hnj,hgm,hc,Bw,q]
        exact ⟨j+1,⟨m+1,by omega,hltm,hR'⟩,by omega,by first | trivial | rfl⟩
      · subst hm'
        by_cases h0:out[Dc out l[k]].cmp l[k]=0
        · have hp:=QW hltm h0
          rw [h0] at hc
          simp (disch:=omega) only [go_sem,Aa,hni,hg,hnj,hgm,hc,Bw,q,h0]
          exact ⟨(i+1,out),⟨k+1,by dsimp only; omega,hlt,hxn _ hp,by dsimp only; omega,hof⟩,by dsimp only; omega,by first | trivial | rfl⟩
        · have hp:=QX (fun _=>h0)
          have hx2:(out.take (Dc out l[k])).map (fun b=>b.d.map D.ot)++[[OT.bool l[k].pos,.str l[k].atom.name,.sh (l[k].atom.args.map Tm.d)]]++(out.drop (Dc out l[k])).map (fun b=>b.d.map D.ot)=(Hv out l[k]).map fun b=>b.d.map D.ot:=by
            rw [hp]
            simp only [List.map_append,List.map_cons,List.append_assoc,List.cons_append,List.nil_append]
            rw [Lt.d_eq]; rfl
          simp (disch:=omega) only [go_sem,Aa,hni,hg,hnj,hgm,hc,Bw,q,h0,e1,e2,e3,e4,e5,e6,e7,e8,hx2,hfu,her,ho,List.length_append,Int.toNat_zero,CO]
          exact ⟨(i+1,Hv out l[k]),⟨k+1,by dsimp only; omega,hlt,hxn _ rfl,by dsimp only; omega,hpf⟩,by dsimp only; omega,by first | trivial | rfl⟩
    · obtain rfl:m=out.length:=by omega
      have hk':out.length=Dc out l[k]:=by rw [← hR2,List.drop_eq_nil_of_le (Nat.le_refl _)]; simp [Dc]
      have hp:=QX (x:=l[k]) (xs:=out) (fun hlt=>by omega)
      have hx2:(out.take (Dc out l[k])).map (fun b=>b.d.map D.ot)++[[OT.bool l[k].pos,.str l[k].atom.name,.sh (l[k].atom.args.map Tm.d)]]++(out.drop (Dc out l[k])).map (fun b=>b.d.map D.ot)=(Hv out l[k]).map fun b=>b.d.map D.ot:=by
        rw [hp]
        simp only [List.map_append,List.map_cons,List.append_assoc,List.cons_append,List.nil_append]
        rw [Lt.d_eq]; rfl
      rw [hk'] at hnj
      simp (disch:=omega) only [go_sem,Aa,hni,hg,hnj,e1,e2,e3,e4,e5,e6,e7,e8,hx2,hfu,her,ho,List.length_append,Int.toNat_zero,CO]
      exact ⟨(i+1,Hv out l[k]),⟨k+1,by dsimp only; omega,hlt,hxn _ rfl,by dsimp only; omega,hpf⟩,by dsimp only; omega,by first | trivial | rfl⟩
  · rw [List.drop_eq_nil_of_le hge] at hR
    have hR:out=Kw [] l:=hR
    rw [← hR]
    simp (disch:=omega) only [go_sem,Aa,hni]
theorem QZ:∀ x y:List UInt8,Op.bytesLess x y=true→Op.bytesLess y x=false
  | [],[],h=>by simp [Op.bytesLess] at h
  | [],_ :: _,_=>rfl
  | _ :: _,[],h=>by simp [Op.bytesLess] at h
  | a :: x,b :: y,h=>by
    simp only [Op.bytesLess,Bool.or_eq_true,decide_eq_true_eq,Bool.and_eq_true,beq_iff_eq] at h
    simp only [Op.bytesLess,Bool.or_eq_false_iff,decide_eq_false_iff_not]
    rcases h with h | ⟨rfl,h⟩
    · have h2:¬ b < a:=by intro h3; exact absurd (UInt8.lt_trans h h3) (UInt8.lt_irrefl _)
      have h3:(b == a)=false:=by
        rw [beq_eq_false_iff_ne]; rintro rfl; exact UInt8.lt_irrefl _ h
      exact ⟨h2,by rw [h3]; rfl⟩
    · exact ⟨UInt8.lt_irrefl _,by rw [QZ x y h]; simp⟩
theorem Ra:∀ x y:List UInt8,Op.bytesLess x y=false→Op.bytesLess y x=false→x=y
  | [],[],_,_=>rfl
  | [],_ :: _,h,_=>by simp [Op.bytesLess] at h
  | _ :: _,[],_,h=>by simp [Op.bytesLess] at h
  | a :: x,b :: y,h,k=>by
    simp only [Op.bytesLess,Bool.or_eq_false_iff,decide_eq_false_iff_not] at h k
    have hab:a=b:=by
      have h1:=h.1; have h2:=k.1
      rw [UInt8.lt_iff_toNat_lt] at h1 h2
      exact UInt8.toNat_inj.1 (by omega)
    subst hab
    have h1:Op.bytesLess x y=false:=by simpa using h.2
    have h2:Op.bytesLess y x=false:=by simpa using k.2
    rw [Ra x y h1 h2]
theorem Kx {a b:ByteArray} (h:AD a b=true):AD b a=false:=QZ _ _ h
theorem Ky {a b:ByteArray} (h:AD a b=false) (h':AD b a=false):a=b:=NF (Ra _ _ h h')
theorem IB (a b:ByteArray):(AD a b || dec (a=b))=!AD b a:=by
  cases h:AD b a with
  | false =>
    cases h2:AD a b with
    | false=>rw [A4 (Ky h2 h)]; rfl
    | true=>rfl
  | true =>
    rw [Kx h,AC (by rintro rfl; rw [Hh] at h; cases h)]
    rfl
theorem Rb:∀ x y z:List UInt8,Op.bytesLess x y=true→Op.bytesLess y z=true→Op.bytesLess x z=true
  | _,_,[],_,h=>by simp [Op.bytesLess] at h
  | [],[],_ :: _,h,_=>by simp [Op.bytesLess] at h
  | [],_ :: _,_ :: _,_,_=>rfl
  | _ :: _,[],_ :: _,h,_=>by simp [Op.bytesLess] at h
  | a :: x,b :: y,c :: z,h,k=>by
    simp only [Op.bytesLess,Bool.or_eq_true,decide_eq_true_eq,Bool.and_eq_true,beq_iff_eq] at h k ⊢
    rcases h with h | ⟨rfl,h⟩
    · rcases k with k | ⟨rfl,k⟩
      · exact .inl (UInt8.lt_trans h k)
      · exact .inl h
    · rcases k with k | ⟨rfl,k⟩
      · exact .inl k
      · exact .inr ⟨rfl,Rb x y z h k⟩
theorem Kz {a b c:ByteArray} (h:AD a b=true) (k:AD b c=true):AD a c=true:=Rb _ _ _ h k
theorem Wi {a b:ByteArray} (h:AD a b=true):¬ a=b:=by rintro rfl; rw [Hh] at h; cases h
theorem Wj (a b:ByteArray):dec (EF a b < 0)=AD a b:=by
  unfold EF
  cases AD a b
  · cases dec (a=b)
    · exact AC (by simp)
    · exact AC (by simp)
  · exact A4 (by simp)
theorem Qaz (a b:ByteArray):dec (EF a b=0)=dec (a=b):=by
  unfold EF
  cases h:AD a b
  · cases h2:dec (a=b)
    · exact AC (by simp)
    · exact A4 (by simp)
  · rw [AC (Wi h)]
    exact AC (by simp)
theorem QbM {n:Int} (h0:0≤n) (h1:n≤18446744073709551615):IntKind.u64.wrap n=n:=Vj (by
  have e1:IntKind.u64.min=0:=by decide
  have e2:IntKind.u64.max=18446744073709551615:=by decide
  unfold inK
  rw [e1,e2]
  exact ⟨h0,h1⟩)
noncomputable def Hw (x:Bd):Bool:=At x.var&&(x.term.valid&&!dec (x.term.name=x.var))
noncomputable def Wk (xs:List Bd) (k:Nat):Bool:=match xs[k]? with
  | none=>true
  | some x=>Hw x&&(match k with
    | 0=>true
    | j+1=>match xs[j]? with
      | none=>true
      | some y=>AD y.var x.var)
noncomputable def IC (xs:List Bd):Nat→Bool
  | 0=>true
  | k+1=>IC xs k&&Wk xs k
theorem Qa0 {xs:List Bd} {k n:Nat} (h:IC xs k=false) (hn:k≤n):IC xs n=false:=by
  induction n with
  | zero => obtain rfl:k=0:=by omega
            exact h
  | succ n ih =>
    rcases Nat.lt_or_ge n k with h1 | h1
    · obtain rfl:k=n+1:=by omega
      exact h
    · rw [IC,ih h1]; rfl
theorem ID {xs:List Bd} (h:0 < xs.length):Wk xs 0=Hw xs[0]:=by
  unfold Wk
  rw [List.getElem?_eq_getElem h]
  simp
theorem GF {xs:List Bd} {j:Nat} (h:j+1 < xs.length):Wk xs (j+1)=(Hw xs[j+1]&&AD xs[j].var xs[j+1].var):=by
  unfold Wk
  rw [List.getElem?_eq_getElem h]
  simp only [List.getElem?_eq_getElem (show j < xs.length by omega)]
theorem Z2 {xs:List Bd} {k j:Nat} (h:IC xs k=true) (hj:j < k):Wk xs j=true:=by
  induction k with
  | zero=>omega
  | succ k ih =>
    rw [IC,Bool.and_eq_true] at h
    rcases Nat.lt_or_ge j k with h1 | h1
    · exact ih h.1 h1
    · obtain rfl:j=k:=by omega
      exact h.2
theorem Qdh {xs:List Bd} {j:Nat} (hl:j < xs.length) (h:Wk xs j=true):Hw xs[j]=true:=by
  cases j with
  | zero=>rw [← ID hl]; exact h
  | succ j=>rw [GF hl,Bool.and_eq_true] at h; exact h.1
noncomputable def Sb.ok (x:Sb):Bool:=decide (x.binds.length≤12)&&IC x.binds x.binds.length
theorem Sb.not_ok {x:Sb} {k:Nat} (h:IC x.binds k=true) (h':Wk x.binds k=false) (hk:k < x.binds.length):x.ok=false:=by
  have:IC x.binds x.binds.length=false:=Qa0 (k:=k+1) (by rw [IC,h,h']; rfl) (by omega)
  unfold Sb.ok
  rw [this,Bool.and_false]
def Sb.tame (x:Sb):Prop:=x.binds.length≤1099511627776∧∀ y∈x.binds,y.term.nodes≤1099511627776
theorem Sb.tame_at {x:Sb} (h:x.tame) {k:Nat} (hk:k < x.binds.length):x.binds[k].term.nodes≤1099511627776:=h.2 _ (List.getElem_mem hk)
def DW:SC:=(.seq (.reg [⟨some 1,none,.boxv 76 1 (.t 0)⟩,⟨some 2,none,.mv (.c (.bool false))⟩]) (.seq (.seq (.reg [⟨some 5,none,.faddr 0 (.t 1)⟩,⟨some 6,none,.load false 1 (.t 5)⟩,⟨some 7,none,.len false (.t 6)⟩,⟨some 8,none,.mv (.c (.int .i64 0))⟩]) (.block 0 (.loop [0,1,0,0,0,0,1,1,1,0,0,0,0,0,0,0,0,0,0,0,0,0,0,0,0,0,0,0,0,0,0,0,0,0,0,0,0,0,0,0,0,0,0,0,0,0,0,0,0,0,0,0] (.seq (.reg [⟨some 9,none,.bin .lss false (.t 8) (.t 7)⟩]) (.seq (.cond (.t 9) .skip (.exit 0)) (.seq (.block 1 (.seq (.reg [⟨some 10,none,.mv (.t 8)⟩,⟨some 11,none,.iaddr 3 (.t 6) (.t 8)⟩,⟨some 12,none,.load true 3 (.t 11)⟩,⟨(some 4),none,(.alloc 139 [(.str ⟨#[]⟩),(.str ⟨#[]⟩),.nil])⟩,⟨some 3,none,.mv (.t 10)⟩,⟨none,none,(.store 3 (.t 4) (.t 12))⟩]) (.seq (.dreg [[],[0],[1,0],[2,1,0],[3,2,1,0],[4,3,2,1,0],[5,4,3,2,1,0],[6,5,4,3,2,1,0],[7,6,5,4,3,2,1,0],[8,7,6,5,4,3,2,1,0],[7,6,5,4,3,2,1,0],[10,7,6,5,4,3,2,1,0],[7,6,5,4,3,2,1,0],[12,7,6,5,4,3,2,1,0],[11,10,7,6,5,4,3,2,1,0,13,12],[14,11,10,7,6,5,4,3,2,1,0,13,12],[15,14,11,10,7,6,5,4,3,2,1,0,13,12],[9,8,7,6,5,4,3,2,1,0,16,15,14,11,10,13,12],[7,6,5,4,3,2,1,0,17,9,8,16,15,14,11,10,13,12],[4,3,2,1,0,18,7,6,5,17,9,8,16,15,14,11,10,13,12],[19,4,3,2,1,0,18,7,6,5,17,9,8,16,15,14,11,10,13,12],[20,19,4,3,2,1,0,18,7,6,5,17,9,8,16,15,14,11,10,13,12],[21,20,19,4,3,2,1,0,18,7,6,5,17,9,8,16,15,14,11,10,13,12],[22,21,20,19,4,3,2,1,0,18,7,6,5,17,9,8,16,15,14,11,10,13,12],[23,22,21,20,19,4,3,2,1,0,18,7,6,5,17,9,8,16,15,14,11,10,13,12],[20,19,4,3,2,1,0,18,7,6,5,17,9,8,16,15,14,11,10,13,12,24,23,22,21],[25,20,19,4,3,2,1,0,18,7,6,5,17,9,8,16,15,14,11,10,13,12,24,23,22,21],[26,25,20,19,4,3,2,1,0,18,7,6,5,17,9,8,16,15,14,11,10,13,12,24,23,22,21],[27,26,25,20,19,4,3,2,1,0,18,7,6,5,17,9,8,16,15,14,11,10,13,12,24,23,22,21],[28,27,26,25,20,19,4,3,2,1,0,18,7,6,5,17,9,8,16,15,14,11,10,13,12,24,23,22,21],[26,25,20,19,4,3,2,1,0,18,7,6,5,17,9,8,16,15,14,11,10,13,12,24,23,22,21],[30,26,25,20,19,4,3,2,1,0,18,7,6,5,17,9,8,16,15,14,11,10,13,12,24,23,22,21],[29,28,27,26,25,20,19,4,3,2,1,0,18,7,6,5,17,9,8,16,15,14,11,10,13,12,24,23,22,21,31,30],[26,25,20,19,4,3,2,1,0,18,7,6,5,17,9,8,16,15,14,11,10,13,12,24,23,22,21,32,29,28,27,31,30]] [⟨some 13,none,.faddr 0 (.t 4)⟩,⟨some 14,none,.load false 1 (.t 13)⟩,⟨some 15,none,.call 162 [(.t 14)]⟩,⟨some 16,none,.un .not (.t 15)⟩,⟨some 17,none,.mv (.t 16)⟩,⟨(some 18),(some (17,false)),(.mv (.t 3))⟩,⟨(some 19),(some (17,false)),(.bin .gtr false (.t 18) (.c (.int .i64 0)))⟩,⟨(some 20),(some (17,false)),(.mv (.t 19))⟩,⟨(some 21),(some (20,true)),(.faddr 0 (.t 4))⟩,⟨(some 22),(some (20,true)),(.load false 1 (.t 21))⟩,⟨(some 23),(some (20,true)),(.faddr 0 (.t 1))⟩,⟨(some 24),(some (20,true)),(.load false 1 (.t 23))⟩,⟨(some 25),(some (20,true)),(.mv (.t 3))⟩,⟨(some 26),(some (20,true)),(.bin .sub false (.t 25) (.c (.int .i64 1)))⟩,⟨(some 27),(some (20,true)),(.iaddr 3 (.t 24) (.t 26))⟩,⟨(some 28),(some (20,true)),(.faddr 0 (.t 27))⟩,⟨(some 29),(some (20,true)),(.load false 1 (.t 28))⟩,⟨(some 30),(some (20,true)),(.bin .leq false (.t 22) (.t 29))⟩,⟨(some 31),(some (17,false)),(.pick (.t 20) (.t 30) (.c (.bool false)))⟩,⟨some 32,none,.pick (.t 17) (.c (.bool true)) (.t 31)⟩,⟨some 33,none,.mv (.t 32)⟩,⟨(some 34),(some (33,false)),(.faddr 1 (.t 4))⟩,⟨(some 35),(some (33,false)),(.load true 2 (.t 34))⟩,⟨(some 36),(some (33,false)),(.call 154 [(.t 35)])⟩,⟨(some 37),(some (33,false)),(.un .not (.t 36))⟩,⟨some 38,none,.pick (.t 33) (.c (.bool true)) (.t 37)⟩,⟨some 39,none,.mv (.t 38)⟩,⟨(some 40),(some (39,false)),(.faddr 1 (.t 4))⟩,⟨(some 41),(some (39,false)),(.faddr 0 (.t 40))⟩,⟨(some 42),(some (39,false)),(.load false 1 (.t 41))⟩,⟨(some 43),(some (39,false)),(.faddr 0 (.t 4))⟩,⟨(some 44),(some (39,false)),(.load false 1 (.t 43))⟩,⟨(some 45),(some (39,false)),(.bin .eql false (.t 42) (.t 44))⟩,⟨some 46,none,.pick (.t 39) (.c (.bool true)) (.t 45)⟩]) (.cond (.t 46) (.seq (.reg [⟨some 2,none,.mv (.c (.bool false))⟩]) .ret) .skip)))) (.reg [⟨some 47,none,.bin .add false (.t 8) (.c (.int .i64 1))⟩,⟨some 8,none,.mv (.t 47)⟩]))))))) (.seq (.reg [⟨some 48,none,.faddr 0 (.t 1)⟩,⟨some 49,none,.load false 1 (.t 48)⟩,⟨some 50,none,.len false (.t 49)⟩,⟨some 51,none,.bin .leq false (.t 50) (.c (.int .i64 12))⟩,⟨some 2,none,.mv (.t 51)⟩]) .ret)))
theorem Hl:Am Tryz.prog 131=some ⟨52,DW,[(.tmp 2)]⟩:=by kernel_rfl
theorem A3:modes 131=⟨[],.asis,none,false⟩:=by unfold modes; rfl
def LB:SC:=(.seq (.reg [⟨some 1,none,.boxv 76 1 (.t 0)⟩,⟨some 2,none,.mv (.c (.bool false))⟩]) (.seq (.seq (.reg [⟨some 3,none,.mv (.c (.int .i64 0))⟩]) (.block 0 (.loop [0,1,0,1,0,0,0,0,0,0,0,0,0,0,0,0,0,0,0,0,0,0,0,0,0,0,0,0,0,0,0,0,0,0,0,0,0,0,0,0,0,0,0,0,0,0,0,0,0,0,0,0,0,0,0] (.seq (.seq (.reg [⟨some 5,none,.mv (.t 3)⟩,⟨some 6,none,.faddr 0 (.t 1)⟩,⟨some 7,none,.load false 1 (.t 6)⟩,⟨some 8,none,.len false (.t 7)⟩,⟨some 9,none,.bin .lss false (.t 5) (.t 8)⟩]) (.cond (.t 9) .skip (.exit 0))) (.seq (.block 1 (.seq (.reg [⟨some 12,none,.faddr 0 (.t 1)⟩,⟨some 13,none,.load false 1 (.t 12)⟩,⟨some 14,none,.mv (.t 3)⟩,⟨some 15,none,.iaddr 3 (.t 13) (.t 14)⟩,⟨some 16,none,.load true 3 (.t 15)⟩,⟨(some 4),none,(.alloc 139 [(.str ⟨#[]⟩),(.str ⟨#[]⟩),.nil])⟩,⟨none,none,(.store 3 (.t 4) (.t 16))⟩]) (.seq (.dreg [[],[0],[1,0],[2,1,0],[3,2,1,0],[4,3,2,1,0],[5,4,3,2,1,0],[6,5,4,3,2,1,0],[7,6,5,4,3,2,1,0],[4,3,2,1,0,8,7,6,5],[9,4,3,2,1,0,8,7,6,5],[10,9,4,3,2,1,0,8,7,6,5],[11,10,9,4,3,2,1,0,8,7,6,5],[12,11,10,9,4,3,2,1,0,8,7,6,5],[10,9,4,3,2,1,0,8,7,6,5],[14,10,9,4,3,2,1,0,8,7,6,5],[13,12,11,10,9,4,3,2,1,0,8,7,6,5,15,14],[10,9,4,3,2,1,0,8,7,6,5,16,13,12,11,15,14],[17,10,9,4,3,2,1,0,8,7,6,5,16,13,12,11,15,14],[18,17,10,9,4,3,2,1,0,8,7,6,5,16,13,12,11,15,14],[19,18,17,10,9,4,3,2,1,0,8,7,6,5,16,13,12,11,15,14],[20,19,18,17,10,9,4,3,2,1,0,8,7,6,5,16,13,12,11,15,14],[21,20,19,18,17,10,9,4,3,2,1,0,8,7,6,5,16,13,12,11,15,14],[22,21,20,19,18,17,10,9,4,3,2,1,0,8,7,6,5,16,13,12,11,15,14],[21,20,19,18,17,10,9,4,3,2,1,0,8,7,6,5,16,13,12,11,15,14],[24,21,20,19,18,17,10,9,4,3,2,1,0,8,7,6,5,16,13,12,11,15,14],[23,22,21,20,19,18,17,10,9,4,3,2,1,0,8,7,6,5,16,13,12,11,15,14,25,24],[26,23,22,21,20,19,18,17,10,9,4,3,2,1,0,8,7,6,5,16,13,12,11,15,14,25,24],[27,26,23,22,21,20,19,18,17,10,9,4,3,2,1,0,8,7,6,5,16,13,12,11,15,14,25,24],[21,20,19,18,17,10,9,4,3,2,1,0,8,7,6,5,16,13,12,11,15,14],[29,21,20,19,18,17,10,9,4,3,2,1,0,8,7,6,5,16,13,12,11,15,14],[28,27,26,23,22,21,20,19,18,17,10,9,4,3,2,1,0,8,7,6,5,16,13,12,11,15,14,25,24,30,29],[21,20,19,18,17,10,9,4,3,2,1,0,8,7,6,5,16,13,12,11,15,14,31,28,27,26,23,22,25,24,30,29],[18,17,10,9,4,3,2,1,0,8,7,6,5,16,13,12,11,15,14,32,21,20,19,31,28,27,26,23,22,25,24,30,29]] [⟨some 17,none,.faddr 0 (.t 4)⟩,⟨some 18,none,.load false 1 (.t 17)⟩,⟨some 19,none,.call 77 [(.t 18)]⟩,⟨some 20,none,.un .not (.t 19)⟩,⟨some 21,none,.mv (.t 20)⟩,⟨(some 22),(some (21,false)),(.faddr 1 (.t 4))⟩,⟨(some 23),(some (21,false)),(.load true 2 (.t 22))⟩,⟨(some 24),(some (21,false)),(.call 106 [(.t 23)])⟩,⟨(some 25),(some (21,false)),(.un .not (.t 24))⟩,⟨some 26,none,.pick (.t 21) (.c (.bool true)) (.t 25)⟩,⟨some 27,none,.mv (.t 26)⟩,⟨(some 28),(some (27,false)),(.faddr 1 (.t 4))⟩,⟨(some 29),(some (27,false)),(.faddr 0 (.t 28))⟩,⟨(some 30),(some (27,false)),(.load false 1 (.t 29))⟩,⟨(some 31),(some (27,false)),(.faddr 0 (.t 4))⟩,⟨(some 32),(some (27,false)),(.load false 1 (.t 31))⟩,⟨(some 33),(some (27,false)),(.bin .eql false (.t 30) (.t 32))⟩,⟨some 34,none,.pick (.t 27) (.c (.bool true)) (.t 33)⟩,⟨some 35,none,.mv (.t 34)⟩,⟨(some 36),(some (35,false)),(.mv (.t 3))⟩,⟨(some 37),(some (35,false)),(.bin .gtr false (.t 36) (.c (.int .i64 0)))⟩,⟨(some 38),(some (35,false)),(.mv (.t 37))⟩,⟨(some 39),(some (38,true)),(.faddr 0 (.t 1))⟩,⟨(some 40),(some (38,true)),(.load false 1 (.t 39))⟩,⟨(some 41),(some (38,true)),(.mv (.t 3))⟩,⟨(some 42),(some (38,true)),(.bin .sub false (.t 41) (.c (.int .i64 1)))⟩,⟨(some 43),(some (38,true)),(.iaddr 3 (.t 40) (.t 42))⟩,⟨(some 44),(some (38,true)),(.faddr 0 (.t 43))⟩,⟨(some 45),(some (38,true)),(.load false 1 (.t 44))⟩,⟨(some 46),(some (38,true)),(.faddr 0 (.t 4))⟩,⟨(some 47),(some (38,true)),(.load false 1 (.t 46))⟩,⟨(some 48),(some (38,true)),(.bin .geq false (.t 45) (.t 47))⟩,⟨(some 49),(some (35,false)),(.pick (.t 38) (.t 48) (.c (.bool false)))⟩,⟨some 50,none,.pick (.t 35) (.c (.bool true)) (.t 49)⟩]) (.cond (.t 50) (.seq (.reg [⟨some 2,none,.mv (.c (.bool false))⟩]) .ret) .skip)))) (.reg [⟨some 10,none,.mv (.t 3)⟩,⟨some 11,none,.bin .add false (.t 10) (.c (.int .i64 1))⟩,⟨some 3,none,.mv (.t 11)⟩])))))) (.seq (.reg [⟨some 51,none,.faddr 0 (.t 1)⟩,⟨some 52,none,.load false 1 (.t 51)⟩,⟨some 53,none,.len false (.t 52)⟩,⟨some 54,none,.bin .leq false (.t 53) (.c (.int .i64 12))⟩,⟨some 2,none,.mv (.t 54)⟩]) .ret)))
theorem Sm:Am Tryz.prog 109=some ⟨55,LB,[(.tmp 2)]⟩:=by kernel_rfl
theorem Ck:modes 109=⟨[],.asis,none,false⟩:=by unfold modes; rfl
def LC:SC:=(.seq (.reg [⟨some 2,none,.boxv 76 1 (.t 0)⟩,⟨some 4,none,.mv (.c (.int .i64 0))⟩]) (.seq (.seq (.reg [⟨some 5,none,.mv (.c (.int .i64 0))⟩]) (.block 0 (.loop [0,1,1,0,0,1,0,0,0,0,0,0,0,0,0,0,0,0,0,0,0,0] (.seq (.seq (.reg [⟨some 6,none,.mv (.t 5)⟩,⟨some 7,none,.faddr 0 (.t 2)⟩,⟨some 8,none,.load false 1 (.t 7)⟩,⟨some 9,none,.len false (.t 8)⟩,⟨some 10,none,.bin .lss false (.t 6) (.t 9)⟩]) (.cond (.t 10) .skip (.exit 0))) (.seq (.block 1 (.seq (.reg [⟨some 13,none,.faddr 0 (.t 2)⟩,⟨some 14,none,.load false 1 (.t 13)⟩,⟨some 15,none,.mv (.t 5)⟩,⟨some 16,none,.iaddr 3 (.t 14) (.t 15)⟩,⟨some 17,none,.faddr 0 (.t 16)⟩,⟨some 18,none,.load false 1 (.t 17)⟩,⟨some 19,none,.mv (.t 1)⟩,⟨some 20,none,.bin .eql false (.t 18) (.t 19)⟩]) (.cond (.t 20) (.seq (.reg [⟨some 21,none,.mv (.t 5)⟩,⟨some 4,none,.mv (.t 21)⟩]) .ret) .skip))) (.reg [⟨some 11,none,.mv (.t 5)⟩,⟨some 12,none,.bin .add false (.t 11) (.c (.int .i64 1))⟩,⟨some 5,none,.mv (.t 12)⟩])))))) (.seq (.reg [⟨some 4,none,.mv (.c (.int .i64 (-(0+1))))⟩]) .ret)))
theorem Sn:Am Tryz.prog 147=some ⟨22,LC,[(.tmp 4)]⟩:=by kernel_rfl
theorem BM:modes 147=⟨[],.asis,none,false⟩:=by unfold modes; rfl
theorem DG (x:Sb) (hn:x.tame):E 131 [x.sv] []=some (.bool x.ok,[]):=by
  have hl:=hn.1
  refine Ah Hl A3 (of_decide_eq_true rfl) ?_
  simp (disch:=omega) only [DW,go_sem,Aa]
  refine As (α:=Int) (fun a=>⟨slots 52 0 [(1,.ptr 0 0),(6,.arr (x.binds.map Bd.d)),(7,.int .i64 x.binds.length),(8,.int .i64 a)],[.box 76 [.arr (x.binds.map Bd.d)]]⟩) (fun a=>∃ k:Nat,a=k∧k≤(x.binds).length∧IC x.binds k=true) (fun a=>(x.binds).length - (a).toNat) 0 ⟨0,rfl,Nat.zero_le _,by rw [IC]⟩ (by simp (disch:=omega) only [go_sem,Aa]) ?_
  rintro i ⟨k,hi,hk,hR⟩
  have hni:i.toNat=k:=by omega
  have hni1:(i+1).toNat=k+1:=by omega
  rcases Nat.lt_or_ge k (x.binds).length with hlt | hge
  · have hg:=Aq Bd.d hlt
    rw [Bd.d_eq] at hg
    have hv:=L7 x.binds[k].term (Sb.tame_at hn hlt)
    cases k with
    | zero =>
      obtain rfl:i=0:=hi
      cases hA:At x.binds[0].var <;> cases hV:x.binds[0].term.valid <;> cases hD:dec (x.binds[0].term.name=x.binds[0].var)
      all_goals
        first
        | (have e:x.ok=false:=Sb.not_ok hR (by rw [ID hlt,Hw,hA,hV,hD]; rfl) hlt
           rw [e]
           simp (disch:=omega) only [go_sem,Aa,hni,hg,hv,hA,hV,hD,AN,Bu,Eg]
           done)
        | (simp (disch:=omega) only [go_sem,Aa,hni,hg,hv,hA,hV,hD,AN,Bu,Eg]
           exact ⟨1,⟨1,rfl,hlt,by rw [IC,hR,ID hlt,Hw,hA,hV,hD]; rfl⟩,by omega,by first | trivial | rfl⟩)
    | succ j =>
      have hj:j < x.binds.length:=by omega
      have hg2:=Aq Bd.d hj
      rw [Bd.d_eq] at hg2
      have hni2:(i - 1).toNat=j:=by omega
      have hLe:=IB x.binds[j+1].var x.binds[j].var
      cases hS:AD x.binds[j].var x.binds[j+1].var <;> cases hA:At x.binds[j+1].var <;> cases hV:x.binds[j+1].term.valid <;> cases hD:dec (x.binds[j+1].term.name=x.binds[j+1].var)
      all_goals
        first
        | (have e:x.ok=false:=Sb.not_ok hR (by rw [GF hlt,Hw,hA,hV,hD,hS]; rfl) hlt
           rw [e]
           simp (disch:=omega) only [go_sem,Aa,hni,hg,hv,hA,hV,hD,AN,Bu,Eg,hS,hni2,hg2,hLe]
           done)
        | (simp (disch:=omega) only [go_sem,Aa,hni,hg,hv,hA,hV,hD,AN,Bu,Eg,hS,hni2,hg2,hLe]
           exact ⟨i+1,⟨j+1+1,by omega,hlt,by rw [IC,hR,GF hlt,Hw,hA,hV,hD,hS]; rfl⟩,by omega,by first | trivial | rfl⟩)
  · obtain rfl:k=x.binds.length:=by omega
    simp (disch:=omega) only [go_sem,Aa,hni]
    unfold Sb.ok
    rw [hR,Bool.and_true,JZ]
    exact decide_eq_decide.2 (by omega)
theorem MY (x:Sb) (hn:x.tame):E 109 [x.sv] []=some (.bool x.ok,[]):=by
  have hl:=hn.1
  refine Ah Sm Ck (of_decide_eq_true rfl) ?_
  simp (disch:=omega) only [LB,go_sem,Aa]
  refine As (α:=Int) (fun a=>⟨slots 55 0 [(1,.ptr 0 0),(3,.int .i64 a)],[.box 76 [.arr (x.binds.map Bd.d)]]⟩) (fun a=>∃ k:Nat,a=k∧k≤(x.binds).length∧IC x.binds k=true) (fun a=>(x.binds).length - (a).toNat) 0 ⟨0,rfl,Nat.zero_le _,by rw [IC]⟩ (by simp (disch:=omega) only [go_sem,Aa]) ?_
  rintro i ⟨k,hi,hk,hR⟩
  have hni:i.toNat=k:=by omega
  have hni1:(i+1).toNat=k+1:=by omega
  rcases Nat.lt_or_ge k (x.binds).length with hlt | hge
  · have hg:=Aq Bd.d hlt
    rw [Bd.d_eq] at hg
    have hv:=QP x.binds[k].term (Sb.tame_at hn hlt)
    cases k with
    | zero =>
      obtain rfl:i=0:=hi
      cases hA:At x.binds[0].var <;> cases hV:x.binds[0].term.valid <;> cases hD:dec (x.binds[0].term.name=x.binds[0].var)
      all_goals
        first
        | (have e:x.ok=false:=Sb.not_ok hR (by rw [ID hlt,Hw,hA,hV,hD]; rfl) hlt
           rw [e]
           simp (disch:=omega) only [go_sem,Aa,hni,hg,hv,hA,hV,hD,Bj,Af,An]
           done)
        | (simp (disch:=omega) only [go_sem,Aa,hni,hg,hv,hA,hV,hD,Bj,Af,An]
           exact ⟨1,⟨1,rfl,hlt,by rw [IC,hR,ID hlt,Hw,hA,hV,hD]; rfl⟩,by omega,by first | trivial | rfl⟩)
    | succ j =>
      have hj:j < x.binds.length:=by omega
      have hg2:=Aq Bd.d hj
      rw [Bd.d_eq] at hg2
      have hni2:(i - 1).toNat=j:=by omega
      have hLe:=IB x.binds[j+1].var x.binds[j].var
      cases hS:AD x.binds[j].var x.binds[j+1].var <;> cases hA:At x.binds[j+1].var <;> cases hV:x.binds[j+1].term.valid <;> cases hD:dec (x.binds[j+1].term.name=x.binds[j+1].var)
      all_goals
        first
        | (have e:x.ok=false:=Sb.not_ok hR (by rw [GF hlt,Hw,hA,hV,hD,hS]; rfl) hlt
           rw [e]
           simp (disch:=omega) only [go_sem,Aa,hni,hg,hv,hA,hV,hD,Bj,Af,An,hS,hni2,hg2,hLe]
           done)
        | (simp (disch:=omega) only [go_sem,Aa,hni,hg,hv,hA,hV,hD,Bj,Af,An,hS,hni2,hg2,hLe]
           exact ⟨i+1,⟨j+1+1,by omega,hlt,by rw [IC,hR,GF hlt,Hw,hA,hV,hD,hS]; rfl⟩,by omega,by first | trivial | rfl⟩)
  · obtain rfl:k=x.binds.length:=by omega
    simp (disch:=omega) only [go_sem,Aa,hni]
    unfold Sb.ok
    rw [hR,Bool.and_true,JZ]
    exact decide_eq_decide.2 (by omega)
theorem Wl (x:Sb) (n:ByteArray) (hl:x.binds.length≤1099511627776):E 147 [x.sv,.str n] []=some (.int .i64 (Fj (fun b=>dec (b.var=n)) x.binds 0),[]):=by
  refine Ah Sn BM (of_decide_eq_true rfl) ?_
  simp (disch:=omega) only [LC,go_sem,Aa]
  refine As (α:=Int) (fun a=>⟨slots 22 0 [(1,.str n),(2,.ptr 0 0),(5,.int .i64 a)],[.box 76 [.arr (x.binds.map Bd.d)]]⟩) (fun a=>∃ k:Nat,a=k∧k≤(x.binds).length∧Fj (fun b=>dec (b.var=n)) (x.binds.drop k) a=Fj (fun b=>dec (b.var=n)) x.binds 0) (fun a=>(x.binds).length - (a).toNat) 0 ⟨0,rfl,Nat.zero_le _,by rw [List.drop_zero]⟩ (by simp (disch:=omega) only [go_sem,Aa]) ?_
  rintro i ⟨k,hi,hk,hR⟩
  have hni:i.toNat=k:=by omega
  have hni1:(i+1).toNat=k+1:=by omega
  rcases Nat.lt_or_ge k (x.binds).length with hlt | hge
  · have hg:=Aq Bd.d hlt
    rw [Bd.d_eq] at hg
    rw [List.drop_eq_getElem_cons hlt,Fj] at hR
    cases hp:dec (x.binds[k].var=n) with
    | true =>
      rw [hp] at hR
      simp (disch:=omega) only [go_sem,Aa,hni,hg,hp]
      simpa using hR
    | false =>
      rw [hp] at hR
      simp (disch:=omega) only [go_sem,Aa,hni,hg,hp]
      exact ⟨i+1,⟨k+1,by omega,hlt,by simpa using hR⟩,by omega,by first | trivial | rfl⟩
  · rw [List.drop_eq_nil_of_le hge,Fj] at hR
    simp (disch:=omega) only [go_sem,Aa,hni]
    exact hR
def MZ (xs:List Bd):Prop:=∀ j k (h:j < k) (hk:k < xs.length),AD xs[j].var xs[k].var=true
theorem Qdi {xs:List Bd} (h:IC xs xs.length=true):MZ xs:=by
  intro j k hjk hk
  induction k with
  | zero=>omega
  | succ k ih =>
    have h1:=Z2 h hk
    rw [GF hk,Bool.and_eq_true] at h1
    rcases Nat.lt_or_ge j k with h2 | h2
    · exact Kz (ih h2 (by omega)) h1.2
    · obtain rfl:j=k:=by omega
      exact h1.2
theorem Sb.J9 {x:Sb} (h:x.ok=true):MZ x.binds:=by
  unfold Sb.ok at h
  rw [Bool.and_eq_true] at h
  exact Qdi h.2
def Bt:List Bd→ByteArray→Nat
  | [],_=>0
  | x :: xs,n=>if AD x.var n then Bt xs n+1 else 0
theorem U6 (n:ByteArray):∀ xs:List Bd,Bt xs n≤xs.length
  | []=>Nat.le_refl _
  | x :: xs=>by
    have:=U6 n xs
    rw [Bt]; simp only [List.length_cons]; split <;> omega
theorem K0 (n:ByteArray):∀ (xs:List Bd) (j:Nat) (h:j < xs.length),j < Bt xs n→AD xs[j].var n=true
  | [],j,h,_=>absurd h (by simp)
  | x :: xs,j,h,hj=>by
    rw [Bt] at hj
    split at hj
    · rename_i hx
      cases j with
      | zero=>exact hx
      | succ j=>exact K0 n xs j (by simpa using h) (by omega)
    · omega
theorem U7 (n:ByteArray):∀ (xs:List Bd) (h:Bt xs n < xs.length),AD (xs[Bt xs n]).var n=false
  | [],h=>absurd h (by simp)
  | x :: xs,h=>by
    cases hx:AD x.var n with
    | false =>
      have e:Bt (x :: xs) n=0:=by rw [Bt,if_neg (by rw [hx]; simp)]
      simp only [e,List.getElem_cons_zero]; exact hx
    | true =>
      have e:Bt (x :: xs) n=Bt xs n+1:=by rw [Bt,if_pos hx]
      have h2:Bt xs n < xs.length:=by rw [e] at h; simpa using h
      simp only [e,List.getElem_cons_succ]; exact U7 n xs h2
theorem QbN {xs:List Bd} (hs:MZ xs) (n:ByteArray) {m:Nat} (h:m < xs.length):AD xs[m].var n=true ↔ m < Bt xs n:=by
  constructor
  · intro h1
    rcases Nat.lt_or_ge m (Bt xs n) with h2 | h2
    · exact h2
    · have h3:=U7 n xs (by omega)
      rcases Nat.lt_or_ge (Bt xs n) m with h4 | h4
      · rw [Kz (hs _ _ h4 h) h1] at h3; cases h3
      · have e:Bt xs n=m:=by omega
        simp only [e] at h3
        rw [h1] at h3; cases h3
  · exact K0 n xs m h
noncomputable def DH (xs:List Bd) (n:ByteArray):Bool:=match xs[Bt xs n]? with
  | none=>false
  | some b=>dec (b.var=n)
def DX:SC:=(.seq (.reg [⟨some 2,none,.boxv 139 3 (.t 0)⟩,⟨some 4,none,.mv (.c (.int .i64 0))⟩]) (.seq (.reg [⟨some 5,none,.faddr 0 (.t 2)⟩,⟨some 6,none,.load false 1 (.t 5)⟩,⟨some 7,none,.mv (.t 1)⟩,⟨some 8,none,.call 136 [(.t 6),(.t 7)]⟩,⟨some 4,none,.mv (.t 8)⟩]) .ret))
theorem Hm:Am Tryz.prog 164=some ⟨9,DX,[(.tmp 4)]⟩:=by kernel_rfl
theorem BR:modes 164=⟨[],.asis,none,false⟩:=by unfold modes; rfl
theorem CC:Lq Tryz.prog 164=true:=by kernel_rfl
def Bh:SC:=(.seq (.reg [⟨some 6,none,.mv (.c (.int .i64 0))⟩,⟨some 7,none,.mv (.c (.bool false))⟩]) (.seq (.reg [⟨some 12,none,.mv (.t 0)⟩,⟨some 13,none,.len false (.t 12)⟩,⟨some 8,none,.mv (.t 13)⟩]) (.seq (.reg [⟨some 14,none,.mv (.t 8)⟩,⟨some 9,none,.mv (.c (.int .i64 0))⟩,⟨some 10,none,.mv (.t 14)⟩]) (.seq (.block 0 (.loop [1,1,1,0,0,0,0,0,1,1,1,0,0,0,0,0,0,0,0,0,0,0,0,0,0,0,0,0,0,0,0,0,0,0,0,0,0,0,0,0,0,0,0,0,0,0,0,0,0] (.seq (.seq (.reg [⟨some 15,none,.mv (.t 9)⟩,⟨some 16,none,.mv (.t 10)⟩,⟨some 17,none,.bin .lss false (.t 15) (.t 16)⟩]) (.cond (.t 17) .skip (.exit 0))) (.block 1 (.seq (.reg [⟨some 18,none,.mv (.t 9)⟩,⟨some 19,none,.mv (.t 10)⟩,⟨some 20,none,.bin .add false (.t 18) (.t 19)⟩,⟨some 21,none,.conv .u64 (.t 20)⟩,⟨some 22,none,.bin .shr false (.t 21) (.c (.int .u64 1))⟩,⟨some 23,none,.conv .i64 (.t 22)⟩,⟨some 11,none,.mv (.t 23)⟩]) (.seq (.reg [⟨some 24,none,.mv (.t 2)⟩,⟨some 25,none,.mv (.t 0)⟩,⟨some 26,none,.mv (.t 11)⟩,⟨some 27,none,.iaddr 3 (.t 25) (.t 26)⟩,⟨some 28,none,.load true 3 (.t 27)⟩,⟨some 29,none,.mv (.t 1)⟩,⟨some 30,none,.callv (.t 24) [(.t 28),(.t 29)]⟩,⟨some 31,none,.bin .lss false (.t 30) (.c (.int .i64 0))⟩]) (.cond (.t 31) (.reg [⟨some 32,none,.mv (.t 11)⟩,⟨some 33,none,.bin .add false (.t 32) (.c (.int .i64 1))⟩,⟨some 9,none,.mv (.t 33)⟩]) (.reg [⟨some 34,none,.mv (.t 11)⟩,⟨some 10,none,.mv (.t 34)⟩])))))))) (.seq (.reg [⟨some 35,none,.mv (.t 9)⟩,⟨some 36,none,.mv (.t 9)⟩,⟨some 37,none,.mv (.t 8)⟩,⟨some 38,none,.bin .lss false (.t 36) (.t 37)⟩,⟨some 39,none,.mv (.t 38)⟩,⟨(some 40),(some (39,true)),(.mv (.t 2))⟩,⟨(some 41),(some (39,true)),(.mv (.t 0))⟩,⟨(some 42),(some (39,true)),(.mv (.t 9))⟩,⟨(some 43),(some (39,true)),(.iaddr 3 (.t 41) (.t 42))⟩,⟨(some 44),(some (39,true)),(.load true 3 (.t 43))⟩,⟨(some 45),(some (39,true)),(.mv (.t 1))⟩,⟨(some 46),(some (39,true)),(.callv (.t 40) [(.t 44),(.t 45)])⟩,⟨(some 47),(some (39,true)),(.bin .eql false (.t 46) (.c (.int .i64 0)))⟩,⟨some 48,none,.pick (.t 39) (.t 47) (.c (.bool false))⟩,⟨some 6,none,.mv (.t 35)⟩,⟨some 7,none,.mv (.t 48)⟩]) .ret)))))
theorem Cg:Am Tryz.prog 163=some ⟨49,Bh,[(.tmp 6),(.tmp 7)]⟩:=by kernel_rfl
theorem AJ:modes 163=⟨[],.asis,none,false⟩:=by unfold modes; rfl
def CW:SC:=(.seq (.reg [⟨some 2,none,.boxv 76 1 (.t 0)⟩,⟨(some 4),none,(.alloc 71 [(.str ⟨#[]⟩),.nil])⟩,⟨some 5,none,.mv (.c (.bool false))⟩]) (.seq (.reg [⟨some 9,none,.faddr 0 (.t 2)⟩,⟨some 10,none,.load false 1 (.t 9)⟩,⟨some 11,none,.mv (.t 1)⟩,⟨some 12,none,.call 163 [(.t 10),(.t 11),(.c (.fn 164 []))]⟩,⟨some 8,none,.mv (.t 12)⟩,⟨some 13,none,.ext (.t 8) 0⟩,⟨some 14,none,.ext (.t 8) 1⟩,⟨some 6,none,.mv (.t 13)⟩,⟨some 7,none,.mv (.t 14)⟩]) (.seq (.seq (.reg [⟨some 15,none,.mv (.t 7)⟩,⟨some 16,none,.un .not (.t 15)⟩]) (.cond (.t 16) (.seq (.reg [⟨(some 17),none,(.build [(.str ⟨#[]⟩),.nil] [])⟩,⟨none,none,(.store 2 (.t 4) (.t 17))⟩,⟨some 5,none,.mv (.c (.bool false))⟩]) .ret) .skip)) (.seq (.reg [⟨some 18,none,.faddr 0 (.t 2)⟩,⟨some 19,none,.load false 1 (.t 18)⟩,⟨some 20,none,.mv (.t 6)⟩,⟨some 21,none,.iaddr 3 (.t 19) (.t 20)⟩,⟨some 22,none,.faddr 1 (.t 21)⟩,⟨some 23,none,.load true 2 (.t 22)⟩,⟨none,none,(.store 2 (.t 4) (.t 23))⟩,⟨some 5,none,.mv (.c (.bool true))⟩]) .ret))))
theorem Ex:Am Tryz.prog 132=some ⟨24,CW,[(.cell 4 true 2),(.tmp 5)]⟩:=by kernel_rfl
theorem A9:modes 132=⟨[],.frz,none,false⟩:=by unfold modes; rfl
theorem Z3 (b:Bd) (n:ByteArray):E 164 [b.sv,.str n] []=some (.int .i64 (EF b.var n),[]):=by
  have h:=Jq b.var n
  refine Ah Hm BR (of_decide_eq_true rfl) ?_
  simp (disch:=omega) only [DX,go_sem,Aa,h,AF]
theorem Ty (xs:List Bd) (n:ByteArray) (hl:xs.length≤1099511627776) (hs:MZ xs):E 163 [.arr (xs.map Bd.d),.str n,.fn 164 []] []=some (.tup [.int .i64 (Bt xs n:Nat),.bool (DH xs n)],[]):=by
  have hlow:=U6 n xs
  obtain ⟨L,hL⟩:∃ L:Int,L=(Bt xs n:Nat):=⟨_,rfl⟩
  rw [← hL]
  refine Ah Cg AJ (of_decide_eq_true rfl) ?_
  simp (disch:=omega) only [Bh,go_sem,Aa]
  refine As (α:=Int × Int) (fun a=>⟨slots 49 0 [(0,.arr (xs.map Bd.d)),(1,.str n),(2,.fn 164 []),(8,.int .i64 xs.length),(9,.int .i64 a.1),(10,.int .i64 a.2)],[]⟩) (fun a=>0≤a.1∧a.1≤L∧L≤a.2∧a.2≤xs.length) (fun a=>(a.2 - a.1).toNat) (0,xs.length) ⟨by simp,by dsimp only; omega,by dsimp only; omega,by dsimp only; omega⟩ (by simp (disch:=omega) only [go_sem,Aa]) ?_
  rintro ⟨i,j⟩ ⟨h0,h1,h2,h3⟩
  dsimp only at h0 h1 h2 h3
  rcases Int.lt_or_le i j with hij | hij
  · obtain ⟨m,hm⟩:∃ m:Nat,(i+j) / 2=(m:Int):=⟨((i+j) / 2).toNat,by omega⟩
    have hlt:m < xs.length:=by omega
    have hni:(m:Int).toNat=m:=Int.toNat_natCast m
    have hg:=Aq Bd.d hlt
    rw [Bd.d_eq] at hg
    have hc:=Z3 xs[m] n
    have hw:IntKind.u64.wrap (i+j)=i+j:=QbM (by omega) (by omega)
    have hi:=QbN hs n hlt
    obtain ⟨M,hM⟩:∃ M:Int,(i+j) / 2=M:=⟨_,rfl⟩
    have hni:M.toNat=m:=by omega
    cases hq:AD xs[m].var n with
    | true =>
      have hi2:=hi.1 hq
      simp (disch:=omega) only [go_sem,Aa,hw,hni,hg,hc,CC,BR,Wj,hq,hM]
      exact ⟨(M+1,j),⟨by dsimp only; omega,by dsimp only; omega,by dsimp only; omega,by dsimp only; omega⟩,by dsimp only; omega,by first | trivial | rfl⟩
    | false =>
      have hi2:¬ m < Bt xs n:=by rw [← hi,hq]; simp
      simp (disch:=omega) only [go_sem,Aa,hw,hni,hg,hc,CC,BR,Wj,hq,hM]
      exact ⟨(i,M),⟨by dsimp only; omega,by dsimp only; omega,by dsimp only; omega,by dsimp only; omega⟩,by dsimp only; omega,by first | trivial | rfl⟩
  · obtain rfl:i=L:=by omega
    rcases Nat.lt_or_ge (Bt xs n) xs.length with hlt | hge
    · have hg:=Aq Bd.d hlt
      rw [Bd.d_eq] at hg
      have hni:i.toNat=Bt xs n:=by omega
      have hc:=Z3 xs[Bt xs n] n
      have hh:DH xs n=dec (xs[Bt xs n].var=n):=by unfold DH; rw [List.getElem?_eq_getElem hlt]
      rw [hh]
      simp (disch:=omega) only [go_sem,Aa,hni,hg,hc,CC,BR,Qaz]
    · have hh:DH xs n=false:=by unfold DH; rw [List.getElem?_eq_none hge]
      rw [hh]
      simp (disch:=omega) only [go_sem,Aa]
theorem Wm {α:Type} (p:α→Bool):∀ (xs:List α) (k:Nat) (i:Int) (h:k < xs.length),(∀ j (hj:j < k),p xs[j]=false)→p xs[k]=true→Fj p xs i=i+k
  | [],k,i,h,_,_=>absurd h (by simp)
  | x :: xs,0,i,h,_,hp=>by rw [Fj,if_pos (show p x=true from hp)]; simp
  | x :: xs,k+1,i,h,hb,hp=>by
    have h0:p x=false:=hb 0 (by omega)
    have:=Wm p xs k (i+1) (by simpa using h) (fun j hj=>hb (j+1) (by omega)) hp
    rw [Fj,if_neg (by rw [h0]; simp),this]; omega
theorem U8 {α:Type} (p:α→Bool):∀ (xs:List α) (i:Int),(∀ j (hj:j < xs.length),p xs[j]=false)→Fj p xs i=-1
  | [],i,_=>by rw [Fj]
  | x :: xs,i,h=>by
    have h0:p x=false:=h 0 (by simp)
    rw [Fj,if_neg (by rw [h0]; simp)]
    exact U8 p xs (i+1) fun j hj=>h (j+1) (by simpa using hj)
theorem Rc {xs:List Bd} (hs:MZ xs) (n:ByteArray):Fj (fun b=>dec (b.var=n)) xs 0=if DH xs n then ((Bt xs n:Nat):Int) else -1:=by
  have before:∀ j (hj:j < xs.length),j < Bt xs n→dec (xs[j].var=n)=false:=fun j hj hL=>AC (Wi (K0 n xs j hj hL))
  rcases Nat.lt_or_ge (Bt xs n) xs.length with hlt | hge
  · have hh:DH xs n=dec (xs[Bt xs n].var=n):=by unfold DH; rw [List.getElem?_eq_getElem hlt]
    cases hq:dec (xs[Bt xs n].var=n) with
    | true =>
      rw [hh,hq,if_pos rfl,Wm _ xs (Bt xs n) 0 hlt (fun j hj=>before j (by omega) hj) hq]; omega
    | false =>
      rw [hh,hq,if_neg (by simp)]
      refine U8 _ xs 0 fun j hj=>?_
      rcases Nat.lt_trichotomy j (Bt xs n) with h | h | h
      · exact before j hj h
      · subst h; exact hq
      · refine AC fun e=>?_
        have h1:=hs _ _ h hj
        rw [e,U7 n xs hlt] at h1
        cases h1
  · have hh:DH xs n=false:=by unfold DH; rw [List.getElem?_eq_none hge]
    rw [hh,if_neg (by simp)]
    exact U8 _ xs 0 fun j hj=>before j hj (by omega)
theorem H9 {xs:List Bd} {n:ByteArray} (h:DH xs n=true):Bt xs n < xs.length:=by
  rcases Nat.lt_or_ge (Bt xs n) xs.length with h1 | h1
  · exact h1
  · unfold DH at h; rw [List.getElem?_eq_none h1] at h; cases h
noncomputable def Sb.look (x:Sb) (n:ByteArray):Option Tm:=if h:DH x.binds n=true then some (x.binds[Bt x.binds n]'(H9 h)).term else none
theorem Rd (x:Sb) (hx:MZ x.binds) (n:ByteArray) (hl:x.binds.length≤1099511627776) (hh:DH x.binds n=true) (hlt:Bt x.binds n < x.binds.length):E 132 [x.sv,.str n] []=some (.tup [(x.binds[Bt x.binds n]).term.sv,.bool true],[]):=by
  have hb:=Ty x.binds n hl hx
  have hg:=Aq Bd.d hlt
  rw [Bd.d_eq] at hg
  have hni:((Bt x.binds n:Nat):Int).toNat=Bt x.binds n:=Int.toNat_natCast _
  refine Ah Ex A9 (of_decide_eq_true rfl) ?_
  simp (disch:=omega) only [CW,go_sem,Aa,hb,hni,hg,hh,AJ]
theorem Tz (x:Sb) (hx:MZ x.binds) (n:ByteArray) (hl:x.binds.length≤1099511627776) (hh:DH x.binds n=false):E 132 [x.sv,.str n] []=some (.tup [.agg [.str ⟨#[]⟩,.arr []],.bool false],[]):=by
  have hb:=Ty x.binds n hl hx
  refine Ah Ex A9 (of_decide_eq_true rfl) ?_
  simp (disch:=omega) only [CW,go_sem,Aa,hb,hh,AJ]
theorem Yu (x:Sb) (hx:x.ok=true) (n:ByteArray) (hl:x.binds.length≤1099511627776) (hh:DH x.binds n=true) (hlt:Bt x.binds n < x.binds.length):E 132 [x.sv,.str n] []=some (.tup [(x.binds[Bt x.binds n]).term.sv,.bool true],[]):=Rd x (Sb.J9 hx) n hl hh hlt
theorem Qa1 (x:Sb) (hx:x.ok=true) (n:ByteArray) (hl:x.binds.length≤1099511627776) (hh:DH x.binds n=false):E 132 [x.sv,.str n] []=some (.tup [.agg [.str ⟨#[]⟩,.arr []],.bool false],[]):=Tz x (Sb.J9 hx) n hl hh
mutual
noncomputable def Tm.ap (f:ByteArray→Option Tm):Tm→Tm
  | .mk name args=>if At name then (f name).getD (.mk name []) else .mk name (Tm.apL f args)
noncomputable def Tm.apL (f:ByteArray→Option Tm):List Tm→List Tm
  | []=>[]
  | x :: xs=>Tm.ap f x :: Tm.apL f xs
end
theorem Tm.HD (f:ByteArray→Option Tm) (x:Tm):x.ap f=if At x.name then (f x.name).getD (.mk x.name []) else .mk x.name (Tm.apL f x.args):=by
  obtain ⟨name,args⟩:=x
  rw [Tm.ap]; rfl
theorem Tm.P9 (f:ByteArray→Option Tm):∀ xs:List Tm,(Tm.apL f xs).length=xs.length
  | []=>by rw [Tm.apL]
  | x :: xs=>by rw [Tm.apL]; simp only [List.length_cons,Tm.P9 f xs]
theorem Tm.Na (f:ByteArray→Option Tm):∀ xs:List Tm,Tm.apL f xs=xs.map (Tm.ap f)
  | []=>by rw [Tm.apL]; rfl
  | x :: xs=>by rw [Tm.apL,Tm.Na f xs]; rfl
def okF (f:ByteArray→Option Tm):Prop:=∀ n t,f n=some t→t.names=true∧t.nodes≤30
theorem Tm.Nb (f:ByteArray→Option Tm):∀ xs:List Tm,(∀ y∈xs,(y.ap f).names=true)→Tm.DP (Tm.apL f xs)=true
  | [],_=>by rw [Tm.apL,Tm.DP]
  | x :: xs,h=>by rw [Tm.apL,Tm.DP,h x (by simp),Tm.Nb f xs fun y hy=>h y (by simp [hy])]; rfl
theorem Tm.K1 {f:ByteArray→Option Tm} (hf:okF f) (x:Tm) (hx:x.names=true):(x.ap f).names=true:=by
  rw [Tm.HD]
  rw [Tm.Ev] at hx
  split
  · rename_i hv
    cases hq:f x.name with
    | none =>
      rw [Option.getD_none,Tm.Ev]
      show (if At x.name then _ else _)=true
      rw [if_pos hv]; rfl
    | some t=>exact (hf _ _ hq).1
  · rename_i hv
    rw [if_neg hv,Bool.and_eq_true,Bool.and_eq_true] at hx
    rw [Tm.Ev]
    show (if At x.name then _ else EN x.name&&decide ((Tm.apL f x.args).length≤4)&&Tm.DP (Tm.apL f x.args))=true
    rw [if_neg hv,Tm.P9,hx.1.1,hx.1.2,Tm.Nb f x.args fun y hy=>Tm.K1 hf y (by
      have:=hx.2
      rw [Tm.Dh,List.all_eq_true] at this
      exact this y hy)]
    rfl
termination_by SizeOf.sizeOf x
decreasing_by exact Tm.Az hy
theorem Tm.Wn {f:ByteArray→Option Tm}:∀ xs:List Tm,(∀ y∈xs,(y.ap f).nodes≤30 * y.nodes)→Tm.Bi (Tm.apL f xs)≤30 * Tm.Bi xs
  | [],_=>by rw [Tm.apL,Tm.Bi]; omega
  | x :: xs,h=>by
    have h1:=h x (by simp)
    have h2:=Tm.Wn xs fun y hy=>h y (by simp [hy])
    rw [Tm.apL,Tm.Bi,Tm.Bi]; omega
theorem Tm.IE {f:ByteArray→Option Tm} (hf:okF f) (x:Tm):(x.ap f).nodes≤30 * x.nodes:=by
  have hp:=Tm.Lj x
  rw [Tm.HD]
  split
  · cases hq:f x.name with
    | none =>
      have:(Tm.mk x.name []).nodes=1+Tm.Bi []:=Tm.Ao (Tm.mk x.name [])
      rw [Tm.Bi] at this
      rw [Option.getD_none]; omega
    | some t=>have:=(hf _ _ hq).2; rw [Option.getD_some]; omega
  · have h1:(Tm.mk x.name (Tm.apL f x.args)).nodes=1+Tm.Bi (Tm.apL f x.args):=Tm.Ao (Tm.mk x.name (Tm.apL f x.args))
    have h2:=Tm.Wn (f:=f) x.args fun y hy=>Tm.IE hf y
    have h3:=Tm.Ao x
    omega
termination_by SizeOf.sizeOf x
decreasing_by exact Tm.Az hy
theorem Tm.QbO {f:ByteArray→Option Tm} (hf:okF f) (x:Tm) (hx:(x.valid || x.atom)=true):((x.ap f).valid || (x.ap f).atom)=(x.ap f).small:=by
  cases hs:(x.ap f).small with
  | false =>
    have h1:(x.ap f).valid=false:=by unfold Tm.valid; rw [hs]; rfl
    have h2:(x.ap f).atom=false:=by
      unfold Tm.atom; split
      · rw [hs,Bool.and_false,Bool.false_and]
      · rw [h1,Bool.and_false]
    rw [h1,h2]; rfl
  | true =>
    cases hn:x.names with
    | true =>
      have:(x.ap f).valid=true:=by unfold Tm.valid; rw [hs,Tm.K1 hf x hn]; rfl
      rw [this]; rfl
    | false =>
      have hv:x.valid=false:=by unfold Tm.valid; rw [hn,Bool.and_false]
      rw [hv,Bool.false_or] at hx
      unfold Tm.atom at hx
      split at hx
      · rename_i he
        rw [Bool.and_eq_true,Bool.and_eq_true] at hx
        have hname:x.name=⟨#[61]⟩:=by unfold Tm.eqn at he; exact Ax.1 he
        have hnv0:At ⟨#[61]⟩=false:=by kernel_rfl
        have hnv:¬ (At x.name=true):=by rw [hname,hnv0]; simp
        have e:x.ap f=.mk x.name (Tm.apL f x.args):=by rw [Tm.HD,if_neg hnv]
        have:(x.ap f).atom=true:=by
          have he2:(x.ap f).eqn=true:=by rw [e]; exact he
          unfold Tm.atom
          rw [if_pos he2,hs]
          rw [e]
          show ((Tm.apL f x.args).length == 2&&true&&Tm.DP (Tm.apL f x.args))=true
          rw [Tm.P9,hx.1.1,Tm.Nb f x.args fun y hy=>Tm.K1 hf y (by
            have:=hx.2
            rw [Tm.Dh,List.all_eq_true] at this
            exact this y hy)]
          rfl
        rw [this,Bool.or_true]
      · rw [hv,Bool.and_false] at hx; cases hx
theorem Tm.F4 {x:Tm} (h:x.names=true) (hv:At x.name=true):x.args=[]:=by
  rw [Tm.Ev,if_pos hv] at h
  exact List.eq_nil_of_length_eq_zero (by simpa using h)
theorem Tm.EM {x:Tm} (h:x.names=true) {y:Tm} (hy:y∈x.args):y.names=true:=by
  rw [Tm.Ev] at h
  split at h
  · have:x.args=[]:=List.eq_nil_of_length_eq_zero (by simpa using h)
    rw [this] at hy; cases hy
  · rw [Bool.and_eq_true,Tm.Dh,List.all_eq_true] at h
    exact h.2 y hy
theorem Sb.JA {x:Sb} (h:x.ok=true) {k:Nat} (hk:k < x.binds.length):Hw x.binds[k]=true:=by
  unfold Sb.ok at h
  rw [Bool.and_eq_true] at h
  exact Qdh hk (Z2 h.2 hk)
theorem Wo {x:Bd} (h:Hw x=true):At x.var=true:=by unfold Hw at h; rw [Bool.and_eq_true] at h; exact h.1
theorem Dv {x:Bd} (h:Hw x=true):x.term.valid=true:=by unfold Hw at h; rw [Bool.and_eq_true,Bool.and_eq_true] at h; exact h.2.1
theorem U9 {xs:List Bd} {n:ByteArray} (h:DH xs n=true) (hlt:Bt xs n < xs.length):(xs[Bt xs n]).var=n:=by
  have hh:DH xs n=dec (xs[Bt xs n].var=n):=by unfold DH; rw [List.getElem?_eq_getElem hlt]
  rw [hh] at h
  exact Ax.1 h
theorem Sb.Fa {x:Sb} (h:x.ok=true):okF x.look:=by
  intro n t ht
  unfold Sb.look at ht
  split at ht
  · rename_i hh
    have hv:=Dv (Sb.JA h (H9 hh))
    obtain rfl:=Option.some.inj ht
    unfold Tm.valid Tm.small at hv
    rw [Bool.and_eq_true,Bool.and_eq_true,decide_eq_true_eq] at hv
    exact ⟨hv.2,hv.1.1⟩
  · cases ht
theorem Sb.K2 {x:Sb} {n:ByteArray} (h:DH x.binds n=true) (hlt:Bt x.binds n < x.binds.length):x.look n=some (x.binds[Bt x.binds n]).term:=by
  unfold Sb.look; rw [dif_pos h]
theorem Sb.PA {x:Sb} {n:ByteArray} (h:DH x.binds n=false):x.look n=none:=by
  unfold Sb.look; rw [dif_neg (by rw [h]; simp)]
def Sb.fine (s:Sb):Prop:=MZ s.binds∧∀ b∈s.binds,At b.var=true
theorem Sb.UA {s:Sb} (h:s.ok=true):s.fine:=⟨Sb.J9 h,fun b hb=>by
  obtain ⟨k,hk,rfl⟩:=List.getElem_of_mem hb
  exact Wo (Sb.JA h hk)⟩
def Ca:SC:=(.seq (.reg [⟨some 2,none,.boxv 76 1 (.t 0)⟩,⟨some 3,none,.boxv 71 2 (.t 1)⟩,⟨(some 4),none,(.alloc 71 [(.str ⟨#[]⟩),.nil])⟩]) (.seq (.seq (.reg [⟨some 10,none,.faddr 1 (.t 3)⟩,⟨some 11,none,.load false 1 (.t 10)⟩,⟨some 12,none,.len false (.t 11)⟩,⟨some 13,none,.bin .eql false (.t 12) (.c (.int .i64 0))⟩]) (.cond (.t 13) (.seq (.seq (.reg [⟨some 15,none,.load true 1 (.t 2)⟩,⟨some 16,none,.faddr 0 (.t 3)⟩,⟨some 17,none,.load false 1 (.t 16)⟩,⟨some 18,none,.call 132 [(.t 15),(.t 17)]⟩,⟨some 14,none,.mv (.t 18)⟩,⟨some 19,none,.ext (.t 14) 0⟩,⟨some 20,none,.ext (.t 14) 1⟩,⟨(some 5),none,(.alloc 71 [(.str ⟨#[]⟩),.nil])⟩,⟨none,none,(.store 2 (.t 5) (.t 19))⟩,⟨some 6,none,.mv (.t 20)⟩]) (.seq (.reg [⟨some 21,none,.mv (.t 6)⟩]) (.cond (.t 21) (.seq (.reg [⟨some 22,none,.load true 2 (.t 5)⟩,⟨some 23,none,.call 133 [(.t 22)]⟩,⟨none,none,(.store 2 (.t 4) (.t 23))⟩]) .ret) .skip))) (.seq (.reg [⟨some 24,none,.faddr 0 (.t 3)⟩,⟨some 25,none,.load false 1 (.t 24)⟩,⟨(some 26),none,(.build [(.str ⟨#[]⟩),.nil] [(0,(1,(.t 25)))])⟩,⟨none,none,(.store 2 (.t 4) (.t 26))⟩]) .ret)) .skip)) (.seq (.dreg [[],[0],[],[2],[3,2],[4,3,2],[1,0,5,4,3,2],[],[7,6,1,0,5,4,3,2]] [⟨some 27,none,.faddr 0 (.t 3)⟩,⟨some 28,none,.load false 1 (.t 27)⟩,⟨some 29,none,.faddr 1 (.t 3)⟩,⟨some 30,none,.load false 1 (.t 29)⟩,⟨some 31,none,.len false (.t 30)⟩,⟨(some 32),none,(.mkslice 71 2 40 [(.str ⟨#[]⟩),.nil] (.t 31))⟩,⟨(some 33),none,(.build [(.str ⟨#[]⟩),.nil] [(0,(1,(.t 28))),(1,(1,(.t 32)))])⟩,⟨(some 7),none,(.alloc 71 [(.str ⟨#[]⟩),.nil])⟩,⟨none,none,(.store 2 (.t 7) (.t 33))⟩]) (.seq (.seq (.reg [⟨some 34,none,.faddr 1 (.t 3)⟩,⟨some 35,none,.load false 1 (.t 34)⟩,⟨some 36,none,.len false (.t 35)⟩,⟨some 37,none,.mv (.c (.int .i64 0))⟩]) (.block 0 (.loop [0,0,1,0,1,0,0,1,0,0,0,0,0,0,0,0,0,0,0,0,0,0,0,0,0,0,0,0,0,0,0,0,0,0,0,1,1,1,0,0,0,0,0,0,0,0,0,0,0,0,0] (.seq (.reg [⟨some 38,none,.bin .lss false (.t 37) (.t 36)⟩]) (.seq (.cond (.t 38) .skip (.exit 0)) (.seq (.block 1 (.seq (.reg [⟨some 39,none,.mv (.t 37)⟩,⟨some 40,none,.iaddr 2 (.t 35) (.t 37)⟩,⟨some 41,none,.load true 2 (.t 40)⟩,⟨(some 9),none,(.alloc 71 [(.str ⟨#[]⟩),.nil])⟩,⟨some 8,none,.mv (.t 39)⟩,⟨none,none,(.store 2 (.t 9) (.t 41))⟩]) (.dreg [[],[0],[],[],[],[3,4],[1,0,2,3,4,5],[6,1,0,2,3,4,5]] [⟨some 42,none,.faddr 1 (.t 7)⟩,⟨some 43,none,.load false 1 (.t 42)⟩,⟨some 44,none,.mv (.t 8)⟩,⟨some 45,none,.load true 1 (.t 2)⟩,⟨some 46,none,.load true 2 (.t 9)⟩,⟨some 47,none,.call 126 [(.t 45),(.t 46)]⟩,⟨some 48,none,.iaddr 2 (.t 43) (.t 44)⟩,⟨none,none,(.store 2 (.t 48) (.t 47))⟩]))) (.reg [⟨some 49,none,.bin .add false (.t 37) (.c (.int .i64 1))⟩,⟨some 37,none,.mv (.t 49)⟩]))))))) (.seq (.reg [⟨some 50,none,.load true 2 (.t 7)⟩,⟨none,none,(.store 2 (.t 4) (.t 50))⟩]) .ret)))))
theorem CH:Am Tryz.prog 126=some ⟨51,Ca,[(.cell 4 true 2)]⟩:=by kernel_rfl
theorem Ay:modes 126=⟨[],.own [none,some (71,2)],none,false⟩:=by unfold modes; rfl
def Fb:SC:=(.seq (.reg [⟨some 2,none,.boxv 76 1 (.t 0)⟩,⟨some 3,none,.boxv 71 2 (.t 1)⟩,⟨(some 4),none,(.alloc 71 [(.str ⟨#[]⟩),.nil])⟩]) (.seq (.seq (.reg [⟨some 8,none,.faddr 0 (.t 3)⟩,⟨some 9,none,.load false 1 (.t 8)⟩,⟨some 10,none,.call 77 [(.t 9)]⟩]) (.cond (.t 10) (.seq (.seq (.reg [⟨some 11,none,.load true 1 (.t 2)⟩,⟨some 12,none,.faddr 0 (.t 3)⟩,⟨some 13,none,.load false 1 (.t 12)⟩,⟨some 14,none,.call 147 [(.t 11),(.t 13)]⟩,⟨some 5,none,.mv (.t 14)⟩]) (.seq (.reg [⟨some 15,none,.mv (.t 5)⟩,⟨some 16,none,.bin .geq false (.t 15) (.c (.int .i64 0))⟩]) (.cond (.t 16) (.seq (.reg [⟨some 17,none,.faddr 0 (.t 2)⟩,⟨some 18,none,.load false 1 (.t 17)⟩,⟨some 19,none,.mv (.t 5)⟩,⟨some 20,none,.iaddr 3 (.t 18) (.t 19)⟩,⟨some 21,none,.faddr 1 (.t 20)⟩,⟨some 22,none,.load true 2 (.t 21)⟩,⟨some 23,none,.call 148 [(.t 22)]⟩,⟨none,none,(.store 2 (.t 4) (.t 23))⟩]) .ret) .skip))) (.seq (.reg [⟨some 24,none,.faddr 0 (.t 3)⟩,⟨some 25,none,.load false 1 (.t 24)⟩,⟨(some 26),none,(.build [(.str ⟨#[]⟩),.nil] [(0,(1,(.t 25)))])⟩,⟨none,none,(.store 2 (.t 4) (.t 26))⟩]) .ret)) .skip)) (.seq (.reg [⟨some 27,none,.faddr 0 (.t 3)⟩,⟨some 28,none,.load false 1 (.t 27)⟩,⟨(some 29),none,(.build [(.str ⟨#[]⟩),.nil] [(0,(1,(.t 28)))])⟩,⟨(some 6),none,(.alloc 71 [(.str ⟨#[]⟩),.nil])⟩,⟨none,none,(.store 2 (.t 6) (.t 29))⟩]) (.seq (.seq (.reg [⟨some 7,none,.mv (.c (.int .i64 0))⟩]) (.block 0 (.loop [0,0,1,1,1,0,1,1,0,0,0,0,0,0,0,0,0,0,0,0,0,0,0,0,0,0,0,0,0,0,0,0,0,0,0,0,0,0,0,0,0,0,0,0,0,0,0,0,0,0] (.seq (.seq (.reg [⟨some 30,none,.mv (.t 7)⟩,⟨some 31,none,.faddr 1 (.t 3)⟩,⟨some 32,none,.load false 1 (.t 31)⟩,⟨some 33,none,.len false (.t 32)⟩,⟨some 34,none,.bin .lss false (.t 30) (.t 33)⟩]) (.cond (.t 34) .skip (.exit 0))) (.seq (.block 1 (.dreg [[],[0],[],[],[3],[],[4,3,5],[6,4,3,5],[2,7,6,4,3,5],[8,2,7,6,4,3,5],[1,0,9,8,2,7,6,4,3,5],[0,1,2,3,4,5,6,7,8,9,10],[11,0,1,2,3,4,5,6,7,8,9,10]] [⟨some 37,none,.faddr 1 (.t 6)⟩,⟨some 38,none,.load false 1 (.t 37)⟩,⟨some 39,none,.load true 1 (.t 2)⟩,⟨some 40,none,.faddr 1 (.t 3)⟩,⟨some 41,none,.load false 1 (.t 40)⟩,⟨some 42,none,.mv (.t 7)⟩,⟨some 43,none,.iaddr 2 (.t 41) (.t 42)⟩,⟨some 44,none,.load true 2 (.t 43)⟩,⟨some 45,none,.call 111 [(.t 39),(.t 44)]⟩,⟨(some 46),none,(.mkrow 71 2 [(.str ⟨#[]⟩),.nil] 1 [(0,(.t 45))])⟩,⟨(some 47),none,(.append 71 2 40 [(.str ⟨#[]⟩),.nil] (.t 38) (.t 46))⟩,⟨some 48,none,.faddr 1 (.t 6)⟩,⟨none,none,(.store 1 (.t 48) (.t 47))⟩])) (.reg [⟨some 35,none,.mv (.t 7)⟩,⟨some 36,none,.bin .add false (.t 35) (.c (.int .i64 1))⟩,⟨some 7,none,.mv (.t 36)⟩])))))) (.seq (.reg [⟨some 49,none,.load true 2 (.t 6)⟩,⟨none,none,(.store 2 (.t 4) (.t 49))⟩]) .ret)))))
theorem Hn:Am Tryz.prog 111=some ⟨50,Fb,[(.cell 4 true 2)]⟩:=by kernel_rfl
theorem AL:modes 111=⟨[],.frz,none,false⟩:=by unfold modes; rfl
theorem Wp (s:Sb) (hs:s.fine) (ht:s.tame) (x:Tm) (hx:At x.name=true→x.args=[]) (hn:x.nodes≤1099511627776) (ih:∀ y∈x.args,E 126 [s.sv,y.sv] []=some ((y.ap s.look).osv,(y.ap s.look).obs)):E 126 [s.sv,x.sv] []=some ((x.ap s.look).osv,(x.ap s.look).obs):=by
  have hsl:=ht.1
  have hl:=Tm.AB x.args
  have hne:=Tm.Ao x
  rcases Nat.eq_zero_or_pos x.args.length with h0 | h0
  · have hx0:x.args=[]:=List.eq_nil_of_length_eq_zero h0
    cases hh:DH s.binds x.name with
    | true =>
      have hlt:=H9 hh
      have hc:=Rd s hs.1 x.name hsl hh hlt
      have hd:=Js (s.binds[Bt s.binds x.name]).term (Sb.tame_at ht hlt)
      have hv:At x.name=true:=by rw [← U9 hh hlt]; exact hs.2 _ (List.getElem_mem hlt)
      have e:x.ap s.look=(s.binds[Bt s.binds x.name]).term:=by rw [Tm.HD,if_pos hv,Sb.K2 hh hlt]; rfl
      rw [e]
      refine Ah CH Ay (of_decide_eq_true rfl) ?_
      simp (disch:=omega) only [Ca,go_sem,Aa,hx0,hc,hd,List.map_nil,List.length_nil,A9,Be,Tm.osv,Tm.obs]
    | false =>
      have hc:=Tz s hs.1 x.name hsl hh
      have e:x.ap s.look=.mk x.name []:=by
        rw [Tm.HD,Sb.PA hh,hx0]
        split
        · rfl
        · rw [Tm.apL]
      rw [e]
      have e1:(Tm.mk x.name []).osv=.agg [.str x.name,.ref 0]:=rfl
      have e2:(Tm.mk x.name []).obs=[.row 71 2 []]:=rfl
      rw [e1,e2]
      refine Ah CH Ay (of_decide_eq_true rfl) ?_
      simp (disch:=omega) only [Ca,go_sem,Aa,hx0,hc,List.map_nil,List.length_nil,A9]
  · have hv:¬ At x.name=true:=fun h=>by rw [hx h] at h0; simp at h0
    have e:x.ap s.look=.mk x.name (x.args.map (Tm.ap s.look)):=by rw [Tm.HD,if_neg hv,Tm.Na]
    rw [e]
    have e1:(Tm.mk x.name (x.args.map (Tm.ap s.look))).osv=.agg [.str x.name,.ref 0]:=rfl
    have e2:(Tm.mk x.name (x.args.map (Tm.ap s.look))).obs=[.row 71 2 ((x.args.map (Tm.ap s.look)).map Tm.o)]:=rfl
    rw [e1,e2]
    have hrl:List.replicate x.args.length ([.str ⟨#[]⟩,.ow []]:List OT)=FS Tm.o [.str ⟨#[]⟩,.ow []] (x.args.map (Tm.ap s.look)) 0:=by rw [Jm,List.length_map]
    refine Ah CH Ay (of_decide_eq_true rfl) ?_
    simp (disch:=omega) only [Ca,go_sem,Aa]
    refine As (α:=Int) (fun a=>⟨slots 51 0 [(2,.ptr 0 0),(4,.ptr 1 0),(7,.ptr 2 0),(35,.arr (x.args.map Tm.d)),(36,.int .i64 x.args.length),(37,.int .i64 a)],[.box 76 [.arr (s.binds.map Bd.d)],.box 71 [.str ⟨#[]⟩,.nil],.box 71 [.str x.name,.ref 3],.row 71 2 (FS Tm.o [.str ⟨#[]⟩,.ow []] (x.args.map (Tm.ap s.look)) a.toNat)]⟩) (fun a=>∃ k:Nat,a=k∧k≤(x.args).length) (fun a=>(x.args).length - (a).toNat) 0 ⟨0,rfl,Nat.zero_le _⟩ (by simp (disch:=omega) only [go_sem,Aa,hrl,Int.toNat_zero]) ?_
    rintro i ⟨k,hi,hk⟩
    have hni:i.toNat=k:=by omega
    have hni1:(i+1).toNat=k+1:=by omega
    rcases Nat.lt_or_ge k (x.args).length with hlt | hge
    · have hg:=Aq Tm.d hlt
      rw [Tm.d_eq] at hg
      have hltm:k < (x.args.map (Tm.ap s.look)).length:=by rw [List.length_map]; exact hlt
      have hz:=Lh Tm.o [.str ⟨#[]⟩,.ow []] hltm
      have hc:=ih x.args[k] (List.getElem_mem hlt)
      have hse:=Li Tm.o [.str ⟨#[]⟩,.ow []] hltm
      rw [Tm.o_eq,List.getElem_map] at hse
      simp (disch:=omega) only [go_sem,Aa,hni,hg,hc,hz,Lf,List.length_map,Ay,Tm.osv,Tm.obs]
      refine ⟨i+1,⟨k+1,by omega,hlt⟩,by omega,?_⟩
      simp (disch:=omega) only [go_sem,Aa,hni1,hse]
    · obtain rfl:k=x.args.length:=by omega
      have hend:FS Tm.o [.str ⟨#[]⟩,.ow []] (x.args.map (Tm.ap s.look)) x.args.length=(x.args.map (Tm.ap s.look)).map Tm.o:=by
        have:=Lg Tm.o [.str ⟨#[]⟩,.ow []] (xs:=x.args.map (Tm.ap s.look))
        rwa [List.length_map] at this
      simp (disch:=omega) only [go_sem,Aa,hni,hend]
theorem Z4 (s:Sb) (hs:s.fine) (ht:s.tame) (x:Tm) (hx:x.names=true) (hn:x.nodes≤1099511627776):E 126 [s.sv,x.sv] []=some ((x.ap s.look).osv,(x.ap s.look).obs) :=
  Wp s hs ht x (Tm.F4 hx) hn fun y hy=>Z4 s hs ht y (Tm.EM hx hy) (by have:=Tm.AZ hy; have:=Tm.Ao x; omega)
termination_by SizeOf.sizeOf x
decreasing_by exact Tm.Az hy
theorem Z5 (s:Sb) (hs:s.ok=true) (ht:s.tame) (x:Tm) (hx:x.names=true) (hn:x.nodes≤1099511627776):E 126 [s.sv,x.sv] []=some ((x.ap s.look).osv,(x.ap s.look).obs):=Z4 s (Sb.UA hs) ht x hx hn
theorem Yv (s:Sb) (hs:s.fine) (ht:s.tame) (x:Tm) (hn:x.nodes≤1099511627776) (ih:∀ y∈x.args,E 111 [s.sv,y.sv] []=some ((y.ap s.look).sv,[])):E 111 [s.sv,x.sv] []=some ((x.ap s.look).sv,[]):=by
  have hsl:=ht.1
  have hl:=Tm.AB x.args
  have hne:=Tm.Ao x
  have hf:=Wl s x.name hsl
  rw [Rc hs.1] at hf
  cases hv:At x.name with
  | true =>
    cases hh:DH s.binds x.name with
    | true =>
      have hlt:=H9 hh
      have hg:=Aq Bd.d hlt
      rw [Bd.d_eq] at hg
      have hni:((Bt s.binds x.name:Nat):Int).toNat=Bt s.binds x.name:=Int.toNat_natCast _
      have hd:=P7 (s.binds[Bt s.binds x.name]).term (Sb.tame_at ht hlt)
      have e:x.ap s.look=(s.binds[Bt s.binds x.name]).term:=by rw [Tm.HD,if_pos hv,Sb.K2 hh hlt]; rfl
      rw [hh,if_pos rfl] at hf
      rw [e]
      refine Ah Hn AL (of_decide_eq_true rfl) ?_
      simp (disch:=omega) only [Fb,go_sem,Aa,hv,hf,hg,hni,hd,BM,Af,An,CO]
    | false =>
      have e:x.ap s.look=.mk x.name []:=by rw [Tm.HD,if_pos hv,Sb.PA hh]; rfl
      rw [hh,if_neg (by simp)] at hf
      rw [e]
      have e1:(Tm.mk x.name []).sv=.agg [.str x.name,.arr []]:=rfl
      rw [e1]
      refine Ah Hn AL (of_decide_eq_true rfl) ?_
      simp (disch:=omega) only [Fb,go_sem,Aa,hv,hf,BM,Af,An]
  | false =>
    have e:x.ap s.look=.mk x.name (x.args.map (Tm.ap s.look)):=by rw [Tm.HD,if_neg (by rw [hv]; simp),Tm.Na]
    rw [e]
    have e1:(Tm.mk x.name (x.args.map (Tm.ap s.look))).sv=.agg [.str x.name,.arr ((x.args.map (Tm.ap s.look)).map Tm.d)]:=rfl
    rw [e1]
    have h10:((1:Int)=0)=False:=by simp
    have hfu:=Tm.MU (x.args.map (Tm.ap s.look))
    have her:=Tm.U4 (x.args.map (Tm.ap s.look))
    refine Ah Hn AL (of_decide_eq_true rfl) ?_
    simp (disch:=omega) only [Fb,go_sem,Aa,hv,BM,Af,An]
    refine As (α:=Int) (fun a=>⟨slots 50 0 [(2,.ptr 0 0),(3,.ptr 1 0),(4,.ptr 2 0),(6,.ptr 3 0),(7,.int .i64 a)],(if a=0 then [.box 76 [.arr (s.binds.map Bd.d)],.box 71 [.str x.name,.arr (x.args.map Tm.d)],.box 71 [.str ⟨#[]⟩,.nil],.box 71 [.str x.name,.nil]] else [.box 76 [.arr (s.binds.map Bd.d)],.box 71 [.str x.name,.arr (x.args.map Tm.d)],.box 71 [.str ⟨#[]⟩,.nil],.box 71 [.str x.name,.ref 4],.row 71 2 (((x.args.map (Tm.ap s.look)).take a.toNat).map Tm.osh)])⟩) (fun a=>∃ k:Nat,a=k∧k≤(x.args).length) (fun a=>(x.args).length - (a).toNat) 0 ⟨0,rfl,Nat.zero_le _⟩ (by simp (disch:=omega) only [go_sem,Aa,eq_self,if_true]) ?_
    rintro i ⟨k,hi,hk⟩
    have hni:i.toNat=k:=by omega
    have hni1:(i+1).toNat=k+1:=by omega
    rcases Nat.lt_or_ge k (x.args).length with hlt | hge
    · have hg:=Aq Tm.d hlt
      rw [Tm.d_eq] at hg
      have hltm:k < (x.args.map (Tm.ap s.look)).length:=by rw [List.length_map]; exact hlt
      have hc:=ih x.args[k] (List.getElem_mem hlt)
      have hse:=D4 Tm.osh hltm
      rw [Tm.QU,List.getElem_map] at hse
      rcases Nat.eq_zero_or_pos k with h0 | h0
      · subst h0
        obtain rfl:i=0:=hi
        rw [List.take_zero,List.map_nil,List.nil_append] at hse
        simp (disch:=omega) only [go_sem,Aa,hni,hg,hc,AL,eq_self,if_true]
        refine ⟨1,⟨1,rfl,hlt⟩,by omega,?_⟩
        simp (disch:=omega) only [go_sem,Aa,h10,if_false,hse]
      · have hi0:(i=0)=False:=by simp; omega
        have hi1:(i+1=0)=False:=by simp; omega
        have htl:((x.args.map (Tm.ap s.look)).take k).length=k:=by rw [List.length_take]; omega
        simp (disch:=omega) only [go_sem,Aa,hni,hg,hc,AL,hi0,if_false,htl]
        refine ⟨i+1,⟨k+1,by omega,hlt⟩,by omega,?_⟩
        simp (disch:=omega) only [go_sem,Aa,hni1,hi1,if_false,hse]
    · obtain rfl:k=x.args.length:=by omega
      have hta:(x.args.map (Tm.ap s.look)).take x.args.length=x.args.map (Tm.ap s.look):=by
        have:=List.take_length (l:=x.args.map (Tm.ap s.look))
        rwa [List.length_map] at this
      rcases Nat.eq_zero_or_pos x.args.length with h0 | h0
      · have hx:x.args=[]:=List.eq_nil_of_length_eq_zero h0
        obtain rfl:i=0:=by omega
        simp (disch:=omega) only [go_sem,Aa,hni,hx,eq_self,if_true,List.map_nil,List.length_nil]
      · have hi0:(i=0)=False:=by simp; omega
        simp (disch:=omega) only [go_sem,Aa,hni,hi0,if_false,hta,hfu,her]
theorem T0 (s:Sb) (hs:s.fine) (ht:s.tame) (x:Tm) (hn:x.nodes≤1099511627776):E 111 [s.sv,x.sv] []=some ((x.ap s.look).sv,[]) :=
  Yv s hs ht x hn fun y hy=>T0 s hs ht y (by have:=Tm.AZ hy; have:=Tm.Ao x; omega)
termination_by SizeOf.sizeOf x
decreasing_by exact Tm.Az hy
theorem Ok (s:Sb) (hs:s.ok=true) (ht:s.tame) (x:Tm) (hn:x.nodes≤1099511627776):E 111 [s.sv,x.sv] []=some ((x.ap s.look).sv,[]):=T0 s (Sb.UA hs) ht x hn
noncomputable def Tm.expr (x:Tm):Bool:=x.valid || x.atom
theorem Tm.Re {x:Tm} (h:x.expr=true):x.small=true:=by
  unfold Tm.expr Tm.atom Tm.valid at h
  cases hs:x.small with
  | true=>rfl
  | false =>
    rw [hs] at h
    split at h <;> simp at h
theorem Tm.Au {x:Tm} (h:x.expr=true):x.nodes≤30:=by
  have:=Tm.Re h
  unfold Tm.small at this
  rw [Bool.and_eq_true,decide_eq_true_eq] at this
  exact this.1
theorem Tm.Z6 {x:Tm} (h:x.eqn=true):At x.name=false:=by
  unfold Tm.eqn at h
  rw [Ax.1 h]
  kernel_rfl
theorem Tm.Jt {x:Tm} (h:x.expr=true):x.names=true∨(x.eqn=true∧Tm.DP x.args=true):=by
  unfold Tm.expr Tm.valid at h
  cases hn:x.names with
  | true=>exact .inl rfl
  | false =>
    rw [hn,Bool.and_false,Bool.false_or] at h
    unfold Tm.atom at h
    split at h
    · rename_i he
      rw [Bool.and_eq_true] at h
      exact .inr ⟨he,h.2⟩
    · unfold Tm.valid at h; rw [hn,Bool.and_false,Bool.and_false] at h; cases h
theorem Tm.Wq {x:Tm} (h:x.expr=true):At x.name=true→x.args=[]:=by
  intro hv
  rcases Tm.Jt h with h1 | ⟨h1,h2⟩
  · exact Tm.F4 h1 hv
  · rw [Tm.Z6 h1] at hv; cases hv
theorem Tm.IF {x:Tm} (h:x.expr=true) {y:Tm} (hy:y∈x.args):y.names=true:=by
  rcases Tm.Jt h with h1 | ⟨h1,h2⟩
  · exact Tm.EM h1 hy
  · rw [Tm.Dh,List.all_eq_true] at h2; exact h2 y hy
theorem Tm.Rf:∀ xs:List Tm,(∀ x∈xs,x.nodes≤1+x.bulk)→Tm.Bi xs≤xs.length+Tm.sumB xs
  | [],_=>by simp [Tm.Bi]
  | x :: xs,h=>by
    have h1:=h x (by simp)
    have h2:=Tm.Rf xs fun y hy=>h y (by simp [hy])
    rw [Tm.Bi,Tm.sumB]; simp only [List.length_cons]; omega
theorem Tm.Rg (x:Tm):x.nodes≤1+x.bulk:=by
  rw [Tm.Ao,Tm.bulk_eq]
  have:=Tm.Rf x.args fun y hy=>Tm.Rg y
  omega
termination_by SizeOf.sizeOf x
decreasing_by exact Tm.Az hy
theorem T1 {s:ByteArray} (h:At s=true):s.size≤6:=by
  unfold At inB at h
  simp at h
  omega
theorem T2 {s:ByteArray} (h:EN s=true):s.size≤6:=by
  unfold EN inB at h
  simp at h
  omega
theorem Tm.Mk:∀ xs:List Tm,(∀ x∈xs,x.bulk+1≤8 * x.nodes)→xs.length+Tm.sumB xs≤8 * Tm.Bi xs
  | [],_=>by simp [Tm.Bi,Tm.sumB]
  | x :: xs,h=>by
    have h1:=h x (by simp)
    have h2:=Tm.Mk xs fun y hy=>h y (by simp [hy])
    rw [Tm.Bi,Tm.sumB]; simp only [List.length_cons]; omega
theorem Tm.Rh (x:Tm) (h:x.names=true):x.bulk+1≤8 * x.nodes:=by
  have h1:=Tm.Mk x.args fun y hy=>Tm.Rh y (Tm.EM h hy)
  have h2:x.name.size≤6:=by
    rw [Tm.Ev] at h
    split at h
    · rename_i hv; exact T1 hv
    · rw [Bool.and_eq_true,Bool.and_eq_true] at h; exact T2 h.1.1
  rw [Tm.Ao,Tm.bulk_eq]
  omega
termination_by SizeOf.sizeOf x
decreasing_by exact Tm.Az hy
theorem Z7 (x:Tm) (hn:x.nodes≤1099511627776):E 110 [x.sv] []=some (.bool x.expr,[]):=by
  have h1:=QP x hn
  have h3:=QQ x hn
  unfold Tm.expr
  cases hv:x.valid with
  | true =>
    rw [hv] at h1
    rw [Bool.true_or]
    refine Ah MO EV (of_decide_eq_true rfl) ?_
    simp (disch:=omega) only [Jo,go_sem,Aa,h1,Bj]
  | false =>
    rw [hv] at h1
    rw [Bool.false_or]
    refine Ah MO EV (of_decide_eq_true rfl) ?_
    simp (disch:=omega) only [Jo,go_sem,Aa,h1,h3,Bj,AX]
def C0:SC:=(.seq (.reg [⟨some 2,none,.boxv 76 1 (.t 0)⟩,⟨some 3,none,.boxv 71 2 (.t 1)⟩,⟨(some 4),none,(.alloc 71 [(.str ⟨#[]⟩),.nil])⟩,⟨some 5,none,.mv (.c (.bool false))⟩]) (.seq (.reg [⟨some 7,none,.load true 1 (.t 2)⟩,⟨some 8,none,.load true 2 (.t 3)⟩,⟨some 9,none,.call 126 [(.t 7),(.t 8)]⟩,⟨(some 6),none,(.alloc 71 [(.str ⟨#[]⟩),.nil])⟩,⟨none,none,(.store 2 (.t 6) (.t 9))⟩]) (.seq (.seq (.reg [⟨some 10,none,.load true 2 (.t 6)⟩,⟨some 11,none,.call 127 [(.t 10)]⟩,⟨some 12,none,.un .not (.t 11)⟩]) (.cond (.t 12) (.seq (.reg [⟨(some 13),none,(.build [(.str ⟨#[]⟩),.nil] [])⟩,⟨none,none,(.store 2 (.t 4) (.t 13))⟩,⟨some 5,none,.mv (.c (.bool false))⟩]) .ret) .skip)) (.seq (.reg [⟨some 14,none,.load true 2 (.t 6)⟩,⟨none,none,(.store 2 (.t 4) (.t 14))⟩,⟨some 5,none,.mv (.c (.bool true))⟩]) .ret))))
theorem DJ:Am Tryz.prog 87=some ⟨15,C0,[(.cell 4 true 2),(.tmp 5)]⟩:=by kernel_rfl
theorem Ab:modes 87=⟨[],.late,none,false⟩:=by unfold modes; rfl
def B9:SC:=(.seq (.reg [⟨some 2,none,.boxv 76 1 (.t 0)⟩,⟨some 3,none,.boxv 71 2 (.t 1)⟩,⟨(some 4),none,(.alloc 71 [(.str ⟨#[]⟩),.nil])⟩,⟨some 5,none,.mv (.c (.bool false))⟩]) (.seq (.seq (.reg [⟨some 7,none,.load true 1 (.t 2)⟩,⟨some 8,none,.call 109 [(.t 7)]⟩,⟨some 9,none,.un .not (.t 8)⟩,⟨some 10,none,.mv (.t 9)⟩,⟨(some 11),(some (10,false)),(.load true 2 (.t 3))⟩,⟨(some 12),(some (10,false)),(.call 110 [(.t 11)])⟩,⟨(some 13),(some (10,false)),(.un .not (.t 12))⟩,⟨some 14,none,.pick (.t 10) (.c (.bool true)) (.t 13)⟩]) (.cond (.t 14) (.seq (.reg [⟨(some 15),none,(.build [(.str ⟨#[]⟩),.nil] [])⟩,⟨none,none,(.store 2 (.t 4) (.t 15))⟩,⟨some 5,none,.mv (.c (.bool false))⟩]) .ret) .skip)) (.seq (.reg [⟨some 16,none,.load true 1 (.t 2)⟩,⟨some 17,none,.load true 2 (.t 3)⟩,⟨some 18,none,.call 111 [(.t 16),(.t 17)]⟩,⟨(some 6),none,(.alloc 71 [(.str ⟨#[]⟩),.nil])⟩,⟨none,none,(.store 2 (.t 6) (.t 18))⟩]) (.seq (.seq (.reg [⟨some 19,none,.load true 2 (.t 6)⟩,⟨some 20,none,.call 110 [(.t 19)]⟩,⟨some 21,none,.un .not (.t 20)⟩]) (.cond (.t 21) (.seq (.reg [⟨(some 22),none,(.build [(.str ⟨#[]⟩),.nil] [])⟩,⟨none,none,(.store 2 (.t 4) (.t 22))⟩,⟨some 5,none,.mv (.c (.bool false))⟩]) .ret) .skip)) (.seq (.reg [⟨some 23,none,.load true 2 (.t 6)⟩,⟨none,none,(.store 2 (.t 4) (.t 23))⟩,⟨some 5,none,.mv (.c (.bool true))⟩]) .ret)))))
theorem Cm:Am Tryz.prog 76=some ⟨24,B9,[(.cell 4 true 2),(.tmp 5)]⟩:=by kernel_rfl
theorem Ac:modes 76=⟨[],.frz,none,false⟩:=by unfold modes; rfl
noncomputable def BV (s:Sb) (x:Tm):Bool:=s.ok&&(x.expr&&(x.ap s.look).small)
noncomputable def AP (s:Sb) (x:Tm):Tm:=if BV s x then x.ap s.look else .mk ⟨#[]⟩ []
theorem UC {s:Sb} {x:Tm} (h:BV s x=false):AP s x=.mk ⟨#[]⟩ []:=by unfold AP; rw [if_neg (by rw [h]; simp)]
theorem DY {s:Sb} {x:Tm} (h:BV s x=true):AP s x=x.ap s.look:=by unfold AP; rw [if_pos h]
theorem UD:(Tm.mk ⟨#[]⟩ []).sv=.agg [.str ⟨#[]⟩,.arr []]:=rfl
theorem T3 (s:Sb) (hs:s.ok=true) (ht:s.tame) (x:Tm) (hx:x.expr=true):E 126 [s.sv,x.sv] []=some ((x.ap s.look).osv,(x.ap s.look).obs):=by
  have hn:=Tm.Au hx
  exact Wp s (Sb.UA hs) ht x (Tm.Wq hx) (by omega) fun y hy=>Z5 s hs ht y (Tm.IF hx hy) (by have:=Tm.AZ hy; have:=Tm.Ao x; omega)
theorem BH (s:Sb) (hs:s.ok=true) (ht:s.tame) (x:Tm) (hx:x.expr=true) (ho:BV s x=true):E 87 [s.sv,x.sv] []=some (.tup [(AP s x).osv,.bool true],(AP s x).obs):=by
  have hn:=Tm.Au hx
  have hk:=Tm.IE (Sb.Fa hs) x
  have h1:=T3 s hs ht x hx
  have h2:=Ln (x.ap s.look) (by omega)
  have hq:(x.ap s.look).small=true:=by unfold BV at ho; rw [Bool.and_eq_true,Bool.and_eq_true] at ho; exact ho.2.2
  rw [hq] at h2
  rw [DY ho]
  refine Ah DJ Ab (of_decide_eq_true rfl) ?_
  simp (disch:=omega) only [C0,go_sem,Aa,h1,h2,Tm.osv,Tm.obs,Bp,Ay]
theorem Ch (s:Sb) (hs:s.ok=true) (ht:s.tame) (x:Tm) (hx:x.expr=true) (ho:BV s x=false):E 87 [s.sv,x.sv] []=some (.tup [.agg [.str ⟨#[]⟩,.nil],.bool false],[]):=by
  have hn:=Tm.Au hx
  have hk:=Tm.IE (Sb.Fa hs) x
  have h1:=T3 s hs ht x hx
  have h2:=Ln (x.ap s.look) (by omega)
  have hq:(x.ap s.look).small=false:=by unfold BV at ho; rw [hs,hx,Bool.true_and,Bool.true_and] at ho; exact ho
  rw [hq] at h2
  refine Ah DJ Ab (of_decide_eq_true rfl) ?_
  simp (disch:=omega) only [C0,go_sem,Aa,h1,h2,Tm.osv,Tm.obs,Bp,Ay]
theorem Ba (s:Sb) (ht:s.tame) (x:Tm) (hn:x.nodes≤1099511627776):E 76 [s.sv,x.sv] []=some (.tup [(AP s x).sv,.bool (BV s x)],[]):=by
  have h1:=MY s ht
  have h2:=Z7 x hn
  cases hs:s.ok with
  | false =>
    have ho:BV s x=false:=by unfold BV; rw [hs]; rfl
    rw [hs] at h1
    rw [UC ho,ho,UD]
    refine Ah Cm Ac (of_decide_eq_true rfl) ?_
    simp (disch:=omega) only [B9,go_sem,Aa,h1,Ck]
  | true =>
    rw [hs] at h1
    cases hx:x.expr with
    | false =>
      have ho:BV s x=false:=by unfold BV; rw [hx,Bool.false_and,Bool.and_false]
      rw [hx] at h2
      rw [UC ho,ho,UD]
      refine Ah Cm Ac (of_decide_eq_true rfl) ?_
      simp (disch:=omega) only [B9,go_sem,Aa,h1,h2,Ck,EV]
    | true =>
      rw [hx] at h2
      have hn:=Tm.Au hx
      have hk:=Tm.IE (Sb.Fa hs) x
      have h3:=Ok s hs ht x (by omega)
      have h4:=Z7 (x.ap s.look) (by omega)
      have h5:(x.ap s.look).expr=(x.ap s.look).small:=Tm.QbO (Sb.Fa hs) x hx
      rw [h5] at h4
      cases hq:(x.ap s.look).small with
      | true =>
        have ho:BV s x=true:=by unfold BV; rw [hs,hx,hq]; rfl
        rw [hq] at h4
        rw [DY ho,ho]
        refine Ah Cm Ac (of_decide_eq_true rfl) ?_
        simp (disch:=omega) only [B9,go_sem,Aa,h1,h2,h3,h4,Ck,EV,AL]
      | false =>
        have ho:BV s x=false:=by unfold BV; rw [hq,Bool.and_false,Bool.and_false]
        rw [hq] at h4
        rw [UC ho,ho,UD]
        refine Ah Cm Ac (of_decide_eq_true rfl) ?_
        simp (disch:=omega) only [B9,go_sem,Aa,h1,h2,h3,h4,Ck,EV,AL]
theorem Tm.Ci {x:Tm} (h:x.atom=true):x.expr=true:=by unfold Tm.expr; rw [h,Bool.or_true]
theorem Tm.CD {x:Tm} (h:x.atom=true):x.nodes≤30:=Tm.Au (Tm.Ci h)
def Gq:SC:=(.seq (.reg [⟨some 1,none,.boxv 28 1 (.t 0)⟩,⟨some 2,none,.alloc 28 [.nil]⟩,⟨some 3,none,.mv (.c (.bool false))⟩]) (.seq (.seq (.reg [⟨some 4,none,.load true 1 (.t 1)⟩,⟨some 5,none,.call 54 [(.t 4)]⟩,⟨some 6,none,.un .not (.t 5)⟩]) (.cond (.t 6) (.seq (.reg [⟨some 7,none,.build [.nil] []⟩,⟨none,none,(.store 1 (.t 2) (.t 7))⟩,⟨some 3,none,.mv (.c (.bool false))⟩]) .ret) .skip)) (.seq (.reg [⟨some 8,none,.load true 1 (.t 1)⟩,⟨none,none,(.store 1 (.t 2) (.t 8))⟩,⟨some 3,none,.mv (.c (.bool true))⟩]) .ret)))
theorem JB:Am Tryz.prog 137=some ⟨9,Gq,[(.cell 2 true 1),(.tmp 3)]⟩:=by kernel_rfl
theorem CJ:modes 137=⟨[true],.own [some (73,3),none],none,false⟩:=by unfold modes; rfl
def Da:SC:=(.seq (.reg [⟨some 2,none,.boxv 76 1 (.t 0)⟩,⟨some 4,none,.alloc 28 [.nil]⟩,⟨some 5,none,.mv (.c (.bool false))⟩]) (.seq (.reg [⟨(some 11),none,(.mkrow 73 3 [(.bool false),(.str ⟨#[]⟩),.nil] 0 [])⟩,⟨some 6,none,.mv (.t 11)⟩]) (.seq (.seq (.reg [⟨some 12,none,.mv (.t 1)⟩,⟨some 13,none,.len false (.t 12)⟩,⟨some 14,none,.mv (.c (.int .i64 0))⟩]) (.block 0 (.loop [0,0,1,0,1,0,1,0,0,0,0,0,1,1,1,0,0,0,0,0,0,0,0,0,0,0,0,0,0,0,0,0,0,0,0,0,0,0,0,0,0] (.seq (.reg [⟨some 15,none,.bin .lss false (.t 14) (.t 13)⟩]) (.seq (.cond (.t 15) .skip (.exit 0)) (.seq (.block 1 (.seq (.reg [⟨some 16,none,.iaddr 3 (.t 12) (.t 14)⟩,⟨some 17,none,.load true 3 (.t 16)⟩,⟨(some 8),none,(.alloc 73 [(.bool false),(.str ⟨#[]⟩),.nil])⟩,⟨none,none,(.store 3 (.t 8) (.t 17))⟩]) (.seq (.reg [⟨some 19,none,.load true 1 (.t 2)⟩,⟨some 20,none,.faddr 1 (.t 8)⟩,⟨some 21,none,.load true 2 (.t 20)⟩,⟨some 22,none,.call 87 [(.t 19),(.t 21)]⟩,⟨some 18,none,.mv (.t 22)⟩,⟨some 23,none,.ext (.t 18) 0⟩,⟨some 24,none,.ext (.t 18) 1⟩,⟨(some 9),none,(.alloc 71 [(.str ⟨#[]⟩),.nil])⟩,⟨none,none,(.store 2 (.t 9) (.t 23))⟩,⟨some 10,none,.mv (.t 24)⟩]) (.seq (.seq (.reg [⟨some 25,none,.mv (.t 10)⟩,⟨some 26,none,.un .not (.t 25)⟩]) (.cond (.t 26) (.seq (.reg [⟨some 27,none,.build [.nil] []⟩,⟨none,none,(.store 1 (.t 4) (.t 27))⟩,⟨some 5,none,.mv (.c (.bool false))⟩]) .ret) .skip)) (.reg [⟨some 28,none,.mv (.t 6)⟩,⟨some 29,none,.faddr 0 (.t 8)⟩,⟨some 30,none,.load false 1 (.t 29)⟩,⟨some 31,none,.load true 2 (.t 9)⟩,⟨(some 32),none,(.build [(.bool false),(.str ⟨#[]⟩),.nil] [(0,(1,(.t 30))),(1,(2,(.t 31)))])⟩,⟨(some 33),none,(.mkrow 73 3 [(.bool false),(.str ⟨#[]⟩),.nil] 1 [(0,(.t 32))])⟩,⟨(some 34),none,(.append 73 3 48 [(.bool false),(.str ⟨#[]⟩),.nil] (.t 28) (.t 33))⟩,⟨some 6,none,.mv (.t 34)⟩]))))) (.reg [⟨some 35,none,.bin .add false (.t 14) (.c (.int .i64 1))⟩,⟨some 14,none,.mv (.t 35)⟩]))))))) (.seq (.reg [⟨some 36,none,.mv (.t 6)⟩,⟨some 37,none,.call 138 [(.t 36)]⟩,⟨some 38,none,.call 137 [(.t 37)]⟩,⟨some 39,none,.ext (.t 38) 0⟩,⟨some 40,none,.ext (.t 38) 1⟩,⟨none,none,(.store 1 (.t 4) (.t 39))⟩,⟨some 5,none,.mv (.t 40)⟩]) .ret))))
theorem Fk:Am Tryz.prog 92=some ⟨41,Da,[(.cell 4 true 1),(.tmp 5)]⟩:=by kernel_rfl
theorem B0:modes 92=⟨[],.own [some (73,3),none],none,false⟩:=by unfold modes; rfl
def K3:SC:=(.seq (.reg [⟨some 2,none,.boxv 76 1 (.t 0)⟩,⟨some 4,none,.alloc 28 [.nil]⟩,⟨some 5,none,.mv (.c (.bool false))⟩]) (.seq (.reg [⟨(some 10),none,(.mkrow 73 3 [(.bool false),(.str ⟨#[]⟩),.nil] 0 [])⟩,⟨some 6,none,.mv (.t 10)⟩]) (.seq (.seq (.reg [⟨some 7,none,.mv (.c (.int .i64 0))⟩]) (.block 0 (.loop [0,1,1,0,1,0,1,1,0,0,0,0,0,0,0,0,0,0,0,0,0,0,0,0,0,0,0,0,0,0,0,0,0,0,0,0,0,0,0,0,0,0,0,0,0] (.seq (.seq (.reg [⟨some 11,none,.mv (.t 7)⟩,⟨some 12,none,.mv (.t 1)⟩,⟨some 13,none,.len false (.t 12)⟩,⟨some 14,none,.bin .lss false (.t 11) (.t 13)⟩]) (.cond (.t 14) .skip (.exit 0))) (.seq (.block 1 (.seq (.dreg [[],[],[],[1,2],[3,1,2],[4,3,1,2],[0,5,4,3,1,2],[],[7,6,0,5,4,3,1,2]] [⟨some 17,none,.load true 1 (.t 2)⟩,⟨some 18,none,.mv (.t 1)⟩,⟨some 19,none,.mv (.t 7)⟩,⟨some 20,none,.iaddr 3 (.t 18) (.t 19)⟩,⟨some 21,none,.faddr 1 (.t 20)⟩,⟨some 22,none,.load true 2 (.t 21)⟩,⟨some 23,none,.call 111 [(.t 17),(.t 22)]⟩,⟨(some 8),none,(.alloc 71 [(.str ⟨#[]⟩),.nil])⟩,⟨none,none,(.store 2 (.t 8) (.t 23))⟩]) (.seq (.seq (.reg [⟨some 24,none,.load true 2 (.t 8)⟩,⟨some 25,none,.call 72 [(.t 24)]⟩,⟨some 26,none,.un .not (.t 25)⟩]) (.cond (.t 26) (.seq (.reg [⟨some 27,none,.build [.nil] []⟩,⟨none,none,(.store 1 (.t 4) (.t 27))⟩,⟨some 5,none,.mv (.c (.bool false))⟩]) .ret) .skip)) (.dreg [[],[],[],[1,2],[3,1,2],[4,3,1,2],[],[5,4,3,1,2,6],[7,5,4,3,1,2,6],[0,8,7,5,4,3,1,2,6],[9,0,8,7,5,4,3,1,2,6]] [⟨some 28,none,.mv (.t 6)⟩,⟨some 29,none,.mv (.t 1)⟩,⟨some 30,none,.mv (.t 7)⟩,⟨some 31,none,.iaddr 3 (.t 29) (.t 30)⟩,⟨some 32,none,.faddr 0 (.t 31)⟩,⟨some 33,none,.load false 1 (.t 32)⟩,⟨some 34,none,.load true 2 (.t 8)⟩,⟨(some 35),none,(.build [(.bool false),(.str ⟨#[]⟩),.nil] [(0,(1,(.t 33))),(1,(2,(.t 34)))])⟩,⟨(some 36),none,(.mkrow 73 3 [(.bool false),(.str ⟨#[]⟩),.nil] 1 [(0,(.t 35))])⟩,⟨(some 37),none,(.append 73 3 48 [(.bool false),(.str ⟨#[]⟩),.nil] (.t 28) (.t 36))⟩,⟨some 6,none,.mv (.t 37)⟩])))) (.reg [⟨some 15,none,.mv (.t 7)⟩,⟨some 16,none,.bin .add false (.t 15) (.c (.int .i64 1))⟩,⟨some 7,none,.mv (.t 16)⟩])))))) (.seq (.reg [⟨some 38,none,.mv (.t 6)⟩,⟨some 39,none,.call 117 [(.t 38)]⟩,⟨some 9,none,.alloc 28 [.nil]⟩,⟨none,none,(.store 1 (.t 9) (.t 39))⟩]) (.seq (.seq (.reg [⟨some 40,none,.load true 1 (.t 9)⟩,⟨some 41,none,.call 47 [(.t 40)]⟩,⟨some 42,none,.un .not (.t 41)⟩]) (.cond (.t 42) (.seq (.reg [⟨some 43,none,.build [.nil] []⟩,⟨none,none,(.store 1 (.t 4) (.t 43))⟩,⟨some 5,none,.mv (.c (.bool false))⟩]) .ret) .skip)) (.seq (.reg [⟨some 44,none,.load true 1 (.t 9)⟩,⟨none,none,(.store 1 (.t 4) (.t 44))⟩,⟨some 5,none,.mv (.c (.bool true))⟩]) .ret))))))
theorem Ri:Am Tryz.prog 79=some ⟨45,K3,[(.cell 4 true 1),(.tmp 5)]⟩:=by kernel_rfl
theorem Fc:modes 79=⟨[],.frz,none,false⟩:=by unfold modes; rfl
theorem UE (c:Cl) (hn:c.tame) (hv:c.ok=true):E 137 [c.osv] c.obs=some (.tup [c.osv,.bool true],c.obs):=by
  have h:=Gp c hn
  rw [hv] at h
  refine Ah JB CJ (of_decide_eq_true rfl) ?_
  simp (disch:=omega) only [Gq,go_sem,Aa,h,Cr,Lt.erss,Lt.noss,Lt.fus]
theorem Wr (c:Cl) (hn:c.tame) (hv:c.ok=false):E 137 [c.osv] c.obs=some (.tup [.agg [.ref 1],.bool false],[.row 73 3 (c.lits.map Lt.o),.row 73 3 []]):=by
  have h:=Gp c hn
  rw [hv] at h
  refine Ah JB CJ (of_decide_eq_true rfl) ?_
  simp (disch:=omega) only [Gq,go_sem,Aa,h,Cr,Lt.erss,Lt.noss,Lt.fus]
theorem T4 {s:ByteArray} (h:EN s=true):At s=false:=by
  unfold EN inB at h
  rw [Bool.and_eq_true,Bool.and_eq_true,Bool.and_eq_true,decide_eq_true_eq,decide_eq_true_eq] at h
  have hs:0 < s.size:=by omega
  have h1:=Hf h.1.1 hs
  unfold Kh at h1
  simp at h1
  have h2:=h1.1
  have hu:Qv (J3 s 0)=false:=by
    unfold Uc at h2
    unfold Qv
    simp at h2 ⊢
    omega
  rw [Bool.eq_false_iff]
  intro hv
  unfold At at hv
  rw [Bool.and_eq_true] at hv
  have h1:=Hf hv.1 hs
  unfold J4 at h1
  rw [hu] at h1
  simp at h1
theorem Tm.Z8 {f:ByteArray→Option Tm} (hf:okF f) (x:Tm) (hx:x.atom=true):(x.ap f).atom=(x.ap f).small:=by
  unfold Tm.atom at hx
  rcases he:x.eqn with _ | _
  · rw [he,if_neg (by simp),Bool.and_eq_true] at hx
    have hnv:¬ (At x.name=true):=by rw [T4 hx.1]; simp
    have e:x.ap f=.mk x.name (Tm.apL f x.args):=by rw [Tm.HD,if_neg hnv]
    have he2:¬ (x.ap f).eqn=true:=by rw [e]; show ¬ x.eqn=true; rw [he]; simp
    have hn:x.names=true:=by
      have:=hx.2
      unfold Tm.valid at this
      rw [Bool.and_eq_true] at this
      exact this.2
    have h3:=Tm.K1 hf x hn
    unfold Tm.atom
    rw [if_neg he2]
    unfold Tm.valid
    rw [h3,Bool.and_true]
    have hname:(x.ap f).name=x.name:=by rw [e]; rfl
    rw [hname,hx.1,Bool.true_and]
  · rw [he,if_pos rfl,Bool.and_eq_true,Bool.and_eq_true] at hx
    have hnv:¬ (At x.name=true):=by rw [Tm.Z6 he]; simp
    have e:x.ap f=.mk x.name (Tm.apL f x.args):=by rw [Tm.HD,if_neg hnv]
    have he2:(x.ap f).eqn=true:=by rw [e]; exact he
    unfold Tm.atom
    rw [if_pos he2]
    have h1:((x.ap f).args.length == 2)=true:=by
      rw [e]
      show ((Tm.apL f x.args).length == 2)=true
      rw [Tm.P9]; exact hx.1.1
    have h2:Tm.DP (x.ap f).args=true:=by
      rw [e]
      exact Tm.Nb f x.args fun y hy=>Tm.K1 hf y (by
        have:=hx.2
        rw [Tm.Dh,List.all_eq_true] at this
        exact this y hy)
    rw [h1,h2,Bool.true_and,Bool.and_true]
noncomputable def Lt.ap (s:Sb) (x:Lt):Lt:=⟨x.pos,x.atom.ap s.look⟩
noncomputable def Rj (s:Sb) (l:List Lt):Bool:=l.all fun x=>(x.atom.ap s.look).small
noncomputable def Eo (s:Sb) (l:List Lt):Bool:=Rj s l&&(mkC (l.map (Lt.ap s))).ok
noncomputable def apC (s:Sb) (l:List Lt):Cl:=if Eo s l then mkC (l.map (Lt.ap s)) else ⟨[]⟩
theorem Ol {s:Sb} {l:List Lt} (h:Eo s l=false):apC s l=⟨[]⟩:=by unfold apC; rw [if_neg (by rw [h]; simp)]
theorem UF {s:Sb} {l:List Lt} (h:Eo s l=true):apC s l=mkC (l.map (Lt.ap s)):=by unfold apC; rw [if_pos h]
theorem Lt.Z9 {s:Sb} (hs:s.ok=true) {x:Lt} (hx:x.atom.atom=true) (hq:(x.atom.ap s.look).small=true):(x.ap s).fine:=by
  have ha:(x.atom.ap s.look).atom=true:=by rw [Tm.Z8 (Sb.Fa hs) _ hx]; exact hq
  exact ⟨Tm.Hg ha,by have:(Lt.ap s x).atom.nodes≤30:=Tm.CD ha
                            omega⟩
theorem Ws {l:List Lt} (hl:l.length≤1048576) (hf:∀ x∈l,x.fine):(mkC l).tame:=by
  have:=Z0 l
  exact ⟨by omega,fun y hy=>(hf y ((P8 l y).1 hy)).2⟩
theorem T5:(Cl.mk []).osv=.agg [.ref 0]:=rfl
theorem T6:(Cl.mk []).obs=[.row 73 3 []]:=rfl
theorem Wt:(Cl.mk []).sv=.agg [.arr []]:=rfl
theorem So (s:Sb) (hs:s.ok=true) (ht:s.tame) (l:List Lt) (hl:l.length≤1048576) (hal:∀ x∈l,x.atom.atom=true):E 92 [s.sv,.arr (l.map Lt.d)] []=some (.tup [(apC s l).osv,.bool (Eo s l)],(apC s l).obs):=by
  have her:OT.erss (l.map (fun x:Lt=>(Lt.ap s x).d.map D.ot))=(l.map (Lt.ap s)).map Lt.d:=by
    have:=Lt.der (l.map (Lt.ap s))
    rw [List.map_map] at this
    exact this
  have hfu:OT.AS (l.map (fun x:Lt=>(Lt.ap s x).d.map D.ot))=true:=by
    have:=Lt.dfu (l.map (Lt.ap s))
    rw [List.map_map] at this
    exact this
  refine Ah Fk B0 (of_decide_eq_true rfl) ?_
  simp (disch:=omega) only [Da,go_sem,Aa]
  refine As (α:=Int) (fun a=>⟨slots 41 0 [(2,.ptr 0 0),(4,.ptr 1 0),(6,.ref 2),(12,.arr (l.map Lt.d)),(13,.int .i64 l.length),(14,.int .i64 a)],[.box 76 [.arr (s.binds.map Bd.d)],.box 28 [.nil],.row 73 3 ((l.take a.toNat).map (fun x:Lt=>(Lt.ap s x).d.map D.ot))]⟩) (fun a=>∃ k:Nat,a=k∧k≤(l).length∧∀ x∈l.take k,(x.atom.ap s.look).small=true) (fun a=>(l).length - (a).toNat) 0 ⟨0,rfl,Nat.zero_le _,fun x hx=>by simp at hx⟩ (by simp (disch:=omega) only [go_sem,Aa,Int.toNat_zero]) ?_
  rintro i ⟨k,hi,hk,hR⟩
  have hni:i.toNat=k:=by omega
  have hni1:(i+1).toNat=k+1:=by omega
  rcases Nat.lt_or_ge k (l).length with hlt | hge
  · have hg:=Aq Lt.d hlt
    rw [Lt.d_eq] at hg
    have hat:=hal l[k] (List.getElem_mem hlt)
    have hex:=Tm.Ci hat
    have hsn:=D4 (fun x:Lt=>(Lt.ap s x).d.map D.ot) hlt
    have hs1:[[OT.bool l[k].pos,.str (l[k].atom.ap s.look).name,.sh ((l[k].atom.ap s.look).args.map Tm.d)]]=[(fun x:Lt=>(Lt.ap s x).d.map D.ot) l[k]]:=by simp only [Lt.d_eq]; rfl
    have htl:(l.take k).length=k:=by rw [List.length_take]; omega
    cases hq:(l[k].atom.ap s.look).small with
    | true =>
      have ha:=BH s hs ht l[k].atom hex (by unfold BV; rw [hs,hex,hq]; rfl)
      rw [DY (by unfold BV; rw [hs,hex,hq]; rfl)] at ha
      simp (disch:=omega) only [go_sem,Aa,hni,hg,ha,htl,Ab,CI,CJ]
      refine ⟨i+1,⟨k+1,by omega,hlt,fun x hx=>?_⟩,by omega,?_⟩
      · rcases List.mem_append.1 (by rw [List.take_succ_eq_append_getElem hlt] at hx; exact hx) with hx | hx
        · exact hR x hx
        · rw [List.mem_singleton.1 hx]; exact hq
      · simp (disch:=omega) only [go_sem,Aa,hni1,hs1,hsn,and_self]
    | false =>
      have ha:=Ch s hs ht l[k].atom hex (by unfold BV; rw [hq,Bool.and_false,Bool.and_false])
      have hno:Eo s l=false:=by
        unfold Eo Rj
        rw [show (l.all fun x=>(x.atom.ap s.look).small)=false from ?_,Bool.false_and]
        rw [List.all_eq_false]
        exact ⟨l[k],List.getElem_mem hlt,by rw [hq]; simp⟩
      rw [Ol hno,hno,T5,T6]
      simp (disch:=omega) only [go_sem,Aa,hni,hg,ha,Ab,CI,CJ]
  · obtain rfl:k=l.length:=by omega
    have htk:l.take l.length=l:=List.take_length
    rw [htk] at hR
    have hal2:Rj s l=true:=by unfold Rj; rw [List.all_eq_true]; exact hR
    have hfine:∀ x∈l.map (Lt.ap s),x.fine:=fun x hx=>by
      obtain ⟨y,hy,rfl⟩:=List.mem_map.1 hx
      exact Lt.Z9 hs (hal y hy) (hR y hy)
    have hlen:(l.map (Lt.ap s)).length≤1048576:=by rw [List.length_map]; exact hl
    have hc:=QV (l.map (Lt.ap s)) hlen hfine
    have htm:=Ws hlen hfine
    cases hv:(mkC (l.map (Lt.ap s))).ok with
    | true =>
      have hok:Eo s l=true:=by unfold Eo; rw [hal2,hv]; rfl
      have hi2:=UE _ htm hv
      rw [UF hok,hok]
      simp (disch:=omega) only [go_sem,Aa,hni,htk,hc,hi2,her,hfu,Lt.noss,Ab,CI,CJ]
    | false =>
      have hok:Eo s l=false:=by unfold Eo; rw [hv,Bool.and_false]
      have hi2:=Wr _ htm hv
      rw [Ol hok,hok,T5,T6]
      simp (disch:=omega) only [go_sem,Aa,hni,htk,hc,hi2,her,hfu,Lt.noss,Ab,CI,CJ]
theorem Tm.IG {x:Tm} (h:x.atom=true):(At x.name=true→x.args=[])∧∀ y∈x.args,y.names=true:=by
  unfold Tm.atom at h
  cases he:x.eqn with
  | true =>
    rw [he,if_pos rfl,Bool.and_eq_true,Bool.and_eq_true] at h
    have h2:=h.2
    rw [Tm.Dh,List.all_eq_true] at h2
    refine ⟨fun hv=>?_,h2⟩
    have hn:=Ax.1 he
    have hnv0:At ⟨#[61]⟩=false:=by kernel_rfl
    rw [hn,hnv0] at hv
    cases hv
  | false =>
    rw [he,if_neg (by simp),Bool.and_eq_true] at h
    have hnm:x.names=true:=by have h3:=h.2; unfold Tm.valid at h3; rw [Bool.and_eq_true] at h3; exact h3.2
    exact ⟨fun hv=>Tm.F4 hnm hv,fun y hy=>Tm.EM hnm hy⟩
mutual
noncomputable def Tm.vs:Tm→List ByteArray
  | .mk name args=>bif At name then [name] else Tm.vsL args
noncomputable def Tm.vsL:List Tm→List ByteArray
  | []=>[]
  | x :: xs=>Tm.vs x++Tm.vsL xs
end
theorem Tm.Gx (x:Tm):x.vs=bif At x.name then [x.name] else Tm.vsL x.args:=by
  obtain ⟨n,a⟩:=x
  rw [Tm.vs]; rfl
theorem Tm.vsL_mem {v:ByteArray}:∀ {xs:List Tm},v∈Tm.vsL xs ↔ ∃ x∈xs,v∈x.vs
  | []=>by simp [Tm.vsL]
  | x :: xs=>by rw [Tm.vsL,List.mem_append,Tm.vsL_mem (xs:=xs)]; simp
theorem Tm.ZA:∀ xs:List Tm,(∀ x∈xs,x.vs.length≤x.nodes)→(Tm.vsL xs).length≤Tm.Bi xs
  | [],_=>by simp [Tm.vsL]
  | x :: xs,h=>by
    have h1:=h x (by simp)
    have h2:=Tm.ZA xs fun y hy=>h y (by simp [hy])
    rw [Tm.vsL,Tm.Bi,List.length_append]; omega
theorem Tm.vs_len (x:Tm):x.vs.length≤x.nodes:=by
  have h:=Tm.ZA x.args fun y hy=>Tm.vs_len y
  rw [Tm.Gx,Tm.Ao]
  cases At x.name with
  | true=>simp
  | false=>simp only [cond_false]; omega
termination_by SizeOf.sizeOf x
decreasing_by exact Tm.Az hy
noncomputable def Lu (l:List ByteArray) (n:ByteArray):List ByteArray:=bif dec (n∈l) then l else l++[n]
theorem QbP (l:List ByteArray) (n:ByteArray):(Lu l n).length≤l.length+1:=by
  unfold Lu
  cases dec (n∈l) <;> simp
theorem QbQ {l:List ByteArray} {n m:ByteArray}:m∈Lu l n ↔ m∈l∨m=n:=by
  unfold Lu
  by_cases h:n∈l
  · rw [A4 h,cond_true]
    exact ⟨.inl,fun h'=>h'.elim id fun e=>e ▸ h⟩
  · rw [AC h,cond_false]
    simp
theorem Yw {l:List ByteArray} {n:ByteArray} (h:l.Nodup):(Lu l n).Nodup:=by
  unfold Lu
  by_cases k:n∈l
  · rw [A4 k]; exact h
  · rw [AC k,cond_false,List.nodup_append]
    exact ⟨h,by simp,fun a ha b hb e=>by simp at hb; subst hb; subst e; exact k ha⟩
noncomputable def C1 (l ns:List ByteArray):List ByteArray:=ns.foldl Lu l
theorem IH:∀ (ns l:List ByteArray),(C1 l ns).length≤l.length+ns.length
  | [],l=>by simp [C1]
  | n :: ns,l=>by
    have h:=IH ns (Lu l n)
    have h2:=QbP l n
    simp only [C1,List.foldl_cons,List.length_cons] at h ⊢
    omega
theorem Wu:∀ {ns l:List ByteArray} {m:ByteArray},m∈C1 l ns ↔ m∈l∨m∈ns
  | [],l,m=>by simp [C1]
  | n :: ns,l,m=>by
    have h:=Wu (ns:=ns) (l:=Lu l n) (m:=m)
    simp only [C1,List.foldl_cons] at h ⊢
    rw [h,QbQ]
    simp only [List.mem_cons]
    exact or_assoc
theorem Rk:∀ {ns l:List ByteArray},l.Nodup→(C1 l ns).Nodup
  | [],l,h=>h
  | n :: ns,l,h=>Rk (ns:=ns) (Yw h)
theorem Nc (l a b:List ByteArray):C1 l (a++b)=C1 (C1 l a) b:=List.foldl_append
def D5:SC:=(.seq (.reg [⟨some 4,none,.mv (.c (.int .i64 0))⟩]) (.seq (.seq (.reg [⟨some 6,none,.mv (.t 0)⟩,⟨some 7,none,.len false (.t 6)⟩,⟨some 8,none,.mv (.c (.int .i64 0))⟩]) (.block 0 (.loop [1,1,0,0,0,0,0,1,1,0,0,0,0,0,0,0,0,0,0] (.seq (.reg [⟨some 9,none,.bin .lss false (.t 8) (.t 7)⟩]) (.seq (.cond (.t 9) .skip (.exit 0)) (.seq (.block 1 (.seq (.reg [⟨some 10,none,.mv (.t 8)⟩,⟨some 5,none,.mv (.t 10)⟩]) (.seq (.reg [⟨some 11,none,.mv (.t 1)⟩,⟨some 12,none,.mv (.t 0)⟩,⟨some 13,none,.mv (.t 5)⟩,⟨some 14,none,.iaddr 1 (.t 12) (.t 13)⟩,⟨some 15,none,.load false 1 (.t 14)⟩,⟨some 16,none,.bin .eql false (.t 11) (.t 15)⟩]) (.cond (.t 16) (.seq (.reg [⟨some 17,none,.mv (.t 5)⟩,⟨some 4,none,.mv (.t 17)⟩]) .ret) .skip)))) (.reg [⟨some 18,none,.bin .add false (.t 8) (.c (.int .i64 1))⟩,⟨some 8,none,.mv (.t 18)⟩]))))))) (.seq (.reg [⟨some 4,none,.mv (.c (.int .i64 (-(0+1))))⟩]) .ret)))
theorem Gr:Am Tryz.prog 179=some ⟨19,D5,[(.tmp 4)]⟩:=by kernel_rfl
theorem D6:modes 179=⟨[],.asis,none,false⟩:=by unfold modes; rfl
def Db:SC:=(.seq (.reg [⟨some 4,none,.mv (.c (.bool false))⟩]) (.seq (.reg [⟨some 5,none,.mv (.t 0)⟩,⟨some 6,none,.mv (.t 1)⟩,⟨some 7,none,.call 179 [(.t 5),(.t 6)]⟩,⟨some 8,none,.bin .geq false (.t 7) (.c (.int .i64 0))⟩,⟨some 4,none,.mv (.t 8)⟩]) .ret))
theorem Fl:Am Tryz.prog 157=some ⟨9,Db,[(.tmp 4)]⟩:=by kernel_rfl
theorem BZ:modes 157=⟨[],.asis,none,false⟩:=by unfold modes; rfl
theorem QbR (xs:List ByteArray) (n:ByteArray) (hl:xs.length≤1099511627776):E 179 [.arr (xs.map fun s=>[D.str s]),.str n] []=some (.int .i64 (Fj (fun s=>dec (n=s)) xs 0),[]):=by
  refine Ah Gr D6 (of_decide_eq_true rfl) ?_
  simp (disch:=omega) only [D5,go_sem,Aa]
  refine As (α:=Int) (fun a=>⟨slots 19 0 [(0,.arr (xs.map fun s=>[D.str s])),(1,.str n),(7,.int .i64 xs.length),(8,.int .i64 a)],[]⟩) (fun a=>∃ k:Nat,a=k∧k≤(xs).length∧Fj (fun s=>dec (n=s)) (xs.drop k) a=Fj (fun s=>dec (n=s)) xs 0) (fun a=>(xs).length - (a).toNat) 0 ⟨0,rfl,Nat.zero_le _,by rw [List.drop_zero]⟩ (by simp (disch:=omega) only [go_sem,Aa]) ?_
  rintro i ⟨k,hi,hk,hR⟩
  have hni:i.toNat=k:=by omega
  have hni1:(i+1).toNat=k+1:=by omega
  rcases Nat.lt_or_ge k (xs).length with hlt | hge
  · have hg:=Aq (fun s=>[D.str s]) hlt
    rw [List.drop_eq_getElem_cons hlt,Fj] at hR
    cases hp:dec (n=xs[k]) with
    | true =>
      rw [hp] at hR
      simp (disch:=omega) only [go_sem,Aa,hni,hg,hp]
      simpa using hR
    | false =>
      rw [hp] at hR
      simp (disch:=omega) only [go_sem,Aa,hni,hg,hp]
      exact ⟨i+1,⟨k+1,by omega,hlt,by simpa using hR⟩,by omega,by first | trivial | rfl⟩
  · rw [List.drop_eq_nil_of_le hge,Fj] at hR
    simp (disch:=omega) only [go_sem,Aa,hni]
    exact hR
theorem Wv (xs:List ByteArray) (n:ByteArray) (hl:xs.length≤1099511627776):E 157 [.arr (xs.map fun s=>[D.str s]),.str n] []=some (.bool (dec (n∈xs)),[]):=by
  have h:=QbR xs n hl
  have e:dec (n∈xs)=dec (0≤Fj (fun s=>dec (n=s)) xs 0):=by
    rw [QM]
    by_cases hm:n∈xs
    · rw [A4 hm]
      exact (List.any_eq_true.2 ⟨n,hm,A4 rfl⟩).symm
    · rw [AC hm]
      refine Eq.symm (Bool.eq_false_iff.2 fun h=>?_)
      obtain ⟨x,h1,h2⟩:=List.any_eq_true.1 h
      have e:=Ax.1 h2
      subst e
      exact hm h1
  rw [e]
  refine Ah Fl BZ (of_decide_eq_true rfl) ?_
  simp (disch:=omega) only [Db,go_sem,Aa,h,D6]
theorem Om:∀ (ns l:List ByteArray),l.length≤(C1 l ns).length
  | [],l=>by simp [C1]
  | n :: ns,l=>by
    have h:=Om ns (Lu l n)
    have h2:l.length≤(Lu l n).length:=by unfold Lu; cases dec (n∈l) <;> simp
    simp only [C1,List.foldl_cons] at h ⊢
    omega
def DZ:SC:=(.seq (.reg [⟨some 3,none,.boxv 71 2 (.t 1)⟩,⟨some 4,none,.mv (.c .nil)⟩]) (.seq (.seq (.reg [⟨some 7,none,.faddr 1 (.t 3)⟩,⟨some 8,none,.load false 1 (.t 7)⟩,⟨some 9,none,.len false (.t 8)⟩,⟨some 10,none,.bin .eql false (.t 9) (.c (.int .i64 0))⟩,⟨some 11,none,.mv (.t 10)⟩,⟨(some 12),(some (11,true)),(.load true 2 (.t 3))⟩,⟨(some 13),(some (11,true)),(.call 89 [(.t 12)])⟩,⟨some 14,none,.pick (.t 11) (.t 13) (.c (.bool false))⟩]) (.cond (.t 14) (.seq (.seq (.reg [⟨some 15,none,.mv (.t 0)⟩,⟨some 16,none,.faddr 0 (.t 3)⟩,⟨some 17,none,.load false 1 (.t 16)⟩,⟨some 18,none,.call 157 [(.t 15),(.t 17)]⟩,⟨some 19,none,.un .not (.t 18)⟩]) (.cond (.t 19) (.reg [⟨some 20,none,.mv (.t 0)⟩,⟨some 21,none,.faddr 0 (.t 3)⟩,⟨some 22,none,.load false 1 (.t 21)⟩,⟨(some 23),none,(.mkrow 9 1 [(.str ⟨#[]⟩)] 1 [(0,(.t 22))])⟩,⟨(some 24),none,(.append 9 1 16 [(.str ⟨#[]⟩)] (.t 20) (.t 23))⟩,⟨some 0,none,.mv (.t 24)⟩]) .skip)) (.seq (.reg [⟨some 25,none,.mv (.t 0)⟩,⟨some 4,none,.mv (.t 25)⟩]) .ret)) .skip)) (.seq (.seq (.reg [⟨some 26,none,.faddr 1 (.t 3)⟩,⟨some 27,none,.load false 1 (.t 26)⟩,⟨some 28,none,.len false (.t 27)⟩,⟨some 29,none,.mv (.c (.int .i64 0))⟩]) (.block 0 (.loop [1,0,0,0,0,0,0,0,0,0,0,0,0,0,0,0,0,0,0,0,0,0,0,0,0,0,0,1,1,1,0,0,0,0,0,0,0,0] (.seq (.reg [⟨some 30,none,.bin .lss false (.t 29) (.t 28)⟩]) (.seq (.cond (.t 30) .skip (.exit 0)) (.seq (.block 1 (.seq (.reg [⟨some 31,none,.iaddr 2 (.t 27) (.t 29)⟩,⟨some 32,none,.load true 2 (.t 31)⟩,⟨(some 6),none,(.alloc 71 [(.str ⟨#[]⟩),.nil])⟩,⟨none,none,(.store 2 (.t 6) (.t 32))⟩]) (.reg [⟨some 33,none,.mv (.t 0)⟩,⟨some 34,none,.load true 2 (.t 6)⟩,⟨some 35,none,.call 124 [(.t 33),(.t 34)]⟩,⟨some 0,none,.mv (.t 35)⟩]))) (.reg [⟨some 36,none,.bin .add false (.t 29) (.c (.int .i64 1))⟩,⟨some 29,none,.mv (.t 36)⟩]))))))) (.seq (.reg [⟨some 37,none,.mv (.t 0)⟩,⟨some 4,none,.mv (.t 37)⟩]) .ret))))
theorem Fd:Am Tryz.prog 124=some ⟨38,DZ,[(.tmp 4)]⟩:=by kernel_rfl
theorem Di:modes 124=⟨[true],.asis,none,false⟩:=by unfold modes; rfl
abbrev Qdj (x:Tm):Prop:=∀ l:List ByteArray,l.length+x.nodes≤1048576→E 124 [.ref 0,x.sv] [.row 9 1 (l.map fun s=>[OT.str s])]=some ((bif dec (l.length < (C1 l x.vs).length) then .ref 1 else .ref 0),(bif dec (l.length < (C1 l x.vs).length) then [.gone,.row 9 1 ((C1 l x.vs).map fun s=>[OT.str s])] else [.row 9 1 ((C1 l x.vs).map fun s=>[OT.str s])]))
theorem Rl (x:Tm) (hva:At x.name=true→x.args=[]) (hc:x.cok=true) (ih:∀ y∈x.args,Qdj y):Qdj x:=by
  intro l hn
  have hl:=Tm.AB x.args
  have hne:=Tm.Ao x
  have hv:=Dd x hc
  have hvs:=Tm.Gx x
  rcases Nat.eq_zero_or_pos x.args.length with h0 | h0
  · have hx0:x.args=[]:=List.eq_nil_of_length_eq_zero h0
    have hz:((x.args.length:Int)=0)=True:=by rw [hx0]; simp
    cases hvv:At x.name with
    | true =>
      rw [hvv] at hv hvs
      have h1:=Wv l x.name (by omega)
      rw [hvs]
      cases hm:dec (x.name∈l) with
      | true =>
        have e:C1 l [x.name]=l:=by simp only [C1,List.foldl_cons,List.foldl_nil,Lu,hm,cond_true]
        rw [hm] at h1
        simp only [cond_true,e]
        refine Ah Fd Di (of_decide_eq_true rfl) ?_
        simp (disch:=omega) only [DZ,go_sem,Aa,hz,hv,h1,Ak,BZ]
      | false =>
        have e:C1 l [x.name]=l++[x.name]:=by simp only [C1,List.foldl_cons,List.foldl_nil,Lu,hm,cond_false]
        have hg:l.length < (l++[x.name]).length:=by simp
        rw [hm] at h1
        simp only [cond_true,e,A4 hg]
        refine Ah Fd Di (of_decide_eq_true rfl) ?_
        simp (disch:=omega) only [DZ,go_sem,Aa,hz,hv,h1,Ak,BZ]
        simp only [List.map_append,List.map_cons,List.map_nil]
    | false =>
      rw [hvv] at hv hvs
      have e:C1 l x.vs=l:=by rw [hvs,hx0]; simp only [cond_false,Tm.vsL]; rfl
      rw [e]
      refine Ah Fd Di (of_decide_eq_true rfl) ?_
      simp (disch:=omega) only [DZ,go_sem,Aa,hz,hv,Ak]
      refine As (α:=Int) (fun a=>⟨slots 38 0 [(0,.ref 0),(27,.arr (x.args.map Tm.d)),(28,.int .i64 x.args.length),(29,.int .i64 a)],[.row 9 1 (l.map fun s=>[OT.str s])]⟩) (fun a=>∃ k:Nat,a=k∧k≤(x.args).length) (fun a=>(x.args).length - (a).toNat) 0 ⟨0,rfl,Nat.zero_le _⟩ (by simp (disch:=omega) only [go_sem,Aa]) ?_
      rintro i ⟨k,hi,hk⟩
      have hni:i.toNat=k:=by omega
      have hni1:(i+1).toNat=k+1:=by omega
      rcases Nat.lt_or_ge k (x.args).length with hlt | hge
      · omega
      · simp (disch:=omega) only [go_sem,Aa,hni]
  · have hz:((x.args.length:Int)=0)=False:=eq_false (by omega)
    have hvv:At x.name=false:=by
      cases h:At x.name with
      | false=>rfl
      | true=>rw [hva h] at h0; simp at h0
    rw [hvv] at hvs
    simp only [cond_false] at hvs
    rw [hvs]
    refine Ah Fd Di (of_decide_eq_true rfl) ?_
    simp (disch:=omega) only [DZ,go_sem,Aa,hz]
    refine As (α:=Int × (List ByteArray)) (fun a=>⟨slots 38 0 [(0,(bif dec (l.length < (a.2).length) then .ref 1 else .ref 0)),(27,.arr (x.args.map Tm.d)),(28,.int .i64 x.args.length),(29,.int .i64 (a.1))],(bif dec (l.length < (a.2).length) then [.gone,.row 9 1 ((a.2).map fun s=>[OT.str s])] else [.row 9 1 ((a.2).map fun s=>[OT.str s])])⟩) (fun a=>∃ k:Nat,a.1=k∧k≤(x.args).length∧C1 (a.2) (Tm.vsL (x.args.drop k))=C1 l (Tm.vsL x.args)∧(a.2).length+Tm.Bi (x.args.drop k)≤1048576∧l.length≤(a.2).length) (fun a=>(x.args).length - (a.1).toNat) (0,l) ⟨0,rfl,Nat.zero_le _,by rw [List.drop_zero],by rw [List.drop_zero]; dsimp only; omega,Nat.le_refl _⟩ (by simp (disch:=omega) only [go_sem,Aa]) ?_
    rintro ⟨i,acc⟩ ⟨k,hi,hk,hR⟩
    dsimp only at hi hR
    have hni:i.toNat=k:=by omega
    have hni1:(i+1).toNat=k+1:=by omega
    rcases Nat.lt_or_ge k (x.args).length with hlt | hge
    · have hg:=Aq Tm.d hlt
      rw [Tm.d_eq] at hg
      obtain ⟨hR1,hR2,hR3⟩:=hR
      rw [List.drop_eq_getElem_cons hlt,Tm.vsL,Nc] at hR1
      rw [List.drop_eq_getElem_cons hlt,Tm.Bi] at hR2
      have hc:=ih x.args[k] (List.getElem_mem hlt) acc (by omega)
      have hlen:=IH x.args[k].vs acc
      have hgr:=Om x.args[k].vs acc
      have hvl:=Tm.vs_len x.args[k]
      obtain ⟨acc2,ha2⟩:∃ a,a=C1 acc x.args[k].vs:=⟨_,rfl⟩
      rw [← ha2] at hc hlen hgr hR1
      rcases Nat.lt_or_ge l.length acc.length with q1 | q1 <;> rcases Nat.lt_or_ge acc.length acc2.length with q2 | q2
      all_goals
        first
          | rw [A4 q2] at hc
          | rw [AC (Nat.not_lt.2 q2)] at hc
        simp only [cond_true,cond_false] at hc
        simp (disch:=omega) only [go_sem,Aa,hni,hg,hc,Di]
        refine ⟨(i+1,acc2),⟨k+1,by dsimp only; omega,hlt,hR1,by dsimp only; omega,by dsimp only; omega⟩,by dsimp only; omega,?_⟩
        first | done | simp (disch:=omega) only [go_sem,Aa]
    · rw [List.drop_eq_nil_of_le hge,Tm.vsL] at hR
      obtain ⟨hR1,hR2,hR3⟩:=hR
      have hR1:acc=C1 l (Tm.vsL x.args):=hR1
      rw [← hR1]
      rcases Nat.lt_or_ge l.length acc.length with q1 | q1
      · simp (disch:=omega) only [go_sem,Aa,hni]
      · simp (disch:=omega) only [go_sem,Aa,hni]
theorem T7 (x:Tm) (hx:x.names=true) (hc:x.cok=true):Qdj x :=
  Rl x (fun h=>Tm.F4 hx h) hc fun y hy=>T7 y (Tm.EM hx hy) (by rw [Tm.Kk,Bool.and_eq_true] at hc; exact Tm.GW hc.2 hy)
termination_by SizeOf.sizeOf x
decreasing_by exact Tm.Az hy
theorem Yx (x:Tm) (h:x.atom=true):Qdj x :=
  Rl x (Tm.IG h).1 (Tm.Hg h) fun y hy=>T7 y ((Tm.IG h).2 y hy) (Tm.I9 y ((Tm.IG h).2 y hy))
noncomputable def Lt.vsL:List Lt→List ByteArray
  | []=>[]
  | x :: xs=>x.atom.vs++Lt.vsL xs
theorem Cl.ok_len {x:Cl} (h:x.ok=true):x.lits.length≤8:=by
  unfold Cl.ok at h
  rw [Bool.and_eq_true,decide_eq_true_eq] at h
  exact h.1
theorem Cl.Ju {x:Cl} (h:x.ok=true) {k:Nat} (hk:k < x.lits.length):x.lits[k].atom.atom=true:=by
  unfold Cl.ok at h
  rw [Bool.and_eq_true,decide_eq_true_eq] at h
  exact Oi h.2 hk hk
theorem Cl.Dj {x:Cl} (h:x.ok=true):∀ y∈x.lits,y.atom.atom=true:=fun y hy=>by
  obtain ⟨k,hk,rfl⟩:=List.getElem_of_mem hy
  exact Cl.Ju h hk
theorem Cl.vs_len {c:Cl} (hc:c.ok=true):(Lt.vsL c.lits).length≤240:=by
  have hl:=Cl.ok_len hc
  have key:∀ xs:List Lt,(∀ x∈xs,x.atom.nodes≤30)→(Lt.vsL xs).length≤30 * xs.length:=by
    intro xs
    induction xs with
    | nil=>intro _; exact Nat.le_refl _
    | cons x xs ih =>
      intro h
      have h1:=h x (by simp)
      have h2:=ih fun y hy=>h y (by simp [hy])
      have h3:=Tm.vs_len x.atom
      rw [Lt.vsL,List.length_append,List.length_cons]; omega
  have:=key c.lits fun x hx=>by
    obtain ⟨k,hk,rfl⟩:=List.getElem_of_mem hx
    exact Tm.CD (Cl.Ju hc hk)
  omega
def K4:SC:=(.seq (.reg [⟨some 1,none,.boxv 28 1 (.t 0)⟩,⟨some 2,none,.mv (.c .nil)⟩]) (.seq (.reg [⟨(some 6),none,(.mkrow 9 1 [(.str ⟨#[]⟩)] 0 [])⟩,⟨some 3,none,.mv (.t 6)⟩]) (.seq (.seq (.reg [⟨some 7,none,.faddr 0 (.t 1)⟩,⟨some 8,none,.load false 1 (.t 7)⟩,⟨some 9,none,.len false (.t 8)⟩,⟨some 10,none,.mv (.c (.int .i64 0))⟩]) (.block 0 (.loop [0,0,0,1,0,0,0,0,1,1,1,0,0,0,0,0,0,0,0,0] (.seq (.reg [⟨some 11,none,.bin .lss false (.t 10) (.t 9)⟩]) (.seq (.cond (.t 11) .skip (.exit 0)) (.seq (.block 1 (.seq (.reg [⟨some 12,none,.iaddr 3 (.t 8) (.t 10)⟩,⟨some 13,none,.load true 3 (.t 12)⟩,⟨(some 5),none,(.alloc 73 [(.bool false),(.str ⟨#[]⟩),.nil])⟩,⟨none,none,(.store 3 (.t 5) (.t 13))⟩]) (.reg [⟨some 14,none,.mv (.t 3)⟩,⟨some 15,none,.faddr 1 (.t 5)⟩,⟨some 16,none,.load true 2 (.t 15)⟩,⟨some 17,none,.call 124 [(.t 14),(.t 16)]⟩,⟨some 3,none,.mv (.t 17)⟩]))) (.reg [⟨some 18,none,.bin .add false (.t 10) (.c (.int .i64 1))⟩,⟨some 10,none,.mv (.t 18)⟩]))))))) (.seq (.reg [⟨some 19,none,.mv (.t 3)⟩,⟨some 2,none,.mv (.t 19)⟩]) .ret))))
theorem Rm:Am Tryz.prog 84=some ⟨20,K4,[(.tmp 2)]⟩:=by kernel_rfl
theorem Ea:modes 84=⟨[],.asis,none,false⟩:=by unfold modes; rfl
theorem T8 (c:Cl) (hc:c.ok=true):E 84 [c.sv] []=some (.ref 0,[.row 9 1 ((C1 [] (Lt.vsL c.lits)).map fun s=>[OT.str s])]):=by
  have hl:=Cl.ok_len hc
  refine Ah Rm Ea (of_decide_eq_true rfl) ?_
  simp (disch:=omega) only [K4,go_sem,Aa]
  refine As (α:=Int × (List ByteArray)) (fun a=>⟨slots 20 0 [(3,.ref 0),(8,.arr (c.lits.map Lt.d)),(9,.int .i64 c.lits.length),(10,.int .i64 (a.1))],[.row 9 1 ((a.2).map fun s=>[OT.str s])]⟩) (fun a=>∃ k:Nat,a.1=k∧k≤(c.lits).length∧C1 (a.2) (Lt.vsL (c.lits.drop k))=C1 [] (Lt.vsL c.lits)∧(a.2).length≤30 * k) (fun a=>(c.lits).length - (a.1).toNat) (0,[]) ⟨0,rfl,Nat.zero_le _,by rw [List.drop_zero],Nat.le_refl _⟩ (by simp (disch:=omega) only [go_sem,Aa]) ?_
  rintro ⟨i,acc⟩ ⟨k,hi,hk,hR⟩
  dsimp only at hi hR
  have hni:i.toNat=k:=by omega
  have hni1:(i+1).toNat=k+1:=by omega
  rcases Nat.lt_or_ge k (c.lits).length with hlt | hge
  · have hg:=Aq Lt.d hlt
    rw [Lt.d_eq] at hg
    obtain ⟨hR1,hR2⟩:=hR
    rw [List.drop_eq_getElem_cons hlt,Lt.vsL,Nc] at hR1
    have hnn:=Tm.CD (Cl.Ju hc hlt)
    have hcl:=Yx c.lits[k].atom (Cl.Ju hc hlt) acc (by omega)
    have has:c.lits[k].atom.sv=.agg [.str c.lits[k].atom.name,.arr (c.lits[k].atom.args.map Tm.d)]:=rfl
    have hlen:=IH c.lits[k].atom.vs acc
    have hvl:=Tm.vs_len c.lits[k].atom
    obtain ⟨acc2,ha2⟩:∃ a,a=C1 acc c.lits[k].atom.vs:=⟨_,rfl⟩
    rw [← ha2] at hcl hlen hR1
    rcases Nat.lt_or_ge acc.length acc2.length with q2 | q2
    all_goals
      first
        | rw [A4 q2] at hcl
        | rw [AC (Nat.not_lt.2 q2)] at hcl
      simp only [cond_true,cond_false] at hcl
      simp (disch:=omega) only [go_sem,Aa,hni,hg,has,hcl,Di]
      refine ⟨(i+1,acc2),⟨k+1,by dsimp only; omega,hlt,hR1,by dsimp only; omega⟩,by dsimp only; omega,?_⟩
      first | trivial | rfl | exact ⟨rfl,rfl⟩
  · rw [List.drop_eq_nil_of_le hge,Lt.vsL] at hR
    obtain ⟨hR1,hR2⟩:=hR
    have hR1:acc=_:=hR1
    rw [← hR1]
    simp (disch:=omega) only [go_sem,Aa,hni]
theorem Qa2 (s:Sb) (hs:s.ok=true) (ht:s.tame) (l:List Lt) (hl:l.length≤1048576) (hal:∀ x∈l,x.atom.atom=true):E 79 [s.sv,.arr (l.map Lt.d)] []=some (.tup [(apC s l).sv,.bool (Eo s l)],[]):=by
  have her:OT.erss (l.map (fun x:Lt=>(Lt.ap s x).d.map D.ot))=(l.map (Lt.ap s)).map Lt.d:=by
    have:=Lt.der (l.map (Lt.ap s))
    rw [List.map_map] at this
    exact this
  have hfu:OT.AS (l.map (fun x:Lt=>(Lt.ap s x).d.map D.ot))=true:=by
    have:=Lt.dfu (l.map (Lt.ap s))
    rw [List.map_map] at this
    exact this
  refine Ah Ri Fc (of_decide_eq_true rfl) ?_
  simp (disch:=omega) only [K3,go_sem,Aa]
  refine As (α:=Int) (fun a=>⟨slots 45 0 [(1,.arr (l.map Lt.d)),(2,.ptr 0 0),(4,.ptr 1 0),(6,.ref 2),(7,.int .i64 a)],[.box 76 [.arr (s.binds.map Bd.d)],.box 28 [.nil],.row 73 3 ((l.take a.toNat).map (fun x:Lt=>(Lt.ap s x).d.map D.ot))]⟩) (fun a=>∃ k:Nat,a=k∧k≤(l).length∧∀ x∈l.take k,(x.atom.ap s.look).small=true) (fun a=>(l).length - (a).toNat) 0 ⟨0,rfl,Nat.zero_le _,fun x hx=>by simp at hx⟩ (by simp (disch:=omega) only [go_sem,Aa,Int.toNat_zero]) ?_
  rintro i ⟨k,hi,hk,hR⟩
  have hni:i.toNat=k:=by omega
  have hni1:(i+1).toNat=k+1:=by omega
  rcases Nat.lt_or_ge k (l).length with hlt | hge
  · have hg:=Aq Lt.d hlt
    rw [Lt.d_eq] at hg
    have hat:=hal l[k] (List.getElem_mem hlt)
    have hsn:=D4 (fun x:Lt=>(Lt.ap s x).d.map D.ot) hlt
    have hs1:[[OT.bool l[k].pos,.str (l[k].atom.ap s.look).name,.sh ((l[k].atom.ap s.look).args.map Tm.d)]]=[(fun x:Lt=>(Lt.ap s x).d.map D.ot) l[k]]:=by simp only [Lt.d_eq]; rfl
    have htl:(l.take k).length=k:=by rw [List.length_take]; omega
    have hnd:=Tm.CD hat
    have ha:=Ok s hs ht l[k].atom (by omega)
    have hap:=Tm.IE (Sb.Fa hs) l[k].atom
    have hb:=QQ (l[k].atom.ap s.look) (by omega)
    rw [Tm.Z8 (Sb.Fa hs) _ hat] at hb
    cases hq:(l[k].atom.ap s.look).small with
    | true =>
      rw [hq] at hb
      simp (disch:=omega) only [go_sem,Aa,hni,hg,ha,hb,htl,AL,AX,CV,B8]
      refine ⟨i+1,⟨k+1,by omega,hlt,fun x hx=>?_⟩,by omega,?_⟩
      · rcases List.mem_append.1 (by rw [List.take_succ_eq_append_getElem hlt] at hx; exact hx) with hx | hx
        · exact hR x hx
        · rw [List.mem_singleton.1 hx]; exact hq
      · simp (disch:=omega) only [go_sem,Aa,hni1,hs1,hsn,and_self]
    | false =>
      rw [hq] at hb
      have hno:Eo s l=false:=by
        unfold Eo Rj
        rw [show (l.all fun x=>(x.atom.ap s.look).small)=false from ?_,Bool.false_and]
        rw [List.all_eq_false]
        exact ⟨l[k],List.getElem_mem hlt,by rw [hq]; simp⟩
      rw [Ol hno,hno,Wt]
      simp (disch:=omega) only [go_sem,Aa,hni,hg,ha,hb,AL,AX,CV,B8]
  · obtain rfl:k=l.length:=by omega
    have htk:l.take l.length=l:=List.take_length
    rw [htk] at hR
    have hal2:Rj s l=true:=by unfold Rj; rw [List.all_eq_true]; exact hR
    have hfine:∀ x∈l.map (Lt.ap s),x.fine:=fun x hx=>by
      obtain ⟨y,hy,rfl⟩:=List.mem_map.1 hx
      exact Lt.Z9 hs (hal y hy) (hR y hy)
    have hlen:(l.map (Lt.ap s)).length≤1048576:=by rw [List.length_map]; exact hl
    have hc:=QY (l.map (Lt.ap s)) hlen hfine
    have hgd:=QT (mkC (l.map (Lt.ap s))) (Ws hlen hfine)
    cases hv:(mkC (l.map (Lt.ap s))).ok with
    | true =>
      have hok:Eo s l=true:=by unfold Eo; rw [hal2,hv]; rfl
      rw [hv] at hgd
      rw [UF hok,hok]
      simp (disch:=omega) only [go_sem,Aa,hni,htk,hc,hgd,her,hfu,AL,AX,CV,B8]
    | false =>
      have hok:Eo s l=false:=by unfold Eo; rw [hv,Bool.and_false]
      rw [hv] at hgd
      rw [Ol hok,hok,Wt]
      simp (disch:=omega) only [go_sem,Aa,hni,htk,hc,hgd,her,hfu,AL,AX,CV,B8]
abbrev SEnv:=ByteArray→Option ByteArray
def FX (e:SEnv):MF
  | .str s=>match e s with
    | some n=>some (false,[.str n])
    | none=>none
  | .int _=>none
theorem Lo (e:SEnv) (s:ByteArray):FX e (.str s)=match e s with | some n=>some (false,[.str n]) | none=>none:=rfl
noncomputable def Qa3 (e:SEnv) (s n:ByteArray):SEnv:=fun q=>bif dec (q=s) then some n else e q
theorem Qa4 (e:SEnv) (s n:ByteArray):Pf (FX e) (.str s) (false,[.str n])=FX (Qa3 e s n):=by
  funext k
  cases k with
  | int i=>rw [IY (fun h=>by cases h)]; rfl
  | str q =>
    rw [Qc,Lo,Lo]
    unfold Qa3
    cases dec (q=s) <;> rfl
theorem Yy:FX (fun _=>none)=nomap:=by
  funext k
  cases k <;> rfl
mutual
noncomputable def Tm.rn (e:SEnv):Tm→Tm
  | .mk n args=>.mk (bif args.isEmpty then (e n).getD n else n) (Tm.rnL e args)
noncomputable def Tm.rnL (e:SEnv):List Tm→List Tm
  | []=>[]
  | x :: xs=>Tm.rn e x :: Tm.rnL e xs
end
theorem Tm.ZB (e:SEnv):∀ xs:List Tm,Tm.rnL e xs=xs.map (Tm.rn e)
  | []=>by rw [Tm.rnL]; rfl
  | x :: xs=>by rw [Tm.rnL,Tm.ZB e xs]; rfl
theorem Tm.Rn (e:SEnv) (x:Tm):x.rn e=.mk (bif x.args.isEmpty then (e x.name).getD x.name else x.name) (x.args.map (Tm.rn e)):=by
  obtain ⟨n,args⟩:=x
  rw [Tm.rn,Tm.ZB]; rfl
theorem Tm.Ww (e:SEnv) (x:Tm):(x.rn e).nodes=x.nodes:=by
  have key:∀ xs:List Tm,(∀ y∈xs,(y.rn e).nodes=y.nodes)→Tm.Bi (xs.map (Tm.rn e))=Tm.Bi xs:=by
    intro xs
    induction xs with
    | nil=>intro _; rfl
    | cons y ys ih =>
      intro h
      rw [List.map_cons,Tm.Bi,Tm.Bi,h y (by simp),ih fun z hz=>h z (by simp [hz])]
  rw [Tm.Rn,Tm.Ao,Tm.Ao]
  show 1+Tm.Bi (x.args.map (Tm.rn e))=_
  rw [key x.args fun y hy=>Tm.Ww e y]
termination_by SizeOf.sizeOf x
decreasing_by exact Tm.Az hy
theorem Yz {n:Int} (h0:0≤n) (h:n < 10):G5 n=⟨#[UInt8.ofNat (48+n.toNat)]⟩:=by
  obtain ⟨u,rfl⟩:∃ u:Nat,n=u:=⟨n.toNat,by omega⟩
  unfold G5
  rw [Lib.itoa_nonneg,Lib.decDigits,dif_pos (by omega)]
  rfl
theorem QbS {n:Int} (h:10≤n):G5 n=G5 (n.tdiv 10)++⟨#[UInt8.ofNat (48+(n.tmod 10).toNat)]⟩:=by
  obtain ⟨u,rfl⟩:∃ u:Nat,n=u:=⟨n.toNat,by omega⟩
  have e1:(u:Int).tdiv 10=((u / 10:Nat):Int):=by rw [Int.tdiv_eq_ediv_of_nonneg (by omega)]; rfl
  have e2:((u:Int).tmod 10).toNat=u % 10:=by rw [Int.tmod_eq_emod_of_nonneg (by omega)]; omega
  rw [e1,e2]
  unfold G5
  rw [Lib.itoa_nonneg,Lib.itoa_nonneg,Lib.decDigits,dif_neg (by omega)]
  have key:∀ (x:List UInt8) (y:UInt8),(⟨(x++[y]).toArray⟩:ByteArray)=⟨x.toArray⟩++⟨#[y]⟩:=fun x y=>by
    have e:∀ a b:ByteArray,a.data=b.data→a=b:=fun a b h=>by cases a; cases b; cases h; rfl
    apply e
    simp
  exact key _ _
def pre (p:ByteArray) (n:Int):ByteArray:=p++G5 n
theorem Fe:modes 85=⟨[],.asis,some (Ls Tp),false⟩:=by unfold modes; rfl
theorem QbT (n:Int) (h0:0≤n) (h1:n≤1099511627776):E 85 [.int .i64 n] []=some (.str (G5 n),[]) :=
  Tr (g:=Tp) (congrArg FM.ext Fe) (by simp only [Tp,A4 (⟨h0,h1⟩:0≤n∧n≤1099511627776),cond_true])
noncomputable def Cl.ns (c:Cl):List ByteArray:=C1 [] (Lt.vsL c.lits)
def Sp:ByteArray:=⟨#[88]⟩
theorem Cl.Ro {c:Cl} (h:c.ok=true):c.ns.length≤240:=by
  have h1:=IH (Lt.vsL c.lits) []
  have h2:=Cl.vs_len h
  unfold Cl.ns
  simp only [List.length_nil] at h1
  omega
theorem Cl.ns_nodup (c:Cl):c.ns.Nodup:=Rk List.nodup_nil
theorem Lt.vsL_mem {v:ByteArray}:∀ {xs:List Lt},v∈Lt.vsL xs ↔ ∃ x∈xs,v∈x.atom.vs
  | []=>by simp [Lt.vsL]
  | x :: xs=>by rw [Lt.vsL,List.mem_append,Lt.vsL_mem (xs:=xs)]; simp
theorem Cl.QdQ {c:Cl} {v:ByteArray}:v∈c.ns ↔ ∃ x∈c.lits,v∈x.atom.vs:=by
  unfold Cl.ns
  rw [Wu,Lt.vsL_mem]
  simp
noncomputable def Ho (p:ByteArray) (l:List ByteArray):SEnv:=l.zipIdx.foldl (fun e x=>Qa3 e x.1 (pre p (x.2:Nat))) fun _=>none
theorem On (p:ByteArray) {l:List ByteArray} {k:Nat} (h:k < l.length):Ho p (l.take (k+1))=Qa3 (Ho p (l.take k)) l[k] (pre p (k:Nat)):=by
  unfold Ho
  rw [← List.take_append_getElem h,List.zipIdx_append,List.foldl_append]
  have e:(l.take k).length=k:=by rw [List.length_take]; omega
  simp only [List.zipIdx_cons,List.zipIdx_nil,List.foldl_cons,List.foldl_nil,e,Nat.zero_add]
theorem ZC (p:ByteArray) {l:List ByteArray} (hn:l.Nodup):∀ (n k:Nat) (hk:k < l.length),n≤l.length→k < n→Ho p (l.take n) l[k]=some (pre p (k:Nat))
  | 0,k,hk,_,h=>absurd h (by omega)
  | n + 1,k,hk,hl,h=>by
    rw [On p (by omega:n < l.length)]
    unfold Qa3
    by_cases e:k=n
    · subst e
      rw [A4 rfl,cond_true]
    · have hne:l[k]≠l[n]:=fun he=>e ((List.getElem_inj hn).1 he)
      rw [AC hne,cond_false]
      exact ZC p hn n k hk (by omega) (by omega)
theorem Wx (p:ByteArray) {l:List ByteArray} (hn:l.Nodup) {k:Nat} (hk:k < l.length):Ho p l l[k]=some (pre p (k:Nat)):=by
  have h:=ZC p hn l.length k hk (Nat.le_refl _) hk
  rw [List.take_length] at h
  exact h
theorem Wy (p:ByteArray) {l:List ByteArray} {q:ByteArray} (hq:q ∉ l):∀ n,n≤l.length→Ho p (l.take n) q=none
  | 0,_=>by rw [List.take_zero]; rfl
  | n+1,h=>by
    rw [On p (by omega:n < l.length)]
    unfold Qa3
    rw [AC (show ¬ q=l[n] from fun e=>hq (by rw [e]; exact List.getElem_mem _)),cond_false]
    exact Wy p hq n (by omega)
theorem Oo (p:ByteArray) {l:List ByteArray} {q:ByteArray} (hq:q ∉ l):Ho p l q=none:=by
  have h:=Wy p hq l.length (Nat.le_refl _)
  rw [List.take_length] at h
  exact h
def UG (e:SEnv):Prop:=∀ s n,e s=some n→At s=true∧At n=true
theorem QbU:∀ i:_root_.Fin 300,At (pre Sp (i.val:Nat))=true:=by decide +kernel
theorem Qa5 {p:ByteArray} (hp:∀ i:_root_.Fin 300,At (pre p (i.val:Nat))=true) {l:List ByteArray} (hn:l.Nodup) (hl:l.length≤240) (hv:∀ s∈l,At s=true):UG (Ho p l):=fun s n h=>by
  by_cases hs:s∈l
  · obtain ⟨k,hk,rfl⟩:=List.getElem_of_mem hs
    rw [Wx p hn hk] at h
    obtain rfl:=Option.some.inj h
    exact ⟨hv _ hs,hp ⟨k,by omega⟩⟩
  · rw [Oo p hs] at h
    cases h
theorem Tm.QbV {v:ByteArray}:∀ x:Tm,v∈x.vs→At v=true
  | .mk n a=>fun h=>by
    rw [Tm.vs] at h
    cases hv:At n with
    | true =>
      rw [hv,cond_true,List.mem_singleton] at h
      subst h; exact hv
    | false =>
      rw [hv,cond_false,Tm.vsL_mem] at h
      obtain ⟨y,hy,h⟩:=h
      exact Tm.QbV y h
termination_by x=>SizeOf.sizeOf x
decreasing_by exact Tm.Az (x:=.mk n a) hy
theorem Cl.QbW {c:Cl} {s:ByteArray} (h:s∈c.ns):At s=true:=by
  obtain ⟨x,_,h⟩:=Cl.QdQ.1 h
  exact Tm.QbV _ h
theorem Tm.QbX (e:SEnv) (x:Tm):(x.rn e).name=(bif x.args.isEmpty then (e x.name).getD x.name else x.name)∧(x.rn e).args=x.args.map (Tm.rn e):=by
  rw [Tm.Rn]; exact ⟨rfl,rfl⟩
theorem T9 {e:SEnv} {xs:List Tm} (h:∀ y∈xs,(y.rn e).names=true):Tm.DP (xs.map (Tm.rn e))=true:=by
  rw [Tm.Dh,List.all_eq_true]
  intro z hz
  obtain ⟨y,hy,rfl⟩:=List.mem_map.1 hz
  exact h y hy
theorem Tm.ZD {e:SEnv} (he:UG e) (x:Tm) (hv:At x.name=false):(x.rn e).name=x.name:=by
  rw [(Tm.QbX e x).1]
  cases hx:e x.name with
  | none=>cases x.args.isEmpty <;> rfl
  | some n =>
    have:=(he _ _ hx).1
    rw [hv] at this; cases this
theorem Tm.Rp {e:SEnv} (he:UG e) (x:Tm) (h:x.names=true):(x.rn e).names=true:=by
  have h1:=Tm.QbX e x
  rw [Tm.Ev] at h ⊢
  rw [h1.2,List.length_map]
  cases hv:At x.name with
  | true =>
    rw [hv,if_pos rfl] at h
    have h0:x.args=[]:=List.eq_nil_of_length_eq_zero (by simpa using h)
    have hn:At (x.rn e).name=true:=by
      rw [h1.1,h0]
      show At ((e x.name).getD x.name)=true
      cases hx:e x.name with
      | none=>exact hv
      | some n=>exact (he _ _ hx).2
    rw [hn,if_pos rfl]
    exact h
  | false =>
    rw [hv,if_neg (by simp)] at h
    rw [Tm.ZD he x hv,hv,if_neg (by simp)]
    rw [Bool.and_eq_true] at h ⊢
    refine ⟨h.1,T9 fun y hy=>Tm.Rp he y ?_⟩
    have h2:=h.2
    rw [Tm.Dh,List.all_eq_true] at h2
    exact h2 y hy
termination_by SizeOf.sizeOf x
decreasing_by exact Tm.Az hy
theorem Tm.ZE (e:SEnv) (x:Tm):(x.rn e).deep=x.deep:=by
  have key:∀ xs:List Tm,(∀ y∈xs,(y.rn e).deep=y.deep)→Tm.En (xs.map (Tm.rn e))=Tm.En xs:=by
    intro xs
    induction xs with
    | nil=>intro _; rfl
    | cons y ys ih =>
      intro h
      rw [List.map_cons,Tm.En,Tm.En,h y (by simp),ih fun z hz=>h z (by simp [hz])]
  rw [Tm.Rn,Tm.Lk,Tm.Lk]
  show Tm.En (x.args.map (Tm.rn e))+1=_
  rw [key x.args fun y hy=>Tm.ZE e y]
termination_by SizeOf.sizeOf x
decreasing_by exact Tm.Az hy
theorem Tm.Wz (e:SEnv) (x:Tm):(x.rn e).small=x.small:=by
  unfold Tm.small
  rw [Tm.Ww,Tm.ZE]
theorem Tm.Qdk {e:SEnv} (he:UG e) (x:Tm) (h:x.atom=true):(x.rn e).atom=true:=by
  have hv:At x.name=false:=by
    unfold Tm.atom at h
    split at h
    · rename_i hq
      have:x.name=⟨#[61]⟩:=Ax.1 hq
      rw [this]; decide +kernel
    · rw [Bool.and_eq_true] at h
      exact T4 h.1
  have hn:=Tm.ZD he x hv
  have hq:(x.rn e).eqn=x.eqn:=by unfold Tm.eqn; rw [hn]
  unfold Tm.atom at h ⊢
  rw [hq,hn,Tm.Wz,(Tm.QbX e x).2,List.length_map]
  split at h
  · rename_i hb
    rw [if_pos hb]
    rw [Bool.and_eq_true] at h ⊢
    refine ⟨h.1,T9 fun y hy=>Tm.Rp he y ?_⟩
    have h2:=h.2
    rw [Tm.Dh,List.all_eq_true] at h2
    exact h2 y hy
  · rename_i hb
    rw [if_neg hb]
    rw [Bool.and_eq_true] at h ⊢
    refine ⟨h.1,?_⟩
    have h2:=h.2
    unfold Tm.valid at h2 ⊢
    rw [Bool.and_eq_true] at h2 ⊢
    exact ⟨by rw [Tm.Wz]; exact h2.1,Tm.Rp he x h2.2⟩
noncomputable def Lt.rn (e:SEnv) (x:Lt):Lt:=⟨x.pos,x.atom.rn e⟩
noncomputable def Cl.rn (e:SEnv) (c:Cl):Cl:=mkC (c.lits.map (Lt.rn e))
theorem Oq {x:Lt} (h:x.atom.atom=true):x.fine:=⟨Tm.Hg h,by have:=Tm.CD h; omega⟩
theorem Or {xs:List Lt}:∀ {k:Nat},G7 xs k=true→k≤xs.length→∀ (j:Nat) (h:j+1 < k) (hl:j+1 < xs.length),(xs[j]'(by omega)).cmp xs[j+1] < 0
  | 0,_,_,j,h,_=>absurd h (by omega)
  | k + 1,hk,hle,j,h,hl=>by
    rw [G7,Bool.and_eq_true] at hk
    rcases Nat.lt_or_ge (j+1) k with h1 | h1
    · exact Or hk.1 (by omega) j h1 hl
    · obtain rfl:k=j+1:=by omega
      have h2:=hk.2
      rw [Eh hl,Bool.and_eq_true,decide_eq_true_eq] at h2
      exact h2.2
theorem W2 {xs:List Lt} (h:G7 xs xs.length=true):Dt xs:=by
  unfold Dt
  rw [List.pairwise_iff_getElem]
  intro i j hi hj hij
  obtain ⟨d,rfl⟩:∃ d,j=i+1+d:=⟨j - (i+1),by omega⟩
  clear hij
  induction d with
  | zero=>exact Or h (Nat.le_refl _) i hj hj
  | succ d ih =>
    have h1:=ih (by omega)
    have h2:=Or h (Nat.le_refl _) (i+1+d) hj hj
    exact (Lt.cmp_ord _ _ _).trans h1 h2
theorem W3 {xs:List Lt} (h2:∀ x∈xs,x.atom.atom=true) (h3:Dt xs):G7 xs xs.length=true:=by
  have key:∀ k,k≤xs.length→G7 xs k=true:=by
    intro k
    induction k with
    | zero=>intro _; rfl
    | succ k ih =>
      intro hk
      rw [G7,ih (by omega),Bool.true_and]
      cases k with
      | zero=>rw [GE (by omega)]; exact h2 _ (List.getElem_mem _)
      | succ k =>
        rw [Eh (by omega),h2 _ (List.getElem_mem _),Bool.true_and,decide_eq_true_eq]
        exact List.pairwise_iff_getElem.1 h3 k (k+1) (by omega) (by omega) (by omega)
  exact key _ (Nat.le_refl _)
theorem Cl.Qa6 {c:Cl} (h:c.ok=true):Dt c.lits:=by
  unfold Cl.ok at h
  rw [Bool.and_eq_true] at h
  exact W2 h.2
theorem Cl.Qeo {l:List Lt} (h1:l.length≤8) (h2:∀ x∈l,x.atom.atom=true) (h3:Dt l):(Cl.mk l).ok=true:=by
  unfold Cl.ok
  rw [Bool.and_eq_true,decide_eq_true_eq]
  exact ⟨h1,W3 h2 h3⟩
theorem QdR {l:List Lt} (h1:l.length≤8) (h2:∀ x∈l,x.atom.atom=true):(mkC l).ok=true :=
  Cl.Qeo (Nat.le_trans (Z0 l) h1) (fun x hx=>h2 x ((P8 l x).1 hx)) (Mj l)
theorem QbY {l:List Lt} (h:Dt l):mkC l=⟨l⟩:=by
  have:(mkC l).lits=l:=Ji (Mj l) h fun z=>P8 l z
  exact congrArg Cl.mk this
theorem Lt.Rq {e:SEnv} (he:UG e) {l:List Lt} (h:∀ x∈l,x.atom.atom=true):∀ x∈l.map (Lt.rn e),x.atom.atom=true:=fun z hz=>by
  obtain ⟨x,hx,rfl⟩:=List.mem_map.1 hz
  exact Tm.Qdk he _ (h x hx)
theorem Cl.QbZ {e:SEnv} (he:UG e) {c:Cl} (h:c.ok=true):(c.rn e).ok=true :=
  QdR (by rw [List.length_map]; exact Cl.ok_len h) (Lt.Rq he (Cl.Dj h))
theorem Cl.xE {c:Cl} (h:c.ok=true):UG (Ho Sp c.ns):=Qa5 QbU c.ns_nodup (Cl.Ro h) fun s=>Cl.QbW
def Rr (l:List ByteArray):Prop:=∀ (i:Nat) (h:i < l.length),l[i]=pre Sp (i:Nat)
noncomputable def Cl.norm (c:Cl):Bool:=dec (Rr c.ns)
noncomputable def nz:Nat→Cl→Cl
  | 0,c=>c
  | n+1,c=>bif c.norm then c else nz n (c.rn (Ho Sp c.ns))
theorem ZF:∀ (n:Nat) {c:Cl},c.ok=true→(nz n c).ok=true
  | 0,c,h=>h
  | n+1,c,h=>by
    rw [nz]
    cases c.norm with
    | true=>exact h
    | false=>exact ZF n (Cl.QbZ (Cl.xE h) h)
def Ff:SC:=(.seq (.reg [⟨some 2,none,.boxv 71 2 (.t 0)⟩,⟨(some 4),none,(.alloc 71 [(.str ⟨#[]⟩),.nil])⟩]) (.seq (.reg [⟨some 10,none,.faddr 0 (.t 2)⟩,⟨some 11,none,.load false 1 (.t 10)⟩,⟨(some 12),none,(.build [(.str ⟨#[]⟩),.nil] [(0,(1,(.t 11)))])⟩,⟨(some 5),none,(.alloc 71 [(.str ⟨#[]⟩),.nil])⟩,⟨none,none,(.store 2 (.t 5) (.t 12))⟩]) (.seq (.seq (.reg [⟨some 14,none,.mv (.t 1)⟩,⟨some 15,none,.faddr 0 (.t 2)⟩,⟨some 16,none,.load false 1 (.t 15)⟩,⟨(some 17),none,(.mget true true false [(.str ⟨#[]⟩)] (.t 14) (.t 16))⟩,⟨some 13,none,.mv (.t 17)⟩,⟨some 18,none,.ext (.t 13) 0⟩,⟨some 19,none,.ext (.t 13) 1⟩,⟨some 6,none,.mv (.t 18)⟩,⟨some 7,none,.mv (.t 19)⟩]) (.seq (.reg [⟨some 20,none,.mv (.t 7)⟩,⟨some 21,none,.mv (.t 20)⟩,⟨(some 22),(some (21,true)),(.faddr 1 (.t 2))⟩,⟨(some 23),(some (21,true)),(.load false 1 (.t 22))⟩,⟨(some 24),(some (21,true)),(.len false (.t 23))⟩,⟨(some 25),(some (21,true)),(.bin .eql false (.t 24) (.c (.int .i64 0)))⟩,⟨some 26,none,.pick (.t 21) (.t 25) (.c (.bool false))⟩]) (.cond (.t 26) (.reg [⟨some 27,none,.mv (.t 6)⟩,⟨some 28,none,.faddr 0 (.t 5)⟩,⟨none,none,(.store 1 (.t 28) (.t 27))⟩]) .skip))) (.seq (.seq (.reg [⟨some 29,none,.faddr 1 (.t 2)⟩,⟨some 30,none,.load false 1 (.t 29)⟩,⟨some 31,none,.len false (.t 30)⟩,⟨some 32,none,.mv (.c (.int .i64 0))⟩]) (.block 0 (.loop [0,1,0,0,1,1,0,0,0,0,0,0,0,0,0,0,0,0,0,0,0,0,0,0,0,0,0,0,0,0,1,1,1,0,0,0,0,0,0,0,0,0,0,0,0,0] (.seq (.reg [⟨some 33,none,.bin .lss false (.t 32) (.t 31)⟩]) (.seq (.cond (.t 33) .skip (.exit 0)) (.seq (.block 1 (.seq (.reg [⟨some 34,none,.iaddr 2 (.t 30) (.t 32)⟩,⟨some 35,none,.load true 2 (.t 34)⟩,⟨(some 9),none,(.alloc 71 [(.str ⟨#[]⟩),.nil])⟩,⟨none,none,(.store 2 (.t 9) (.t 35))⟩]) (.dreg [[],[0],[],[],[2,3],[4,2,3],[1,0,5,4,2,3],[0,1,2,3,4,5,6],[7,0,1,2,3,4,5,6]] [⟨some 36,none,.faddr 1 (.t 5)⟩,⟨some 37,none,.load false 1 (.t 36)⟩,⟨some 38,none,.load true 2 (.t 9)⟩,⟨some 39,none,.mv (.t 1)⟩,⟨some 40,none,.call 143 [(.t 38),(.t 39)]⟩,⟨(some 41),none,(.mkrow 71 2 [(.str ⟨#[]⟩),.nil] 1 [(0,(.t 40))])⟩,⟨(some 42),none,(.append 71 2 40 [(.str ⟨#[]⟩),.nil] (.t 37) (.t 41))⟩,⟨some 43,none,.faddr 1 (.t 5)⟩,⟨none,none,(.store 1 (.t 43) (.t 42))⟩]))) (.reg [⟨some 44,none,.bin .add false (.t 32) (.c (.int .i64 1))⟩,⟨some 32,none,.mv (.t 44)⟩]))))))) (.seq (.reg [⟨some 45,none,.load true 2 (.t 5)⟩,⟨none,none,(.store 2 (.t 4) (.t 45))⟩]) .ret)))))
theorem Hp:Am Tryz.prog 143=some ⟨46,Ff,[(.cell 4 true 2)]⟩:=by kernel_rfl
theorem BA:modes 143=⟨[],.own [none,some (71,2)],none,false⟩:=by unfold modes; rfl
abbrev RnC (e:SEnv) (x:Tm):Prop:=E 143 [x.sv,.mp true (FX e)] []=some ((x.rn e).osv,(x.rn e).obs)
theorem Y0 (e:SEnv) (x:Tm) (hn:x.args.length≤1099511627776) (ih:∀ y∈x.args,RnC e y):RnC e x:=by
  unfold RnC
  obtain ⟨nm,hnm⟩:∃ nm,nm=bif x.args.isEmpty then (e x.name).getD x.name else x.name:=⟨_,rfl⟩
  have e0:x.rn e=.mk nm (x.args.map (Tm.rn e)):=by rw [Tm.Rn,hnm]
  have e1:(Tm.mk nm (x.args.map (Tm.rn e))).osv=.agg [.str nm,.ref 0]:=rfl
  have e2:(Tm.mk nm (x.args.map (Tm.rn e))).obs=[.row 71 2 ((x.args.map (Tm.rn e)).map Tm.o)]:=rfl
  rw [e0,e1,e2]
  have h10:((1:Int)=0)=False:=by simp
  cases he:e x.name with
  | none =>
    have hme:FX e (.str x.name)=none:=by rw [Lo,he]
    have hnn:nm=x.name:=by
      rw [hnm,he]
      cases x.args.isEmpty <;> rfl
    rw [hnn]
    clear hnm e0 e1 e2 hnn nm
    obtain ⟨nm,hnm⟩:∃ nm,nm=x.name:=⟨_,rfl⟩
    rw [← hnm] at hme ⊢
    refine Ah Hp BA (of_decide_eq_true rfl) ?_
    simp (disch:=omega) only [Ff,go_sem,Aa,hme,← hnm]
    refine As (α:=Int) (fun a=>⟨slots 46 0 [(1,.mp true (FX e)),(4,.ptr 0 0),(5,.ptr 1 0),(30,.arr (x.args.map Tm.d)),(31,.int .i64 x.args.length),(32,.int .i64 a)],(if a=0 then [.box 71 [.str ⟨#[]⟩,.nil],.box 71 [.str nm,.nil]] else [.box 71 [.str ⟨#[]⟩,.nil],.box 71 [.str nm,.ref 2],.row 71 2 (((x.args.map (Tm.rn e)).take a.toNat).map Tm.o)])⟩) (fun a=>∃ k:Nat,a=k∧k≤(x.args).length) (fun a=>(x.args).length - (a).toNat) 0 ⟨0,rfl,Nat.zero_le _⟩ (by simp (disch:=omega) only [go_sem,Aa,eq_self,if_true]) ?_
    rintro i ⟨k,hi,hk⟩
    have hni:i.toNat=k:=by omega
    have hni1:(i+1).toNat=k+1:=by omega
    rcases Nat.lt_or_ge k (x.args).length with hlt | hge
    · have hg:=Aq Tm.d hlt
      rw [Tm.d_eq] at hg
      have hc:=ih x.args[k] (List.getElem_mem hlt)
      have hlm:k < (x.args.map (Tm.rn e)).length:=by rw [List.length_map]; exact hlt
      have hs:=D4 Tm.o hlm
      rw [Tm.o_eq,List.getElem_map] at hs
      rcases Nat.eq_zero_or_pos k with h0 | h0
      · subst h0
        obtain rfl:i=0:=hi
        rw [List.take_zero,List.map_nil,List.nil_append] at hs
        simp (disch:=omega) only [go_sem,Aa,hni,hg,hc,Tm.osv,Tm.obs,BA,eq_self,if_true]
        refine ⟨1,⟨1,rfl,hlt⟩,by omega,?_⟩
        simp (disch:=omega) only [go_sem,Aa,h10,if_false,hs]
      · have hi0:(i=0)=False:=by simp; omega
        have hi1:(i+1=0)=False:=by simp; omega
        have htl:((x.args.map (Tm.rn e)).take k).length=k:=by rw [List.length_take,List.length_map]; omega
        simp (disch:=omega) only [go_sem,Aa,hni,hg,hc,Tm.osv,Tm.obs,BA,hi0,if_false,htl]
        refine ⟨i+1,⟨k+1,by omega,hlt⟩,by omega,?_⟩
        simp (disch:=omega) only [go_sem,Aa,hni1,hi1,if_false,hs]
    · obtain rfl:k=x.args.length:=by omega
      have ht:(x.args.map (Tm.rn e)).take x.args.length=x.args.map (Tm.rn e):=by rw [← List.length_map (f:=Tm.rn e)]; exact List.take_length
      rcases Nat.eq_zero_or_pos x.args.length with h0 | h0
      · have hx:x.args=[]:=List.eq_nil_of_length_eq_zero h0
        obtain rfl:i=0:=by omega
        first | omega | simp (disch:=omega) only [go_sem,Aa,hni,hx,eq_self,if_true,List.map_nil,List.length_nil]
      · have hi0:(i=0)=False:=by simp; omega
        first | omega | simp (disch:=omega) only [go_sem,Aa,hni,hi0,if_false,ht]
  | some v =>
    have hme:FX e (.str x.name)=some (false,[.str v]):=by rw [Lo,he]
    rcases Nat.eq_zero_or_pos x.args.length with hz | hz
    · have hx:x.args=[]:=List.eq_nil_of_length_eq_zero hz
      have hz0:((x.args.length:Int)=0)=True:=by rw [hx]; simp
      have hnn:nm=v:=by rw [hnm,he,hx]; rfl
      rw [hnn]
      clear hnm e0 e1 e2 hnn nm
      obtain ⟨nm,hnm⟩:∃ nm,nm=v:=⟨_,rfl⟩
      rw [← hnm] at hme ⊢
      refine Ah Hp BA (of_decide_eq_true rfl) ?_
      simp (disch:=omega) only [Ff,go_sem,Aa,hme,hz0,QbB]
      refine As (α:=Int) (fun a=>⟨slots 46 0 [(1,.mp true (FX e)),(4,.ptr 0 0),(5,.ptr 1 0),(30,.arr (x.args.map Tm.d)),(31,.int .i64 x.args.length),(32,.int .i64 a)],(if a=0 then [.box 71 [.str ⟨#[]⟩,.nil],.box 71 [.str nm,.nil]] else [.box 71 [.str ⟨#[]⟩,.nil],.box 71 [.str nm,.ref 2],.row 71 2 (((x.args.map (Tm.rn e)).take a.toNat).map Tm.o)])⟩) (fun a=>∃ k:Nat,a=k∧k≤(x.args).length) (fun a=>(x.args).length - (a).toNat) 0 ⟨0,rfl,Nat.zero_le _⟩ (by simp (disch:=omega) only [go_sem,Aa,eq_self,if_true]) ?_
      rintro i ⟨k,hi,hk⟩
      have hni:i.toNat=k:=by omega
      have hni1:(i+1).toNat=k+1:=by omega
      rcases Nat.lt_or_ge k (x.args).length with hlt | hge
      · have hg:=Aq Tm.d hlt
        rw [Tm.d_eq] at hg
        have hc:=ih x.args[k] (List.getElem_mem hlt)
        have hlm:k < (x.args.map (Tm.rn e)).length:=by rw [List.length_map]; exact hlt
        have hs:=D4 Tm.o hlm
        rw [Tm.o_eq,List.getElem_map] at hs
        rcases Nat.eq_zero_or_pos k with h0 | h0
        · subst h0
          obtain rfl:i=0:=hi
          rw [List.take_zero,List.map_nil,List.nil_append] at hs
          simp (disch:=omega) only [go_sem,Aa,hni,hg,hc,Tm.osv,Tm.obs,BA,eq_self,if_true]
          refine ⟨1,⟨1,rfl,hlt⟩,by omega,?_⟩
          simp (disch:=omega) only [go_sem,Aa,h10,if_false,hs]
        · have hi0:(i=0)=False:=by simp; omega
          have hi1:(i+1=0)=False:=by simp; omega
          have htl:((x.args.map (Tm.rn e)).take k).length=k:=by rw [List.length_take,List.length_map]; omega
          simp (disch:=omega) only [go_sem,Aa,hni,hg,hc,Tm.osv,Tm.obs,BA,hi0,if_false,htl]
          refine ⟨i+1,⟨k+1,by omega,hlt⟩,by omega,?_⟩
          simp (disch:=omega) only [go_sem,Aa,hni1,hi1,if_false,hs]
      · obtain rfl:k=x.args.length:=by omega
        have ht:(x.args.map (Tm.rn e)).take x.args.length=x.args.map (Tm.rn e):=by rw [← List.length_map (f:=Tm.rn e)]; exact List.take_length
        rcases Nat.eq_zero_or_pos x.args.length with h0 | h0
        · have hx:x.args=[]:=List.eq_nil_of_length_eq_zero h0
          obtain rfl:i=0:=by omega
          first | omega | simp (disch:=omega) only [go_sem,Aa,hni,hx,eq_self,if_true,List.map_nil,List.length_nil]
        · have hi0:(i=0)=False:=by simp; omega
          first | omega | simp (disch:=omega) only [go_sem,Aa,hni,hi0,if_false,ht]
    · have hz0:((x.args.length:Int)=0)=False:=eq_false (by omega)
      have hnn:nm=x.name:=by
        rw [hnm]
        cases hx:x.args with
        | nil=>rw [hx] at hz; simp at hz
        | cons a r=>rfl
      rw [hnn]
      clear hnm e0 e1 e2 hnn nm
      obtain ⟨nm,hnm⟩:∃ nm,nm=x.name:=⟨_,rfl⟩
      rw [← hnm] at hme ⊢
      refine Ah Hp BA (of_decide_eq_true rfl) ?_
      simp (disch:=omega) only [Ff,go_sem,Aa,hme,hz0,QbC,← hnm]
      refine As (α:=Int) (fun a=>⟨slots 46 0 [(1,.mp true (FX e)),(4,.ptr 0 0),(5,.ptr 1 0),(30,.arr (x.args.map Tm.d)),(31,.int .i64 x.args.length),(32,.int .i64 a)],(if a=0 then [.box 71 [.str ⟨#[]⟩,.nil],.box 71 [.str nm,.nil]] else [.box 71 [.str ⟨#[]⟩,.nil],.box 71 [.str nm,.ref 2],.row 71 2 (((x.args.map (Tm.rn e)).take a.toNat).map Tm.o)])⟩) (fun a=>∃ k:Nat,a=k∧k≤(x.args).length) (fun a=>(x.args).length - (a).toNat) 0 ⟨0,rfl,Nat.zero_le _⟩ (by simp (disch:=omega) only [go_sem,Aa,eq_self,if_true]) ?_
      rintro i ⟨k,hi,hk⟩
      have hni:i.toNat=k:=by omega
      have hni1:(i+1).toNat=k+1:=by omega
      rcases Nat.lt_or_ge k (x.args).length with hlt | hge
      · have hg:=Aq Tm.d hlt
        rw [Tm.d_eq] at hg
        have hc:=ih x.args[k] (List.getElem_mem hlt)
        have hlm:k < (x.args.map (Tm.rn e)).length:=by rw [List.length_map]; exact hlt
        have hs:=D4 Tm.o hlm
        rw [Tm.o_eq,List.getElem_map] at hs
        rcases Nat.eq_zero_or_pos k with h0 | h0
        · subst h0
          obtain rfl:i=0:=hi
          rw [List.take_zero,List.map_nil,List.nil_append] at hs
          simp (disch:=omega) only [go_sem,Aa,hni,hg,hc,Tm.osv,Tm.obs,BA,eq_self,if_true]
          refine ⟨1,⟨1,rfl,hlt⟩,by omega,?_⟩
          simp (disch:=omega) only [go_sem,Aa,h10,if_false,hs]
        · have hi0:(i=0)=False:=by simp; omega
          have hi1:(i+1=0)=False:=by simp; omega
          have htl:((x.args.map (Tm.rn e)).take k).length=k:=by rw [List.length_take,List.length_map]; omega
          simp (disch:=omega) only [go_sem,Aa,hni,hg,hc,Tm.osv,Tm.obs,BA,hi0,if_false,htl]
          refine ⟨i+1,⟨k+1,by omega,hlt⟩,by omega,?_⟩
          simp (disch:=omega) only [go_sem,Aa,hni1,hi1,if_false,hs]
      · obtain rfl:k=x.args.length:=by omega
        have ht:(x.args.map (Tm.rn e)).take x.args.length=x.args.map (Tm.rn e):=by rw [← List.length_map (f:=Tm.rn e)]; exact List.take_length
        rcases Nat.eq_zero_or_pos x.args.length with h0 | h0
        · have hx:x.args=[]:=List.eq_nil_of_length_eq_zero h0
          obtain rfl:i=0:=by omega
          first | omega | simp (disch:=omega) only [go_sem,Aa,hni,hx,eq_self,if_true,List.map_nil,List.length_nil]
        · have hi0:(i=0)=False:=by simp; omega
          first | omega | simp (disch:=omega) only [go_sem,Aa,hni,hi0,if_false,ht]
theorem TA (e:SEnv) (x:Tm) (hn:x.nodes≤1099511627776):RnC e x :=
  Y0 e x (by have:=Tm.AB x.args; have:=Tm.Ao x; omega) fun y hy=>TA e y (by have:=Tm.AZ hy; have:=Tm.Ao x; omega)
termination_by SizeOf.sizeOf x
decreasing_by exact Tm.Az hy
def Jv:SC:=(.seq (.reg [⟨(some 2),none,(.mv (.c (.str ⟨#[]⟩)))⟩]) (.seq (.seq (.reg [⟨some 3,none,.mv (.t 0)⟩,⟨some 4,none,.bin .lss false (.t 3) (.c (.int .i64 0))⟩]) (.cond (.t 4) (.seq (.reg [⟨some 5,none,.mv (.t 0)⟩,⟨some 6,none,.un .neg (.t 5)⟩,⟨some 7,none,.call 75 [(.t 6)]⟩,⟨(some 8),none,(.bin .add false (.c (.str ⟨#[45]⟩)) (.t 7))⟩,⟨some 2,none,.mv (.t 8)⟩]) .ret) .skip)) (.seq (.seq (.reg [⟨some 9,none,.mv (.t 0)⟩,⟨some 10,none,.bin .lss false (.t 9) (.c (.int .i64 10))⟩]) (.cond (.t 10) (.seq (.reg [⟨some 11,none,.mv (.t 0)⟩,⟨some 12,none,.mv (.t 0)⟩,⟨some 13,none,.bin .add false (.t 12) (.c (.int .i64 1))⟩,⟨(some 14),none,(.slice true 0 (.c (.str ⟨#[48,49,50,51,52,53,54,55,56,57]⟩)) (some (.t 11)) (some (.t 13)))⟩,⟨some 2,none,.mv (.t 14)⟩]) .ret) .skip)) (.seq (.dreg [[],[0],[1,0],[],[3],[],[5],[6,5],[4,3,7,6,5],[2,1,0,8,4,3,7,6,5],[9,2,1,0,8,4,3,7,6,5]] [⟨some 15,none,.mv (.t 0)⟩,⟨some 16,none,.bin .quo false (.t 15) (.c (.int .i64 10))⟩,⟨some 17,none,.call 75 [(.t 16)]⟩,⟨some 18,none,.mv (.t 0)⟩,⟨some 19,none,.bin .rem false (.t 18) (.c (.int .i64 10))⟩,⟨some 20,none,.mv (.t 0)⟩,⟨some 21,none,.bin .rem false (.t 20) (.c (.int .i64 10))⟩,⟨some 22,none,.bin .add false (.t 21) (.c (.int .i64 1))⟩,⟨(some 23),none,(.slice true 0 (.c (.str ⟨#[48,49,50,51,52,53,54,55,56,57]⟩)) (some (.t 19)) (some (.t 22)))⟩,⟨some 24,none,.bin .add false (.t 17) (.t 23)⟩,⟨some 2,none,.mv (.t 24)⟩]) .ret))))
theorem Nd:Am Tryz.prog 75=some ⟨25,Jv,[(.tmp 2)]⟩:=by kernel_rfl
theorem Dw:modes 75=⟨[],.asis,none,false⟩:=by unfold modes; rfl
theorem Qd1 (d:Nat) (h:d < 10):(⟨#[48,49,50,51,52,53,54,55,56,57]⟩:ByteArray).extract d (d+1)=⟨#[UInt8.ofNat (48+d)]⟩:=by
  have key:∀ d:_root_.Fin 10,(⟨#[48,49,50,51,52,53,54,55,56,57]⟩:ByteArray).extract d.val (d.val+1)=⟨#[UInt8.ofNat (48+d.val)]⟩:=by decide +kernel
  exact key ⟨d,h⟩
theorem Qca (n:Int) (h0:0≤n) (h1:n≤1099511627776) (ih:10≤n→E 75 [.int .i64 (n.tdiv 10)] []=some (.str (G5 (n.tdiv 10)),[])):E 75 [.int .i64 n] []=some (.str (G5 n),[]):=by
  have hsz:(⟨#[48,49,50,51,52,53,54,55,56,57]⟩:ByteArray).size=10:=rfl
  rcases Int.lt_or_le n 10 with h | h
  · have e1:=Qd1 n.toNat (by omega)
    have e2:(n+1).toNat=n.toNat+1:=by omega
    rw [Yz h0 h]
    refine Ah Nd Dw (of_decide_eq_true rfl) ?_
    simp (disch:=omega) only [Jv,go_sem,Aa,e1,e2,hsz]
  · have hc:=ih h
    have hq:n.tdiv 10=n / 10:=Int.tdiv_eq_ediv_of_nonneg h0
    have hr:n.tmod 10=n % 10:=Int.tmod_eq_emod_of_nonneg h0
    have hq2:0≤n.tdiv 10∧n.tdiv 10≤n:=by omega
    have hr2:0≤n.tmod 10∧n.tmod 10 < 10:=by omega
    have hs:=GD hq2.1 (by omega:n.tdiv 10≤1099511627776)
    have e1:=Qd1 (n.tmod 10).toNat (by omega)
    have e2:(n.tmod 10+1).toNat=(n.tmod 10).toNat+1:=by omega
    rw [QbS h]
    clear hq hr
    have hs1:(⟨#[UInt8.ofNat (48+(n.tmod 10).toNat)]⟩:ByteArray).size=1:=rfl
    refine Ah Nd Dw (of_decide_eq_true rfl) ?_
    simp (disch:=omega) only [Jv,go_sem,Aa,hc,e1,e2,hsz,hs1,Dw]
theorem UH (n:Int) (h0:0≤n) (h1:n≤1099511627776):E 75 [.int .i64 n] []=some (.str (G5 n),[]) :=
  Qca n h0 h1 fun h=>UH (n.tdiv 10) (by rw [Int.tdiv_eq_ediv_of_nonneg h0]; omega) (by rw [Int.tdiv_eq_ediv_of_nonneg h0]; omega)
termination_by n.toNat
decreasing_by rw [Int.tdiv_eq_ediv_of_nonneg h0]; omega
def HF:SC:=(.seq (.reg [⟨some 1,none,.boxv 28 1 (.t 0)⟩,⟨some 2,none,.alloc 28 [.nil]⟩]) (.seq (.reg [⟨some 6,none,.build [.nil] []⟩,⟨some 3,none,.alloc 28 [.nil]⟩,⟨none,none,(.store 1 (.t 3) (.t 6))⟩]) (.seq (.seq (.reg [⟨some 7,none,.faddr 0 (.t 1)⟩,⟨some 8,none,.load false 1 (.t 7)⟩,⟨some 9,none,.len false (.t 8)⟩,⟨some 10,none,.mv (.c (.int .i64 0))⟩]) (.block 0 (.loop [0,0,1,1,0,0,0,0,1,1,1,0,0,0,0,0,0,0,0,0,0,0,0] (.seq (.reg [⟨some 11,none,.bin .lss false (.t 10) (.t 9)⟩]) (.seq (.cond (.t 11) .skip (.exit 0)) (.seq (.block 1 (.seq (.reg [⟨some 12,none,.iaddr 3 (.t 8) (.t 10)⟩,⟨some 13,none,.load true 3 (.t 12)⟩,⟨(some 5),none,(.alloc 73 [(.bool false),(.str ⟨#[]⟩),.nil])⟩,⟨none,none,(.store 3 (.t 5) (.t 13))⟩]) (.dreg [[],[0],[],[2],[3,2],[1,0,4,3,2],[0,1,2,3,4,5],[6,0,1,2,3,4,5]] [⟨some 14,none,.faddr 0 (.t 3)⟩,⟨some 15,none,.load false 1 (.t 14)⟩,⟨some 16,none,.load true 3 (.t 5)⟩,⟨some 17,none,.call 169 [(.t 16)]⟩,⟨(some 18),none,(.mkrow 73 3 [(.bool false),(.str ⟨#[]⟩),.nil] 1 [(0,(.t 17))])⟩,⟨(some 19),none,(.append 73 3 48 [(.bool false),(.str ⟨#[]⟩),.nil] (.t 15) (.t 18))⟩,⟨some 20,none,.faddr 0 (.t 3)⟩,⟨none,none,(.store 1 (.t 20) (.t 19))⟩]))) (.reg [⟨some 21,none,.bin .add false (.t 10) (.c (.int .i64 1))⟩,⟨some 10,none,.mv (.t 21)⟩]))))))) (.seq (.reg [⟨some 22,none,.load true 1 (.t 3)⟩,⟨none,none,(.store 1 (.t 2) (.t 22))⟩]) .ret))))
theorem Nf:Am Tryz.prog 139=some ⟨23,HF,[(.cell 2 true 1)]⟩:=by kernel_rfl
theorem HG:modes 139=⟨[],.own [some (73,3)],none,false⟩:=by unfold modes; rfl
theorem UI (c:Cl) (hl:c.lits.length≤1048576) (hf:∀ x∈c.lits,x.atom.nodes≤1099511627776):E 139 [c.sv] []=some (c.osv,c.obs):=by
  have h10:((1:Int)=0)=False:=by simp
  obtain ⟨l,hcl⟩:∃ l,l=c.lits:=⟨_,rfl⟩
  have e0:c.sv=.agg [.arr (l.map Lt.d)]:=by rw [hcl]; first | done | rfl
  have e1:c.osv=.agg [.ref 0]:=rfl
  have e2:c.obs=[.row 73 3 (l.map Lt.o)]:=by rw [hcl]; first | done | rfl
  rw [e0,e1,e2]
  rw [← hcl] at hl hf
  clear hcl e0 e1 e2
  refine Ah Nf HG (of_decide_eq_true rfl) ?_
  simp (disch:=omega) only [HF,go_sem,Aa]
  refine As (α:=Int) (fun a=>⟨slots 23 0 [(2,.ptr 0 0),(3,.ptr 1 0),(8,.arr (l.map Lt.d)),(9,.int .i64 l.length),(10,.int .i64 a)],(if a=0 then [.box 28 [.nil],.box 28 [.nil]] else [.box 28 [.nil],.box 28 [.ref 2],.row 73 3 ((l.take a.toNat).map Lt.o)])⟩) (fun a=>∃ k:Nat,a=k∧k≤(l).length) (fun a=>(l).length - (a).toNat) 0 ⟨0,rfl,Nat.zero_le _⟩ (by simp (disch:=omega) only [go_sem,Aa,eq_self,if_true]) ?_
  rintro i ⟨k,hi,hk⟩
  have hni:i.toNat=k:=by omega
  have hni1:(i+1).toNat=k+1:=by omega
  rcases Nat.lt_or_ge k (l).length with hlt | hge
  · have hg:=Aq Lt.d hlt
    rw [Lt.d_eq] at hg
    have hc:=LA l[k] (hf _ (List.getElem_mem hlt))
    have hs:=D4 Lt.o hlt
    rw [Lt.o_eq] at hs
    rcases Nat.eq_zero_or_pos k with h0 | h0
    · subst h0
      obtain rfl:i=0:=hi
      rw [List.take_zero,List.map_nil,List.nil_append] at hs
      simp (disch:=omega) only [go_sem,Aa,hni,hg,hc,CB,eq_self,if_true]
      refine ⟨1,⟨1,rfl,hlt⟩,by omega,?_⟩
      simp (disch:=omega) only [go_sem,Aa,h10,if_false,hs]
    · have hi0:(i=0)=False:=by simp; omega
      have hi1:(i+1=0)=False:=by simp; omega
      have htl:(l.take k).length=k:=by rw [List.length_take]; omega
      simp (disch:=omega) only [go_sem,Aa,hni,hg,hc,CB,hi0,if_false,htl]
      refine ⟨i+1,⟨k+1,by omega,hlt⟩,by omega,?_⟩
      simp (disch:=omega) only [go_sem,Aa,hni1,hi1,if_false,hs]
  · obtain rfl:k=l.length:=by omega
    have ht:l.take l.length=l:=List.take_length
    rcases Nat.eq_zero_or_pos l.length with h0 | h0
    · have hx:l=[]:=List.eq_nil_of_length_eq_zero h0
      obtain rfl:i=0:=by omega
      rw [hx]
      simp (disch:=omega) only [go_sem,Aa,hni,eq_self,if_true,List.map_nil]
    · have hi0:(i=0)=False:=by simp; omega
      simp (disch:=omega) only [go_sem,Aa,hni,hi0,if_false,ht]
def Gy:SC:=(.seq (.reg [⟨some 1,none,.boxv 28 1 (.t 0)⟩,⟨some 2,none,.mv (.c (.bool false))⟩]) (.seq (.seq (.reg [⟨some 5,none,.load true 1 (.t 1)⟩,⟨some 6,none,.call 84 [(.t 5)]⟩,⟨some 7,none,.len false (.t 6)⟩,⟨some 8,none,.mv (.c (.int .i64 0))⟩]) (.block 0 (.loop [0,0,0,0,0,0,1,1,1,0,0,0,0,0,0,0,0,0,0] (.seq (.reg [⟨some 9,none,.bin .lss false (.t 8) (.t 7)⟩]) (.seq (.cond (.t 9) .skip (.exit 0)) (.seq (.block 1 (.seq (.reg [⟨some 10,none,.mv (.t 8)⟩,⟨some 11,none,.iaddr 1 (.t 6) (.t 8)⟩,⟨some 12,none,.load false 1 (.t 11)⟩,⟨some 3,none,.mv (.t 10)⟩,⟨some 4,none,.mv (.t 12)⟩]) (.seq (.reg [⟨some 13,none,.mv (.t 4)⟩,⟨some 14,none,.mv (.t 3)⟩,⟨some 15,none,.call 85 [(.t 14)]⟩,⟨(some 16),none,(.bin .add false (.c (.str ⟨#[88]⟩)) (.t 15))⟩,⟨some 17,none,.bin .neq false (.t 13) (.t 16)⟩]) (.cond (.t 17) (.seq (.reg [⟨some 2,none,.mv (.c (.bool false))⟩]) .ret) .skip)))) (.reg [⟨some 18,none,.bin .add false (.t 8) (.c (.int .i64 1))⟩,⟨some 8,none,.mv (.t 18)⟩]))))))) (.seq (.reg [⟨some 2,none,.mv (.c (.bool true))⟩]) .ret)))
theorem Lv:Am Tryz.prog 55=some ⟨19,Gy,[(.tmp 2)]⟩:=by kernel_rfl
theorem Cw:modes 55=⟨[],.asis,none,false⟩:=by unfold modes; rfl
theorem K5 (c:Cl) (hc:c.ok=true):E 55 [c.sv] []=some (.bool c.norm,[]):=by
  have h1:=T8 c hc
  have hn:=Cl.Ro hc
  have hcs:c.sv=.agg [.arr (c.lits.map Lt.d)]:=rfl
  obtain ⟨ns,hns⟩:∃ ns,ns=c.ns:=⟨_,rfl⟩
  rw [show C1 [] (Lt.vsL c.lits)=ns from hns.symm] at h1
  have hnm:c.norm=dec (Rr ns):=by unfold Cl.norm; rw [hns]
  rw [← hns] at hn
  rw [hnm]
  refine Ah Lv Cw (of_decide_eq_true rfl) ?_
  simp (disch:=omega) only [Gy,go_sem,Aa,h1,Ea]
  refine As (α:=Int) (fun a=>⟨slots 19 0 [(6,.ref 0),(7,.int .i64 ns.length),(8,.int .i64 a)],[.row 9 1 (ns.map fun s=>[OT.str s])]⟩) (fun a=>∃ k:Nat,a=k∧k≤(ns).length∧∀ (j:Nat),j < k→∀ hj:j < ns.length,ns[j]=pre Sp (j:Nat)) (fun a=>(ns).length - (a).toNat) 0 ⟨0,rfl,Nat.zero_le _,fun j hj=>absurd hj (Nat.not_lt_zero _)⟩ (by simp (disch:=omega) only [go_sem,Aa]) ?_
  rintro i ⟨k,hi,hk,hR⟩
  have hni:i.toNat=k:=by omega
  have hni1:(i+1).toNat=k+1:=by omega
  rcases Nat.lt_or_ge k (ns).length with hlt | hge
  · have hg:=Aq (fun s=>[OT.str s]) hlt
    have hit:=QbT i (by omega) (by omega)
    have hz:=GD (show 0≤i by omega) (show i≤1099511627776 by omega)
    have hb:dec ((#[88]:Array UInt8).size+(G5 i).size≤9223372036854775807)=true:=A4 (by simp; omega)
    by_cases he:ns[k]=pre Sp (k:Nat)
    · have he':dec (ns[k]=(⟨#[88]⟩:ByteArray)++G5 i)=true:=A4 (by rw [he,hi]; rfl)
      simp (disch:=omega) only [go_sem,Aa,hni,hg,hit,hb,he',Fe]
      refine ⟨i+1,⟨k+1,by omega,hlt,fun j hj hjl=>?_⟩,by omega,by first | trivial | rfl⟩
      rcases Nat.lt_or_ge j k with h2 | h2
      · exact hR j h2 hjl
      · obtain rfl:j=k:=by omega
        exact he
    · have he':dec (ns[k]=(⟨#[88]⟩:ByteArray)++G5 i)=false:=AC (fun e=>he (by rw [e,hi]; rfl))
      have hno:dec (Rr ns)=false:=AC fun h=>he (h k hlt)
      rw [hno]
      simp (disch:=omega) only [go_sem,Aa,hni,hg,hit,hb,he',Fe]
  · have hy:dec (Rr ns)=true:=A4 fun j hj=>hR j (by omega) hj
    rw [hy]
    simp (disch:=omega) only [go_sem,Aa,hni]
def Gs:SC:=(.seq (.reg [⟨some 1,none,.boxv 28 1 (.t 0)⟩,⟨some 2,none,.mv (.c (.bool false))⟩]) (.seq (.reg [⟨some 3,none,.load true 1 (.t 1)⟩,⟨some 4,none,.call 54 [(.t 3)]⟩,⟨some 5,none,.mv (.t 4)⟩,⟨(some 6),(some (5,true)),(.load true 1 (.t 1))⟩,⟨(some 7),(some (5,true)),(.call 55 [(.t 6)])⟩,⟨some 8,none,.pick (.t 5) (.t 7) (.c (.bool false))⟩,⟨some 2,none,.mv (.t 8)⟩]) .ret))
theorem JC:Am Tryz.prog 32=some ⟨9,Gs,[(.tmp 2)]⟩:=by kernel_rfl
theorem CK:modes 32=⟨[],.asis,none,false⟩:=by unfold modes; rfl
theorem Rs (c:Cl) (hc:c.tame):E 32 [c.sv] []=some (.bool (c.ok&&c.norm),[]):=by
  have h1:=Gp c hc
  cases hv:c.ok with
  | false =>
    rw [hv] at h1
    refine Ah JC CK (of_decide_eq_true rfl) ?_
    simp (disch:=omega) only [Gs,go_sem,Aa,h1,Cr]
  | true =>
    rw [hv] at h1
    have h2:=K5 c hv
    refine Ah JC CK (of_decide_eq_true rfl) ?_
    simp (disch:=omega) only [Gs,go_sem,Aa,h1,h2,Cr,Cw]
def JD:SC:=(.seq (.reg [⟨some 4,none,.mv (.c (.mp true nomap))⟩]) (.seq (.reg [⟨some 8,none,.mkmap true none⟩,⟨some 5,none,.mv (.t 8)⟩]) (.seq (.seq (.reg [⟨some 9,none,.mv (.t 0)⟩,⟨some 10,none,.len false (.t 9)⟩,⟨some 11,none,.mv (.c (.int .i64 0))⟩]) (.block 0 (.loop [0,1,0,0,0,1,0,0,0,1,1,1,0,0,0,0,0,0,0,0,0,0,0,0] (.seq (.reg [⟨some 12,none,.bin .lss false (.t 11) (.t 10)⟩]) (.seq (.cond (.t 12) .skip (.exit 0)) (.seq (.block 1 (.seq (.reg [⟨some 13,none,.mv (.t 11)⟩,⟨some 14,none,.iaddr 1 (.t 9) (.t 11)⟩,⟨some 15,none,.load false 1 (.t 14)⟩,⟨some 6,none,.mv (.t 13)⟩,⟨some 7,none,.mv (.t 15)⟩]) (.reg [⟨some 16,none,.mv (.t 5)⟩,⟨some 17,none,.mv (.t 7)⟩,⟨some 18,none,.mv (.t 1)⟩,⟨some 19,none,.mv (.t 6)⟩,⟨some 20,none,.call 85 [(.t 19)]⟩,⟨some 21,none,.bin .add false (.t 18) (.t 20)⟩,⟨none,none,(.mset true (.t 16) (.t 17) (.t 21))⟩]))) (.reg [⟨some 22,none,.bin .add false (.t 11) (.c (.int .i64 1))⟩,⟨some 11,none,.mv (.t 22)⟩]))))))) (.seq (.reg [⟨some 23,none,.mv (.t 5)⟩,⟨some 4,none,.mv (.t 23)⟩]) .ret))))
theorem Po:Am Tryz.prog 140=some ⟨24,JD,[(.tmp 4)]⟩:=by kernel_rfl
theorem E7:modes 140=⟨[],.frz,none,false⟩:=by unfold modes; rfl
theorem Qcb (p:ByteArray):FX (Ho p [])=nomap:=Yy
theorem Y1 (ns:List ByteArray) (hn:ns.length≤1048576) (p:ByteArray) (hp:p.size≤1048576):E 140 [.arr (ns.map fun s=>[D.str s]),.str p] []=some (.mp true (FX (Ho p ns)),[]):=by
  have h0:=Qcb p
  refine Ah Po E7 (of_decide_eq_true rfl) ?_
  simp (disch:=omega) only [JD,go_sem,Aa]
  refine As (α:=Int) (fun a=>⟨slots 24 0 [(1,.str p),(5,.ref 0),(9,.arr (ns.map fun s=>[D.str s])),(10,.int .i64 ns.length),(11,.int .i64 a)],[.mp true (FX (Ho p (ns.take a.toNat)))]⟩) (fun a=>∃ k:Nat,a=k∧k≤(ns).length) (fun a=>(ns).length - (a).toNat) 0 ⟨0,rfl,Nat.zero_le _⟩ (by simp (disch:=omega) only [go_sem,Aa,h0]) ?_
  rintro i ⟨k,hi,hk⟩
  have hni:i.toNat=k:=by omega
  have hni1:(i+1).toNat=k+1:=by omega
  rcases Nat.lt_or_ge k (ns).length with hlt | hge
  · have hg:=Aq (fun s=>[D.str s]) hlt
    have hit:=QbT i (by omega) (by omega)
    have hz:=GD (show 0≤i by omega) (show i≤1099511627776 by omega)
    have hb:dec (p.size+(G5 i).size≤9223372036854775807)=true:=A4 (by omega)
    have hs:Pf (FX (Ho p (ns.take k))) (.str ns[k]) (false,[.str (p++G5 i)])=FX (Ho p (ns.take (k+1))):=by
      rw [Qa4,On p hlt,hi]; rfl
    simp (disch:=omega) only [go_sem,Aa,hni,hg,hit,hb,hs,Fe]
    refine ⟨i+1,⟨k+1,by omega,hlt⟩,by omega,?_⟩
    simp (disch:=omega) only [go_sem,Aa,hni1]
  · have ht:ns.take k=ns:=List.take_of_length_le hge
    simp (disch:=omega) only [go_sem,Aa,hni,ht]
def FY:SC:=(.seq (.reg [⟨some 2,none,.boxv 28 1 (.t 0)⟩,⟨some 4,none,.alloc 28 [.nil]⟩]) (.seq (.reg [⟨(some 8),none,(.mkrow 73 3 [(.bool false),(.str ⟨#[]⟩),.nil] 0 [])⟩,⟨some 5,none,.mv (.t 8)⟩]) (.seq (.seq (.reg [⟨some 9,none,.faddr 0 (.t 2)⟩,⟨some 10,none,.load false 1 (.t 9)⟩,⟨some 11,none,.len false (.t 10)⟩,⟨some 12,none,.mv (.c (.int .i64 0))⟩]) (.block 0 (.loop [0,1,0,0,1,1,0,0,0,0,1,1,1,0,0,0,0,0,0,0,0,0,0,0,0,0,0,0,0] (.seq (.reg [⟨some 13,none,.bin .lss false (.t 12) (.t 11)⟩]) (.seq (.cond (.t 13) .skip (.exit 0)) (.seq (.block 1 (.seq (.reg [⟨some 14,none,.iaddr 3 (.t 10) (.t 12)⟩,⟨some 15,none,.load true 3 (.t 14)⟩,⟨(some 7),none,(.alloc 73 [(.bool false),(.str ⟨#[]⟩),.nil])⟩,⟨none,none,(.store 3 (.t 7) (.t 15))⟩]) (.dreg [[],[],[1],[],[3],[],[4,3,5],[2,1,6,4,3,5],[7,2,1,6,4,3,5],[0,8,7,2,1,6,4,3,5],[9,0,8,7,2,1,6,4,3,5]] [⟨some 16,none,.mv (.t 5)⟩,⟨some 17,none,.faddr 0 (.t 7)⟩,⟨some 18,none,.load false 1 (.t 17)⟩,⟨some 19,none,.faddr 1 (.t 7)⟩,⟨some 20,none,.load true 2 (.t 19)⟩,⟨some 21,none,.mv (.t 1)⟩,⟨some 22,none,.call 143 [(.t 20),(.t 21)]⟩,⟨(some 23),none,(.build [(.bool false),(.str ⟨#[]⟩),.nil] [(0,(1,(.t 18))),(1,(2,(.t 22)))])⟩,⟨(some 24),none,(.mkrow 73 3 [(.bool false),(.str ⟨#[]⟩),.nil] 1 [(0,(.t 23))])⟩,⟨(some 25),none,(.append 73 3 48 [(.bool false),(.str ⟨#[]⟩),.nil] (.t 16) (.t 24))⟩,⟨some 5,none,.mv (.t 25)⟩]))) (.reg [⟨some 26,none,.bin .add false (.t 12) (.c (.int .i64 1))⟩,⟨some 12,none,.mv (.t 26)⟩]))))))) (.seq (.reg [⟨some 27,none,.mv (.t 5)⟩,⟨some 28,none,.call 138 [(.t 27)]⟩,⟨none,none,(.store 1 (.t 4) (.t 28))⟩]) .ret))))
theorem K6:Am Tryz.prog 98=some ⟨29,FY,[(.cell 4 true 1)]⟩:=by kernel_rfl
theorem CP:modes 98=⟨[],.own [some (73,3)],none,false⟩:=by unfold modes; rfl
theorem Pp (c:Cl) (hc:c.ok=true) (e:SEnv) (he:UG e):E 98 [c.sv,.mp true (FX e)] []=some ((c.rn e).osv,(c.rn e).obs):=by
  have hl:=Cl.ok_len hc
  have hcs:c.sv=.agg [.arr (c.lits.map Lt.d)]:=rfl
  have hat:=Lt.Rq he (Cl.Dj hc)
  have hco:=QV (c.lits.map (Lt.rn e)) (by rw [List.length_map]; omega) (fun x hx=>Oq (hat x hx))
  rw [show mkC (c.lits.map (Lt.rn e))=c.rn e from rfl] at hco
  have her:=Lt.erss (c.lits.map (Lt.rn e))
  refine Ah K6 CP (of_decide_eq_true rfl) ?_
  simp (disch:=omega) only [FY,go_sem,Aa]
  refine As (α:=Int) (fun a=>⟨slots 29 0 [(1,.mp true (FX e)),(4,.ptr 0 0),(5,.ref 1),(10,.arr (c.lits.map Lt.d)),(11,.int .i64 c.lits.length),(12,.int .i64 a)],[.box 28 [.nil],.row 73 3 (((c.lits.map (Lt.rn e)).take a.toNat).map Lt.o)]⟩) (fun a=>∃ k:Nat,a=k∧k≤(c.lits).length) (fun a=>(c.lits).length - (a).toNat) 0 ⟨0,rfl,Nat.zero_le _⟩ (by simp (disch:=omega) only [go_sem,Aa]) ?_
  rintro i ⟨k,hi,hk⟩
  have hni:i.toNat=k:=by omega
  have hni1:(i+1).toNat=k+1:=by omega
  rcases Nat.lt_or_ge k (c.lits).length with hlt | hge
  · have hg:=Aq Lt.d hlt
    rw [Lt.d_eq] at hg
    have hnn:=Tm.CD (Cl.Ju hc hlt)
    have hr:=TA e c.lits[k].atom (by omega)
    unfold RnC at hr
    have hrs:c.lits[k].atom.sv=.agg [.str c.lits[k].atom.name,.arr (c.lits[k].atom.args.map Tm.d)]:=rfl
    have hlm:k < (c.lits.map (Lt.rn e)).length:=by rw [List.length_map]; exact hlt
    have hs:=D4 Lt.o hlm
    rw [Lt.o_eq,List.getElem_map] at hs
    have hs':((c.lits.map (Lt.rn e)).take k).map Lt.o++[[OT.bool c.lits[k].pos,OT.str (c.lits[k].atom.rn e).name,OT.ow ((c.lits[k].atom.rn e).args.map Tm.o)]]=((c.lits.map (Lt.rn e)).take (k+1)).map Lt.o:=hs
    have htl:((c.lits.map (Lt.rn e)).take k).length=k:=by rw [List.length_take,List.length_map]; omega
    simp (disch:=omega) only [go_sem,Aa,hni,hg,hr,hrs,htl,Tm.osv,Tm.obs,BA]
    refine ⟨i+1,⟨k+1,by omega,hlt⟩,by omega,?_⟩
    simp (disch:=omega) only [go_sem,Aa,hni1,hs']
  · have ht:(c.lits.map (Lt.rn e)).take k=c.lits.map (Lt.rn e):=List.take_of_length_le (by rw [List.length_map]; exact hge)
    simp (disch:=omega) only [go_sem,Aa,hni,ht,hco,her,Lt.noss,Lt.fus,CI]
def II:SC:=(.seq (.reg [⟨some 1,none,.boxv 28 1 (.t 0)⟩,⟨some 2,none,.alloc 28 [.nil]⟩]) (.seq (.reg [⟨some 5,none,.load true 1 (.t 1)⟩,⟨some 6,none,.call 139 [(.t 5)]⟩,⟨some 3,none,.alloc 28 [.nil]⟩,⟨none,none,(.store 1 (.t 3) (.t 6))⟩]) (.seq (.seq (.reg [⟨some 4,none,.mv (.c (.int .i64 0))⟩]) (.block 0 (.loop [0,0,1,1,1,0,0,0,0,0,0,0,0,0,0,0,0,0,0,0,0,0] (.seq (.seq (.reg [⟨some 7,none,.mv (.t 4)⟩,⟨some 8,none,.bin .lss false (.t 7) (.c (.int .i64 10))⟩,⟨some 9,none,.mv (.t 8)⟩,⟨(some 10),(some (9,true)),(.load true 1 (.t 3))⟩,⟨(some 11),(some (9,true)),(.call 55 [(.t 10)])⟩,⟨(some 12),(some (9,true)),(.un .not (.t 11))⟩,⟨some 13,none,.pick (.t 9) (.t 12) (.c (.bool false))⟩]) (.cond (.t 13) .skip (.exit 0))) (.seq (.block 1 (.dreg [[],[],[1],[2,1],[0,3,2,1],[4,0,3,2,1]] [⟨some 16,none,.load true 1 (.t 3)⟩,⟨some 17,none,.load true 1 (.t 3)⟩,⟨some 18,none,.call 84 [(.t 17)]⟩,⟨(some 19),none,(.call 140 [(.t 18),(.c (.str ⟨#[88]⟩))])⟩,⟨some 20,none,.call 98 [(.t 16),(.t 19)]⟩,⟨none,none,(.store 1 (.t 3) (.t 20))⟩])) (.reg [⟨some 14,none,.mv (.t 4)⟩,⟨some 15,none,.bin .add false (.t 14) (.c (.int .i64 1))⟩,⟨some 4,none,.mv (.t 15)⟩])))))) (.seq (.reg [⟨some 21,none,.load true 1 (.t 3)⟩,⟨none,none,(.store 1 (.t 2) (.t 21))⟩]) .ret))))
theorem Ot:Am Tryz.prog 93=some ⟨22,II,[(.cell 2 true 1)]⟩:=by kernel_rfl
theorem F5:modes 93=⟨[],.own [some (73,3)],none,false⟩:=by unfold modes; rfl
theorem W4 (c:Cl) (hc:c.ok=true):E 93 [c.sv] []=some ((nz 10 c).osv,(nz 10 c).obs):=by
  have hl:=Cl.ok_len hc
  have h1:=UI c (by omega) (fun x hx=>by have:=Tm.CD (Cl.Dj hc x hx); omega)
  have hcs:∀ d:Cl,Cl.osv d=.agg [.ref 0]:=fun d=>rfl
  have hob:∀ d:Cl,Cl.obs d=[.row 73 3 (d.lits.map Lt.o)]:=fun d=>rfl
  have hsv:∀ d:Cl,d.sv=.agg [.arr (d.lits.map Lt.d)]:=fun d=>rfl
  rw [hcs,hob] at h1
  rw [hcs,hob]
  refine Ah Ot F5 (of_decide_eq_true rfl) ?_
  simp (disch:=omega) only [II,go_sem,Aa,h1,HG]
  refine As (α:=Int × Cl) (fun a=>⟨slots 22 0 [(2,.ptr 0 0),(3,.ptr 1 0),(4,.int .i64 a.1)],[.box 28 [.nil],.box 28 [.ref 2],.row 73 3 (a.2.lits.map Lt.o)]⟩) (fun a=>∃ k:Nat,a.1=k∧k≤10∧a.2.ok=true∧nz (10 - k) a.2=nz 10 c) (fun a=>10 - a.1.toNat) (0,c) ⟨0,rfl,Nat.zero_le _,hc,rfl⟩ (by simp (disch:=omega) only [go_sem,Aa]) ?_
  rintro ⟨i,d⟩ ⟨k,hi,hk,hd,hR⟩
  dsimp only at hi hd hR
  have n1:=K5 d hd
  have n2:=T8 d hd
  have n3:=Y1 d.ns (by have:=Cl.Ro hd; omega) ⟨#[88]⟩ (by decide +kernel)
  have n4:=Pp d hd (Ho ⟨#[88]⟩ d.ns) (Cl.xE hd)
  rw [show C1 [] (Lt.vsL d.lits)=d.ns from rfl] at n2
  rw [hcs,hob] at n4
  rw [hsv] at n1 n2 n4
  have her:=Lt.erss d.lits
  rcases Nat.lt_or_ge k 10 with hlt | hge
  · obtain ⟨m,hm⟩:∃ m,10 - k=m+1:=⟨9 - k,by omega⟩
    rw [hm,nz] at hR
    cases hn:d.norm with
    | true =>
      rw [hn,cond_true] at hR
      rw [hn] at n1
      rw [← hR]
      simp (disch:=omega) only [go_sem,Aa,n1,n2,n3,n4,her,Lt.noss,Lt.fus,Cw,Ea,E7,CP]
    | false =>
      rw [hn,cond_false] at hR
      rw [hn] at n1
      simp (disch:=omega) only [go_sem,Aa,n1,n2,n3,n4,her,Lt.noss,Lt.fus,Cw,Ea,E7,CP]
      refine ⟨(i+1,d.rn (Ho Sp d.ns)),⟨k+1,by dsimp only; omega,by omega,Cl.QbZ (Cl.xE hd) hd,by rw [show 10 - (k+1)=m by omega]; exact hR⟩,by dsimp only; omega,?_⟩
      first | trivial | rfl
  · obtain rfl:k=10:=by omega
    have hR:d=nz 10 c:=hR
    rw [← hR]
    simp (disch:=omega) only [go_sem,Aa,n1,n2,n3,n4,her,Lt.noss,Lt.fus,Cw,Ea,E7,CP]
theorem TB {α β:Type} (g:α→β):∀ (l:List α) (i:Nat),(l.map g).eraseIdx i=(l.eraseIdx i).map g
  | [],i=>by cases i <;> rfl
  | a :: l,0=>rfl
  | a :: l,i+1=>by
    show g a :: (l.map g).eraseIdx i=g a :: (l.eraseIdx i).map g
    rw [TB g l i]
noncomputable def Lt.ds (l:List Lt):List (List OT):=l.map fun b=>b.d.map D.ot
theorem Lt.Qep (l:List Lt):OT.erss (Lt.ds l)=l.map Lt.d:=Lt.der l
theorem Lt.Qeq (l:List Lt):OT.AS (Lt.ds l)=true:=Lt.dfu l
theorem Lt.Qcc (a:List Lt):(Lt.ds a).length=a.length:=by unfold Lt.ds; rw [List.length_map]
theorem Lt.Qew (a:List Lt):((a.map Lt.d).map fun x=>x.map D.ot)=Lt.ds a:=by unfold Lt.ds; rw [List.map_map]; rfl
theorem Cc:modes 95=⟨[],.asis,some NT,false⟩:=by unfold modes; rfl
theorem BY:modes 94=⟨[true],.asis,some Le,false⟩:=by unfold modes; rfl
theorem Qa7 (xs:List Lt) (h0:xs≠[]) (h:xs.length≤1048576):E 95 [.arr (xs.map Lt.d)] []=some (.ref 0,[.row 73 3 (Lt.ds xs)]):=by
  rw [Jk (g:=NT) (congrArg FM.ext Cc)]
  unfold NT
  simp only
  rw [A4 ⟨by simpa using h0,by simpa using h,fun e he=>by obtain ⟨b,_,rfl⟩:=List.mem_map.1 he; rfl⟩,cond_true,Lt.Qew]
theorem Y2 (xs:List Lt) (i:Int) (h0:0≤i) (h1:i.toNat < xs.length) (h:xs.length≤1048576):E 94 [.ref 0,.int .i64 i,.int .i64 (i+1)] [.row 73 3 (Lt.ds xs)]=some (.ref 1,[.gone,.row 73 3 (Lt.ds (xs.eraseIdx i.toNat))]):=by
  rw [Jk (g:=Le) (congrArg FM.ext BY)]
  unfold Le
  simp only
  rw [A4 ⟨trivial,h0,by rw [Lt.Qcc]; exact h1,trivial,by rw [Lt.Qcc]; omega⟩,cond_true]
  unfold Lt.ds
  rw [TB]
def K7:SC:=(.seq (.reg [⟨some 2,none,.boxv 28 1 (.t 0)⟩,⟨some 4,none,.mv (.c .nil)⟩]) (.seq (.reg [⟨some 5,none,.faddr 0 (.t 2)⟩,⟨some 6,none,.load false 1 (.t 5)⟩,⟨some 7,none,.call 95 [(.t 6)]⟩,⟨some 8,none,.mv (.t 1)⟩,⟨some 9,none,.mv (.t 1)⟩,⟨some 10,none,.bin .add false (.t 9) (.c (.int .i64 1))⟩,⟨some 11,none,.call 94 [(.t 7),(.t 8),(.t 10)]⟩,⟨some 4,none,.mv (.t 11)⟩]) .ret))
theorem Rt:Am Tryz.prog 59=some ⟨12,K7,[(.tmp 4)]⟩:=by kernel_rfl
theorem K8:modes 59=⟨[],.own [some (73,3)],none,false⟩:=by unfold modes; rfl
theorem Qa8 (c:Cl) (hl:c.lits.length≤1048575) (i:Int) (h0:0≤i) (h1:i.toNat < c.lits.length):E 59 [c.sv,.int .i64 i] []=some (.ref 0,[.row 73 3 (Lt.ds (c.lits.eraseIdx i.toNat))]):=by
  have hcs:c.sv=.agg [.arr (c.lits.map Lt.d)]:=rfl
  have h2:=Qa7 c.lits (fun e=>by rw [e] at h1; simp at h1) (by omega)
  have h3:=Y2 c.lits i h0 h1 (by omega)
  refine Ah Rt K8 (of_decide_eq_true rfl) ?_
  simp (disch:=omega) only [K7,go_sem,Aa,h2,h3,Cc,BY]
def bdLe (x y:Bd):Bool:=!AD y.var x.var
def FZ:List Bd→Bd→List Bd
  | [],b=>[b]
  | x :: xs,b=>bif AD x.var b.var then x :: FZ xs b else b :: x :: xs
theorem Lp (b:Bd):∀ xs:List Bd,(FZ xs b).Perm (b :: xs)
  | []=>.refl _
  | x :: xs=>by
    rw [FZ]
    cases AD x.var b.var with
    | true=>exact ((Lp b xs).cons x).trans (.swap b x xs)
    | false=>exact .refl _
theorem Ru {a b c:Bd} (h:bdLe a b=true) (k:bdLe b c=true):bdLe a c=true:=by
  unfold bdLe at *
  cases hq:AD c.var a.var with
  | false=>rfl
  | true =>
    cases hb:AD b.var a.var with
    | true=>rw [hb] at h; cases h
    | false =>
      cases hc:AD c.var b.var with
      | true=>rw [hc] at k; cases k
      | false =>
        cases hab:AD a.var b.var with
        | true=>rw [Kz hq hab] at hc; cases hc
        | false =>
          have:=Ky hab hb
          rw [this] at hq; rw [hq] at hc; cases hc
theorem Y3 (a b:Bd):(bdLe a b || bdLe b a)=true:=by
  unfold bdLe
  cases h:AD b.var a.var with
  | false=>rfl
  | true=>rw [Kx h]; rfl
theorem OW (b:Bd):∀ xs:List Bd,xs.Pairwise (fun x y=>bdLe x y=true)→(FZ xs b).Pairwise fun x y=>bdLe x y=true
  | [],_=>by simp [FZ]
  | x :: xs,h=>by
    rw [FZ]
    rw [List.pairwise_cons] at h
    cases hq:AD x.var b.var with
    | true =>
      rw [cond_true,List.pairwise_cons]
      refine ⟨fun y hy=>?_,OW b xs h.2⟩
      rcases List.mem_cons.1 ((Lp b xs).mem_iff.1 hy) with rfl | hy
      · unfold bdLe; rw [Kx hq]; rfl
      · exact h.1 y hy
    | false =>
      have hb:bdLe b x=true:=by unfold bdLe; rw [hq]; rfl
      rw [cond_false,List.pairwise_cons,List.pairwise_cons]
      refine ⟨fun y hy=>?_,h⟩
      rcases List.mem_cons.1 hy with rfl | hy
      · exact hb
      · exact Ru hb (h.1 y hy)
def In (xs ys:List Bd):List Bd:=ys.foldl FZ xs
theorem Ou:∀ (ys xs:List Bd),(In xs ys).Perm (xs++ys)
  | [],xs=>by simp [In]
  | y :: ys,xs=>by
    have h:=Ou ys (FZ xs y)
    simp only [In,List.foldl_cons] at h ⊢
    refine h.trans ?_
    have h2:(FZ xs y++ys).Perm ((y :: xs)++ys):=(Lp y xs).append_right ys
    exact h2.trans List.perm_middle.symm
theorem OX:∀ (ys xs:List Bd),xs.Pairwise (fun x y=>bdLe x y=true)→(In xs ys).Pairwise fun x y=>bdLe x y=true
  | [],xs,h=>h
  | y :: ys,xs,h=>by
    simp only [In,List.foldl_cons]
    exact OX ys (FZ xs y) (OW y xs h)
theorem Qcd (xs a b:List Bd):In xs (a++b)=In (In xs a) b:=List.foldl_append
theorem Qa9 {ys:List Bd} (hn:(ys.map Bd.var).Nodup):In [] ys=ys.mergeSort bdLe:=by
  have h1:(In [] ys).Perm ys:=by simpa using Ou ys []
  have h2:(ys.mergeSort bdLe).Perm ys:=List.mergeSort_perm _ _
  refine List.Perm.eq_of_pairwise (le:=fun x y=>bdLe x y=true) ?_ (OX ys [] List.Pairwise.nil) (List.pairwise_mergeSort (le:=bdLe) (fun _ _ _ h k=>Ru h k) Y3 ys) (h1.trans h2.symm)
  intro a b ha hb hab hba
  unfold bdLe at hab hba
  have e:a.var=b.var:=Ky (by simpa using hba) (by simpa using hab)
  have ha:=h1.mem_iff.1 ha
  have hb:=h2.mem_iff.1 hb
  obtain ⟨i,hi,rfl⟩:=List.getElem_of_mem ha
  obtain ⟨j,hj,rfl⟩:=List.getElem_of_mem hb
  have hij:i=j:=(List.getElem_inj (h₀:=by simpa using hi) (h₁:=by simpa using hj) hn).1 (by simpa using e)
  subst hij; rfl
theorem W5 (b:Bd):∀ xs:List Bd,FZ xs b=xs.take (Bt xs b.var)++b :: xs.drop (Bt xs b.var)
  | []=>by simp [FZ,Bt]
  | x :: xs=>by
    rw [FZ,Bt]
    cases h:AD x.var b.var with
    | true=>rw [cond_true,W5 b xs]; simp
    | false=>simp
noncomputable def CE (u:Sb) (b:Bd):Option Bd:=bif dec ((b.term.ap u.look).name=b.var) then none else some ⟨b.var,b.term.ap u.look⟩
noncomputable def Hq (s u:Sb):List Bd:=s.binds.filterMap (CE u)
noncomputable def ZG (s u:Sb):List Bd:=u.binds.filter fun b=>!DH s.binds b.var
noncomputable def Cs (s u:Sb):List Bd:=Hq s u++ZG s u
noncomputable def Cn (s u:Sb):Sb:=⟨(Cs s u).mergeSort bdLe⟩
theorem Ml:∀ {xs:List Bd},MZ xs→(xs.map Bd.var).Nodup:=by
  intro xs h
  unfold List.Nodup
  rw [List.pairwise_iff_getElem]
  intro i j hi hj hij e
  rw [List.length_map] at hj
  have:=h i j hij hj
  simp only [List.getElem_map] at e
  rw [e,Hh] at this
  cases this
theorem W6 {xs:List Bd} (hs:MZ xs) (n:ByteArray):DH xs n=xs.any fun b=>dec (b.var=n):=by
  rw [← QM,Rc hs]
  cases DH xs n with
  | true=>rw [if_pos rfl]; exact (A4 (by omega)).symm
  | false=>rw [if_neg (by simp)]; exact (AC (by omega)).symm
theorem TC {s u:Sb} {b:Bd} (h:b∈Hq s u):∃ c∈s.binds,b.var=c.var∧b.term=c.term.ap u.look:=by
  obtain ⟨c,hc,h⟩:=List.mem_filterMap.1 h
  refine ⟨c,hc,?_⟩
  unfold CE at h
  cases hq:dec ((c.term.ap u.look).name=c.var) with
  | true=>rw [hq] at h; cases h
  | false=>rw [hq] at h; obtain rfl:=Option.some.inj h; exact ⟨rfl,rfl⟩
theorem K9 (u:Sb):∀ xs:List Bd,((xs.filterMap (CE u)).map Bd.var).Sublist (xs.map Bd.var)
  | []=>.slnil
  | x :: xs=>by
    rw [List.filterMap_cons,List.map_cons]
    have h:=K9 u xs
    cases hq:CE u x with
    | none=>exact h.cons _
    | some c =>
      have e:c.var=x.var:=by
        unfold CE at hq
        cases hd:dec ((x.term.ap u.look).name=x.var) with
        | true=>rw [hd] at hq; cases hq
        | false=>rw [hd] at hq; obtain rfl:=Option.some.inj hq; rfl
      simp only [List.map_cons,e]
      exact h.cons_cons _
theorem Ng {s u:Sb} (hs:MZ s.binds) (hu:MZ u.binds):((Cs s u).map Bd.var).Nodup:=by
  unfold Cs
  rw [List.map_append,List.nodup_append]
  refine ⟨(K9 u s.binds).nodup (Ml hs),(List.Sublist.map _ List.filter_sublist).nodup (Ml hu),fun a ha b hb e=>?_⟩
  subst e
  obtain ⟨x,hx,rfl⟩:=List.mem_map.1 ha
  obtain ⟨y,hy,e⟩:=List.mem_map.1 hb
  obtain ⟨c,hc,h1,_⟩:=TC hx
  have hy2:=(List.mem_filter.1 hy).2
  rw [W6 hs,Bool.not_eq_true'] at hy2
  have:=List.any_eq_false.1 hy2 c hc
  exact this (A4 (by rw [← h1,e]))
theorem Rv (s u:Sb):(Cs s u).length≤s.binds.length+u.binds.length:=by
  unfold Cs Hq ZG
  rw [List.length_append]
  have h1:=List.length_filterMap_le (CE u) s.binds
  have h2:=List.length_filter_le (fun b=>!DH s.binds b.var) u.binds
  omega
mutual
def Tm.wt:Tm→Nat
  | .mk name args=>1+Tm.wtS args
def Tm.wtS:List Tm→Nat
  | []=>0
  | x :: xs=>Tm.wt x+Tm.wtS xs
end
theorem Tm.wt_eq (x:Tm):x.wt=1+Tm.wtS x.args:=by
  obtain ⟨name,args⟩:=x
  rw [Tm.wt]; rfl
mutual
noncomputable def Tm.mk1:Tm→Int→Tm × Int
  | .mk name args,k=>((Tm.mk (H1 k) ((Tm.mkS args (k+1)).1)),(Tm.mkS args (k+1)).2)
noncomputable def Tm.mkS:List Tm→Int→List Tm × Int
  | [],k=>([],k)
  | x :: xs,k=>((Tm.mk1 x k).1 :: (Tm.mkS xs (Tm.mk1 x k).2).1,(Tm.mkS xs (Tm.mk1 x k).2).2)
end
theorem Tm.mk1_eq (x:Tm) (k:Int):x.mk1 k=((Tm.mk (H1 k) ((Tm.mkS x.args (k+1)).1)),(Tm.mkS x.args (k+1)).2):=by
  obtain ⟨name,args⟩:=x
  rw [Tm.mk1]; rfl
theorem Tm.mk1_d (x:Tm) (k:Int):Tm.d (x.mk1 k).1=[.str (H1 k),.arr ((Tm.mkS x.args (k+1)).1.map Tm.d)]:=by
  rw [Tm.mk1_eq,Tm.d_eq]
  try rfl
theorem Tm.mk1_o (x:Tm) (k:Int):Tm.o (x.mk1 k).1=[.str (H1 k),.ow ((Tm.mkS x.args (k+1)).1.map Tm.o)]:=by
  rw [Tm.mk1_eq,Tm.o_eq]
  try rfl
theorem Tm.Mm:∀ (xs:List Tm) (k:Int),(∀ x∈xs,∀ k,(x.mk1 k).2=k+x.wt)→(Tm.mkS xs k).2=k+Tm.wtS xs
  | [],k,_=>by simp [Tm.mkS,Tm.wtS]
  | x :: xs,k,h=>by
    rw [Tm.mkS,Tm.wtS]
    have h1:=h x (by simp) k
    have h2:=Tm.Mm xs (x.mk1 k).2 fun y hy=>h y (by simp [hy])
    dsimp only
    omega
theorem Tm.mk1_end (x:Tm) (k:Int):(x.mk1 k).2=k+x.wt:=by
  rw [Tm.mk1_eq,Tm.wt_eq]
  have h:=fun k=>Tm.Mm x.args k fun y hy k=>Tm.mk1_end y k
  simp only [h]
  omega
termination_by SizeOf.sizeOf x
decreasing_by exact Tm.Az hy
theorem Tm.mkS_end (xs:List Tm) (k:Int):(Tm.mkS xs k).2=k+Tm.wtS xs:=Tm.Mm xs k fun x _ k=>Tm.mk1_end x k
theorem Tm.Y4:∀ xs:List Tm,(∀ x∈xs,x.wt≤5 * (1+x.bulk))→Tm.wtS xs≤5 * (xs.length+Tm.sumB xs)
  | [],_=>by simp [Tm.wtS]
  | x :: xs,h=>by
    have h1:=h x (by simp)
    have h2:=Tm.Y4 xs fun y hy=>h y (by simp [hy])
    rw [Tm.wtS,Tm.sumB]; simp only [List.length_cons]; omega
theorem Tm.wt_bulk (x:Tm):x.wt≤5 * (1+x.bulk):=by
  rw [Tm.wt_eq,Tm.bulk_eq]
  have h:=Tm.Y4 x.args fun y hy=>Tm.wt_bulk y
  omega
termination_by SizeOf.sizeOf x
decreasing_by exact Tm.Az hy
theorem Tm.wtS_bulk (xs:List Tm):Tm.wtS xs≤5 * (xs.length+Tm.sumB xs):=Tm.Y4 xs fun x _=>Tm.wt_bulk x
theorem Tm.length_wt:∀ xs:List Tm,xs.length≤Tm.wtS xs
  | []=>Nat.le_refl _
  | x :: xs=>by
    have:=Tm.length_wt xs
    have:=Tm.wt_eq x
    rw [Tm.wtS]; simp only [List.length_cons]; omega
def IJ:SC:=(.seq (.reg [⟨some 4,none,.mv (.c (.int .i64 0))⟩]) (.seq (.seq (.reg [⟨some 5,none,.mv (.c (.int .i64 0))⟩]) (.block 0 (.loop [1,1,0,0,0,1,0,0,0,0,0,0,0,0,0,0,0,0,0,0,0,0,0,0,0,0,0,0] (.seq (.seq (.reg [⟨some 6,none,.mv (.t 5)⟩,⟨some 7,none,.mv (.t 0)⟩,⟨some 8,none,.len false (.t 7)⟩,⟨some 9,none,.bin .lss false (.t 6) (.t 8)⟩]) (.cond (.t 9) .skip (.exit 0))) (.seq (.block 1 (.seq (.reg [⟨some 12,none,.mv (.t 0)⟩,⟨some 13,none,.mv (.t 5)⟩,⟨some 14,none,.mv (.t 1)⟩,⟨some 15,none,.call 61 [(.t 14)]⟩,⟨some 16,none,.iaddr 2 (.t 12) (.t 13)⟩,⟨some 17,none,.faddr 0 (.t 16)⟩,⟨none,none,(.store 1 (.t 17) (.t 15))⟩]) (.seq (.reg [⟨some 18,none,.mv (.t 1)⟩,⟨some 19,none,.bin .add false (.t 18) (.c (.int .i64 1))⟩,⟨some 1,none,.mv (.t 19)⟩]) (.reg [⟨some 20,none,.mv (.t 0)⟩,⟨some 21,none,.mv (.t 5)⟩,⟨some 22,none,.iaddr 2 (.t 20) (.t 21)⟩,⟨some 23,none,.faddr 1 (.t 22)⟩,⟨some 24,none,.load false 1 (.t 23)⟩,⟨some 25,none,.mv (.t 1)⟩,⟨some 26,none,.call 62 [(.t 24),(.t 25)]⟩,⟨some 1,none,.mv (.t 26)⟩])))) (.reg [⟨some 10,none,.mv (.t 5)⟩,⟨some 11,none,.bin .add false (.t 10) (.c (.int .i64 1))⟩,⟨some 5,none,.mv (.t 11)⟩])))))) (.seq (.reg [⟨some 27,none,.mv (.t 1)⟩,⟨some 4,none,.mv (.t 27)⟩]) .ret)))
theorem Ov:Am Tryz.prog 62=some ⟨28,IJ,[(.tmp 4)]⟩:=by kernel_rfl
theorem F6:modes 62=⟨[true],.asis,none,true⟩:=by unfold modes; rfl
abbrev HH (xs:List Tm):Prop:=∀ (k:Int) (ob:List Ob),1≤k→k+Tm.wtS xs≤1099511627776→Cd ob=[.tree (xs.map Tm.o) []]→E 62 [.ref 0,.int .i64 k] ob=some (.int .i64 (Tm.mkS xs k).2,[.tree ((Tm.mkS xs k).1.map Tm.o) []])
theorem KA (xs:List Tm) (ih:∀ x∈xs,HH x.args):HH xs:=by
  intro k0 ob h1 h2 hob
  have hlen:ob.length=1:=by rw [← Jb,hob]; rfl
  have hL:=Tm.length_wt xs
  refine Ah Ov F6 (of_decide_eq_true rfl) ?_
  simp (disch:=omega) only [IJ,go_sem,Aa,hob,hlen]
  refine As (α:=Int × (Int) × (List Tm)) (fun a=>⟨slots 28 0 [(0,.ref 0),(1,.int .i64 (a.2.1)),(5,.int .i64 (a.1))],[.tree (((a.2.2)++xs.drop (a.1).toNat).map Tm.o) []]⟩) (fun a=>∃ k:Nat,a.1=k∧k≤(xs).length∧(a.2.2).length=k∧1≤(a.2.1)∧(a.2.1)+Tm.wtS (xs.drop k)=k0+Tm.wtS xs∧Tm.mkS xs k0=((a.2.2)++(Tm.mkS (xs.drop k) (a.2.1)).1,(Tm.mkS (xs.drop k) (a.2.1)).2)) (fun a=>(xs).length - (a.1).toNat) (0,k0,[]) ⟨0,rfl,Nat.zero_le _,rfl,h1,by rw [List.drop_zero],by simp⟩ (by simp (disch:=omega) only [go_sem,Aa,Int.toNat_zero]) ?_
  rintro ⟨i,kk,dn⟩ ⟨k,hi,hk,hR⟩
  dsimp only at hi hR
  have hni:i.toNat=k:=by omega
  have hni1:(i+1).toNat=k+1:=by omega
  rcases Nat.lt_or_ge k (xs).length with hlt | hge
  · obtain ⟨hd,hk1,hkn,hm⟩:=hR
    have hdr:xs.drop k=xs[k] :: xs.drop (k+1):=List.drop_eq_getElem_cons hlt
    have hel:(dn++xs.drop k).length=xs.length:=by simp; omega
    have hg:(List.map Tm.o (dn++xs.drop k))[k]?=some [.str xs[k].name,.ow (xs[k].args.map Tm.o)]:=by
      rw [← Tm.o_eq,hdr,List.getElem?_map,List.getElem?_append_right (by omega),hd,Nat.sub_self]; rfl
    rw [hdr,Tm.wtS] at hkn
    rw [hdr,Tm.mkS] at hm
    have hn1:=Tm.wt_eq xs[k]
    have e1:=Tm.mkS_end xs[k].args ((kk+1))
    have t0:=Jl (k:=kk) (by omega) (by omega)
    have c58:=ih xs[k] (List.getElem_mem hlt) ((kk+1)) [.tree (xs[k].args.map Tm.o) []] (by omega) (by omega) rfl
    have hs:=OQ Tm.o dn (xs.drop (k+1)) xs[k] (xs[k].mk1 kk).1 hd
    rw [Tm.mk1_o,← hdr] at hs
    have hgs:∀ a,((List.map Tm.o (dn++xs.drop k)).set k a)[k]?=some a:=fun a=>List.getElem?_set_self (by rw [List.length_map,hel]; exact hlt)
    have he:=Tm.mk1_end xs[k] kk
    have three:∀ z:Int,dec ((3:Int)=0)=false:=fun _=>AC (by omega)
    simp (disch:=omega) only [go_sem,Aa,hni,hel,hg,t0,c58,F6,E5,hgs,List.length_set,List.set_set,hs,three 0]
    refine ⟨(i+1,(xs[k].mk1 kk).2,dn++[(xs[k].mk1 kk).1]),⟨k+1,by dsimp only; omega,hlt,by dsimp only; simp [hd],by dsimp only; omega,by dsimp only; omega,by rw [hm]; simp⟩,by dsimp only; omega,?_⟩
    dsimp only
    rw [hni1,Tm.mk1_eq]
    refine ⟨⟨?_,rfl⟩,rfl⟩
    first | rfl | omega
  · obtain ⟨hd,hk1,hkn,hm⟩:=hR
    have hdr:xs.drop k=[]:=List.drop_eq_nil_of_le hge
    rw [hdr,Tm.mkS] at hm
    rw [hm]
    simp (disch:=omega) only [go_sem,Aa,hni,hdr,List.append_nil]
theorem Nh (x:Tm):HH x.args:=KA x.args fun y hy=>Nh y
termination_by SizeOf.sizeOf x
decreasing_by exact Tm.Az hy
theorem W7 (xs:List Tm):HH xs:=KA xs fun y _=>Nh y
def Lt.wt (x:Lt):Nat:=2+Tm.wtS x.atom.args
theorem Lt.wt_eq (x:Lt):x.wt=2+Tm.wtS x.atom.args:=rfl
noncomputable def Lt.mk1 (x:Lt) (k:Int):Lt × Int:=((Lt.mk (dec (k.tmod 3=0)) (Tm.mk (H1 (k+1)) ((Tm.mkS x.atom.args (k+1+1)).1))),(Tm.mkS x.atom.args (k+1+1)).2)
theorem Lt.mk1_eq (x:Lt) (k:Int):x.mk1 k=((Lt.mk (dec (k.tmod 3=0)) (Tm.mk (H1 (k+1)) ((Tm.mkS x.atom.args (k+1+1)).1))),(Tm.mkS x.atom.args (k+1+1)).2):=rfl
def Lt.wtS:List Lt→Nat
  | []=>0
  | x :: xs=>Lt.wt x+Lt.wtS xs
noncomputable def Lt.mkS:List Lt→Int→List Lt × Int
  | [],k=>([],k)
  | x :: xs,k=>((Lt.mk1 x k).1 :: (Lt.mkS xs (Lt.mk1 x k).2).1,(Lt.mkS xs (Lt.mk1 x k).2).2)
theorem Lt.mk1_d (x:Lt) (k:Int):Lt.d (x.mk1 k).1=[.bool (dec (k.tmod 3=0)),.str (H1 (k+1)),.arr ((Tm.mkS x.atom.args (k+1+1)).1.map Tm.d)]:=by
  rw [Lt.mk1_eq,Lt.d_eq]
  try rfl
theorem Lt.mk1_o (x:Lt) (k:Int):Lt.o (x.mk1 k).1=[.bool (dec (k.tmod 3=0)),.str (H1 (k+1)),.ow ((Tm.mkS x.atom.args (k+1+1)).1.map Tm.o)]:=by
  rw [Lt.mk1_eq,Lt.o_eq]
  try rfl
theorem Lt.mk1_end (x:Lt) (k:Int):(x.mk1 k).2=k+x.wt:=by
  rw [Lt.mk1_eq,Lt.wt_eq]
  first
    | omega
    | (simp only [Tm.mkS_end]; done)
    | (simp only [Tm.mkS_end]; omega)
    | simp
theorem Lt.mkS_end:∀ (xs:List Lt) (k:Int),(Lt.mkS xs k).2=k+Lt.wtS xs
  | [],k=>by simp [Lt.mkS,Lt.wtS]
  | x :: xs,k=>by
    rw [Lt.mkS,Lt.wtS]
    have h1:=Lt.mk1_end x k
    have h2:=Lt.mkS_end xs (x.mk1 k).2
    dsimp only
    omega
theorem Lt.wt_bulk (x:Lt):x.wt≤5 * (1+x.bulk):=by
  rw [Lt.wt_eq,Lt.bulk_eq]
  have h0:=Tm.wtS_bulk x.atom.args
  have q1:=Tm.bulk_eq x.atom
  omega
theorem Lt.wtS_bulk:∀ xs:List Lt,Lt.wtS xs≤5 * (xs.length+Lt.sumB xs)
  | []=>by simp [Lt.wtS]
  | x :: xs=>by
    have h1:=Lt.wt_bulk x
    have h2:=Lt.wtS_bulk xs
    rw [Lt.wtS,Lt.sumB]; simp only [List.length_cons]; omega
theorem Lt.length_wt:∀ xs:List Lt,xs.length≤Lt.wtS xs
  | []=>Nat.le_refl _
  | x :: xs=>by
    have:=Lt.length_wt xs
    have:=Lt.wt_eq x
    rw [Lt.wtS]; simp only [List.length_cons]; omega
def Gz:SC:=(.seq (.reg [⟨some 4,none,.mv (.c (.int .i64 0))⟩]) (.seq (.seq (.reg [⟨some 5,none,.mv (.c (.int .i64 0))⟩]) (.block 0 (.loop [1,1,0,0,0,1,0,0,0,0,0,0,0,0,0,0,0,0,0,0,0,0,0,0,0,0,0,0,0,0,0,0,0,0,0,0,0,0,0] (.seq (.seq (.reg [⟨some 6,none,.mv (.t 5)⟩,⟨some 7,none,.mv (.t 0)⟩,⟨some 8,none,.len false (.t 7)⟩,⟨some 9,none,.bin .lss false (.t 6) (.t 8)⟩]) (.cond (.t 9) .skip (.exit 0))) (.seq (.block 1 (.seq (.reg [⟨some 12,none,.mv (.t 0)⟩,⟨some 13,none,.mv (.t 5)⟩,⟨some 14,none,.mv (.t 1)⟩,⟨some 15,none,.bin .rem false (.t 14) (.c (.int .i64 3))⟩,⟨some 16,none,.bin .eql false (.t 15) (.c (.int .i64 0))⟩,⟨some 17,none,.iaddr 3 (.t 12) (.t 13)⟩,⟨some 18,none,.faddr 0 (.t 17)⟩,⟨none,none,(.store 1 (.t 18) (.t 16))⟩]) (.seq (.reg [⟨some 19,none,.mv (.t 1)⟩,⟨some 20,none,.bin .add false (.t 19) (.c (.int .i64 1))⟩,⟨some 1,none,.mv (.t 20)⟩]) (.seq (.reg [⟨some 21,none,.mv (.t 0)⟩,⟨some 22,none,.mv (.t 5)⟩,⟨some 23,none,.mv (.t 1)⟩,⟨some 24,none,.call 61 [(.t 23)]⟩,⟨some 25,none,.iaddr 3 (.t 21) (.t 22)⟩,⟨some 26,none,.faddr 1 (.t 25)⟩,⟨some 27,none,.faddr 0 (.t 26)⟩,⟨none,none,(.store 1 (.t 27) (.t 24))⟩]) (.seq (.reg [⟨some 28,none,.mv (.t 1)⟩,⟨some 29,none,.bin .add false (.t 28) (.c (.int .i64 1))⟩,⟨some 1,none,.mv (.t 29)⟩]) (.reg [⟨some 30,none,.mv (.t 0)⟩,⟨some 31,none,.mv (.t 5)⟩,⟨some 32,none,.iaddr 3 (.t 30) (.t 31)⟩,⟨some 33,none,.faddr 1 (.t 32)⟩,⟨some 34,none,.faddr 1 (.t 33)⟩,⟨some 35,none,.load false 1 (.t 34)⟩,⟨some 36,none,.mv (.t 1)⟩,⟨some 37,none,.call 62 [(.t 35),(.t 36)]⟩,⟨some 1,none,.mv (.t 37)⟩])))))) (.reg [⟨some 10,none,.mv (.t 5)⟩,⟨some 11,none,.bin .add false (.t 10) (.c (.int .i64 1))⟩,⟨some 5,none,.mv (.t 11)⟩])))))) (.seq (.reg [⟨some 38,none,.mv (.t 1)⟩,⟨some 4,none,.mv (.t 38)⟩]) .ret)))
theorem Lw:Am Tryz.prog 35=some ⟨39,Gz,[(.tmp 4)]⟩:=by kernel_rfl
theorem G0:modes 35=⟨[true],.asis,none,true⟩:=by unfold modes; rfl
abbrev KB (xs:List Lt):Prop:=∀ (k:Int) (ob:List Ob),1≤k→k+Lt.wtS xs≤1099511627776→Cd ob=[.tree (xs.map Lt.o) []]→E 35 [.ref 0,.int .i64 k] ob=some (.int .i64 (Lt.mkS xs k).2,[.tree ((Lt.mkS xs k).1.map Lt.o) []])
theorem Ni (xs:List Lt):KB xs:=by
  intro k0 ob h1 h2 hob
  have hlen:ob.length=1:=by rw [← Jb,hob]; rfl
  have hL:=Lt.length_wt xs
  refine Ah Lw G0 (of_decide_eq_true rfl) ?_
  simp (disch:=omega) only [Gz,go_sem,Aa,hob,hlen]
  refine As (α:=Int × (Int) × (List Lt)) (fun a=>⟨slots 39 0 [(0,.ref 0),(1,.int .i64 (a.2.1)),(5,.int .i64 (a.1))],[.tree (((a.2.2)++xs.drop (a.1).toNat).map Lt.o) []]⟩) (fun a=>∃ k:Nat,a.1=k∧k≤(xs).length∧(a.2.2).length=k∧1≤(a.2.1)∧(a.2.1)+Lt.wtS (xs.drop k)=k0+Lt.wtS xs∧Lt.mkS xs k0=((a.2.2)++(Lt.mkS (xs.drop k) (a.2.1)).1,(Lt.mkS (xs.drop k) (a.2.1)).2)) (fun a=>(xs).length - (a.1).toNat) (0,k0,[]) ⟨0,rfl,Nat.zero_le _,rfl,h1,by rw [List.drop_zero],by simp⟩ (by simp (disch:=omega) only [go_sem,Aa,Int.toNat_zero]) ?_
  rintro ⟨i,kk,dn⟩ ⟨k,hi,hk,hR⟩
  dsimp only at hi hR
  have hni:i.toNat=k:=by omega
  have hni1:(i+1).toNat=k+1:=by omega
  rcases Nat.lt_or_ge k (xs).length with hlt | hge
  · obtain ⟨hd,hk1,hkn,hm⟩:=hR
    have hdr:xs.drop k=xs[k] :: xs.drop (k+1):=List.drop_eq_getElem_cons hlt
    have hel:(dn++xs.drop k).length=xs.length:=by simp; omega
    have hg:(List.map Lt.o (dn++xs.drop k))[k]?=some [.bool xs[k].pos,.str xs[k].atom.name,.ow (xs[k].atom.args.map Tm.o)]:=by
      rw [← Lt.o_eq,hdr,List.getElem?_map,List.getElem?_append_right (by omega),hd,Nat.sub_self]; rfl
    rw [hdr,Lt.wtS] at hkn
    rw [hdr,Lt.mkS] at hm
    have hn1:=Lt.wt_eq xs[k]
    have e2:=Tm.mkS_end xs[k].atom.args ((kk+1+1))
    have t0:=Jl (k:=(kk+1)) (by omega) (by omega)
    have c64:=W7 xs[k].atom.args ((kk+1+1)) [.tree (xs[k].atom.args.map Tm.o) []] (by omega) (by omega) rfl
    have hs:=OQ Lt.o dn (xs.drop (k+1)) xs[k] (xs[k].mk1 kk).1 hd
    rw [Lt.mk1_o,← hdr] at hs
    have hgs:∀ a,((List.map Lt.o (dn++xs.drop k)).set k a)[k]?=some a:=fun a=>List.getElem?_set_self (by rw [List.length_map,hel]; exact hlt)
    have he:=Lt.mk1_end xs[k] kk
    have three:∀ z:Int,dec ((3:Int)=0)=false:=fun _=>AC (by omega)
    simp (disch:=omega) only [go_sem,Aa,hni,hel,hg,t0,c64,F6,E5,hgs,List.length_set,List.set_set,hs,three 0]
    refine ⟨(i+1,(xs[k].mk1 kk).2,dn++[(xs[k].mk1 kk).1]),⟨k+1,by dsimp only; omega,hlt,by dsimp only; simp [hd],by dsimp only; omega,by dsimp only; omega,by rw [hm]; simp⟩,by dsimp only; omega,?_⟩
    dsimp only
    rw [hni1,Lt.mk1_eq]
    refine ⟨⟨?_,rfl⟩,rfl⟩
    first | rfl | omega
  · obtain ⟨hd,hk1,hkn,hm⟩:=hR
    have hdr:xs.drop k=[]:=List.drop_eq_nil_of_le hge
    rw [hdr,Lt.mkS] at hm
    rw [hm]
    simp (disch:=omega) only [go_sem,Aa,hni,hdr,List.append_nil]
theorem Rw (xs:List Lt):KB xs:=Ni xs
def IK:SC:=(.seq (.reg [⟨some 4,none,.mv (.c (.int .i64 0))⟩]) (.seq (.seq (.reg [⟨some 5,none,.mv (.c (.int .i64 0))⟩]) (.block 0 (.loop [1,1,0,0,0,1,0,0,0,0,0,0,0,0,0,0,0,0,0,0,0,0,0,0,0,0,0,0,0,0,0,0] (.seq (.seq (.reg [⟨some 6,none,.mv (.t 5)⟩,⟨some 7,none,.mv (.t 0)⟩,⟨some 8,none,.len false (.t 7)⟩,⟨some 9,none,.bin .lss false (.t 6) (.t 8)⟩]) (.cond (.t 9) .skip (.exit 0))) (.seq (.block 1 (.seq (.seq (.dreg [[],[],[0,1],[2,0,1],[3,2,0,1],[],[5],[4,3,2,0,1,6,5]] [⟨some 12,none,.mv (.t 0)⟩,⟨some 13,none,.mv (.t 5)⟩,⟨some 14,none,.iaddr 2 (.t 12) (.t 13)⟩,⟨some 15,none,.faddr 0 (.t 14)⟩,⟨some 16,none,.load false 1 (.t 15)⟩,⟨some 17,none,.mv (.t 1)⟩,⟨some 18,none,.call 61 [(.t 17)]⟩,⟨some 19,none,.bin .neq false (.t 16) (.t 18)⟩]) (.cond (.t 19) (.seq (.reg [⟨some 4,none,.mv (.c (.int .i64 (-(0+1))))⟩]) .ret) .skip)) (.seq (.reg [⟨some 20,none,.mv (.t 1)⟩,⟨some 21,none,.bin .add false (.t 20) (.c (.int .i64 1))⟩,⟨some 1,none,.mv (.t 21)⟩]) (.seq (.reg [⟨some 22,none,.mv (.t 0)⟩,⟨some 23,none,.mv (.t 5)⟩,⟨some 24,none,.iaddr 2 (.t 22) (.t 23)⟩,⟨some 25,none,.faddr 1 (.t 24)⟩,⟨some 26,none,.load false 1 (.t 25)⟩,⟨some 27,none,.mv (.t 1)⟩,⟨some 28,none,.call 63 [(.t 26),(.t 27)]⟩,⟨some 1,none,.mv (.t 28)⟩]) (.seq (.reg [⟨some 29,none,.mv (.t 1)⟩,⟨some 30,none,.bin .lss false (.t 29) (.c (.int .i64 0))⟩]) (.cond (.t 30) (.seq (.reg [⟨some 4,none,.mv (.c (.int .i64 (-(0+1))))⟩]) .ret) .skip)))))) (.reg [⟨some 10,none,.mv (.t 5)⟩,⟨some 11,none,.bin .add false (.t 10) (.c (.int .i64 1))⟩,⟨some 5,none,.mv (.t 11)⟩])))))) (.seq (.reg [⟨some 31,none,.mv (.t 1)⟩,⟨some 4,none,.mv (.t 31)⟩]) .ret)))
theorem Ow:Am Tryz.prog 63=some ⟨32,IK,[(.tmp 4)]⟩:=by kernel_rfl
theorem F7:modes 63=⟨[],.asis,none,false⟩:=by unfold modes; rfl
theorem Tm.mkS_len:∀ (xs:List Tm) (k:Int),(Tm.mkS xs k).1.length=xs.length
  | [],k=>by rw [Tm.mkS]
  | x :: xs,k=>by rw [Tm.mkS]; simp only [List.length_cons]; rw [Tm.mkS_len xs]
abbrev HJ (xs:List Tm):Prop:=∀ k:Int,1≤k→k+Tm.wtS xs≤1099511627776→E 63 [.arr ((Tm.mkS xs k).1.map Tm.d),.int .i64 k] []=some (.int .i64 (Tm.mkS xs k).2,[])
theorem KC (xs:List Tm) (ih:∀ x∈xs,HJ x.args):HJ xs:=by
  intro k0 h1 h2
  obtain ⟨ys,hys⟩:∃ ys,ys=(Tm.mkS xs k0).1:=⟨_,rfl⟩
  have hyl:ys.length=xs.length:=by rw [hys,Tm.mkS_len]
  rw [← hys]
  have hL:=Tm.length_wt xs
  refine Ah Ow F7 (of_decide_eq_true rfl) ?_
  simp (disch:=omega) only [IK,go_sem,Aa]
  refine As (α:=Int × (Int)) (fun a=>⟨slots 32 0 [(0,.arr (ys.map Tm.d)),(1,.int .i64 (a.2)),(5,.int .i64 (a.1))],[]⟩) (fun a=>∃ k:Nat,a.1=k∧k≤(ys).length∧1≤(a.2)∧(a.2)+Tm.wtS (xs.drop k)=k0+Tm.wtS xs∧ys.drop k=(Tm.mkS (xs.drop k) (a.2)).1∧(Tm.mkS xs k0).2=(Tm.mkS (xs.drop k) (a.2)).2) (fun a=>(ys).length - (a.1).toNat) (0,k0) ⟨0,rfl,Nat.zero_le _,h1,by rw [List.drop_zero],by rw [List.drop_zero,List.drop_zero,hys],by rw [List.drop_zero]⟩ (by simp (disch:=omega) only [go_sem,Aa]) ?_
  rintro ⟨i,kk⟩ ⟨k,hi,hk,hR⟩
  dsimp only at hi hR
  have hni:i.toNat=k:=by omega
  have hni1:(i+1).toNat=k+1:=by omega
  rcases Nat.lt_or_ge k (ys).length with hlt | hge
  · obtain ⟨hk1,hkn,hy,hm⟩:=hR
    have hlx:k < xs.length:=by omega
    have hdr:xs.drop k=xs[k] :: xs.drop (k+1):=List.drop_eq_getElem_cons hlx
    have hdy:=List.drop_eq_getElem_cons hlt
    rw [hdr,Tm.wtS] at hkn
    rw [hdr,Tm.mkS] at hm
    rw [hdr,Tm.mkS,hdy] at hy
    dsimp only at hy hm
    obtain ⟨hy1,hy2⟩:=List.cons.inj hy
    have hg:=Aq Tm.d hlt
    rw [hy1,Tm.mk1_d] at hg
    have hn1:=Tm.wt_eq xs[k]
    have e1:=Tm.mkS_end xs[k].args ((kk+1))
    have t0:=Jl (k:=kk) (by omega) (by omega)
    have c58:=ih xs[k] (List.getElem_mem hlx) ((kk+1)) (by omega) (by omega)
    have he:=Tm.mk1_end xs[k] kk
    simp (disch:=omega) only [go_sem,Aa,hni,hg,E5,D0,t0,c58,F7]
    refine ⟨(i+1,(xs[k].mk1 kk).2),⟨k+1,by dsimp only; omega,hlt,by dsimp only; omega,by dsimp only; omega,hy2,hm⟩,by dsimp only; omega,?_⟩
    dsimp only
    rw [Tm.mk1_eq]
    simp only [and_self,and_true,true_and]
    try omega
  · obtain ⟨hk1,hkn,hy,hm⟩:=hR
    have hdr:xs.drop k=[]:=List.drop_eq_nil_of_le (by omega)
    rw [hdr,Tm.mkS] at hm
    rw [hm]
    simp (disch:=omega) only [go_sem,Aa,hni]
theorem Nj (x:Tm):HJ x.args:=KC x.args fun y hy=>Nj y
termination_by SizeOf.sizeOf x
decreasing_by exact Tm.Az hy
theorem W8 (xs:List Tm):HJ xs:=KC xs fun y _=>Nj y
def G1:SC:=(.seq (.reg [⟨some 4,none,.mv (.c (.int .i64 0))⟩]) (.seq (.seq (.reg [⟨some 5,none,.mv (.c (.int .i64 0))⟩]) (.block 0 (.loop [1,1,0,0,0,1,0,0,0,0,0,0,0,0,0,0,0,0,0,0,0,0,0,0,0,0,0,0,0,0,0,0,0,0,0,0,0,0,0,0,0,0,0,0,0] (.seq (.seq (.reg [⟨some 6,none,.mv (.t 5)⟩,⟨some 7,none,.mv (.t 0)⟩,⟨some 8,none,.len false (.t 7)⟩,⟨some 9,none,.bin .lss false (.t 6) (.t 8)⟩]) (.cond (.t 9) .skip (.exit 0))) (.seq (.block 1 (.seq (.seq (.reg [⟨some 12,none,.mv (.t 0)⟩,⟨some 13,none,.mv (.t 5)⟩,⟨some 14,none,.iaddr 3 (.t 12) (.t 13)⟩,⟨some 15,none,.faddr 0 (.t 14)⟩,⟨some 16,none,.load false 1 (.t 15)⟩,⟨some 17,none,.mv (.t 1)⟩,⟨some 18,none,.bin .rem false (.t 17) (.c (.int .i64 3))⟩,⟨some 19,none,.bin .eql false (.t 18) (.c (.int .i64 0))⟩,⟨some 20,none,.bin .neq true (.t 16) (.t 19)⟩]) (.cond (.t 20) (.seq (.reg [⟨some 4,none,.mv (.c (.int .i64 (-(0+1))))⟩]) .ret) .skip)) (.seq (.reg [⟨some 21,none,.mv (.t 1)⟩,⟨some 22,none,.bin .add false (.t 21) (.c (.int .i64 1))⟩,⟨some 1,none,.mv (.t 22)⟩]) (.seq (.seq (.dreg [[],[],[0,1],[2,0,1],[3,2,0,1],[4,3,2,0,1],[],[6],[5,4,3,2,0,1,7,6]] [⟨some 23,none,.mv (.t 0)⟩,⟨some 24,none,.mv (.t 5)⟩,⟨some 25,none,.iaddr 3 (.t 23) (.t 24)⟩,⟨some 26,none,.faddr 1 (.t 25)⟩,⟨some 27,none,.faddr 0 (.t 26)⟩,⟨some 28,none,.load false 1 (.t 27)⟩,⟨some 29,none,.mv (.t 1)⟩,⟨some 30,none,.call 61 [(.t 29)]⟩,⟨some 31,none,.bin .neq false (.t 28) (.t 30)⟩]) (.cond (.t 31) (.seq (.reg [⟨some 4,none,.mv (.c (.int .i64 (-(0+1))))⟩]) .ret) .skip)) (.seq (.reg [⟨some 32,none,.mv (.t 1)⟩,⟨some 33,none,.bin .add false (.t 32) (.c (.int .i64 1))⟩,⟨some 1,none,.mv (.t 33)⟩]) (.seq (.reg [⟨some 34,none,.mv (.t 0)⟩,⟨some 35,none,.mv (.t 5)⟩,⟨some 36,none,.iaddr 3 (.t 34) (.t 35)⟩,⟨some 37,none,.faddr 1 (.t 36)⟩,⟨some 38,none,.faddr 1 (.t 37)⟩,⟨some 39,none,.load false 1 (.t 38)⟩,⟨some 40,none,.mv (.t 1)⟩,⟨some 41,none,.call 63 [(.t 39),(.t 40)]⟩,⟨some 1,none,.mv (.t 41)⟩]) (.seq (.reg [⟨some 42,none,.mv (.t 1)⟩,⟨some 43,none,.bin .lss false (.t 42) (.c (.int .i64 0))⟩]) (.cond (.t 43) (.seq (.reg [⟨some 4,none,.mv (.c (.int .i64 (-(0+1))))⟩]) .ret) .skip)))))))) (.reg [⟨some 10,none,.mv (.t 5)⟩,⟨some 11,none,.bin .add false (.t 10) (.c (.int .i64 1))⟩,⟨some 5,none,.mv (.t 11)⟩])))))) (.seq (.reg [⟨some 44,none,.mv (.t 1)⟩,⟨some 4,none,.mv (.t 44)⟩]) .ret)))
theorem Lx:Am Tryz.prog 36=some ⟨45,G1,[(.tmp 4)]⟩:=by kernel_rfl
theorem G2:modes 36=⟨[],.asis,none,false⟩:=by unfold modes; rfl
theorem Lt.mkS_len:∀ (xs:List Lt) (k:Int),(Lt.mkS xs k).1.length=xs.length
  | [],k=>by rw [Lt.mkS]
  | x :: xs,k=>by rw [Lt.mkS]; simp only [List.length_cons]; rw [Lt.mkS_len xs]
abbrev KD (xs:List Lt):Prop:=∀ k:Int,1≤k→k+Lt.wtS xs≤1099511627776→E 36 [.arr ((Lt.mkS xs k).1.map Lt.d),.int .i64 k] []=some (.int .i64 (Lt.mkS xs k).2,[])
theorem Nk (xs:List Lt):KD xs:=by
  intro k0 h1 h2
  obtain ⟨ys,hys⟩:∃ ys,ys=(Lt.mkS xs k0).1:=⟨_,rfl⟩
  have hyl:ys.length=xs.length:=by rw [hys,Lt.mkS_len]
  rw [← hys]
  have hL:=Lt.length_wt xs
  refine Ah Lx G2 (of_decide_eq_true rfl) ?_
  simp (disch:=omega) only [G1,go_sem,Aa]
  refine As (α:=Int × (Int)) (fun a=>⟨slots 45 0 [(0,.arr (ys.map Lt.d)),(1,.int .i64 (a.2)),(5,.int .i64 (a.1))],[]⟩) (fun a=>∃ k:Nat,a.1=k∧k≤(ys).length∧1≤(a.2)∧(a.2)+Lt.wtS (xs.drop k)=k0+Lt.wtS xs∧ys.drop k=(Lt.mkS (xs.drop k) (a.2)).1∧(Lt.mkS xs k0).2=(Lt.mkS (xs.drop k) (a.2)).2) (fun a=>(ys).length - (a.1).toNat) (0,k0) ⟨0,rfl,Nat.zero_le _,h1,by rw [List.drop_zero],by rw [List.drop_zero,List.drop_zero,hys],by rw [List.drop_zero]⟩ (by simp (disch:=omega) only [go_sem,Aa]) ?_
  rintro ⟨i,kk⟩ ⟨k,hi,hk,hR⟩
  dsimp only at hi hR
  have hni:i.toNat=k:=by omega
  have hni1:(i+1).toNat=k+1:=by omega
  rcases Nat.lt_or_ge k (ys).length with hlt | hge
  · obtain ⟨hk1,hkn,hy,hm⟩:=hR
    have hlx:k < xs.length:=by omega
    have hdr:xs.drop k=xs[k] :: xs.drop (k+1):=List.drop_eq_getElem_cons hlx
    have hdy:=List.drop_eq_getElem_cons hlt
    rw [hdr,Lt.wtS] at hkn
    rw [hdr,Lt.mkS] at hm
    rw [hdr,Lt.mkS,hdy] at hy
    dsimp only at hy hm
    obtain ⟨hy1,hy2⟩:=List.cons.inj hy
    have hg:=Aq Lt.d hlt
    rw [hy1,Lt.mk1_d] at hg
    have hn1:=Lt.wt_eq xs[k]
    have e2:=Tm.mkS_end xs[k].atom.args ((kk+1+1))
    have t0:=Jl (k:=(kk+1)) (by omega) (by omega)
    have c64:=W8 xs[k].atom.args ((kk+1+1)) (by omega) (by omega)
    have he:=Lt.mk1_end xs[k] kk
    simp (disch:=omega) only [go_sem,Aa,hni,hg,E5,D0,t0,c64,F7]
    refine ⟨(i+1,(xs[k].mk1 kk).2),⟨k+1,by dsimp only; omega,hlt,by dsimp only; omega,by dsimp only; omega,hy2,hm⟩,by dsimp only; omega,?_⟩
    dsimp only
    rw [Lt.mk1_eq]
    simp only [and_self,and_true,true_and]
    try omega
  · obtain ⟨hk1,hkn,hy,hm⟩:=hR
    have hdr:xs.drop k=[]:=List.drop_eq_nil_of_le (by omega)
    rw [hdr,Lt.mkS] at hm
    rw [hm]
    simp (disch:=omega) only [go_sem,Aa,hni]
theorem Rx (xs:List Lt):KD xs:=Nk xs
theorem Qdl {o:Ob} {es:List (List OT)} (h:Cd [o]=[.tree es []]):(∃ a b,o=.row a b es)∨o=.tree es []:=by
  cases o with
  | row a b e=>obtain ⟨h1,h2⟩:=List.cons.inj h; cases h1; exact .inl ⟨a,b,rfl⟩
  | tree e hs=>obtain ⟨h1,h2⟩:=List.cons.inj h; cases h1; exact .inr rfl
  | _=>simp [Cd] at h
noncomputable def Cl.mkr (x:Cl) (k:Int):Cl × Int:=((Cl.mk ((Lt.mkS x.lits k).1)),(Lt.mkS x.lits k).2)
def HK:SC:=(.seq (.reg [⟨some 2,none,.boxv 28 1 (.t 0)⟩,⟨some 4,none,.mv (.c (.int .i64 0))⟩]) (.seq (.reg [⟨some 5,none,.faddr 0 (.t 2)⟩,⟨some 6,none,.load false 1 (.t 5)⟩,⟨some 7,none,.mv (.t 1)⟩,⟨some 8,none,.call 35 [(.t 6),(.t 7)]⟩,⟨some 1,none,.mv (.t 8)⟩]) (.seq (.reg [⟨some 9,none,.mv (.t 1)⟩,⟨some 4,none,.mv (.t 9)⟩]) .ret)))
theorem Nl:Am Tryz.prog 13=some ⟨10,HK,[(.tmp 4)]⟩:=by kernel_rfl
theorem CQ:modes 13=⟨[true],.asis,none,false⟩:=by unfold modes; rfl
theorem Nm (x:Cl) (k:Int) (o0:Ob) (h1:1≤k) (h2:k+(Lt.wtS x.lits:Nat)≤1099511627776) (t0:Cd [o0]=[.tree (x.lits.map Lt.o) []]):E 13 [.agg [.ref 0],.int .i64 k] [o0]=some (.int .i64 (x.mkr k).2,[.tree ((Lt.mkS x.lits k).1.map Lt.o) []]):=by
  have e0:=Lt.mkS_end x.lits k
  rw [Cl.mkr]
  dsimp only
  have c0:=Rw x.lits k [o0] (by omega) (by omega) t0
  rcases Qdl t0 with ⟨a0,b0,rfl⟩ | rfl <;>
   (
    refine Ah Nl CQ (of_decide_eq_true rfl) ?_
    simp (disch:=omega) only [HK,go_sem,Aa,c0,G0])
def HL:SC:=(.seq (.reg [⟨some 2,none,.boxv 28 1 (.t 0)⟩,⟨some 4,none,.mv (.c (.int .i64 0))⟩]) (.seq (.reg [⟨some 5,none,.faddr 0 (.t 2)⟩,⟨some 6,none,.load false 1 (.t 5)⟩,⟨some 7,none,.mv (.t 1)⟩,⟨some 8,none,.call 36 [(.t 6),(.t 7)]⟩,⟨some 1,none,.mv (.t 8)⟩]) (.seq (.seq (.reg [⟨some 9,none,.mv (.t 1)⟩,⟨some 10,none,.bin .lss false (.t 9) (.c (.int .i64 0))⟩]) (.cond (.t 10) (.seq (.reg [⟨some 4,none,.mv (.c (.int .i64 (-(0+1))))⟩]) .ret) .skip)) (.seq (.reg [⟨some 11,none,.mv (.t 1)⟩,⟨some 4,none,.mv (.t 11)⟩]) .ret))))
theorem Nn:Am Tryz.prog 14=some ⟨12,HL,[(.tmp 4)]⟩:=by kernel_rfl
theorem CR:modes 14=⟨[],.asis,none,false⟩:=by unfold modes; rfl
theorem UJ (x:Cl) (k:Int) (h1:1≤k) (h2:k+(Lt.wtS x.lits:Nat)≤1099511627776):E 14 [.agg [.arr ((Lt.mkS x.lits k).1.map Lt.d)],.int .i64 k] []=some (.int .i64 (x.mkr k).2,[]):=by
  have e0:=Lt.mkS_end x.lits k
  rw [Cl.mkr]
  dsimp only
  have c0:=Rx x.lits k (by omega) (by omega)
  refine Ah Nn CR (of_decide_eq_true rfl) ?_
  simp (disch:=omega) only [HL,go_sem,Aa,c0,G2]
def LE:SC:=(.seq (.reg [⟨some 2,none,.boxv 65 2 (.t 0)⟩,⟨some 4,none,.mv (.c (.int .i64 0))⟩]) (.seq (.reg [⟨some 5,none,.mv (.t 1)⟩,⟨some 6,none,.faddr 0 (.t 2)⟩,⟨some 7,none,.load false 1 (.t 6)⟩,⟨some 8,none,.len true (.t 7)⟩,⟨some 9,none,.bin .sub false (.t 5) (.t 8)⟩,⟨some 1,none,.mv (.t 9)⟩]) (.seq (.seq (.reg [⟨some 10,none,.mv (.t 1)⟩,⟨some 11,none,.bin .lss false (.t 10) (.c (.int .i64 0))⟩]) (.cond (.t 11) (.seq (.reg [⟨some 4,none,.mv (.c (.int .i64 (-(0+1))))⟩]) .ret) .skip)) (.seq (.reg [⟨some 12,none,.faddr 1 (.t 2)⟩,⟨some 13,none,.load false 1 (.t 12)⟩,⟨some 14,none,.mv (.t 1)⟩,⟨some 15,none,.call 102 [(.t 13),(.t 14)]⟩,⟨some 1,none,.mv (.t 15)⟩]) (.seq (.seq (.reg [⟨some 16,none,.mv (.t 1)⟩,⟨some 17,none,.bin .lss false (.t 16) (.c (.int .i64 0))⟩]) (.cond (.t 17) (.seq (.reg [⟨some 4,none,.mv (.c (.int .i64 (-(0+1))))⟩]) .ret) .skip)) (.seq (.reg [⟨some 18,none,.mv (.t 1)⟩,⟨some 4,none,.mv (.t 18)⟩]) .ret))))))
theorem Sq:Am Tryz.prog 71=some ⟨19,LE,[(.tmp 4)]⟩:=by kernel_rfl
theorem FH:modes 71=⟨[],.asis,none,false⟩:=by unfold modes; rfl
def KE:SC:=(.seq (.reg [⟨some 4,none,.mv (.c (.int .i64 0))⟩]) (.seq (.reg [⟨some 6,none,.mv (.t 1)⟩,⟨some 7,none,.mv (.t 0)⟩,⟨some 8,none,.len false (.t 7)⟩,⟨some 9,none,.bin .sub false (.t 6) (.t 8)⟩,⟨some 1,none,.mv (.t 9)⟩]) (.seq (.seq (.reg [⟨some 10,none,.mv (.t 1)⟩,⟨some 11,none,.bin .lss false (.t 10) (.c (.int .i64 0))⟩]) (.cond (.t 11) (.seq (.reg [⟨some 4,none,.mv (.c (.int .i64 (-(0+1))))⟩]) .ret) .skip)) (.seq (.seq (.reg [⟨some 5,none,.mv (.c (.int .i64 0))⟩]) (.block 0 (.loop [1,1,0,0,0,1,0,0,0,0,0,0,0,0,0,0,0,0,0,0,0,0,0,0,0,0,0] (.seq (.seq (.reg [⟨some 12,none,.mv (.t 5)⟩,⟨some 13,none,.mv (.t 0)⟩,⟨some 14,none,.len false (.t 13)⟩,⟨some 15,none,.bin .lss false (.t 12) (.t 14)⟩]) (.cond (.t 15) .skip (.exit 0))) (.seq (.block 1 (.seq (.reg [⟨some 18,none,.mv (.t 0)⟩,⟨some 19,none,.mv (.t 5)⟩,⟨some 20,none,.iaddr 2 (.t 18) (.t 19)⟩,⟨some 21,none,.load true 2 (.t 20)⟩,⟨some 22,none,.mv (.t 1)⟩,⟨some 23,none,.call 71 [(.t 21),(.t 22)]⟩,⟨some 1,none,.mv (.t 23)⟩]) (.seq (.reg [⟨some 24,none,.mv (.t 1)⟩,⟨some 25,none,.bin .lss false (.t 24) (.c (.int .i64 0))⟩]) (.cond (.t 25) (.seq (.reg [⟨some 4,none,.mv (.c (.int .i64 (-(0+1))))⟩]) .ret) .skip)))) (.reg [⟨some 16,none,.mv (.t 5)⟩,⟨some 17,none,.bin .add false (.t 16) (.c (.int .i64 1))⟩,⟨some 5,none,.mv (.t 17)⟩])))))) (.seq (.reg [⟨some 26,none,.mv (.t 1)⟩,⟨some 4,none,.mv (.t 26)⟩]) .ret)))))
theorem Ry:Am Tryz.prog 102=some ⟨27,KE,[(.tmp 4)]⟩:=by kernel_rfl
theorem Hr:modes 102=⟨[],.asis,none,false⟩:=by unfold modes; rfl
abbrev No (x:Tm):Prop:=D.fits x.d→∀ left:Int,0≤left→left≤1048576→E 71 [x.sv,.int .i64 left] []=some (.int .i64 (szR left x.bulk),[])
abbrev TD (xs:List Tm):Prop:=D.fit (.arr (xs.map Tm.d))→∀ left:Int,0≤left→left≤1048576→E 102 [.arr (xs.map Tm.d),.int .i64 left] []=some (.int .i64 (szR left (xs.length+Tm.sumB xs:Nat)),[])
theorem UK (xs:List Tm) (h:∀ x∈xs,No x):TD xs:=by
  intro hfit left h0 h1
  simp only [D.fit,List.length_map] at hfit
  have q0:=BN left (xs.length+Tm.sumB xs)
  refine Ah Ry Hr (of_decide_eq_true rfl) ?_
  simp (disch:=omega) only [KE,go_sem,Aa]
  repeat' (refine Dr (fun hq=>?_) (fun hq=>?_) <;> (first | replace hq:=Ax.1 hq | replace hq:=CF.1 hq) <;> (try simp (disch:=omega) only [go_sem,Aa]))
  · omega
  refine As (α:=Int × Int) (fun a=>⟨slots 27 0 [(0,.arr (xs.map Tm.d)),(1,.int .i64 a.2),(5,.int .i64 a.1)],[]⟩) (fun a=>∃ k:Nat,a.1=k∧k≤xs.length∧0≤a.2∧a.2≤1048576∧szR a.2 (Tm.sumB (xs.drop k))=szR left (xs.length+Tm.sumB xs:Nat)) (fun a=>xs.length - a.1.toNat) (0,left - xs.length) ⟨0,rfl,Nat.zero_le _,by omega,by omega,?_⟩ (by simp (disch:=omega) only [go_sem,Aa]) ?_
  · have q1:=BN (left - xs.length) (Tm.sumB xs)
    rw [List.drop_zero]
    dsimp only
    omega
  · rintro ⟨i,l⟩ ⟨k,hi,hk,hl0,hl1,hs⟩
    dsimp only at hi hl0 hl1 hs
    rcases Nat.lt_or_ge k xs.length with hlt | hge
    · have hg:=Aq Tm.d hlt
      rw [Tm.d_eq] at hg
      have hd:Tm.sumB (xs.drop k)=xs[k].bulk+Tm.sumB (xs.drop (k+1)):=by rw [List.drop_eq_getElem_cons hlt,Tm.sumB]
      rw [hd] at hs
      have hc:=h xs[k] (List.getElem_mem hlt) (D.Od hfit.2 _ (List.getElem_mem hlt)) l hl0 hl1
      have q1:=BN l xs[k].bulk
      have q2:=BN l (xs[k].bulk+Tm.sumB (xs.drop (k+1)))
      have q3:=BN (l - xs[k].bulk) (Tm.sumB (xs.drop (k+1)))
      have hn:i.toNat=k:=by omega
      simp (disch:=omega) only [go_sem,Aa,hn,hg,hc,FH]
      repeat' (refine Dr (fun hq=>?_) (fun hq=>?_) <;> (first | replace hq:=Ax.1 hq | replace hq:=CF.1 hq) <;> (try simp (disch:=omega) only [go_sem,Aa]))
      · omega
      · refine ⟨(i+1,l - xs[k].bulk),⟨k+1,by dsimp only; omega,hlt,by dsimp only; omega,by dsimp only; omega,by dsimp only; omega⟩,by dsimp only; omega,?_⟩
        have e:szR l xs[k].bulk=l - xs[k].bulk:=by omega
        simp only [e,and_self]
    · have hd:xs.drop k=[]:=List.drop_eq_nil_of_le hge
      rw [hd] at hs
      have q1:=BN l (Tm.sumB [])
      simp only [Tm.sumB] at hs q1
      simp (disch:=omega) only [go_sem,Aa]
      omega
theorem W9 (x:Tm) (h_args:TD x.args):No x:=by
  intro hfit left h0 h1
  rw [Tm.d_eq] at hfit
  simp only [D.fits,D.fit] at hfit
  replace h_args:=h_args (by simp only [D.fit,List.length_map]; simp only [List.length_map] at hfit; simp only [hfit,and_self])
  have q:=BN left x.bulk
  have qb:=Tm.bulk_eq x
  have q0:=BN (left - (x.name.size:Int)) ((x.args.length+Tm.sumB x.args))
  refine Ah Sq FH (of_decide_eq_true rfl) ?_
  simp (disch:=omega) only [LE,go_sem,Aa,h_args,Hr]
  repeat' (refine Dr (fun hq=>?_) (fun hq=>?_) <;> (first | replace hq:=Ax.1 hq | replace hq:=CF.1 hq) <;> (try simp (disch:=omega) only [go_sem,Aa,h_args,Hr]))
  all_goals omega
theorem WA (x:Tm):No x:=W9 x (UK x.args fun y hy=>WA y)
termination_by SizeOf.sizeOf x
decreasing_by exact Tm.Az hy
def IL:SC:=(.seq (.reg [⟨some 2,none,.boxv 67 3 (.t 0)⟩,⟨some 4,none,.mv (.c (.int .i64 0))⟩]) (.seq (.reg [⟨some 5,none,.faddr 1 (.t 2)⟩,⟨some 6,none,.load true 2 (.t 5)⟩,⟨some 7,none,.mv (.t 1)⟩,⟨some 8,none,.call 71 [(.t 6),(.t 7)]⟩,⟨some 1,none,.mv (.t 8)⟩]) (.seq (.seq (.reg [⟨some 9,none,.mv (.t 1)⟩,⟨some 10,none,.bin .lss false (.t 9) (.c (.int .i64 0))⟩]) (.cond (.t 10) (.seq (.reg [⟨some 4,none,.mv (.c (.int .i64 (-(0+1))))⟩]) .ret) .skip)) (.seq (.reg [⟨some 11,none,.mv (.t 1)⟩,⟨some 4,none,.mv (.t 11)⟩]) .ret))))
theorem Ox:Am Tryz.prog 46=some ⟨12,IL,[(.tmp 4)]⟩:=by kernel_rfl
theorem IM:modes 46=⟨[],.asis,none,false⟩:=by unfold modes; rfl
def HM:SC:=(.seq (.reg [⟨some 4,none,.mv (.c (.int .i64 0))⟩]) (.seq (.reg [⟨some 6,none,.mv (.t 1)⟩,⟨some 7,none,.mv (.t 0)⟩,⟨some 8,none,.len false (.t 7)⟩,⟨some 9,none,.bin .sub false (.t 6) (.t 8)⟩,⟨some 1,none,.mv (.t 9)⟩]) (.seq (.seq (.reg [⟨some 10,none,.mv (.t 1)⟩,⟨some 11,none,.bin .lss false (.t 10) (.c (.int .i64 0))⟩]) (.cond (.t 11) (.seq (.reg [⟨some 4,none,.mv (.c (.int .i64 (-(0+1))))⟩]) .ret) .skip)) (.seq (.seq (.reg [⟨some 5,none,.mv (.c (.int .i64 0))⟩]) (.block 0 (.loop [1,1,0,0,0,1,0,0,0,0,0,0,0,0,0,0,0,0,0,0,0,0,0,0,0,0,0] (.seq (.seq (.reg [⟨some 12,none,.mv (.t 5)⟩,⟨some 13,none,.mv (.t 0)⟩,⟨some 14,none,.len false (.t 13)⟩,⟨some 15,none,.bin .lss false (.t 12) (.t 14)⟩]) (.cond (.t 15) .skip (.exit 0))) (.seq (.block 1 (.seq (.reg [⟨some 18,none,.mv (.t 0)⟩,⟨some 19,none,.mv (.t 5)⟩,⟨some 20,none,.iaddr 3 (.t 18) (.t 19)⟩,⟨some 21,none,.load true 3 (.t 20)⟩,⟨some 22,none,.mv (.t 1)⟩,⟨some 23,none,.call 46 [(.t 21),(.t 22)]⟩,⟨some 1,none,.mv (.t 23)⟩]) (.seq (.reg [⟨some 24,none,.mv (.t 1)⟩,⟨some 25,none,.bin .lss false (.t 24) (.c (.int .i64 0))⟩]) (.cond (.t 25) (.seq (.reg [⟨some 4,none,.mv (.c (.int .i64 (-(0+1))))⟩]) .ret) .skip)))) (.reg [⟨some 16,none,.mv (.t 5)⟩,⟨some 17,none,.bin .add false (.t 16) (.c (.int .i64 1))⟩,⟨some 5,none,.mv (.t 17)⟩])))))) (.seq (.reg [⟨some 26,none,.mv (.t 1)⟩,⟨some 4,none,.mv (.t 26)⟩]) .ret)))))
theorem Np:Am Tryz.prog 28=some ⟨27,HM,[(.tmp 4)]⟩:=by kernel_rfl
theorem Fg:modes 28=⟨[],.asis,none,false⟩:=by unfold modes; rfl
abbrev KF (x:Lt):Prop:=D.fits x.d→∀ left:Int,0≤left→left≤1048576→E 46 [x.sv,.int .i64 left] []=some (.int .i64 (szR left x.bulk),[])
abbrev Nq (xs:List Lt):Prop:=D.fit (.arr (xs.map Lt.d))→∀ left:Int,0≤left→left≤1048576→E 28 [.arr (xs.map Lt.d),.int .i64 left] []=some (.int .i64 (szR left (xs.length+Lt.sumB xs:Nat)),[])
theorem Pq (xs:List Lt) (h:∀ x∈xs,KF x):Nq xs:=by
  intro hfit left h0 h1
  simp only [D.fit,List.length_map] at hfit
  have q0:=BN left (xs.length+Lt.sumB xs)
  refine Ah Np Fg (of_decide_eq_true rfl) ?_
  simp (disch:=omega) only [HM,go_sem,Aa]
  repeat' (refine Dr (fun hq=>?_) (fun hq=>?_) <;> (first | replace hq:=Ax.1 hq | replace hq:=CF.1 hq) <;> (try simp (disch:=omega) only [go_sem,Aa]))
  · omega
  refine As (α:=Int × Int) (fun a=>⟨slots 27 0 [(0,.arr (xs.map Lt.d)),(1,.int .i64 a.2),(5,.int .i64 a.1)],[]⟩) (fun a=>∃ k:Nat,a.1=k∧k≤xs.length∧0≤a.2∧a.2≤1048576∧szR a.2 (Lt.sumB (xs.drop k))=szR left (xs.length+Lt.sumB xs:Nat)) (fun a=>xs.length - a.1.toNat) (0,left - xs.length) ⟨0,rfl,Nat.zero_le _,by omega,by omega,?_⟩ (by simp (disch:=omega) only [go_sem,Aa]) ?_
  · have q1:=BN (left - xs.length) (Lt.sumB xs)
    rw [List.drop_zero]
    dsimp only
    omega
  · rintro ⟨i,l⟩ ⟨k,hi,hk,hl0,hl1,hs⟩
    dsimp only at hi hl0 hl1 hs
    rcases Nat.lt_or_ge k xs.length with hlt | hge
    · have hg:=Aq Lt.d hlt
      rw [Lt.d_eq] at hg
      have hd:Lt.sumB (xs.drop k)=xs[k].bulk+Lt.sumB (xs.drop (k+1)):=by rw [List.drop_eq_getElem_cons hlt,Lt.sumB]
      rw [hd] at hs
      have hc:=h xs[k] (List.getElem_mem hlt) (D.Od hfit.2 _ (List.getElem_mem hlt)) l hl0 hl1
      have q1:=BN l xs[k].bulk
      have q2:=BN l (xs[k].bulk+Lt.sumB (xs.drop (k+1)))
      have q3:=BN (l - xs[k].bulk) (Lt.sumB (xs.drop (k+1)))
      have hn:i.toNat=k:=by omega
      simp (disch:=omega) only [go_sem,Aa,hn,hg,hc,IM]
      repeat' (refine Dr (fun hq=>?_) (fun hq=>?_) <;> (first | replace hq:=Ax.1 hq | replace hq:=CF.1 hq) <;> (try simp (disch:=omega) only [go_sem,Aa]))
      · omega
      · refine ⟨(i+1,l - xs[k].bulk),⟨k+1,by dsimp only; omega,hlt,by dsimp only; omega,by dsimp only; omega,by dsimp only; omega⟩,by dsimp only; omega,?_⟩
        have e:szR l xs[k].bulk=l - xs[k].bulk:=by omega
        simp only [e,and_self]
    · have hd:xs.drop k=[]:=List.drop_eq_nil_of_le hge
      rw [hd] at hs
      have q1:=BN l (Lt.sumB [])
      simp only [Lt.sumB] at hs q1
      simp (disch:=omega) only [go_sem,Aa]
      omega
theorem Rz (x:Lt) (h_atom:No x.atom):KF x:=by
  intro hfit left h0 h1
  rw [Lt.d_eq] at hfit
  simp only [D.fits,D.fit] at hfit
  replace h_atom:=h_atom (by rw [Tm.d_eq]; simp only [D.fits,D.fit,hfit,and_self])
  have q:=BN left x.bulk
  have qb:=Lt.bulk_eq x
  have q0:=BN left (x.atom.bulk)
  refine Ah Ox IM (of_decide_eq_true rfl) ?_
  simp (disch:=omega) only [IL,go_sem,Aa,h_atom,FH]
  repeat' (refine Dr (fun hq=>?_) (fun hq=>?_) <;> (first | replace hq:=Ax.1 hq | replace hq:=CF.1 hq) <;> (try simp (disch:=omega) only [go_sem,Aa,h_atom,FH]))
  all_goals omega
theorem WB (x:Lt):KF x:=Rz x (WA x.atom)
def JE:SC:=(.seq (.reg [⟨some 2,none,.boxv 24 1 (.t 0)⟩,⟨some 4,none,.mv (.c (.int .i64 0))⟩]) (.seq (.reg [⟨some 5,none,.faddr 0 (.t 2)⟩,⟨some 6,none,.load false 1 (.t 5)⟩,⟨some 7,none,.mv (.t 1)⟩,⟨some 8,none,.call 28 [(.t 6),(.t 7)]⟩,⟨some 1,none,.mv (.t 8)⟩]) (.seq (.seq (.reg [⟨some 9,none,.mv (.t 1)⟩,⟨some 10,none,.bin .lss false (.t 9) (.c (.int .i64 0))⟩]) (.cond (.t 10) (.seq (.reg [⟨some 4,none,.mv (.c (.int .i64 (-(0+1))))⟩]) .ret) .skip)) (.seq (.reg [⟨some 11,none,.mv (.t 1)⟩,⟨some 4,none,.mv (.t 11)⟩]) .ret))))
theorem Pr:Am Tryz.prog 8=some ⟨12,JE,[(.tmp 4)]⟩:=by kernel_rfl
theorem CL:modes 8=⟨[],.asis,none,false⟩:=by unfold modes; rfl
abbrev R0 (x:Cl):Prop:=D.fits x.d→∀ left:Int,0≤left→left≤1048576→E 8 [x.sv,.int .i64 left] []=some (.int .i64 (szR left x.bulk),[])
theorem Sr (x:Cl) (h_lits:Nq x.lits):R0 x:=by
  intro hfit left h0 h1
  rw [Cl.d_eq] at hfit
  simp only [D.fits,D.fit] at hfit
  replace h_lits:=h_lits (by simp only [D.fit,List.length_map]; simp only [List.length_map] at hfit; simp only [hfit,and_self])
  have q:=BN left x.bulk
  have qb:=Cl.bulk_eq x
  have q0:=BN left ((x.lits.length+Lt.sumB x.lits))
  refine Ah Pr CL (of_decide_eq_true rfl) ?_
  simp (disch:=omega) only [JE,go_sem,Aa,h_lits,Fg]
  repeat' (refine Dr (fun hq=>?_) (fun hq=>?_) <;> (first | replace hq:=Ax.1 hq | replace hq:=CF.1 hq) <;> (try simp (disch:=omega) only [go_sem,Aa,h_lits,Fg]))
  all_goals omega
theorem Y5 (x:Cl):R0 x:=Sr x (Pq x.lits fun y hy=>WB y)
def LF:SC:=(.seq (.reg [⟨some 1,none,.boxv 65 2 (.t 0)⟩,⟨(some 2),none,(.alloc 71 [(.str ⟨#[]⟩),.nil])⟩]) (.seq (.reg [⟨(some 3),none,(.alloc 71 [(.str ⟨#[]⟩),.nil])⟩]) (.seq (.reg [⟨some 4,none,.faddr 0 (.t 1)⟩,⟨some 5,none,.load false 1 (.t 4)⟩,⟨some 6,none,.faddr 0 (.t 3)⟩,⟨none,none,(.store 1 (.t 6) (.t 5))⟩]) (.seq (.reg [⟨some 7,none,.faddr 1 (.t 1)⟩,⟨some 8,none,.load false 1 (.t 7)⟩,⟨some 9,none,.call 118 [(.t 8)]⟩,⟨some 10,none,.faddr 1 (.t 3)⟩,⟨none,none,(.store 1 (.t 10) (.t 9))⟩]) (.seq (.reg [⟨some 11,none,.load true 2 (.t 3)⟩,⟨none,none,(.store 2 (.t 2) (.t 11))⟩]) .ret)))))
theorem Ss:Am Tryz.prog 81=some ⟨12,LF,[(.cell 2 true 2)]⟩:=by kernel_rfl
theorem Io:modes 81=⟨[],.asis,none,false⟩:=by unfold modes; rfl
def KG:SC:=(.seq (.reg [⟨some 2,none,.mv (.c .nil)⟩]) (.seq (.reg [⟨some 5,none,.mv (.t 0)⟩,⟨some 6,none,.len false (.t 5)⟩,⟨(some 7),none,(.mkslice 71 2 40 [(.str ⟨#[]⟩),.nil] (.t 6))⟩,⟨some 3,none,.mv (.t 7)⟩]) (.seq (.seq (.reg [⟨some 4,none,.mv (.c (.int .i64 0))⟩]) (.block 0 (.loop [1,0,0,1,1,0,0,0,0,0,0,0,0,0,0,0,0,0,0,0,0,0,0] (.seq (.seq (.reg [⟨some 8,none,.mv (.t 4)⟩,⟨some 9,none,.mv (.t 0)⟩,⟨some 10,none,.len false (.t 9)⟩,⟨some 11,none,.bin .lss false (.t 8) (.t 10)⟩]) (.cond (.t 11) .skip (.exit 0))) (.seq (.block 1 (.reg [⟨some 14,none,.mv (.t 3)⟩,⟨some 15,none,.mv (.t 4)⟩,⟨some 16,none,.mv (.t 0)⟩,⟨some 17,none,.mv (.t 4)⟩,⟨some 18,none,.iaddr 2 (.t 16) (.t 17)⟩,⟨some 19,none,.load true 2 (.t 18)⟩,⟨some 20,none,.call 81 [(.t 19)]⟩,⟨some 21,none,.iaddr 2 (.t 14) (.t 15)⟩,⟨none,none,(.store 2 (.t 21) (.t 20))⟩])) (.reg [⟨some 12,none,.mv (.t 4)⟩,⟨some 13,none,.bin .add false (.t 12) (.c (.int .i64 1))⟩,⟨some 4,none,.mv (.t 13)⟩])))))) (.seq (.reg [⟨some 22,none,.mv (.t 3)⟩,⟨some 2,none,.mv (.t 22)⟩]) .ret))))
theorem R1:Am Tryz.prog 118=some ⟨23,KG,[(.tmp 2)]⟩:=by kernel_rfl
theorem KH:modes 118=⟨[],.asis,none,false⟩:=by unfold modes; rfl
abbrev Nr (x:Tm):Prop:=x.bulk≤1048576→E 81 [x.sv] []=some (x.osv,x.obs)
abbrev TE (xs:List Tm):Prop:=xs.length+Tm.sumB xs≤1048576→E 118 [.arr (xs.map Tm.d)] []=some (.ref 0,[.row 71 2 (xs.map Tm.o)])
theorem UL (xs:List Tm) (h:∀ x∈xs,Nr x):TE xs:=by
  intro hb
  refine Ah R1 KH (of_decide_eq_true rfl) ?_
  simp (disch:=omega) only [KG,go_sem,Aa]
  refine As (α:=Int) (fun i=>⟨slots 23 0 [(0,.arr (xs.map Tm.d)),(3,.ref 0),(4,.int .i64 i)],[.row 71 2 (FS Tm.o [.str ⟨#[]⟩,.ow []] xs i.toNat)]⟩) (fun i=>∃ k:Nat,i=k∧k≤xs.length) (fun i=>xs.length - i.toNat) 0 ⟨0,rfl,Nat.zero_le _⟩ (by simp (disch:=omega) only [go_sem,Aa,Jm,Int.toNat_zero]) ?_
  · rintro i ⟨k,rfl,hk⟩
    obtain ⟨i,hi⟩:∃ i:Int,i=(k:Int):=⟨_,rfl⟩
    rw [← hi]
    have hn:i.toNat=k:=by omega
    have hn1:(i+1).toNat=k+1:=by omega
    rcases Nat.lt_or_ge k xs.length with hlt | hge
    · have hg:=Aq Tm.d hlt
      rw [Tm.d_eq] at hg
      have hz:=Lh Tm.o [.str ⟨#[]⟩,.ow []] hlt
      have hle:=Tm.bulk_le xs k hlt
      have hc:=h xs[k] (List.getElem_mem hlt) (by omega)
      have hs:=Li Tm.o [.str ⟨#[]⟩,.ow []] hlt
      rw [Tm.o_eq] at hs
      simp (disch:=omega) only [go_sem,Aa,hn,hg,hc,hz,Lf,Io,Tm.osv,Tm.obs]
      refine ⟨i+1,⟨k+1,by omega,hlt⟩,by omega,?_⟩
      simp (disch:=omega) only [go_sem,Aa,hn1,hs]
    · obtain rfl:k=xs.length:=by omega
      simp (disch:=omega) only [go_sem,Aa,hn,Lg]
theorem WC (x:Tm) (h_args:TE x.args):Nr x:=by
  intro hb
  have qb:=Tm.bulk_eq x
  replace h_args:=h_args (by omega)
  refine Ah Ss Io (of_decide_eq_true rfl) ?_
  simp (disch:=omega) only [LF,go_sem,Aa,h_args,KH]
theorem WD (x:Tm):Nr x:=WC x (UL x.args fun y hy=>WD y)
termination_by SizeOf.sizeOf x
decreasing_by exact Tm.Az hy
def IN:SC:=(.seq (.reg [⟨some 1,none,.boxv 67 3 (.t 0)⟩,⟨(some 2),none,(.alloc 73 [(.bool false),(.str ⟨#[]⟩),.nil])⟩]) (.seq (.reg [⟨(some 3),none,(.alloc 73 [(.bool false),(.str ⟨#[]⟩),.nil])⟩]) (.seq (.reg [⟨some 4,none,.faddr 0 (.t 1)⟩,⟨some 5,none,.load false 1 (.t 4)⟩,⟨some 6,none,.faddr 0 (.t 3)⟩,⟨none,none,(.store 1 (.t 6) (.t 5))⟩]) (.seq (.reg [⟨some 7,none,.faddr 1 (.t 1)⟩,⟨some 8,none,.load true 2 (.t 7)⟩,⟨some 9,none,.call 81 [(.t 8)]⟩,⟨some 10,none,.faddr 1 (.t 3)⟩,⟨none,none,(.store 2 (.t 10) (.t 9))⟩]) (.seq (.reg [⟨some 11,none,.load true 3 (.t 3)⟩,⟨none,none,(.store 3 (.t 2) (.t 11))⟩]) .ret)))))
theorem Oy:Am Tryz.prog 53=some ⟨12,IN,[(.cell 2 true 3)]⟩:=by kernel_rfl
theorem IO:modes 53=⟨[],.asis,none,false⟩:=by unfold modes; rfl
def HN:SC:=(.seq (.reg [⟨some 2,none,.mv (.c .nil)⟩]) (.seq (.reg [⟨some 5,none,.mv (.t 0)⟩,⟨some 6,none,.len false (.t 5)⟩,⟨(some 7),none,(.mkslice 73 3 48 [(.bool false),(.str ⟨#[]⟩),.nil] (.t 6))⟩,⟨some 3,none,.mv (.t 7)⟩]) (.seq (.seq (.reg [⟨some 4,none,.mv (.c (.int .i64 0))⟩]) (.block 0 (.loop [1,0,0,1,1,0,0,0,0,0,0,0,0,0,0,0,0,0,0,0,0,0,0] (.seq (.seq (.reg [⟨some 8,none,.mv (.t 4)⟩,⟨some 9,none,.mv (.t 0)⟩,⟨some 10,none,.len false (.t 9)⟩,⟨some 11,none,.bin .lss false (.t 8) (.t 10)⟩]) (.cond (.t 11) .skip (.exit 0))) (.seq (.block 1 (.reg [⟨some 14,none,.mv (.t 3)⟩,⟨some 15,none,.mv (.t 4)⟩,⟨some 16,none,.mv (.t 0)⟩,⟨some 17,none,.mv (.t 4)⟩,⟨some 18,none,.iaddr 3 (.t 16) (.t 17)⟩,⟨some 19,none,.load true 3 (.t 18)⟩,⟨some 20,none,.call 53 [(.t 19)]⟩,⟨some 21,none,.iaddr 3 (.t 14) (.t 15)⟩,⟨none,none,(.store 3 (.t 21) (.t 20))⟩])) (.reg [⟨some 12,none,.mv (.t 4)⟩,⟨some 13,none,.bin .add false (.t 12) (.c (.int .i64 1))⟩,⟨some 4,none,.mv (.t 13)⟩])))))) (.seq (.reg [⟨some 22,none,.mv (.t 3)⟩,⟨some 2,none,.mv (.t 22)⟩]) .ret))))
theorem Ns:Am Tryz.prog 31=some ⟨23,HN,[(.tmp 2)]⟩:=by kernel_rfl
theorem HO:modes 31=⟨[],.asis,none,false⟩:=by unfold modes; rfl
abbrev KI (x:Lt):Prop:=x.bulk≤1048576→E 53 [x.sv] []=some (x.osv,x.obs)
abbrev Nt (xs:List Lt):Prop:=xs.length+Lt.sumB xs≤1048576→E 31 [.arr (xs.map Lt.d)] []=some (.ref 0,[.row 73 3 (xs.map Lt.o)])
theorem Ps (xs:List Lt) (h:∀ x∈xs,KI x):Nt xs:=by
  intro hb
  refine Ah Ns HO (of_decide_eq_true rfl) ?_
  simp (disch:=omega) only [HN,go_sem,Aa]
  refine As (α:=Int) (fun i=>⟨slots 23 0 [(0,.arr (xs.map Lt.d)),(3,.ref 0),(4,.int .i64 i)],[.row 73 3 (FS Lt.o [.bool false,.str ⟨#[]⟩,.ow []] xs i.toNat)]⟩) (fun i=>∃ k:Nat,i=k∧k≤xs.length) (fun i=>xs.length - i.toNat) 0 ⟨0,rfl,Nat.zero_le _⟩ (by simp (disch:=omega) only [go_sem,Aa,Jm,Int.toNat_zero]) ?_
  · rintro i ⟨k,rfl,hk⟩
    obtain ⟨i,hi⟩:∃ i:Int,i=(k:Int):=⟨_,rfl⟩
    rw [← hi]
    have hn:i.toNat=k:=by omega
    have hn1:(i+1).toNat=k+1:=by omega
    rcases Nat.lt_or_ge k xs.length with hlt | hge
    · have hg:=Aq Lt.d hlt
      rw [Lt.d_eq] at hg
      have hz:=Lh Lt.o [.bool false,.str ⟨#[]⟩,.ow []] hlt
      have hle:=Lt.bulk_le xs k hlt
      have hc:=h xs[k] (List.getElem_mem hlt) (by omega)
      have hs:=Li Lt.o [.bool false,.str ⟨#[]⟩,.ow []] hlt
      rw [Lt.o_eq] at hs
      simp (disch:=omega) only [go_sem,Aa,hn,hg,hc,hz,Lf,IO,Lt.osv,Lt.obs]
      refine ⟨i+1,⟨k+1,by omega,hlt⟩,by omega,?_⟩
      simp (disch:=omega) only [go_sem,Aa,hn1,hs]
    · obtain rfl:k=xs.length:=by omega
      simp (disch:=omega) only [go_sem,Aa,hn,Lg]
theorem R2 (x:Lt) (h_atom:Nr x.atom):KI x:=by
  intro hb
  have qb:=Lt.bulk_eq x
  replace h_atom:=h_atom (by omega)
  refine Ah Oy IO (of_decide_eq_true rfl) ?_
  simp (disch:=omega) only [IN,go_sem,Aa,h_atom,Io]
theorem WE (x:Lt):KI x:=R2 x (WD x.atom)
def JF:SC:=(.seq (.reg [⟨some 1,none,.boxv 24 1 (.t 0)⟩,⟨some 2,none,.alloc 28 [.nil]⟩]) (.seq (.reg [⟨some 3,none,.alloc 28 [.nil]⟩]) (.seq (.reg [⟨some 4,none,.faddr 0 (.t 1)⟩,⟨some 5,none,.load false 1 (.t 4)⟩,⟨some 6,none,.call 31 [(.t 5)]⟩,⟨some 7,none,.faddr 0 (.t 3)⟩,⟨none,none,(.store 1 (.t 7) (.t 6))⟩]) (.seq (.reg [⟨some 8,none,.load true 1 (.t 3)⟩,⟨none,none,(.store 1 (.t 2) (.t 8))⟩]) .ret))))
theorem Pt:Am Tryz.prog 10=some ⟨9,JF,[(.cell 2 true 1)]⟩:=by kernel_rfl
theorem D7:modes 10=⟨[],.asis,none,false⟩:=by unfold modes; rfl
abbrev R4 (x:Cl):Prop:=x.bulk≤1048576→E 10 [x.sv] []=some (x.osv,x.obs)
theorem Su (x:Cl) (h_lits:Nt x.lits):R4 x:=by
  intro hb
  have qb:=Cl.bulk_eq x
  replace h_lits:=h_lits (by omega)
  refine Ah Pt D7 (of_decide_eq_true rfl) ?_
  simp (disch:=omega) only [JF,go_sem,Aa,h_lits,HO]
theorem Y6 (x:Cl):R4 x:=Su x (Ps x.lits fun y hy=>WE y)
end Go.Proofs.YtibdknkacmimgaaGreatDoor
