/-
  This text holds, one behind the other: This text tells what the laws' measuring functions answer. No condition.
  This text tells what the laws' copying functions answer. No condition.
  This text tells what the laws' comparing functions answer. No condition.
  This text tells what composing substitutions answers in the program. No condition.
  This text tells what composing substitutions answers in both packages. No condition.
  This text tells what the variables of a term answer in the reference. No condition.
  This text holds the plain laws of unification: what the steps do, and that they end. No condition.
  This text tells how often a name occurs in a term. No condition.
  This text tells whether a name is in a list of names, in the reference. No condition.
  This text tells whether a variable occurs in a term, in the program. No condition.
  This text tells what the steps of unification answer in both packages. No condition.
  This text says how equations lie in memory. No condition.
  This text holds what unifying comes to. No condition.
  This text holds what factors and resolvents come to. No condition.
  This text names the parts of the program's unifying loop. No condition.
-/
import Derived.Test.YtibdknkacmimgaaGreatDoorK47c
import Derived.Test.YtibdknkacmimgaaGreatDoorK47d
set_option maxHeartbeats 16000000
open List renaming drop_eq_getElem_cons → zA, drop_eq_nil_of_le → zB, getElem_mem → zC, length_cons → zE, length_append → zG, length_map → zH, drop_zero → zJ, map_cons → zK, getElem_of_mem → zL, eq_nil_or_concat → zM, map_nil → zN, mem_cons → zP, all_eq_true → zR, cons_append → zS, mergeSort_perm → zT, mem_append → zU, length_nil → zV, map_map → zX, append_assoc → zY, all_map → zZ, filterMap_cons → z8, mergeSort_nil → yA, map_append → yH, nil_append → yI
open Bool renaming and_eq_true → zD, and_self → zO, false_and → yC, not_eq_true' → yD, not_not → yG, and_false → yJ, true_and → yK
open Nat renaming lt_or_ge → zF, zero_le → zI, le_refl → zW, eq_zero_or_pos → yB
open Int renaming toNat_zero → zQ
open List.cons renaming injEq → z7
open Option renaming getD_none → yF
set_option maxRecDepth 100000
set_option linter.unusedSimpArgs false
set_option linter.unusedVariables false
set_option linter.unusedSectionVars false
namespace Go.Proofs.YtibdknkacmimgaaGreatDoor
open Go.RowKit
def LK:SC:=(.seq (.reg [⟨some 2,none,.boxv 65 2 (.t 0)⟩,⟨some 4,none,.mv (.c (.int .i64 0))⟩]) (.seq (.reg [⟨some 5,none,.mv (.t 1)⟩,⟨some 6,none,.faddr 0 (.t 2)⟩,⟨some 7,none,.load false 1 (.t 6)⟩,⟨some 8,none,.len true (.t 7)⟩,⟨some 9,none,.bin .sub false (.t 5) (.t 8)⟩,⟨some 1,none,.mv (.t 9)⟩]) (.seq (.seq (.reg [⟨some 10,none,.mv (.t 1)⟩,⟨some 11,none,.bin .lss false (.t 10) (.c (.int .i64 0))⟩]) (.cond (.t 11) (.seq (.reg [⟨some 4,none,.mv (.c (.int .i64 (-(0+1))))⟩]) .ret) .skip)) (.seq (.reg [⟨some 12,none,.faddr 1 (.t 2)⟩,⟨some 13,none,.load false 1 (.t 12)⟩,⟨some 14,none,.mv (.t 1)⟩,⟨some 15,none,.call 102 [(.t 13),(.t 14)]⟩,⟨some 1,none,.mv (.t 15)⟩]) (.seq (.seq (.reg [⟨some 16,none,.mv (.t 1)⟩,⟨some 17,none,.bin .lss false (.t 16) (.c (.int .i64 0))⟩]) (.cond (.t 17) (.seq (.reg [⟨some 4,none,.mv (.c (.int .i64 (-(0+1))))⟩]) .ret) .skip)) (.seq (.reg [⟨some 18,none,.mv (.t 1)⟩,⟨some 4,none,.mv (.t 18)⟩]) .ret))))))
theorem S2:codeOf Tryz.prog 71=some ⟨19,LK,[(.tmp 4)]⟩:=by kernel_rfl
theorem FQ:modes 71=⟨[],.asis,none,false⟩:=by unfold modes; rfl
def KD:SC:=(.seq (.reg [⟨some 4,none,.mv (.c (.int .i64 0))⟩]) (.seq (.reg [⟨some 6,none,.mv (.t 1)⟩,⟨some 7,none,.mv (.t 0)⟩,⟨some 8,none,.len false (.t 7)⟩,⟨some 9,none,.bin .sub false (.t 6) (.t 8)⟩,⟨some 1,none,.mv (.t 9)⟩]) (.seq (.seq (.reg [⟨some 10,none,.mv (.t 1)⟩,⟨some 11,none,.bin .lss false (.t 10) (.c (.int .i64 0))⟩]) (.cond (.t 11) (.seq (.reg [⟨some 4,none,.mv (.c (.int .i64 (-(0+1))))⟩]) .ret) .skip)) (.seq (.seq (.reg [⟨some 5,none,.mv (.c (.int .i64 0))⟩]) (.block 0 (.loop [1,1,0,0,0,1,0,0,0,0,0,0,0,0,0,0,0,0,0,0,0,0,0,0,0,0,0] (.seq (.seq (.reg [⟨some 12,none,.mv (.t 5)⟩,⟨some 13,none,.mv (.t 0)⟩,⟨some 14,none,.len false (.t 13)⟩,⟨some 15,none,.bin .lss false (.t 12) (.t 14)⟩]) (.cond (.t 15) .skip (.exit 0))) (.seq (.block 1 (.seq (.reg [⟨some 18,none,.mv (.t 0)⟩,⟨some 19,none,.mv (.t 5)⟩,⟨some 20,none,.iaddr 2 (.t 18) (.t 19)⟩,⟨some 21,none,.load true 2 (.t 20)⟩,⟨some 22,none,.mv (.t 1)⟩,⟨some 23,none,.call 71 [(.t 21),(.t 22)]⟩,⟨some 1,none,.mv (.t 23)⟩]) (.seq (.reg [⟨some 24,none,.mv (.t 1)⟩,⟨some 25,none,.bin .lss false (.t 24) (.c (.int .i64 0))⟩]) (.cond (.t 25) (.seq (.reg [⟨some 4,none,.mv (.c (.int .i64 (-(0+1))))⟩]) .ret) .skip)))) (.reg [⟨some 16,none,.mv (.t 5)⟩,⟨some 17,none,.bin .add false (.t 16) (.c (.int .i64 1))⟩,⟨some 5,none,.mv (.t 17)⟩])))))) (.seq (.reg [⟨some 26,none,.mv (.t 1)⟩,⟨some 4,none,.mv (.t 26)⟩]) .ret)))))
theorem R6:codeOf Tryz.prog 102=some ⟨27,KD,[(.tmp 4)]⟩:=by kernel_rfl
theorem Hr:modes 102=⟨[],.asis,none,false⟩:=by unfold modes; rfl
abbrev Nw (x:Tm):Prop:=D.fits x.d→∀ left:Int,0≤left→left≤1048576→E 71 [x.sv,.int .i64 left] []=some (.int .i64 (szR left x.bulk),[])
abbrev TH (xs:List Tm):Prop:=D.fit (.arr (xs.map Tm.d))→∀ left:Int,0≤left→left≤1048576→E 102 [.arr (xs.map Tm.d),.int .i64 left] []=some (.int .i64 (szR left (xs.length+Tm.sumB xs:Nat)),[])
theorem UK (xs:List Tm) (h:∀ x∈xs,Nw x):TH xs:=by
  intro hfit left h0 h1
  simp only [D.fit,zH] at hfit
  have q0:=Bh left (xs.length+Tm.sumB xs)
  refine Af R6 Hr (of_decide_eq_true rfl) ?_
  simp (disch:=omega) only [KD,go_sem,Aa]
  repeat' (refine C8 (fun hq=>?_) (fun hq=>?_) <;> (first | replace hq:=Ar.1 hq | replace hq:=Ct.1 hq) <;> (try simp (disch:=omega) only [go_sem,Aa]))
  · omega
  refine go_loop (α:=Int × Int) (fun a=>⟨slots 27 0 [(0,.arr (xs.map Tm.d)),(1,.int .i64 a.2),(5,.int .i64 a.1)],[]⟩) (fun a=>∃ k:Nat,a.1=k∧k≤xs.length∧0≤a.2∧a.2≤1048576∧szR a.2 (Tm.sumB (xs.drop k))=szR left (xs.length+Tm.sumB xs:Nat)) (fun a=>xs.length-a.1.toNat) (0,left-xs.length) ⟨0,rfl,zI _,by omega,by omega,?_⟩ (by simp (disch:=omega) only [go_sem,Aa]) ?_
  · have q1:=Bh (left-xs.length) (Tm.sumB xs)
    rw [zJ]
    dsimp only
    omega
  · rintro ⟨i,l⟩ ⟨k,hi,hk,hl0,hl1,hs⟩
    dsimp only at hi hl0 hl1 hs
    rcases zF k xs.length with hlt | hge
    · have hg:=get_at Tm.d hlt
      rw [Tm.d_eq] at hg
      have hd:Tm.sumB (xs.drop k)=xs[k].bulk+Tm.sumB (xs.drop (k+1)):=by rw [zA hlt,Tm.sumB]
      rw [hd] at hs
      have hc:=h xs[k] (zC hlt) (D.Lj hfit.2 _ (zC hlt)) l hl0 hl1
      have q1:=Bh l xs[k].bulk
      have q2:=Bh l (xs[k].bulk+Tm.sumB (xs.drop (k+1)))
      have q3:=Bh (l-xs[k].bulk) (Tm.sumB (xs.drop (k+1)))
      have hn:i.toNat=k:=by omega
      simp (disch:=omega) only [go_sem,Aa,hn,hg,hc,FQ]
      repeat' (refine C8 (fun hq=>?_) (fun hq=>?_) <;> (first | replace hq:=Ar.1 hq | replace hq:=Ct.1 hq) <;> (try simp (disch:=omega) only [go_sem,Aa]))
      · omega
      · refine ⟨(i+1,l-xs[k].bulk),⟨k+1,by dsimp only; omega,hlt,by dsimp only; omega,by dsimp only; omega,by dsimp only; omega⟩,by dsimp only; omega,?_⟩
        have e:szR l xs[k].bulk=l-xs[k].bulk:=by omega
        simp only [e,and_self]
    · have hd:xs.drop k=[]:=zB hge
      rw [hd] at hs
      have q1:=Bh l (Tm.sumB [])
      simp only [Tm.sumB] at hs q1
      simp (disch:=omega) only [go_sem,Aa]
      omega
theorem WG (x:Tm) (h_args:TH x.args):Nw x:=by
 intro hfit left h0 h1
 rw [Tm.d_eq] at hfit
 simp only [D.fits,D.fit] at hfit
 replace h_args:=h_args (by simp only [D.fit,zH]; simp only [zH] at hfit; simp only [hfit,and_self])
 have q:=Bh left x.bulk
 have qb:=Tm.bulk_eq x
 have q0:=Bh (left-(x.name.size:Int)) ((x.args.length+Tm.sumB x.args))
 refine Af S2 FQ (of_decide_eq_true rfl) ?_
 simp (disch:=omega) only [LK,go_sem,Aa,h_args,Hr]
 repeat' (refine C8 (fun hq=>?_) (fun hq=>?_) <;> (first | replace hq:=Ar.1 hq | replace hq:=Ct.1 hq) <;> (try simp (disch:=omega) only [go_sem,Aa,h_args,Hr]))
 all_goals omega
theorem WH (x:Tm):Nw x:=WG x (UK x.args fun y hy=>WH y)
termination_by SizeOf.sizeOf x
decreasing_by exact Tm.Ay hy
def IH:SC:=(.seq (.reg [⟨some 2,none,.boxv 67 3 (.t 0)⟩,⟨some 4,none,.mv (.c (.int .i64 0))⟩]) (.seq (.reg [⟨some 5,none,.faddr 1 (.t 2)⟩,⟨some 6,none,.load true 2 (.t 5)⟩,⟨some 7,none,.mv (.t 1)⟩,⟨some 8,none,.call 71 [(.t 6),(.t 7)]⟩,⟨some 1,none,.mv (.t 8)⟩]) (.seq (.seq (.reg [⟨some 9,none,.mv (.t 1)⟩,⟨some 10,none,.bin .lss false (.t 9) (.c (.int .i64 0))⟩]) (.cond (.t 10) (.seq (.reg [⟨some 4,none,.mv (.c (.int .i64 (-(0+1))))⟩]) .ret) .skip)) (.seq (.reg [⟨some 11,none,.mv (.t 1)⟩,⟨some 4,none,.mv (.t 11)⟩]) .ret))))
theorem O4:codeOf Tryz.prog 46=some ⟨12,IH,[(.tmp 4)]⟩:=by kernel_rfl
theorem II:modes 46=⟨[],.asis,none,false⟩:=by unfold modes; rfl
def HJ:SC:=(.seq (.reg [⟨some 4,none,.mv (.c (.int .i64 0))⟩]) (.seq (.reg [⟨some 6,none,.mv (.t 1)⟩,⟨some 7,none,.mv (.t 0)⟩,⟨some 8,none,.len false (.t 7)⟩,⟨some 9,none,.bin .sub false (.t 6) (.t 8)⟩,⟨some 1,none,.mv (.t 9)⟩]) (.seq (.seq (.reg [⟨some 10,none,.mv (.t 1)⟩,⟨some 11,none,.bin .lss false (.t 10) (.c (.int .i64 0))⟩]) (.cond (.t 11) (.seq (.reg [⟨some 4,none,.mv (.c (.int .i64 (-(0+1))))⟩]) .ret) .skip)) (.seq (.seq (.reg [⟨some 5,none,.mv (.c (.int .i64 0))⟩]) (.block 0 (.loop [1,1,0,0,0,1,0,0,0,0,0,0,0,0,0,0,0,0,0,0,0,0,0,0,0,0,0] (.seq (.seq (.reg [⟨some 12,none,.mv (.t 5)⟩,⟨some 13,none,.mv (.t 0)⟩,⟨some 14,none,.len false (.t 13)⟩,⟨some 15,none,.bin .lss false (.t 12) (.t 14)⟩]) (.cond (.t 15) .skip (.exit 0))) (.seq (.block 1 (.seq (.reg [⟨some 18,none,.mv (.t 0)⟩,⟨some 19,none,.mv (.t 5)⟩,⟨some 20,none,.iaddr 3 (.t 18) (.t 19)⟩,⟨some 21,none,.load true 3 (.t 20)⟩,⟨some 22,none,.mv (.t 1)⟩,⟨some 23,none,.call 46 [(.t 21),(.t 22)]⟩,⟨some 1,none,.mv (.t 23)⟩]) (.seq (.reg [⟨some 24,none,.mv (.t 1)⟩,⟨some 25,none,.bin .lss false (.t 24) (.c (.int .i64 0))⟩]) (.cond (.t 25) (.seq (.reg [⟨some 4,none,.mv (.c (.int .i64 (-(0+1))))⟩]) .ret) .skip)))) (.reg [⟨some 16,none,.mv (.t 5)⟩,⟨some 17,none,.bin .add false (.t 16) (.c (.int .i64 1))⟩,⟨some 5,none,.mv (.t 17)⟩])))))) (.seq (.reg [⟨some 26,none,.mv (.t 1)⟩,⟨some 4,none,.mv (.t 26)⟩]) .ret)))))
theorem Nx:codeOf Tryz.prog 28=some ⟨27,HJ,[(.tmp 4)]⟩:=by kernel_rfl
theorem Fo:modes 28=⟨[],.asis,none,false⟩:=by unfold modes; rfl
abbrev KE (x:Lt):Prop:=D.fits x.d→∀ left:Int,0≤left→left≤1048576→E 46 [x.sv,.int .i64 left] []=some (.int .i64 (szR left x.bulk),[])
abbrev Ny (xs:List Lt):Prop:=D.fit (.arr (xs.map Lt.d))→∀ left:Int,0≤left→left≤1048576→E 28 [.arr (xs.map Lt.d),.int .i64 left] []=some (.int .i64 (szR left (xs.length+Lt.sumB xs:Nat)),[])
theorem Pz (xs:List Lt) (h:∀ x∈xs,KE x):Ny xs:=by
  intro hfit left h0 h1
  simp only [D.fit,zH] at hfit
  have q0:=Bh left (xs.length+Lt.sumB xs)
  refine Af Nx Fo (of_decide_eq_true rfl) ?_
  simp (disch:=omega) only [HJ,go_sem,Aa]
  repeat' (refine C8 (fun hq=>?_) (fun hq=>?_) <;> (first | replace hq:=Ar.1 hq | replace hq:=Ct.1 hq) <;> (try simp (disch:=omega) only [go_sem,Aa]))
  · omega
  refine go_loop (α:=Int × Int) (fun a=>⟨slots 27 0 [(0,.arr (xs.map Lt.d)),(1,.int .i64 a.2),(5,.int .i64 a.1)],[]⟩) (fun a=>∃ k:Nat,a.1=k∧k≤xs.length∧0≤a.2∧a.2≤1048576∧szR a.2 (Lt.sumB (xs.drop k))=szR left (xs.length+Lt.sumB xs:Nat)) (fun a=>xs.length-a.1.toNat) (0,left-xs.length) ⟨0,rfl,zI _,by omega,by omega,?_⟩ (by simp (disch:=omega) only [go_sem,Aa]) ?_
  · have q1:=Bh (left-xs.length) (Lt.sumB xs)
    rw [zJ]
    dsimp only
    omega
  · rintro ⟨i,l⟩ ⟨k,hi,hk,hl0,hl1,hs⟩
    dsimp only at hi hl0 hl1 hs
    rcases zF k xs.length with hlt | hge
    · have hg:=get_at Lt.d hlt
      rw [Lt.d_eq] at hg
      have hd:Lt.sumB (xs.drop k)=xs[k].bulk+Lt.sumB (xs.drop (k+1)):=by rw [zA hlt,Lt.sumB]
      rw [hd] at hs
      have hc:=h xs[k] (zC hlt) (D.Lj hfit.2 _ (zC hlt)) l hl0 hl1
      have q1:=Bh l xs[k].bulk
      have q2:=Bh l (xs[k].bulk+Lt.sumB (xs.drop (k+1)))
      have q3:=Bh (l-xs[k].bulk) (Lt.sumB (xs.drop (k+1)))
      have hn:i.toNat=k:=by omega
      simp (disch:=omega) only [go_sem,Aa,hn,hg,hc,II]
      repeat' (refine C8 (fun hq=>?_) (fun hq=>?_) <;> (first | replace hq:=Ar.1 hq | replace hq:=Ct.1 hq) <;> (try simp (disch:=omega) only [go_sem,Aa]))
      · omega
      · refine ⟨(i+1,l-xs[k].bulk),⟨k+1,by dsimp only; omega,hlt,by dsimp only; omega,by dsimp only; omega,by dsimp only; omega⟩,by dsimp only; omega,?_⟩
        have e:szR l xs[k].bulk=l-xs[k].bulk:=by omega
        simp only [e,and_self]
    · have hd:xs.drop k=[]:=zB hge
      rw [hd] at hs
      have q1:=Bh l (Lt.sumB [])
      simp only [Lt.sumB] at hs q1
      simp (disch:=omega) only [go_sem,Aa]
      omega
theorem R7 (x:Lt) (h_atom:Nw x.atom):KE x:=by
 intro hfit left h0 h1
 rw [Lt.d_eq] at hfit
 simp only [D.fits,D.fit] at hfit
 replace h_atom:=h_atom (by rw [Tm.d_eq]; simp only [D.fits,D.fit,hfit,and_self])
 have q:=Bh left x.bulk
 have qb:=Lt.bulk_eq x
 have q0:=Bh left (x.atom.bulk)
 refine Af O4 II (of_decide_eq_true rfl) ?_
 simp (disch:=omega) only [IH,go_sem,Aa,h_atom,FQ]
 repeat' (refine C8 (fun hq=>?_) (fun hq=>?_) <;> (first | replace hq:=Ar.1 hq | replace hq:=Ct.1 hq) <;> (try simp (disch:=omega) only [go_sem,Aa,h_atom,FQ]))
 all_goals omega
theorem WI (x:Lt):KE x:=R7 x (WH x.atom)
def JB:SC:=(.seq (.reg [⟨some 2,none,.boxv 24 1 (.t 0)⟩,⟨some 4,none,.mv (.c (.int .i64 0))⟩]) (.seq (.reg [⟨some 5,none,.faddr 0 (.t 2)⟩,⟨some 6,none,.load false 1 (.t 5)⟩,⟨some 7,none,.mv (.t 1)⟩,⟨some 8,none,.call 28 [(.t 6),(.t 7)]⟩,⟨some 1,none,.mv (.t 8)⟩]) (.seq (.seq (.reg [⟨some 9,none,.mv (.t 1)⟩,⟨some 10,none,.bin .lss false (.t 9) (.c (.int .i64 0))⟩]) (.cond (.t 10) (.seq (.reg [⟨some 4,none,.mv (.c (.int .i64 (-(0+1))))⟩]) .ret) .skip)) (.seq (.reg [⟨some 11,none,.mv (.t 1)⟩,⟨some 4,none,.mv (.t 11)⟩]) .ret))))
theorem P0:codeOf Tryz.prog 8=some ⟨12,JB,[(.tmp 4)]⟩:=by kernel_rfl
theorem JC:modes 8=⟨[],.asis,none,false⟩:=by unfold modes; rfl
def IJ:SC:=(.seq (.reg [⟨some 4,none,.mv (.c (.int .i64 0))⟩]) (.seq (.reg [⟨some 6,none,.mv (.t 1)⟩,⟨some 7,none,.mv (.t 0)⟩,⟨some 8,none,.len false (.t 7)⟩,⟨some 9,none,.bin .sub false (.t 6) (.t 8)⟩,⟨some 1,none,.mv (.t 9)⟩]) (.seq (.seq (.reg [⟨some 10,none,.mv (.t 1)⟩,⟨some 11,none,.bin .lss false (.t 10) (.c (.int .i64 0))⟩]) (.cond (.t 11) (.seq (.reg [⟨some 4,none,.mv (.c (.int .i64 (-(0+1))))⟩]) .ret) .skip)) (.seq (.seq (.reg [⟨some 5,none,.mv (.c (.int .i64 0))⟩]) (.block 0 (.loop [1,1,0,0,0,1,0,0,0,0,0,0,0,0,0,0,0,0,0,0,0,0,0,0,0,0,0] (.seq (.seq (.reg [⟨some 12,none,.mv (.t 5)⟩,⟨some 13,none,.mv (.t 0)⟩,⟨some 14,none,.len false (.t 13)⟩,⟨some 15,none,.bin .lss false (.t 12) (.t 14)⟩]) (.cond (.t 15) .skip (.exit 0))) (.seq (.block 1 (.seq (.reg [⟨some 18,none,.mv (.t 0)⟩,⟨some 19,none,.mv (.t 5)⟩,⟨some 20,none,.iaddr 1 (.t 18) (.t 19)⟩,⟨some 21,none,.load true 1 (.t 20)⟩,⟨some 22,none,.mv (.t 1)⟩,⟨some 23,none,.call 8 [(.t 21),(.t 22)]⟩,⟨some 1,none,.mv (.t 23)⟩]) (.seq (.reg [⟨some 24,none,.mv (.t 1)⟩,⟨some 25,none,.bin .lss false (.t 24) (.c (.int .i64 0))⟩]) (.cond (.t 25) (.seq (.reg [⟨some 4,none,.mv (.c (.int .i64 (-(0+1))))⟩]) .ret) .skip)))) (.reg [⟨some 16,none,.mv (.t 5)⟩,⟨some 17,none,.bin .add false (.t 16) (.c (.int .i64 1))⟩,⟨some 5,none,.mv (.t 17)⟩])))))) (.seq (.reg [⟨some 26,none,.mv (.t 1)⟩,⟨some 4,none,.mv (.t 26)⟩]) .ret)))))
theorem O5:codeOf Tryz.prog 15=some ⟨27,IJ,[(.tmp 4)]⟩:=by kernel_rfl
theorem CA:modes 15=⟨[],.asis,none,false⟩:=by unfold modes; rfl
abbrev Mt (x:Cl):Prop:=D.fits x.d→∀ left:Int,0≤left→left≤1048576→E 8 [x.sv,.int .i64 left] []=some (.int .i64 (szR left x.bulk),[])
abbrev Ph (xs:List Cl):Prop:=D.fit (.arr (xs.map Cl.d))→∀ left:Int,0≤left→left≤1048576→E 15 [.arr (xs.map Cl.d),.int .i64 left] []=some (.int .i64 (szR left (xs.length+Cl.sumB xs:Nat)),[])
theorem R8 (xs:List Cl) (h:∀ x∈xs,Mt x):Ph xs:=by
  intro hfit left h0 h1
  simp only [D.fit,zH] at hfit
  have q0:=Bh left (xs.length+Cl.sumB xs)
  refine Af O5 CA (of_decide_eq_true rfl) ?_
  simp (disch:=omega) only [IJ,go_sem,Aa]
  repeat' (refine C8 (fun hq=>?_) (fun hq=>?_) <;> (first | replace hq:=Ar.1 hq | replace hq:=Ct.1 hq) <;> (try simp (disch:=omega) only [go_sem,Aa]))
  · omega
  refine go_loop (α:=Int × Int) (fun a=>⟨slots 27 0 [(0,.arr (xs.map Cl.d)),(1,.int .i64 a.2),(5,.int .i64 a.1)],[]⟩) (fun a=>∃ k:Nat,a.1=k∧k≤xs.length∧0≤a.2∧a.2≤1048576∧szR a.2 (Cl.sumB (xs.drop k))=szR left (xs.length+Cl.sumB xs:Nat)) (fun a=>xs.length-a.1.toNat) (0,left-xs.length) ⟨0,rfl,zI _,by omega,by omega,?_⟩ (by simp (disch:=omega) only [go_sem,Aa]) ?_
  · have q1:=Bh (left-xs.length) (Cl.sumB xs)
    rw [zJ]
    dsimp only
    omega
  · rintro ⟨i,l⟩ ⟨k,hi,hk,hl0,hl1,hs⟩
    dsimp only at hi hl0 hl1 hs
    rcases zF k xs.length with hlt | hge
    · have hg:=get_at Cl.d hlt
      rw [Cl.d_eq] at hg
      have hd:Cl.sumB (xs.drop k)=xs[k].bulk+Cl.sumB (xs.drop (k+1)):=by rw [zA hlt,Cl.sumB]
      rw [hd] at hs
      have hc:=h xs[k] (zC hlt) (D.Lj hfit.2 _ (zC hlt)) l hl0 hl1
      have q1:=Bh l xs[k].bulk
      have q2:=Bh l (xs[k].bulk+Cl.sumB (xs.drop (k+1)))
      have q3:=Bh (l-xs[k].bulk) (Cl.sumB (xs.drop (k+1)))
      have hn:i.toNat=k:=by omega
      simp (disch:=omega) only [go_sem,Aa,hn,hg,hc,JC]
      repeat' (refine C8 (fun hq=>?_) (fun hq=>?_) <;> (first | replace hq:=Ar.1 hq | replace hq:=Ct.1 hq) <;> (try simp (disch:=omega) only [go_sem,Aa]))
      · omega
      · refine ⟨(i+1,l-xs[k].bulk),⟨k+1,by dsimp only; omega,hlt,by dsimp only; omega,by dsimp only; omega,by dsimp only; omega⟩,by dsimp only; omega,?_⟩
        have e:szR l xs[k].bulk=l-xs[k].bulk:=by omega
        simp only [e,and_self]
    · have hd:xs.drop k=[]:=zB hge
      rw [hd] at hs
      have q1:=Bh l (Cl.sumB [])
      simp only [Cl.sumB] at hs q1
      simp (disch:=omega) only [go_sem,Aa]
      omega
theorem S3 (x:Cl) (h_lits:Ny x.lits):Mt x:=by
 intro hfit left h0 h1
 rw [Cl.d_eq] at hfit
 simp only [D.fits,D.fit] at hfit
 replace h_lits:=h_lits (by simp only [D.fit,zH]; simp only [zH] at hfit; simp only [hfit,and_self])
 have q:=Bh left x.bulk
 have qb:=Cl.bulk_eq x
 have q0:=Bh left ((x.lits.length+Lt.sumB x.lits))
 refine Af P0 JC (of_decide_eq_true rfl) ?_
 simp (disch:=omega) only [JB,go_sem,Aa,h_lits,Fo]
 repeat' (refine C8 (fun hq=>?_) (fun hq=>?_) <;> (first | replace hq:=Ar.1 hq | replace hq:=Ct.1 hq) <;> (try simp (disch:=omega) only [go_sem,Aa,h_lits,Fo]))
 all_goals omega
theorem YG (x:Cl):Mt x:=S3 x (Pz x.lits fun y hy=>WI y)
theorem WJ (xs:List Cl):Ph xs:=R8 xs fun x _=>YG x
def LL:SC:=(.seq (.reg [⟨some 1,none,.boxv 65 2 (.t 0)⟩,⟨(some 2),none,(.alloc 71 [(.str ⟨#[]⟩),.nil])⟩]) (.seq (.reg [⟨(some 3),none,(.alloc 71 [(.str ⟨#[]⟩),.nil])⟩]) (.seq (.reg [⟨some 4,none,.faddr 0 (.t 1)⟩,⟨some 5,none,.load false 1 (.t 4)⟩,⟨some 6,none,.faddr 0 (.t 3)⟩,⟨none,none,(.store 1 (.t 6) (.t 5))⟩]) (.seq (.reg [⟨some 7,none,.faddr 1 (.t 1)⟩,⟨some 8,none,.load false 1 (.t 7)⟩,⟨some 9,none,.call 118 [(.t 8)]⟩,⟨some 10,none,.faddr 1 (.t 3)⟩,⟨none,none,(.store 1 (.t 10) (.t 9))⟩]) (.seq (.reg [⟨some 11,none,.load true 2 (.t 3)⟩,⟨none,none,(.store 2 (.t 2) (.t 11))⟩]) .ret)))))
theorem S4:codeOf Tryz.prog 81=some ⟨12,LL,[(.cell 2 true 2)]⟩:=by kernel_rfl
theorem Im:modes 81=⟨[],.asis,none,false⟩:=by unfold modes; rfl
def KF:SC:=(.seq (.reg [⟨some 2,none,.mv (.c .nil)⟩]) (.seq (.reg [⟨some 5,none,.mv (.t 0)⟩,⟨some 6,none,.len false (.t 5)⟩,⟨(some 7),none,(.mkslice 71 2 40 [(.str ⟨#[]⟩),.nil] (.t 6))⟩,⟨some 3,none,.mv (.t 7)⟩]) (.seq (.seq (.reg [⟨some 4,none,.mv (.c (.int .i64 0))⟩]) (.block 0 (.loop [1,0,0,1,1,0,0,0,0,0,0,0,0,0,0,0,0,0,0,0,0,0,0] (.seq (.seq (.reg [⟨some 8,none,.mv (.t 4)⟩,⟨some 9,none,.mv (.t 0)⟩,⟨some 10,none,.len false (.t 9)⟩,⟨some 11,none,.bin .lss false (.t 8) (.t 10)⟩]) (.cond (.t 11) .skip (.exit 0))) (.seq (.block 1 (.reg [⟨some 14,none,.mv (.t 3)⟩,⟨some 15,none,.mv (.t 4)⟩,⟨some 16,none,.mv (.t 0)⟩,⟨some 17,none,.mv (.t 4)⟩,⟨some 18,none,.iaddr 2 (.t 16) (.t 17)⟩,⟨some 19,none,.load true 2 (.t 18)⟩,⟨some 20,none,.call 81 [(.t 19)]⟩,⟨some 21,none,.iaddr 2 (.t 14) (.t 15)⟩,⟨none,none,(.store 2 (.t 21) (.t 20))⟩])) (.reg [⟨some 12,none,.mv (.t 4)⟩,⟨some 13,none,.bin .add false (.t 12) (.c (.int .i64 1))⟩,⟨some 4,none,.mv (.t 13)⟩])))))) (.seq (.reg [⟨some 22,none,.mv (.t 3)⟩,⟨some 2,none,.mv (.t 22)⟩]) .ret))))
theorem R9:codeOf Tryz.prog 118=some ⟨23,KF,[(.tmp 2)]⟩:=by kernel_rfl
theorem KG:modes 118=⟨[],.asis,none,false⟩:=by unfold modes; rfl
abbrev Nz (x:Tm):Prop:=x.bulk≤1048576→E 81 [x.sv] []=some (x.osv,x.obs)
abbrev TI (xs:List Tm):Prop:=xs.length+Tm.sumB xs≤1048576→E 118 [.arr (xs.map Tm.d)] []=some (.ref 0,[.row 71 2 (xs.map Tm.o)])
theorem UL (xs:List Tm) (h:∀ x∈xs,Nz x):TI xs:=by
 intro hb
 refine Af R9 KG (of_decide_eq_true rfl) ?_
 simp (disch:=omega) only [KF,go_sem,Aa]
 refine go_loop (α:=Int) (fun i=>⟨slots 23 0 [(0,.arr (xs.map Tm.d)),(3,.ref 0),(4,.int .i64 i)],[.row 71 2 (Fx Tm.o [.str ⟨#[]⟩,.ow []] xs i.toNat)]⟩) (fun i=>∃ k:Nat,i=k∧k≤xs.length) (fun i=>xs.length-i.toNat) 0 ⟨0,rfl,zI _⟩ (by simp (disch:=omega) only [go_sem,Aa,Hd,zQ]) ?_
 ·rintro i ⟨k,rfl,hk⟩
  obtain ⟨i,hi⟩:∃ i:Int,i=(k:Int):=⟨_,rfl⟩
  rw [←hi]
  have hn:i.toNat=k:=by omega
  have hn1:(i+1).toNat=k+1:=by omega
  rcases zF k xs.length with hlt | hge
  ·have hg:=get_at Tm.d hlt
   rw [Tm.d_eq] at hg
   have hz:=I6 Tm.o [.str ⟨#[]⟩,.ow []] hlt
   have hle:=Tm.bulk_le xs k hlt
   have hc:=h xs[k] (zC hlt) (by omega)
   have hs:=I7 Tm.o [.str ⟨#[]⟩,.ow []] hlt
   rw [Tm.o_eq] at hs
   simp (disch:=omega) only [go_sem,Aa,hn,hg,hc,hz,I4,Im,Tm.osv,Tm.obs]
   refine ⟨i+1,⟨k+1,by omega,hlt⟩,by omega,?_⟩
   simp (disch:=omega) only [go_sem,Aa,hn1,hs]
  ·obtain rfl:k=xs.length:=by omega
   simp (disch:=omega) only [go_sem,Aa,hn,I5]
theorem WK (x:Tm) (h_args:TI x.args):Nz x:=by
 intro hb
 have qb:=Tm.bulk_eq x
 replace h_args:=h_args (by omega)
 refine Af S4 Im (of_decide_eq_true rfl) ?_
 simp (disch:=omega) only [LL,go_sem,Aa,h_args,KG]
theorem WL (x:Tm):Nz x:=WK x (UL x.args fun y hy=>WL y)
termination_by SizeOf.sizeOf x
decreasing_by exact Tm.Ay hy
def IK:SC:=(.seq (.reg [⟨some 1,none,.boxv 67 3 (.t 0)⟩,⟨(some 2),none,(.alloc 73 [(.bool false),(.str ⟨#[]⟩),.nil])⟩]) (.seq (.reg [⟨(some 3),none,(.alloc 73 [(.bool false),(.str ⟨#[]⟩),.nil])⟩]) (.seq (.reg [⟨some 4,none,.faddr 0 (.t 1)⟩,⟨some 5,none,.load false 1 (.t 4)⟩,⟨some 6,none,.faddr 0 (.t 3)⟩,⟨none,none,(.store 1 (.t 6) (.t 5))⟩]) (.seq (.reg [⟨some 7,none,.faddr 1 (.t 1)⟩,⟨some 8,none,.load true 2 (.t 7)⟩,⟨some 9,none,.call 81 [(.t 8)]⟩,⟨some 10,none,.faddr 1 (.t 3)⟩,⟨none,none,(.store 2 (.t 10) (.t 9))⟩]) (.seq (.reg [⟨some 11,none,.load true 3 (.t 3)⟩,⟨none,none,(.store 3 (.t 2) (.t 11))⟩]) .ret)))))
theorem O6:codeOf Tryz.prog 53=some ⟨12,IK,[(.cell 2 true 3)]⟩:=by kernel_rfl
theorem IL:modes 53=⟨[],.asis,none,false⟩:=by unfold modes; rfl
def HK:SC:=(.seq (.reg [⟨some 2,none,.mv (.c .nil)⟩]) (.seq (.reg [⟨some 5,none,.mv (.t 0)⟩,⟨some 6,none,.len false (.t 5)⟩,⟨(some 7),none,(.mkslice 73 3 48 [(.bool false),(.str ⟨#[]⟩),.nil] (.t 6))⟩,⟨some 3,none,.mv (.t 7)⟩]) (.seq (.seq (.reg [⟨some 4,none,.mv (.c (.int .i64 0))⟩]) (.block 0 (.loop [1,0,0,1,1,0,0,0,0,0,0,0,0,0,0,0,0,0,0,0,0,0,0] (.seq (.seq (.reg [⟨some 8,none,.mv (.t 4)⟩,⟨some 9,none,.mv (.t 0)⟩,⟨some 10,none,.len false (.t 9)⟩,⟨some 11,none,.bin .lss false (.t 8) (.t 10)⟩]) (.cond (.t 11) .skip (.exit 0))) (.seq (.block 1 (.reg [⟨some 14,none,.mv (.t 3)⟩,⟨some 15,none,.mv (.t 4)⟩,⟨some 16,none,.mv (.t 0)⟩,⟨some 17,none,.mv (.t 4)⟩,⟨some 18,none,.iaddr 3 (.t 16) (.t 17)⟩,⟨some 19,none,.load true 3 (.t 18)⟩,⟨some 20,none,.call 53 [(.t 19)]⟩,⟨some 21,none,.iaddr 3 (.t 14) (.t 15)⟩,⟨none,none,(.store 3 (.t 21) (.t 20))⟩])) (.reg [⟨some 12,none,.mv (.t 4)⟩,⟨some 13,none,.bin .add false (.t 12) (.c (.int .i64 1))⟩,⟨some 4,none,.mv (.t 13)⟩])))))) (.seq (.reg [⟨some 22,none,.mv (.t 3)⟩,⟨some 2,none,.mv (.t 22)⟩]) .ret))))
theorem N0:codeOf Tryz.prog 31=some ⟨23,HK,[(.tmp 2)]⟩:=by kernel_rfl
theorem HL:modes 31=⟨[],.asis,none,false⟩:=by unfold modes; rfl
abbrev KH (x:Lt):Prop:=x.bulk≤1048576→E 53 [x.sv] []=some (x.osv,x.obs)
abbrev N1 (xs:List Lt):Prop:=xs.length+Lt.sumB xs≤1048576→E 31 [.arr (xs.map Lt.d)] []=some (.ref 0,[.row 73 3 (xs.map Lt.o)])
theorem P1 (xs:List Lt) (h:∀ x∈xs,KH x):N1 xs:=by
 intro hb
 refine Af N0 HL (of_decide_eq_true rfl) ?_
 simp (disch:=omega) only [HK,go_sem,Aa]
 refine go_loop (α:=Int) (fun i=>⟨slots 23 0 [(0,.arr (xs.map Lt.d)),(3,.ref 0),(4,.int .i64 i)],[.row 73 3 (Fx Lt.o [.bool false,.str ⟨#[]⟩,.ow []] xs i.toNat)]⟩) (fun i=>∃ k:Nat,i=k∧k≤xs.length) (fun i=>xs.length-i.toNat) 0 ⟨0,rfl,zI _⟩ (by simp (disch:=omega) only [go_sem,Aa,Hd,zQ]) ?_
 ·rintro i ⟨k,rfl,hk⟩
  obtain ⟨i,hi⟩:∃ i:Int,i=(k:Int):=⟨_,rfl⟩
  rw [←hi]
  have hn:i.toNat=k:=by omega
  have hn1:(i+1).toNat=k+1:=by omega
  rcases zF k xs.length with hlt | hge
  ·have hg:=get_at Lt.d hlt
   rw [Lt.d_eq] at hg
   have hz:=I6 Lt.o [.bool false,.str ⟨#[]⟩,.ow []] hlt
   have hle:=Lt.bulk_le xs k hlt
   have hc:=h xs[k] (zC hlt) (by omega)
   have hs:=I7 Lt.o [.bool false,.str ⟨#[]⟩,.ow []] hlt
   rw [Lt.o_eq] at hs
   simp (disch:=omega) only [go_sem,Aa,hn,hg,hc,hz,I4,IL,Lt.osv,Lt.obs]
   refine ⟨i+1,⟨k+1,by omega,hlt⟩,by omega,?_⟩
   simp (disch:=omega) only [go_sem,Aa,hn1,hs]
  ·obtain rfl:k=xs.length:=by omega
   simp (disch:=omega) only [go_sem,Aa,hn,I5]
theorem RA (x:Lt) (h_atom:Nz x.atom):KH x:=by
 intro hb
 have qb:=Lt.bulk_eq x
 replace h_atom:=h_atom (by omega)
 refine Af O6 IL (of_decide_eq_true rfl) ?_
 simp (disch:=omega) only [IK,go_sem,Aa,h_atom,Im]
theorem WM (x:Lt):KH x:=RA x (WL x.atom)
def JD:SC:=(.seq (.reg [⟨some 1,none,.boxv 24 1 (.t 0)⟩,⟨some 2,none,.alloc 28 [.nil]⟩]) (.seq (.reg [⟨some 3,none,.alloc 28 [.nil]⟩]) (.seq (.reg [⟨some 4,none,.faddr 0 (.t 1)⟩,⟨some 5,none,.load false 1 (.t 4)⟩,⟨some 6,none,.call 31 [(.t 5)]⟩,⟨some 7,none,.faddr 0 (.t 3)⟩,⟨none,none,(.store 1 (.t 7) (.t 6))⟩]) (.seq (.reg [⟨some 8,none,.load true 1 (.t 3)⟩,⟨none,none,(.store 1 (.t 2) (.t 8))⟩]) .ret))))
theorem P2:codeOf Tryz.prog 10=some ⟨9,JD,[(.cell 2 true 1)]⟩:=by kernel_rfl
theorem JE:modes 10=⟨[],.asis,none,false⟩:=by unfold modes; rfl
def IM:SC:=(.seq (.reg [⟨some 2,none,.mv (.c .nil)⟩]) (.seq (.reg [⟨some 5,none,.mv (.t 0)⟩,⟨some 6,none,.len false (.t 5)⟩,⟨some 7,none,.mkslice 28 1 24 [.nil] (.t 6)⟩,⟨some 3,none,.mv (.t 7)⟩]) (.seq (.seq (.reg [⟨some 4,none,.mv (.c (.int .i64 0))⟩]) (.block 0 (.loop [1,0,0,1,1,0,0,0,0,0,0,0,0,0,0,0,0,0,0,0,0,0,0] (.seq (.seq (.reg [⟨some 8,none,.mv (.t 4)⟩,⟨some 9,none,.mv (.t 0)⟩,⟨some 10,none,.len false (.t 9)⟩,⟨some 11,none,.bin .lss false (.t 8) (.t 10)⟩]) (.cond (.t 11) .skip (.exit 0))) (.seq (.block 1 (.reg [⟨some 14,none,.mv (.t 3)⟩,⟨some 15,none,.mv (.t 4)⟩,⟨some 16,none,.mv (.t 0)⟩,⟨some 17,none,.mv (.t 4)⟩,⟨some 18,none,.iaddr 1 (.t 16) (.t 17)⟩,⟨some 19,none,.load true 1 (.t 18)⟩,⟨some 20,none,.call 10 [(.t 19)]⟩,⟨some 21,none,.iaddr 1 (.t 14) (.t 15)⟩,⟨none,none,(.store 1 (.t 21) (.t 20))⟩])) (.reg [⟨some 12,none,.mv (.t 4)⟩,⟨some 13,none,.bin .add false (.t 12) (.c (.int .i64 1))⟩,⟨some 4,none,.mv (.t 13)⟩])))))) (.seq (.reg [⟨some 22,none,.mv (.t 3)⟩,⟨some 2,none,.mv (.t 22)⟩]) .ret))))
theorem O7:codeOf Tryz.prog 17=some ⟨23,IM,[(.tmp 2)]⟩:=by kernel_rfl
theorem Dm:modes 17=⟨[],.asis,none,false⟩:=by unfold modes; rfl
abbrev Mu (x:Cl):Prop:=x.bulk≤1048576→E 10 [x.sv] []=some (x.osv,x.obs)
abbrev Pi (xs:List Cl):Prop:=xs.length+Cl.sumB xs≤1048576→E 17 [.arr (xs.map Cl.d)] []=some (.ref 0,[.row 28 1 (xs.map Cl.o)])
theorem RB (xs:List Cl) (h:∀ x∈xs,Mu x):Pi xs:=by
 intro hb
 refine Af O7 Dm (of_decide_eq_true rfl) ?_
 simp (disch:=omega) only [IM,go_sem,Aa]
 refine go_loop (α:=Int) (fun i=>⟨slots 23 0 [(0,.arr (xs.map Cl.d)),(3,.ref 0),(4,.int .i64 i)],[.row 28 1 (Fx Cl.o [.ow []] xs i.toNat)]⟩) (fun i=>∃ k:Nat,i=k∧k≤xs.length) (fun i=>xs.length-i.toNat) 0 ⟨0,rfl,zI _⟩ (by simp (disch:=omega) only [go_sem,Aa,Hd,zQ]) ?_
 ·rintro i ⟨k,rfl,hk⟩
  obtain ⟨i,hi⟩:∃ i:Int,i=(k:Int):=⟨_,rfl⟩
  rw [←hi]
  have hn:i.toNat=k:=by omega
  have hn1:(i+1).toNat=k+1:=by omega
  rcases zF k xs.length with hlt | hge
  ·have hg:=get_at Cl.d hlt
   rw [Cl.d_eq] at hg
   have hz:=I6 Cl.o [.ow []] hlt
   have hle:=Cl.bulk_le xs k hlt
   have hc:=h xs[k] (zC hlt) (by omega)
   have hs:=I7 Cl.o [.ow []] hlt
   rw [Cl.o_eq] at hs
   simp (disch:=omega) only [go_sem,Aa,hn,hg,hc,hz,I4,JE,Cl.osv,Cl.obs]
   refine ⟨i+1,⟨k+1,by omega,hlt⟩,by omega,?_⟩
   simp (disch:=omega) only [go_sem,Aa,hn1,hs]
  ·obtain rfl:k=xs.length:=by omega
   simp (disch:=omega) only [go_sem,Aa,hn,I5]
theorem S5 (x:Cl) (h_lits:N1 x.lits):Mu x:=by
 intro hb
 have qb:=Cl.bulk_eq x
 replace h_lits:=h_lits (by omega)
 refine Af P2 JE (of_decide_eq_true rfl) ?_
 simp (disch:=omega) only [JD,go_sem,Aa,h_lits,HL]
theorem YH (x:Cl):Mu x:=S5 x (P1 x.lits fun y hy=>WM y)
theorem WN (xs:List Cl):Pi xs:=RB xs fun x _=>YH x
def LM:SC:=(.seq (.reg [⟨some 2,none,.boxv 71 2 (.t 0)⟩,⟨some 3,none,.boxv 71 2 (.t 1)⟩,⟨some 4,none,.mv (.c (.bool false))⟩]) (.seq (.seq (.reg [⟨some 5,none,.faddr 0 (.t 2)⟩,⟨some 6,none,.load false 1 (.t 5)⟩,⟨some 7,none,.faddr 0 (.t 3)⟩,⟨some 8,none,.load false 1 (.t 7)⟩,⟨some 9,none,.bin .neq false (.t 6) (.t 8)⟩]) (.cond (.t 9) (.seq (.reg [⟨some 4,none,.mv (.c (.bool false))⟩]) .ret) .skip)) (.seq (.seq (.reg [⟨some 10,none,.faddr 1 (.t 2)⟩,⟨some 11,none,.load false 1 (.t 10)⟩,⟨some 12,none,.faddr 1 (.t 3)⟩,⟨some 13,none,.load false 1 (.t 12)⟩,⟨some 14,none,.call 141 [(.t 11),(.t 13)]⟩,⟨some 15,none,.un .not (.t 14)⟩]) (.cond (.t 15) (.seq (.reg [⟨some 4,none,.mv (.c (.bool false))⟩]) .ret) .skip)) (.seq (.reg [⟨some 4,none,.mv (.c (.bool true))⟩]) .ret))))
theorem S6:codeOf Tryz.prog 96=some ⟨16,LM,[(.tmp 4)]⟩:=by kernel_rfl
theorem In:modes 96=⟨[],.asis,none,false⟩:=by unfold modes; rfl
def KI:SC:=(.seq (.reg [⟨some 4,none,.mv (.c (.bool false))⟩]) (.seq (.seq (.reg [⟨some 6,none,.mv (.t 0)⟩,⟨some 7,none,.len false (.t 6)⟩,⟨some 8,none,.mv (.t 1)⟩,⟨some 9,none,.len false (.t 8)⟩,⟨some 10,none,.bin .neq false (.t 7) (.t 9)⟩]) (.cond (.t 10) (.seq (.reg [⟨some 4,none,.mv (.c (.bool false))⟩]) .ret) .skip)) (.seq (.seq (.reg [⟨some 5,none,.mv (.c (.int .i64 0))⟩]) (.block 0 (.loop [1,1,0,0,0,1,0,0,0,0,0,0,0,0,0,0,0,0,0,0,0,0,0,0,0,0,0] (.seq (.seq (.reg [⟨some 11,none,.mv (.t 5)⟩,⟨some 12,none,.mv (.t 0)⟩,⟨some 13,none,.len false (.t 12)⟩,⟨some 14,none,.bin .lss false (.t 11) (.t 13)⟩]) (.cond (.t 14) .skip (.exit 0))) (.seq (.block 1 (.seq (.dreg [[],[],[0,1],[2,0,1],[],[],[4,5],[6,4,5],[3,2,0,1,7,6,4,5],[8,3,2,0,1,7,6,4,5]] [⟨some 17,none,.mv (.t 0)⟩,⟨some 18,none,.mv (.t 5)⟩,⟨some 19,none,.iaddr 2 (.t 17) (.t 18)⟩,⟨some 20,none,.load true 2 (.t 19)⟩,⟨some 21,none,.mv (.t 1)⟩,⟨some 22,none,.mv (.t 5)⟩,⟨some 23,none,.iaddr 2 (.t 21) (.t 22)⟩,⟨some 24,none,.load true 2 (.t 23)⟩,⟨some 25,none,.call 96 [(.t 20),(.t 24)]⟩,⟨some 26,none,.un .not (.t 25)⟩]) (.cond (.t 26) (.seq (.reg [⟨some 4,none,.mv (.c (.bool false))⟩]) .ret) .skip))) (.reg [⟨some 15,none,.mv (.t 5)⟩,⟨some 16,none,.bin .add false (.t 15) (.c (.int .i64 1))⟩,⟨some 5,none,.mv (.t 16)⟩])))))) (.seq (.reg [⟨some 4,none,.mv (.c (.bool true))⟩]) .ret))))
theorem RC:codeOf Tryz.prog 141=some ⟨27,KI,[(.tmp 4)]⟩:=by kernel_rfl
theorem KJ:modes 141=⟨[],.asis,none,false⟩:=by unfold modes; rfl
abbrev N2 (x:Tm):Prop:=x.bulk≤1048576→E 96 [x.sv,x.sv] []=some (.bool true,[])
abbrev TJ (xs:List Tm):Prop:=xs.length+Tm.sumB xs≤1048576→E 141 [.arr (xs.map Tm.d),.arr (xs.map Tm.d)] []=some (.bool true,[])
theorem UM (xs:List Tm) (h:∀ x∈xs,N2 x):TJ xs:=by
 intro hb
 refine Af RC KJ (of_decide_eq_true rfl) ?_
 simp (disch:=omega) only [KI,go_sem,Aa]
 refine go_loop (α:=Int) (fun i=>⟨slots 27 0 [(0,.arr (xs.map Tm.d)),(1,.arr (xs.map Tm.d)),(5,.int .i64 i)],[]⟩) (fun i=>∃ k:Nat,i=k∧k≤xs.length) (fun i=>xs.length-i.toNat) 0 ⟨0,rfl,zI _⟩ (by simp (disch:=omega) only [go_sem,Aa]) ?_
 ·rintro i ⟨k,rfl,hk⟩
  obtain ⟨i,hi⟩:∃ i:Int,i=(k:Int):=⟨_,rfl⟩
  rw [←hi]
  have hn:i.toNat=k:=by omega
  rcases zF k xs.length with hlt | hge
  ·have hg:=get_at Tm.d hlt
   rw [Tm.d_eq] at hg
   have hle:=Tm.bulk_le xs k hlt
   have hc:=h xs[k] (zC hlt) (by omega)
   simp (disch:=omega) only [go_sem,Aa,hn,hg,hc,In]
   refine ⟨i+1,⟨k+1,by omega,hlt⟩,by omega,?_⟩
   trivial
  ·obtain rfl:k=xs.length:=by omega
   simp (disch:=omega) only [go_sem,Aa,hn]
theorem WO (x:Tm) (h_args:TJ x.args):N2 x:=by
 intro hb
 have qb:=Tm.bulk_eq x
 replace h_args:=h_args (by omega)
 refine Af S6 In (of_decide_eq_true rfl) ?_
 simp (disch:=omega) only [LM,go_sem,Aa,h_args,KJ,E5]
theorem WP (x:Tm):N2 x:=WO x (UM x.args fun y hy=>WP y)
termination_by SizeOf.sizeOf x
decreasing_by exact Tm.Ay hy
def IN:SC:=(.seq (.reg [⟨some 2,none,.boxv 73 3 (.t 0)⟩,⟨some 3,none,.boxv 73 3 (.t 1)⟩,⟨some 4,none,.mv (.c (.bool false))⟩]) (.seq (.seq (.reg [⟨some 5,none,.faddr 0 (.t 2)⟩,⟨some 6,none,.load false 1 (.t 5)⟩,⟨some 7,none,.faddr 0 (.t 3)⟩,⟨some 8,none,.load false 1 (.t 7)⟩,⟨some 9,none,.bin .neq true (.t 6) (.t 8)⟩]) (.cond (.t 9) (.seq (.reg [⟨some 4,none,.mv (.c (.bool false))⟩]) .ret) .skip)) (.seq (.seq (.reg [⟨some 10,none,.faddr 1 (.t 2)⟩,⟨some 11,none,.load true 2 (.t 10)⟩,⟨some 12,none,.faddr 1 (.t 3)⟩,⟨some 13,none,.load true 2 (.t 12)⟩,⟨some 14,none,.call 96 [(.t 11),(.t 13)]⟩,⟨some 15,none,.un .not (.t 14)⟩]) (.cond (.t 15) (.seq (.reg [⟨some 4,none,.mv (.c (.bool false))⟩]) .ret) .skip)) (.seq (.reg [⟨some 4,none,.mv (.c (.bool true))⟩]) .ret))))
theorem O8:codeOf Tryz.prog 60=some ⟨16,IN,[(.tmp 4)]⟩:=by kernel_rfl
theorem IO:modes 60=⟨[],.asis,none,false⟩:=by unfold modes; rfl
def HM:SC:=(.seq (.reg [⟨some 4,none,.mv (.c (.bool false))⟩]) (.seq (.seq (.reg [⟨some 6,none,.mv (.t 0)⟩,⟨some 7,none,.len false (.t 6)⟩,⟨some 8,none,.mv (.t 1)⟩,⟨some 9,none,.len false (.t 8)⟩,⟨some 10,none,.bin .neq false (.t 7) (.t 9)⟩]) (.cond (.t 10) (.seq (.reg [⟨some 4,none,.mv (.c (.bool false))⟩]) .ret) .skip)) (.seq (.seq (.reg [⟨some 5,none,.mv (.c (.int .i64 0))⟩]) (.block 0 (.loop [1,1,0,0,0,1,0,0,0,0,0,0,0,0,0,0,0,0,0,0,0,0,0,0,0,0,0] (.seq (.seq (.reg [⟨some 11,none,.mv (.t 5)⟩,⟨some 12,none,.mv (.t 0)⟩,⟨some 13,none,.len false (.t 12)⟩,⟨some 14,none,.bin .lss false (.t 11) (.t 13)⟩]) (.cond (.t 14) .skip (.exit 0))) (.seq (.block 1 (.seq (.dreg [[],[],[0,1],[2,0,1],[],[],[4,5],[6,4,5],[3,2,0,1,7,6,4,5],[8,3,2,0,1,7,6,4,5]] [⟨some 17,none,.mv (.t 0)⟩,⟨some 18,none,.mv (.t 5)⟩,⟨some 19,none,.iaddr 3 (.t 17) (.t 18)⟩,⟨some 20,none,.load true 3 (.t 19)⟩,⟨some 21,none,.mv (.t 1)⟩,⟨some 22,none,.mv (.t 5)⟩,⟨some 23,none,.iaddr 3 (.t 21) (.t 22)⟩,⟨some 24,none,.load true 3 (.t 23)⟩,⟨some 25,none,.call 60 [(.t 20),(.t 24)]⟩,⟨some 26,none,.un .not (.t 25)⟩]) (.cond (.t 26) (.seq (.reg [⟨some 4,none,.mv (.c (.bool false))⟩]) .ret) .skip))) (.reg [⟨some 15,none,.mv (.t 5)⟩,⟨some 16,none,.bin .add false (.t 15) (.c (.int .i64 1))⟩,⟨some 5,none,.mv (.t 16)⟩])))))) (.seq (.reg [⟨some 4,none,.mv (.c (.bool true))⟩]) .ret))))
theorem N3:codeOf Tryz.prog 34=some ⟨27,HM,[(.tmp 4)]⟩:=by kernel_rfl
theorem HN:modes 34=⟨[],.asis,none,false⟩:=by unfold modes; rfl
abbrev KL (x:Lt):Prop:=x.bulk≤1048576→E 60 [x.sv,x.sv] []=some (.bool true,[])
abbrev N4 (xs:List Lt):Prop:=xs.length+Lt.sumB xs≤1048576→E 34 [.arr (xs.map Lt.d),.arr (xs.map Lt.d)] []=some (.bool true,[])
theorem P3 (xs:List Lt) (h:∀ x∈xs,KL x):N4 xs:=by
 intro hb
 refine Af N3 HN (of_decide_eq_true rfl) ?_
 simp (disch:=omega) only [HM,go_sem,Aa]
 refine go_loop (α:=Int) (fun i=>⟨slots 27 0 [(0,.arr (xs.map Lt.d)),(1,.arr (xs.map Lt.d)),(5,.int .i64 i)],[]⟩) (fun i=>∃ k:Nat,i=k∧k≤xs.length) (fun i=>xs.length-i.toNat) 0 ⟨0,rfl,zI _⟩ (by simp (disch:=omega) only [go_sem,Aa]) ?_
 ·rintro i ⟨k,rfl,hk⟩
  obtain ⟨i,hi⟩:∃ i:Int,i=(k:Int):=⟨_,rfl⟩
  rw [←hi]
  have hn:i.toNat=k:=by omega
  rcases zF k xs.length with hlt | hge
  ·have hg:=get_at Lt.d hlt
   rw [Lt.d_eq] at hg
   have hle:=Lt.bulk_le xs k hlt
   have hc:=h xs[k] (zC hlt) (by omega)
   simp (disch:=omega) only [go_sem,Aa,hn,hg,hc,IO]
   refine ⟨i+1,⟨k+1,by omega,hlt⟩,by omega,?_⟩
   trivial
  ·obtain rfl:k=xs.length:=by omega
   simp (disch:=omega) only [go_sem,Aa,hn]
theorem RD (x:Lt) (h_atom:N2 x.atom):KL x:=by
 intro hb
 have qb:=Lt.bulk_eq x
 replace h_atom:=h_atom (by omega)
 refine Af O8 IO (of_decide_eq_true rfl) ?_
 simp (disch:=omega) only [IN,go_sem,Aa,h_atom,In,E5]
theorem WQ (x:Lt):KL x:=RD x (WP x.atom)
def JF:SC:=(.seq (.reg [⟨some 2,none,.boxv 28 1 (.t 0)⟩,⟨some 3,none,.boxv 28 1 (.t 1)⟩,⟨some 4,none,.mv (.c (.bool false))⟩]) (.seq (.seq (.reg [⟨some 5,none,.faddr 0 (.t 2)⟩,⟨some 6,none,.load false 1 (.t 5)⟩,⟨some 7,none,.faddr 0 (.t 3)⟩,⟨some 8,none,.load false 1 (.t 7)⟩,⟨some 9,none,.call 34 [(.t 6),(.t 8)]⟩,⟨some 10,none,.un .not (.t 9)⟩]) (.cond (.t 10) (.seq (.reg [⟨some 4,none,.mv (.c (.bool false))⟩]) .ret) .skip)) (.seq (.reg [⟨some 4,none,.mv (.c (.bool true))⟩]) .ret)))
theorem P4:codeOf Tryz.prog 12=some ⟨11,JF,[(.tmp 4)]⟩:=by kernel_rfl
theorem JG:modes 12=⟨[],.asis,none,false⟩:=by unfold modes; rfl
def IP:SC:=(.seq (.reg [⟨some 4,none,.mv (.c (.bool false))⟩]) (.seq (.seq (.reg [⟨some 6,none,.mv (.t 0)⟩,⟨some 7,none,.len false (.t 6)⟩,⟨some 8,none,.mv (.t 1)⟩,⟨some 9,none,.len false (.t 8)⟩,⟨some 10,none,.bin .neq false (.t 7) (.t 9)⟩]) (.cond (.t 10) (.seq (.reg [⟨some 4,none,.mv (.c (.bool false))⟩]) .ret) .skip)) (.seq (.seq (.reg [⟨some 5,none,.mv (.c (.int .i64 0))⟩]) (.block 0 (.loop [1,1,0,0,0,1,0,0,0,0,0,0,0,0,0,0,0,0,0,0,0,0,0,0,0,0,0] (.seq (.seq (.reg [⟨some 11,none,.mv (.t 5)⟩,⟨some 12,none,.mv (.t 0)⟩,⟨some 13,none,.len false (.t 12)⟩,⟨some 14,none,.bin .lss false (.t 11) (.t 13)⟩]) (.cond (.t 14) .skip (.exit 0))) (.seq (.block 1 (.seq (.dreg [[],[],[0,1],[2,0,1],[],[],[4,5],[6,4,5],[3,2,0,1,7,6,4,5],[8,3,2,0,1,7,6,4,5]] [⟨some 17,none,.mv (.t 0)⟩,⟨some 18,none,.mv (.t 5)⟩,⟨some 19,none,.iaddr 1 (.t 17) (.t 18)⟩,⟨some 20,none,.load true 1 (.t 19)⟩,⟨some 21,none,.mv (.t 1)⟩,⟨some 22,none,.mv (.t 5)⟩,⟨some 23,none,.iaddr 1 (.t 21) (.t 22)⟩,⟨some 24,none,.load true 1 (.t 23)⟩,⟨some 25,none,.call 12 [(.t 20),(.t 24)]⟩,⟨some 26,none,.un .not (.t 25)⟩]) (.cond (.t 26) (.seq (.reg [⟨some 4,none,.mv (.c (.bool false))⟩]) .ret) .skip))) (.reg [⟨some 15,none,.mv (.t 5)⟩,⟨some 16,none,.bin .add false (.t 15) (.c (.int .i64 1))⟩,⟨some 5,none,.mv (.t 16)⟩])))))) (.seq (.reg [⟨some 4,none,.mv (.c (.bool true))⟩]) .ret))))
theorem O9:codeOf Tryz.prog 19=some ⟨27,IP,[(.tmp 4)]⟩:=by kernel_rfl
theorem Dn:modes 19=⟨[],.asis,none,false⟩:=by unfold modes; rfl
abbrev Mv (x:Cl):Prop:=x.bulk≤1048576→E 12 [x.sv,x.sv] []=some (.bool true,[])
abbrev Pj (xs:List Cl):Prop:=xs.length+Cl.sumB xs≤1048576→E 19 [.arr (xs.map Cl.d),.arr (xs.map Cl.d)] []=some (.bool true,[])
theorem RE (xs:List Cl) (h:∀ x∈xs,Mv x):Pj xs:=by
 intro hb
 refine Af O9 Dn (of_decide_eq_true rfl) ?_
 simp (disch:=omega) only [IP,go_sem,Aa]
 refine go_loop (α:=Int) (fun i=>⟨slots 27 0 [(0,.arr (xs.map Cl.d)),(1,.arr (xs.map Cl.d)),(5,.int .i64 i)],[]⟩) (fun i=>∃ k:Nat,i=k∧k≤xs.length) (fun i=>xs.length-i.toNat) 0 ⟨0,rfl,zI _⟩ (by simp (disch:=omega) only [go_sem,Aa]) ?_
 ·rintro i ⟨k,rfl,hk⟩
  obtain ⟨i,hi⟩:∃ i:Int,i=(k:Int):=⟨_,rfl⟩
  rw [←hi]
  have hn:i.toNat=k:=by omega
  rcases zF k xs.length with hlt | hge
  ·have hg:=get_at Cl.d hlt
   rw [Cl.d_eq] at hg
   have hle:=Cl.bulk_le xs k hlt
   have hc:=h xs[k] (zC hlt) (by omega)
   simp (disch:=omega) only [go_sem,Aa,hn,hg,hc,JG]
   refine ⟨i+1,⟨k+1,by omega,hlt⟩,by omega,?_⟩
   trivial
  ·obtain rfl:k=xs.length:=by omega
   simp (disch:=omega) only [go_sem,Aa,hn]
theorem S7 (x:Cl) (h_lits:N4 x.lits):Mv x:=by
 intro hb
 have qb:=Cl.bulk_eq x
 replace h_lits:=h_lits (by omega)
 refine Af P4 JG (of_decide_eq_true rfl) ?_
 simp (disch:=omega) only [JF,go_sem,Aa,h_lits,HN,E5]
theorem YI (x:Cl):Mv x:=S7 x (P3 x.lits fun y hy=>WQ y)
theorem WR (xs:List Cl):Pj xs:=RE xs fun x _=>YI x
theorem A4:modes 134=⟨[true],.asis,some Dw,false⟩:=by unfold modes; rfl
theorem Qd1 (l:List Bd) (hl:l.length≤1099511627776) (hn:(l.map Bd.var).Nodup):E 134 [.ref 0,.fn 135 []] [.row 139 3 (l.map Bd.o)]=some (.tup [],[.row 139 3 ((l.mergeSort bdLe).map Bd.o)]):=by
 rw [Ha (g:=Dw) (congrArg FM.ext A4)]
 unfold Dw
 simp only
 have e1:(l.map Bd.o).map VV=l.map Bd.var:=by rw [zX]; rfl
 rw [At ⟨by first | trivial | rfl,by first | trivial | rfl,fun e he=>by obtain ⟨b,_,rfl⟩:=List.mem_map.1 he; exact ⟨_,_,_,rfl⟩,by rw [e1]; exact hn,by simpa using hl⟩,cond_true]
 have e2:(l.mergeSort bdLe).map Bd.o=(l.map Bd.o).mergeSort rowLe:=List.map_mergeSort fun a _ b _=>rfl
 rw [e2]
theorem QaK:E 134 [.nil,.fn 135 []] []=some (.tup [],[]):=by
 rw [Ha (g:=Dw) (congrArg FM.ext A4)]
 unfold Dw
 simp only
 rw [At (by first | trivial | rfl),cond_true]
def JH:SC:=(.seq (.reg [⟨some 2,none,.boxv 76 1 (.t 0)⟩,⟨some 3,none,.boxv 76 1 (.t 1)⟩,⟨some 4,none,.alloc 76 [.nil]⟩,⟨some 5,none,.mv (.c (.bool false))⟩]) (.seq (.reg [⟨some 14,none,.build [.nil] []⟩,⟨some 6,none,.alloc 76 [.nil]⟩,⟨none,none,(.store 1 (.t 6) (.t 14))⟩]) (.seq (.seq (.reg [⟨some 15,none,.faddr 0 (.t 2)⟩,⟨some 16,none,.load false 1 (.t 15)⟩,⟨some 17,none,.len false (.t 16)⟩,⟨some 18,none,.mv (.c (.int .i64 0))⟩]) (.block 0 (.loop [0,0,1,1,1,0,1,0,0,0,0,0,0,0,0,0,1,1,1,0,0,0,0,0,0,0,0,0,0,0,0,0,0,0,0,0,0,0,0,0,0,0,0,0,0,0,0,0,0,0,0,0,0,0,0,0,0,0,0,0,0,0,0,0,0,0,0,0,0,0,0,0,0,0,0,0,0] (.seq (.reg [⟨some 19,none,.bin .lss false (.t 18) (.t 17)⟩]) (.seq (.cond (.t 19) .skip (.exit 0)) (.seq (.block 1 (.seq (.reg [⟨some 20,none,.iaddr 3 (.t 16) (.t 18)⟩,⟨some 21,none,.load true 3 (.t 20)⟩,⟨(some 8),none,(.alloc 139 [(.str ⟨#[]⟩),(.str ⟨#[]⟩),.nil])⟩,⟨none,none,(.store 3 (.t 8) (.t 21))⟩]) (.seq (.reg [⟨some 22,none,.load true 1 (.t 3)⟩,⟨some 23,none,.faddr 1 (.t 8)⟩,⟨some 24,none,.load true 2 (.t 23)⟩,⟨some 25,none,.call 126 [(.t 22),(.t 24)]⟩,⟨(some 9),none,(.alloc 71 [(.str ⟨#[]⟩),.nil])⟩,⟨none,none,(.store 2 (.t 9) (.t 25))⟩]) (.seq (.reg [⟨some 26,none,.faddr 0 (.t 9)⟩,⟨some 27,none,.load false 1 (.t 26)⟩,⟨some 28,none,.faddr 0 (.t 8)⟩,⟨some 29,none,.load false 1 (.t 28)⟩,⟨some 30,none,.bin .neq false (.t 27) (.t 29)⟩]) (.cond (.t 30) (.reg [⟨some 31,none,.faddr 0 (.t 6)⟩,⟨some 32,none,.load false 1 (.t 31)⟩,⟨some 33,none,.faddr 0 (.t 8)⟩,⟨some 34,none,.load false 1 (.t 33)⟩,⟨some 35,none,.load true 2 (.t 9)⟩,⟨(some 36),none,(.build [(.str ⟨#[]⟩),(.str ⟨#[]⟩),.nil] [(0,(1,(.t 34))),(1,(2,(.t 35)))])⟩,⟨(some 37),none,(.mkrow 139 3 [(.str ⟨#[]⟩),(.str ⟨#[]⟩),.nil] 1 [(0,(.t 36))])⟩,⟨(some 38),none,(.append 139 3 56 [(.str ⟨#[]⟩),(.str ⟨#[]⟩),.nil] (.t 32) (.t 37))⟩,⟨some 39,none,.faddr 0 (.t 6)⟩,⟨none,none,(.store 1 (.t 39) (.t 38))⟩]) .skip))))) (.reg [⟨some 40,none,.bin .add false (.t 18) (.c (.int .i64 1))⟩,⟨some 18,none,.mv (.t 40)⟩]))))))) (.seq (.seq (.reg [⟨some 41,none,.faddr 0 (.t 3)⟩,⟨some 42,none,.load false 1 (.t 41)⟩,⟨some 43,none,.len false (.t 42)⟩,⟨some 44,none,.mv (.c (.int .i64 0))⟩]) (.block 2 (.loop [0,0,1,0,1,0,1,0,0,0,0,0,0,0,0,0,0,0,0,0,0,0,0,0,0,0,0,0,0,0,0,0,0,0,0,0,0,0,0,0,0,0,1,1,1,0,0,0,0,0,0,0,0,0,0,0,0,0,0,0,0,0,0,0,0,0,0,0,0,0,0,0,0,0,0,0,0] (.seq (.reg [⟨some 45,none,.bin .lss false (.t 44) (.t 43)⟩]) (.seq (.cond (.t 45) .skip (.exit 2)) (.seq (.block 3 (.seq (.reg [⟨some 46,none,.iaddr 3 (.t 42) (.t 44)⟩,⟨some 47,none,.load true 3 (.t 46)⟩,⟨(some 11),none,(.alloc 139 [(.str ⟨#[]⟩),(.str ⟨#[]⟩),.nil])⟩,⟨none,none,(.store 3 (.t 11) (.t 47))⟩]) (.seq (.reg [⟨some 49,none,.load true 1 (.t 2)⟩,⟨some 50,none,.faddr 0 (.t 11)⟩,⟨some 51,none,.load false 1 (.t 50)⟩,⟨some 52,none,.call 132 [(.t 49),(.t 51)]⟩,⟨some 48,none,.mv (.t 52)⟩,⟨some 53,none,.ext (.t 48) 0⟩,⟨some 54,none,.ext (.t 48) 1⟩,⟨(some 12),none,(.alloc 71 [(.str ⟨#[]⟩),.nil])⟩,⟨none,none,(.store 2 (.t 12) (.t 53))⟩,⟨some 13,none,.mv (.t 54)⟩]) (.seq (.reg [⟨some 55,none,.mv (.t 13)⟩,⟨some 56,none,.un .not (.t 55)⟩]) (.cond (.t 56) (.dreg [[],[0],[],[2],[],[4],[5,4],[3,2,6,5,4],[7,3,2,6,5,4],[1,0,8,7,3,2,6,5,4],[0,1,2,3,4,5,6,7,8,9],[10,0,1,2,3,4,5,6,7,8,9]] [⟨some 57,none,.faddr 0 (.t 6)⟩,⟨some 58,none,.load false 1 (.t 57)⟩,⟨some 59,none,.faddr 0 (.t 11)⟩,⟨some 60,none,.load false 1 (.t 59)⟩,⟨some 61,none,.faddr 1 (.t 11)⟩,⟨some 62,none,.load true 2 (.t 61)⟩,⟨some 63,none,.call 133 [(.t 62)]⟩,⟨(some 64),none,(.build [(.str ⟨#[]⟩),(.str ⟨#[]⟩),.nil] [(0,(1,(.t 60))),(1,(2,(.t 63)))])⟩,⟨(some 65),none,(.mkrow 139 3 [(.str ⟨#[]⟩),(.str ⟨#[]⟩),.nil] 1 [(0,(.t 64))])⟩,⟨(some 66),none,(.append 139 3 56 [(.str ⟨#[]⟩),(.str ⟨#[]⟩),.nil] (.t 58) (.t 65))⟩,⟨some 67,none,.faddr 0 (.t 6)⟩,⟨none,none,(.store 1 (.t 67) (.t 66))⟩]) .skip))))) (.reg [⟨some 68,none,.bin .add false (.t 44) (.c (.int .i64 1))⟩,⟨some 44,none,.mv (.t 68)⟩]))))))) (.seq (.reg [⟨some 69,none,.faddr 0 (.t 6)⟩,⟨some 70,none,.load false 1 (.t 69)⟩,⟨some 71,none,.call 134 [(.t 70),(.c (.fn 135 []))]⟩]) (.seq (.seq (.reg [⟨some 72,none,.load true 1 (.t 6)⟩,⟨some 73,none,.call 131 [(.t 72)]⟩,⟨some 74,none,.un .not (.t 73)⟩]) (.cond (.t 74) (.seq (.reg [⟨some 75,none,.build [.nil] []⟩,⟨none,none,(.store 1 (.t 4) (.t 75))⟩,⟨some 5,none,.mv (.c (.bool false))⟩]) .ret) .skip)) (.seq (.reg [⟨some 76,none,.load true 1 (.t 6)⟩,⟨none,none,(.store 1 (.t 4) (.t 76))⟩,⟨some 5,none,.mv (.c (.bool true))⟩]) .ret)))))))
theorem P5:codeOf Tryz.prog 91=some ⟨77,JH,[(.cell 4 true 1),(.tmp 5)]⟩:=by kernel_rfl
theorem Aj:modes 91=⟨[],.own [some (139,3),none],none,false⟩:=by unfold modes; rfl
theorem Sb.RF {u:Sb} (hu:u.ok=true) {t:Tm} (ht:t.valid=true):(t.ap u.look).nodes≤900:=by
 have h:=Tm.IE (Sb.Fg hu) t
 have h2:t.nodes≤30:=Tm.As (by unfold Tm.expr; rw [ht]; rfl)
 omega
theorem WS {t:Tm} (h:t.valid=true):t.names=true:=by
 unfold Tm.valid at h; rw [zD] at h; exact h.2
theorem Ed {t:Tm} (h:t.valid=true):t.nodes≤30:=Tm.As (by unfold Tm.expr; rw [h]; rfl)
theorem ok_len {s:Sb} (h:s.ok=true):s.binds.length≤12:=by
 unfold Sb.ok at h; rw [zD,decide_eq_true_eq] at h; exact h.1
theorem Qcq (s u:Sb):(Ck s u).binds.length≤s.binds.length+u.binds.length:=by
 unfold Ck
 show ((Cr s u).mergeSort bdLe).length≤_
 rw [(zT _ _).length_eq]
 exact R5 s u
theorem YJ {s u:Sb} (hs:s.ok=true) (hu:u.ok=true) {b:Bd} (h:b∈Cr s u):b.term.nodes≤900:=by
 unfold Cr at h
 rcases zU.1 h with h | h
 ·obtain ⟨c,hc,_,e⟩:=TG h
  obtain ⟨k,hk,rfl⟩:=zL hc
  rw [e]
  exact Sb.RF hu (Dz (Sb.J6 hs hk))
 ·have hc:=(List.mem_filter.1 h).1
  obtain ⟨k,hk,rfl⟩:=zL hc
  have:=Ed (Dz (Sb.J6 hu hk))
  omega
theorem TK {s u:Sb} (hs:s.ok=true) (hu:u.ok=true):(Ck s u).tame:=by
 have h1:=Qcq s u
 have h2:=ok_len hs
 have h3:=ok_len hu
 refine ⟨by omega,fun y hy=>?_⟩
 have:=YJ hs hu ((zT (Cr s u) bdLe).mem_iff.1 hy)
 omega
noncomputable def Cs (s u:Sb):Bool:=(Ck s u).ok
noncomputable def Fp (s u:Sb):Sb:=bif Cs s u then Ck s u else ⟨[]⟩
theorem Js (s u:Sb) (hs:s.ok=true) (hu:u.ok=true) (hts:s.tame) (htu:u.tame):E 91 [s.sv,u.sv] []=some (.tup [(Fp s u).osv,.bool (Cs s u)],(Fp s u).obs):=by
  have hsl:=ok_len hs
  have hul:=ok_len hu
  have hnil:(([]:List Bd)=[])=True:=eq_self _
  refine Af P5 Aj (of_decide_eq_true rfl) ?_
  simp (disch:=omega) only [JH,go_sem,Aa]
  refine go_loop (α:=Int × List Bd) (fun a=>⟨slots 77 0 [(2,.ptr 0 0),(3,.ptr 1 0),(4,.ptr 2 0),(6,.ptr 3 0),(16,.arr (s.binds.map Bd.d)),(17,.int .i64 s.binds.length),(18,.int .i64 a.1)],(if a.2=[] then [.box 76 [.arr (s.binds.map Bd.d)],.box 76 [.arr (u.binds.map Bd.d)],.box 76 [.nil],.box 76 [.nil]] else [.box 76 [.arr (s.binds.map Bd.d)],.box 76 [.arr (u.binds.map Bd.d)],.box 76 [.nil],.box 76 [.ref 4],.row 139 3 (a.2.map Bd.o)])⟩) (fun a=>∃ k:Nat,a.1=k∧k≤s.binds.length∧a.2++(s.binds.drop k).filterMap (CH u)=Hq s u∧a.2.length≤k) (fun a=>s.binds.length-a.1.toNat) (0,[]) ⟨0,rfl,zI _,by rw [zJ]; rfl,zW _⟩ (by simp (disch:=omega) only [go_sem,Aa,hnil,if_true]) ?_
  rintro ⟨i,acc⟩ ⟨k,hi,hk,hR,hal⟩
  dsimp only at hi hR hal
  have hni:i.toNat=k:=by omega
  have hni1:(i+1).toNat=k+1:=by omega
  rcases zF k s.binds.length with hlt | hge
  · have hg:=get_at Bd.d hlt
    rw [Bd.d_eq] at hg
    have hval:=Dz (Sb.J6 hs hlt)
    have hc:=ZF u hu htu s.binds[k].term (WS hval) (by have:=Ed hval; omega)
    rw [zA hlt,z8] at hR
    cases hq:dec ((s.binds[k].term.ap u.look).name=s.binds[k].var) with
    | true =>
      have ho:CH u s.binds[k]=none:=by unfold CH; rw [hq]; rfl
      rw [ho] at hR
      rcases zM acc with ha | ⟨ys,y,ha⟩
      · subst ha
        simp (disch:=omega) only [go_sem,Aa,hni,hg,hc,hq,hnil,if_true,Tm.osv,Tm.obs,Aw,A5,AX]
        exact ⟨(i+1,[]),⟨k+1,by dsimp only; omega,hlt,hR,by dsimp only; omega⟩,by dsimp only; omega,by first | trivial | rfl | simp only [hnil,if_true,and_self]⟩
      · have hne:(acc=[])=False:=eq_false (by rw [ha]; simp)
        simp (disch:=omega) only [go_sem,Aa,hni,hg,hc,hq,hne,if_false,Tm.osv,Tm.obs,zH,Aw,A5,AX]
        exact ⟨(i+1,acc),⟨k+1,by dsimp only; omega,hlt,hR,by dsimp only; omega⟩,by dsimp only; omega,by first | trivial | rfl | simp only [hne,if_false,and_self]⟩
    | false =>
      have ho:CH u s.binds[k]=some ⟨s.binds[k].var,s.binds[k].term.ap u.look⟩:=by unfold CH; rw [hq]; rfl
      rw [ho] at hR
      obtain ⟨b,hb⟩:∃ b:Bd,b=⟨s.binds[k].var,s.binds[k].term.ap u.look⟩:=⟨_,rfl⟩
      have hbo:[OT.str s.binds[k].var,.str (s.binds[k].term.ap u.look).name,.ow ((s.binds[k].term.ap u.look).args.map Tm.o)]=b.o:=by rw [hb]; rfl
      have hR':(acc++[b])++(s.binds.drop (k+1)).filterMap (CH u)=Hq s u:=by rw [hb,zY]; exact hR
      have hnea:(acc++[b]=[])=False:=eq_false (by simp)
      have hlen:(acc++[b]).length≤k+1:=by rw [zG]; simp only [zE,zV]; omega
      rcases zM acc with ha | ⟨ys,y,ha⟩
      · subst ha
        have hneb:([b]=[])=False:=eq_false (by simp)
        simp (disch:=omega) only [go_sem,Aa,hni,hg,hc,hq,hnil,if_true,Tm.osv,Tm.obs,Aw,A5,AX]
        exact ⟨(i+1,[b]),⟨k+1,by dsimp only; omega,hlt,hR',by simp⟩,by dsimp only; omega,by simp only [hneb,if_false,← hbo,zK,zN,and_self]⟩
      · have hne:(acc=[])=False:=eq_false (by rw [ha]; simp)
        simp (disch:=omega) only [go_sem,Aa,hni,hg,hc,hq,hne,if_false,Tm.osv,Tm.obs,zH,Aw,A5,AX]
        exact ⟨(i+1,acc++[b]),⟨k+1,by dsimp only; omega,hlt,hR',by dsimp only; omega⟩,by dsimp only; omega,by simp only [hnea,if_false,← hbo,yH,zK,zN,and_self]⟩
  rw [zB hge,List.filterMap_nil,List.append_nil] at hR
  subst hR
  have hl1:(Hq s u).length≤12:=by omega
  have htame:=TK hs hu
  have hvalid:=DI (Ck s u) htame
  have hnd:=Nv (Sb.J5 hs) (Sb.J5 hu)
  have hcl:=R5 s u
  have hsort:=Qd1 (Cr s u) (by omega) hnd
  have hsn:=QaK
  have hosv:(Ck s u).sv=.agg [.arr (((Cr s u).mergeSort bdLe).map Bd.d)]:=rfl
  rw [hosv] at hvalid
  have hor:((Hq s u=[])=True)∨((Hq s u=[])=False):=by
    by_cases h:Hq s u=[]
    · exact .inl (eq_true h)
    · exact .inr (eq_false h)
  rcases hor with hE | hE
  all_goals
    simp (disch:=omega) only [go_sem,Aa,hni,hE,if_true,if_false]
    refine go_loop (α:=Int × List Bd) (fun a=>⟨slots 77 0 [(2,.ptr 0 0),(4,.ptr 1 0),(6,.ptr 2 0),(42,.arr (u.binds.map Bd.d)),(43,.int .i64 u.binds.length),(44,.int .i64 a.1)],(if a.2=[] then [.box 76 [.arr (s.binds.map Bd.d)],.box 76 [.nil],.box 76 [.nil]] else [.box 76 [.arr (s.binds.map Bd.d)],.box 76 [.nil],.box 76 [.ref 3],.row 139 3 (a.2.map Bd.o)])⟩) (fun a=>∃ k:Nat,a.1=k∧k≤u.binds.length∧a.2++(u.binds.drop k).filter (fun b=>!DJ s.binds b.var)=Cr s u∧a.2.length≤12+k) (fun a=>u.binds.length-a.1.toNat) (0,Hq s u) ⟨0,rfl,zI _,by rw [zJ]; rfl,by dsimp only; omega⟩ (by simp (disch:=omega) only [go_sem,Aa,hE,if_true,if_false]) ?_
    rintro ⟨i,acc⟩ ⟨k,hi,hk,hR,hal⟩
    dsimp only at hi hR hal
    have hni:i.toNat=k:=by omega
    have hni1:(i+1).toNat=k+1:=by omega
    rcases zF k u.binds.length with hlt | hge
    · have hg:=get_at Bd.d hlt
      rw [Bd.d_eq] at hg
      have hval:=Dz (Sb.J6 hu hlt)
      have hc:=Jn u.binds[k].term (by have:=Ed hval; omega)
      rw [zA hlt,List.filter_cons] at hR
      cases hh:DJ s.binds u.binds[k].var with
      | true =>
        have hq:=Y4 s hs u.binds[k].var (by omega) hh (HD hh)
        rw [hh,if_neg (by simp)] at hR
        rcases zM acc with ha | ⟨ys,y,ha⟩
        · subst ha
          simp (disch:=omega) only [go_sem,Aa,hni,hg,hc,hq,hnil,if_true,Tm.osv,Tm.obs,Aw,A5,AX]
          exact ⟨(i+1,[]),⟨k+1,by dsimp only; omega,hlt,hR,by simp⟩,by dsimp only; omega,by first | trivial | rfl | simp only [hnil,if_true,and_self]⟩
        · have hne:(acc=[])=False:=eq_false (by rw [ha]; simp)
          simp (disch:=omega) only [go_sem,Aa,hni,hg,hc,hq,hne,if_false,Tm.osv,Tm.obs,zH,Aw,A5,AX]
          exact ⟨(i+1,acc),⟨k+1,by dsimp only; omega,hlt,hR,by dsimp only; omega⟩,by dsimp only; omega,by first | trivial | rfl | simp only [hne,if_false,and_self]⟩
      | false =>
        have hq:=QaF s hs u.binds[k].var (by omega) hh
        rw [hh,if_pos (by simp)] at hR
        have hbo:[OT.str u.binds[k].var,.str u.binds[k].term.name,.ow (u.binds[k].term.args.map Tm.o)]=u.binds[k].o:=rfl
        have hR':(acc++[u.binds[k]])++(u.binds.drop (k+1)).filter (fun b=>!DJ s.binds b.var)=Cr s u:=by rw [zY]; exact hR
        have hnea:(acc++[u.binds[k]]=[])=False:=eq_false (by simp)
        have hlen:(acc++[u.binds[k]]).length≤12+(k+1):=by rw [zG]; simp only [zE,zV]; omega
        rcases zM acc with ha | ⟨ys,y,ha⟩
        · subst ha
          have hneb:([u.binds[k]]=[])=False:=eq_false (by simp)
          simp (disch:=omega) only [go_sem,Aa,hni,hg,hc,hq,hnil,if_true,Tm.osv,Tm.obs,Aw,A5,AX]
          exact ⟨(i+1,[u.binds[k]]),⟨k+1,by dsimp only; omega,hlt,hR',by simp; omega⟩,by dsimp only; omega,by simp only [hneb,if_false,← hbo,zK,zN,and_self]⟩
        · have hne:(acc=[])=False:=eq_false (by rw [ha]; simp)
          simp (disch:=omega) only [go_sem,Aa,hni,hg,hc,hq,hne,if_false,Tm.osv,Tm.obs,zH,Aw,A5,AX]
          exact ⟨(i+1,acc++[u.binds[k]]),⟨k+1,by dsimp only; omega,hlt,hR',by dsimp only; omega⟩,by dsimp only; omega,by simp only [hnea,if_false,← hbo,yH,zK,zN,and_self]⟩
    · rw [zB hge,List.filter_nil,List.append_nil] at hR
      subst hR
      unfold Fp
      cases hok:Cs s u with
      | false =>
        have hok':(Ck s u).ok=false:=hok
        rw [hok'] at hvalid
        simp only [cond_false]
        rcases zM (Cr s u) with ha | ⟨ys,y,ha⟩
        · have hz:(Cr s u=[])=True:=eq_true ha
          rw [ha,yA,zN] at hvalid
          simp (disch:=omega) only [go_sem,Aa,hni,hz,if_true,hsn,hvalid,Ax,A4]
          try rfl
        · have hz:(Cr s u=[])=False:=eq_false (by rw [ha]; simp)
          simp (disch:=omega) only [go_sem,Aa,hni,hz,if_false,hsort,hvalid,Bd.erss,Bd.fus,Ax,A4]
          try rfl
      | true =>
        have hok':(Ck s u).ok=true:=hok
        rw [hok'] at hvalid
        simp only [cond_true]
        rcases zM (Cr s u) with ha | ⟨ys,y,ha⟩
        · have hz:(Cr s u=[])=True:=eq_true ha
          have hcs:Ck s u=⟨[]⟩:=by unfold Ck; rw [ha,yA]
          rw [hcs]
          rw [ha,yA,zN] at hvalid
          simp (disch:=omega) only [go_sem,Aa,hni,hz,if_true,hsn,hvalid,Ax,A4]
          try rfl
        · have hz:(Cr s u=[])=False:=eq_false (by rw [ha]; simp)
          simp (disch:=omega) only [go_sem,Aa,hni,hz,if_false,hsort,hvalid,Bd.erss,Bd.fus,Ax,A4]
          try rfl
def Jt:SC:=(.seq (.reg [⟨some 3,none,.boxv 76 1 (.t 0)⟩,⟨some 5,none,.boxv 71 2 (.t 2)⟩,⟨some 6,none,.alloc 76 [.nil]⟩]) (.seq (.seq (.reg [⟨some 9,none,.faddr 0 (.t 5)⟩,⟨some 10,none,.load false 1 (.t 9)⟩,⟨some 11,none,.mv (.t 1)⟩,⟨some 12,none,.bin .eql false (.t 10) (.t 11)⟩]) (.cond (.t 12) (.seq (.reg [⟨some 13,none,.load true 1 (.t 3)⟩,⟨none,none,(.store 1 (.t 6) (.t 13))⟩]) .ret) .skip)) (.seq (.reg [⟨some 7,none,.mv (.c (.int .i64 0))⟩]) (.seq (.block 0 (.loop [0,1,0,1,0,1,1,1,0,0,0,0,0,0,0,0,0,0,0,0,0,0,0,0,0,0,0,0,0,0,0,0,0,0,0,0,0,0,0,0,0,0,0,0,0,0,0,0,0,0,0] (.seq (.seq (.reg [⟨some 14,none,.mv (.t 7)⟩,⟨some 15,none,.faddr 0 (.t 3)⟩,⟨some 16,none,.load false 1 (.t 15)⟩,⟨some 17,none,.len false (.t 16)⟩,⟨some 18,none,.bin .lss false (.t 14) (.t 17)⟩,⟨some 19,none,.mv (.t 18)⟩,⟨(some 20),(some (19,true)),(.faddr 0 (.t 3))⟩,⟨(some 21),(some (19,true)),(.load false 1 (.t 20))⟩,⟨(some 22),(some (19,true)),(.mv (.t 7))⟩,⟨(some 23),(some (19,true)),(.iaddr 3 (.t 21) (.t 22))⟩,⟨(some 24),(some (19,true)),(.faddr 0 (.t 23))⟩,⟨(some 25),(some (19,true)),(.load false 1 (.t 24))⟩,⟨(some 26),(some (19,true)),(.mv (.t 1))⟩,⟨(some 27),(some (19,true)),(.bin .lss false (.t 25) (.t 26))⟩,⟨some 28,none,.pick (.t 19) (.t 27) (.c (.bool false))⟩]) (.cond (.t 28) .skip (.exit 0))) (.block 1 (.reg [⟨some 29,none,.mv (.t 7)⟩,⟨some 30,none,.bin .add false (.t 29) (.c (.int .i64 1))⟩,⟨some 7,none,.mv (.t 30)⟩]))))) (.seq (.reg [⟨(some 31),none,(.mkrow 139 3 [(.str ⟨#[]⟩),(.str ⟨#[]⟩),.nil] 0 [])⟩,⟨some 32,none,.faddr 0 (.t 3)⟩,⟨some 33,none,.load false 1 (.t 32)⟩,⟨some 34,none,.mv (.t 7)⟩,⟨some 35,none,.slice false 3 (.t 33) none (some (.t 34))⟩,⟨(some 36),none,(.append 139 3 56 [(.str ⟨#[]⟩),(.str ⟨#[]⟩),.nil] (.t 31) (.t 35))⟩,⟨some 8,none,.mv (.t 36)⟩]) (.seq (.reg [⟨some 37,none,.mv (.t 8)⟩,⟨some 38,none,.mv (.t 1)⟩,⟨some 39,none,.load true 2 (.t 5)⟩,⟨some 40,none,.call 148 [(.t 39)]⟩,⟨(some 41),none,(.build [(.str ⟨#[]⟩),(.str ⟨#[]⟩),.nil] [(0,(1,(.t 38))),(1,(2,(.t 40)))])⟩,⟨(some 42),none,(.mkrow 139 3 [(.str ⟨#[]⟩),(.str ⟨#[]⟩),.nil] 1 [(0,(.t 41))])⟩,⟨(some 43),none,(.append 139 3 56 [(.str ⟨#[]⟩),(.str ⟨#[]⟩),.nil] (.t 37) (.t 42))⟩,⟨some 8,none,.mv (.t 43)⟩]) (.seq (.reg [⟨some 44,none,.mv (.t 8)⟩,⟨some 45,none,.faddr 0 (.t 3)⟩,⟨some 46,none,.load false 1 (.t 45)⟩,⟨some 47,none,.mv (.t 7)⟩,⟨some 48,none,.slice false 3 (.t 46) (some (.t 47)) none⟩,⟨(some 49),none,(.append 139 3 56 [(.str ⟨#[]⟩),(.str ⟨#[]⟩),.nil] (.t 44) (.t 48))⟩,⟨some 50,none,.build [.nil] [(0,(1,(.t 49)))]⟩,⟨none,none,(.store 1 (.t 6) (.t 50))⟩]) .ret)))))))
theorem N5:codeOf Tryz.prog 116=some ⟨51,Jt,[(.cell 6 true 1)]⟩:=by kernel_rfl
theorem C5:modes 116=⟨[],.frz,none,false⟩:=by unfold modes; rfl
def IQ:SC:=(.seq (.reg [⟨some 2,none,.boxv 76 1 (.t 0)⟩,⟨some 3,none,.boxv 76 1 (.t 1)⟩,⟨some 4,none,.alloc 76 [.nil]⟩]) (.seq (.reg [⟨some 8,none,.build [.nil] []⟩,⟨some 5,none,.alloc 76 [.nil]⟩,⟨none,none,(.store 1 (.t 5) (.t 8))⟩]) (.seq (.seq (.reg [⟨some 6,none,.mv (.c (.int .i64 0))⟩]) (.block 0 (.loop [0,0,1,1,1,1,1,0,0,0,0,0,0,0,0,0,0,0,0,0,0,0,0,0,0,0,0,0,0,0,0,0,0,0,0,0,0,0,0,0,0,0,0,0,0,0,0,0,0,0,0,0,0,0,0,0,0,0,0,0,0,0,0] (.seq (.seq (.reg [⟨some 9,none,.mv (.t 6)⟩,⟨some 10,none,.faddr 0 (.t 2)⟩,⟨some 11,none,.load false 1 (.t 10)⟩,⟨some 12,none,.len false (.t 11)⟩,⟨some 13,none,.bin .lss false (.t 9) (.t 12)⟩]) (.cond (.t 13) .skip (.exit 0))) (.seq (.block 1 (.dreg [[],[],[1],[],[2,1,3],[4,2,1,3],[5,4,2,1,3],[],[],[8],[],[9,8,10],[11,9,8,10],[12,11,9,8,10],[7,13,12,11,9,8,10],[0,6,5,4,2,1,3,14,7,13,12,11,9,8,10],[15,0,6,5,4,2,1,3,14,7,13,12,11,9,8,10]] [⟨some 16,none,.load true 1 (.t 5)⟩,⟨some 17,none,.faddr 0 (.t 2)⟩,⟨some 18,none,.load false 1 (.t 17)⟩,⟨some 19,none,.mv (.t 6)⟩,⟨some 20,none,.iaddr 3 (.t 18) (.t 19)⟩,⟨some 21,none,.faddr 0 (.t 20)⟩,⟨some 22,none,.load false 1 (.t 21)⟩,⟨some 23,none,.load true 1 (.t 3)⟩,⟨some 24,none,.faddr 0 (.t 2)⟩,⟨some 25,none,.load false 1 (.t 24)⟩,⟨some 26,none,.mv (.t 6)⟩,⟨some 27,none,.iaddr 3 (.t 25) (.t 26)⟩,⟨some 28,none,.faddr 1 (.t 27)⟩,⟨some 29,none,.load true 2 (.t 28)⟩,⟨some 30,none,.call 111 [(.t 23),(.t 29)]⟩,⟨some 31,none,.call 116 [(.t 16),(.t 22),(.t 30)]⟩,⟨none,none,(.store 1 (.t 5) (.t 31))⟩])) (.reg [⟨some 14,none,.mv (.t 6)⟩,⟨some 15,none,.bin .add false (.t 14) (.c (.int .i64 1))⟩,⟨some 6,none,.mv (.t 15)⟩])))))) (.seq (.seq (.reg [⟨some 7,none,.mv (.c (.int .i64 0))⟩]) (.block 2 (.loop [0,0,1,1,1,1,0,1,0,0,0,0,0,0,0,0,0,0,0,0,0,0,0,0,0,0,0,0,0,0,0,0,0,0,0,0,0,0,0,0,0,0,0,0,0,0,0,0,0,0,0,0,0,0,0,0,0,0,0,0,0,0,0] (.seq (.seq (.reg [⟨some 32,none,.mv (.t 7)⟩,⟨some 33,none,.faddr 0 (.t 3)⟩,⟨some 34,none,.load false 1 (.t 33)⟩,⟨some 35,none,.len false (.t 34)⟩,⟨some 36,none,.bin .lss false (.t 32) (.t 35)⟩]) (.cond (.t 36) .skip (.exit 2))) (.seq (.block 3 (.seq (.dreg [[],[],[1],[],[2,1,3],[4,2,1,3],[5,4,2,1,3],[0,6,5,4,2,1,3],[7,0,6,5,4,2,1,3]] [⟨some 39,none,.load true 1 (.t 2)⟩,⟨some 40,none,.faddr 0 (.t 3)⟩,⟨some 41,none,.load false 1 (.t 40)⟩,⟨some 42,none,.mv (.t 7)⟩,⟨some 43,none,.iaddr 3 (.t 41) (.t 42)⟩,⟨some 44,none,.faddr 0 (.t 43)⟩,⟨some 45,none,.load false 1 (.t 44)⟩,⟨some 46,none,.call 147 [(.t 39),(.t 45)]⟩,⟨some 47,none,.bin .lss false (.t 46) (.c (.int .i64 0))⟩]) (.cond (.t 47) (.dreg [[],[],[1],[],[2,1,3],[4,2,1,3],[5,4,2,1,3],[],[7],[],[8,7,9],[10,8,7,9],[11,10,8,7,9],[0,6,5,4,2,1,3,12,11,10,8,7,9],[13,0,6,5,4,2,1,3,12,11,10,8,7,9]] [⟨some 48,none,.load true 1 (.t 5)⟩,⟨some 49,none,.faddr 0 (.t 3)⟩,⟨some 50,none,.load false 1 (.t 49)⟩,⟨some 51,none,.mv (.t 7)⟩,⟨some 52,none,.iaddr 3 (.t 50) (.t 51)⟩,⟨some 53,none,.faddr 0 (.t 52)⟩,⟨some 54,none,.load false 1 (.t 53)⟩,⟨some 55,none,.faddr 0 (.t 3)⟩,⟨some 56,none,.load false 1 (.t 55)⟩,⟨some 57,none,.mv (.t 7)⟩,⟨some 58,none,.iaddr 3 (.t 56) (.t 57)⟩,⟨some 59,none,.faddr 1 (.t 58)⟩,⟨some 60,none,.load true 2 (.t 59)⟩,⟨some 61,none,.call 116 [(.t 48),(.t 54),(.t 60)]⟩,⟨none,none,(.store 1 (.t 5) (.t 61))⟩]) .skip))) (.reg [⟨some 37,none,.mv (.t 7)⟩,⟨some 38,none,.bin .add false (.t 37) (.c (.int .i64 1))⟩,⟨some 7,none,.mv (.t 38)⟩])))))) (.seq (.reg [⟨some 62,none,.load true 1 (.t 5)⟩,⟨none,none,(.store 1 (.t 4) (.t 62))⟩]) .ret)))))
theorem OA:codeOf Tryz.prog 150=some ⟨63,IQ,[(.cell 4 true 1)]⟩:=by kernel_rfl
theorem FH:modes 150=⟨[],.frz,none,false⟩:=by unfold modes; rfl
def Br:SC:=(.seq (.reg [⟨some 2,none,.boxv 76 1 (.t 0)⟩,⟨some 3,none,.boxv 76 1 (.t 1)⟩,⟨some 4,none,.alloc 76 [.nil]⟩,⟨some 5,none,.mv (.c (.bool false))⟩]) (.seq (.seq (.reg [⟨some 7,none,.load true 1 (.t 2)⟩,⟨some 8,none,.call 109 [(.t 7)]⟩,⟨some 9,none,.un .not (.t 8)⟩,⟨some 10,none,.mv (.t 9)⟩,⟨(some 11),(some (10,false)),(.load true 1 (.t 3))⟩,⟨(some 12),(some (10,false)),(.call 109 [(.t 11)])⟩,⟨(some 13),(some (10,false)),(.un .not (.t 12))⟩,⟨some 14,none,.pick (.t 10) (.c (.bool true)) (.t 13)⟩]) (.cond (.t 14) (.seq (.reg [⟨some 15,none,.build [.nil] []⟩,⟨none,none,(.store 1 (.t 4) (.t 15))⟩,⟨some 5,none,.mv (.c (.bool false))⟩]) .ret) .skip)) (.seq (.reg [⟨some 16,none,.load true 1 (.t 2)⟩,⟨some 17,none,.load true 1 (.t 3)⟩,⟨some 18,none,.call 150 [(.t 16),(.t 17)]⟩,⟨some 6,none,.alloc 76 [.nil]⟩,⟨none,none,(.store 1 (.t 6) (.t 18))⟩]) (.seq (.seq (.reg [⟨some 19,none,.load true 1 (.t 6)⟩,⟨some 20,none,.call 109 [(.t 19)]⟩,⟨some 21,none,.un .not (.t 20)⟩]) (.cond (.t 21) (.seq (.reg [⟨some 22,none,.build [.nil] []⟩,⟨none,none,(.store 1 (.t 4) (.t 22))⟩,⟨some 5,none,.mv (.c (.bool false))⟩]) .ret) .skip)) (.seq (.reg [⟨some 23,none,.load true 1 (.t 6)⟩,⟨none,none,(.store 1 (.t 4) (.t 23))⟩,⟨some 5,none,.mv (.c (.bool true))⟩]) .ret)))))
theorem BG:codeOf Tryz.prog 115=some ⟨24,Br,[(.cell 4 true 1),(.tmp 5)]⟩:=by kernel_rfl
theorem Bs:modes 115=⟨[],.frz,none,false⟩:=by unfold modes; rfl
noncomputable def Sb.put (x:Sb) (b:Bd):Sb:=bif dec (b.term.name=b.var) then x else ⟨Gh x.binds b⟩
theorem Bd.ot_take (xs:List Bd) (k:Nat):((xs.map Bd.d).take k).map (fun x=>x.map D.ot)=(xs.take k).map fun b=>b.d.map D.ot:=by
 rw [←List.map_take,zX]; rfl
theorem Bd.ot_drop (xs:List Bd) (k:Nat):((xs.map Bd.d).drop k).map (fun x=>x.map D.ot)=(xs.drop k).map fun b=>b.d.map D.ot:=by
 rw [←List.map_drop,zX]; rfl
theorem Bd.al3 (xs:List Bd):((xs.map fun b=>b.d.map D.ot).all fun l=>l.length == 3)=true:=by
 rw [zZ,zR]
 intro x _
 show ((x.d.map D.ot).length == 3)=true
 rw [Bd.d_eq]; rfl
theorem Bd.ald3 (xs:List Bd):((xs.map Bd.d).all fun l=>l.length == 3)=true:=by
 rw [zZ,zR]
 intro x _
 show (x.d.length == 3)=true
 rw [Bd.d_eq]; rfl
theorem Bd.dfu:∀ xs:List Bd,OT.AL (xs.map fun b=>b.d.map D.ot)=true
 | []=>rfl
 | x :: xs=>by rw [zK,Bd.d_eq]; simp [OT.AL,OT.Ds,OT.full,D.ot,Bd.dfu xs]
theorem Bd.der:∀ xs:List Bd,OT.erss (xs.map fun b=>b.d.map D.ot)=xs.map Bd.d
 | []=>rfl
 | x :: xs=>by rw [zK,zK,Bd.d_eq]; simp [OT.erss,OT.ers,OT.er,D.ot,Bd.der xs]
theorem QaL {xs:List Bd} {n:ByteArray} {k:Nat} (h:k+Bm (xs.drop k) n=Bm xs n) (hk:k<xs.length):(strLt xs[k].var n=true∧k+1+Bm (xs.drop (k+1)) n=Bm xs n)∨(strLt xs[k].var n=false∧k=Bm xs n):=by
 rw [zA hk,Bm] at h
 cases hq:strLt xs[k].var n with
 | true=>rw [hq] at h; simp only [cond_true,if_true] at h; exact .inl ⟨rfl,by omega⟩
 | false=>rw [hq] at h; simp only [cond_false,Bool.false_eq_true,if_false] at h; exact .inr ⟨rfl,by omega⟩
theorem UN (x:Sb) (n:ByteArray) (t:Tm) (hl:x.binds.length≤1048576) (ht:t.nodes≤1099511627776):E 116 [x.sv,.str n,t.sv] []=some ((x.put ⟨n,t⟩).sv,[]):=by
  have ho:=PG t ht
  have e1:=Bd.ot_take x.binds (Bm x.binds n)
  have e2:=Bd.ot_drop x.binds (Bm x.binds n)
  have e3:=Bd.al3 (x.binds.take (Bm x.binds n))
  have e4:=Bd.al3 (x.binds.drop (Bm x.binds n))
  have e5:=Bd.ald3 x.binds
  have l1:=U6 n x.binds
  have e6:(x.binds.map Bd.d).take x.binds.length=x.binds.map Bd.d:=List.take_of_length_le (by simp)
  have e7:(x.binds.take (Bm x.binds n)).length=Bm x.binds n:=by rw [List.length_take]; omega
  have e8:(x.binds.drop (Bm x.binds n)).length=x.binds.length-Bm x.binds n:=List.length_drop
  have hin:=WE ⟨n,t⟩ x.binds
  have hx2:(x.binds.take (Bm x.binds n)).map (fun b=>b.d.map D.ot)++[[OT.str n,.str t.name,.sh (t.args.map Tm.d)]]++(x.binds.drop (Bm x.binds n)).map (fun b=>b.d.map D.ot)=(Gh x.binds ⟨n,t⟩).map fun b=>b.d.map D.ot:=by
    rw [hin]
    simp only [yH,zK,zY,zS,yI]
    rw [Bd.d_eq]; rfl
  have hfu:=Bd.dfu (Gh x.binds ⟨n,t⟩)
  have her:=Bd.der (Gh x.binds ⟨n,t⟩)
  have hsv:(Sb.mk (Gh x.binds ⟨n,t⟩)).sv=.agg [.arr ((Gh x.binds ⟨n,t⟩).map Bd.d)]:=rfl
  unfold Sb.put
  cases hq:dec (t.name=n) with
  | true =>
    simp only [hq,cond_true]
    refine Af N5 C5 (of_decide_eq_true rfl) ?_
    simp (disch:=omega) only [Jt,go_sem,Aa,hq]
    try rfl
  | false =>
    simp only [hq,cond_false]
    rw [hsv]
    refine Af N5 C5 (of_decide_eq_true rfl) ?_
    simp (disch:=omega) only [Jt,go_sem,Aa,hq]
    refine go_loop (α:=Int) (fun a=>⟨slots 51 0 [(1,.str n),(3,.ptr 0 0),(5,.ptr 1 0),(6,.ptr 2 0),(7,.int .i64 a)],[.box 76 [.arr (x.binds.map Bd.d)],.box 71 [.str t.name,.arr (t.args.map Tm.d)],.box 76 [.nil]]⟩) (fun a=>∃ k:Nat,a=k∧k≤(x.binds).length∧k+Bm (x.binds.drop k) n=Bm x.binds n) (fun a=>(x.binds).length-(a).toNat) 0 ⟨0,rfl,zI _,by rw [zJ,Nat.zero_add]⟩ (by simp (disch:=omega) only [go_sem,Aa]) ?_
    rintro i ⟨k,hi,hk,hR⟩
    have hni:i.toNat=k:=by omega
    have hni1:(i+1).toNat=k+1:=by omega
    rcases zF k (x.binds).length with hlt | hge
    · have hg:=get_at Bd.d hlt
      rw [Bd.d_eq] at hg
      rcases QaL hR hlt with ⟨q,hR'⟩ | ⟨q,hk'⟩
      · simp (disch:=omega) only [go_sem,Aa,hni,hg,q]
        exact ⟨i+1,⟨k+1,by omega,hlt,hR'⟩,by omega,by first | trivial | rfl⟩
      · subst hk'
        simp (disch:=omega) only [go_sem,Aa,hni,hg,q,ho,e1,e2,e3,e4,e5,e6,e7,e8,hx2,hfu,her,zG,zQ,CQ]
    · obtain rfl:k=x.binds.length:=by omega
      have hk':x.binds.length=Bm x.binds n:=by rw [←hR,zB (zW _)]; simp [Bm]
      rw [hk'] at hni
      simp (disch:=omega) only [go_sem,Aa,hni,ho,e1,e2,e3,e4,e5,e6,e7,e8,hx2,hfu,her,zG,zQ,CQ]
theorem Qcr (b:Bd) (xs:List Bd):(Gh xs b).length=xs.length+1:=by rw [(Lu b xs).length_eq]; rfl
theorem Qd2 (u:Sb) (acc:List Bd) (b:Bd):(Sb.mk acc).put ⟨b.var,b.term.ap u.look⟩=⟨Il acc (match CH u b with | some c=>[c] | none=>[])⟩:=by
 unfold Sb.put CH
 cases dec ((b.term.ap u.look).name=b.var) with
 | true=>rfl
 | false=>rfl
theorem Qd3 {acc:List Bd} {b:Bd} (h:Hw b=true):(Sb.mk acc).put b=⟨Gh acc b⟩:=by
 unfold Hw at h
 rw [zD,zD,yD] at h
 unfold Sb.put
 rw [h.2.2]; rfl
theorem WT (s u:Sb) (hs:s.ok=true) (hu:u.ok=true) (hts:s.tame) (htu:u.tame):E 150 [s.sv,u.sv] []=some ((Ck s u).sv,[]):=by
  have hsl:=ok_len hs
  have hul:=ok_len hu
  have hend:Il [] (Cr s u)=(Ck s u).binds:=QaJ (Nv (Sb.J5 hs) (Sb.J5 hu))
  have h00:((0:Int)=0)=True:=eq_self _
  have hsv:(Ck s u).sv=.agg [.arr ((Ck s u).binds.map Bd.d)]:=rfl
  rw [hsv]
  refine Af OA FH (of_decide_eq_true rfl) ?_
  simp (disch:=omega) only [IQ,go_sem,Aa]
  refine go_loop (α:=Int × List Bd) (fun a=>⟨slots 63 0 [(2,.ptr 0 0),(3,.ptr 1 0),(4,.ptr 2 0),(5,.ptr 3 0),(6,.int .i64 a.1)],[.box 76 [.arr (s.binds.map Bd.d)],.box 76 [.arr (u.binds.map Bd.d)],.box 76 [.nil],.box 76 [if a.1=0 then .nil else .arr (a.2.map Bd.d)]]⟩) (fun a=>∃ k:Nat,a.1=k∧k≤s.binds.length∧Il a.2 ((s.binds.drop k).filterMap (CH u))=Il [] (Hq s u)∧a.2.length≤k∧(k=0→a.2=[])) (fun a=>s.binds.length-a.1.toNat) (0,[]) ⟨0,rfl,zI _,by rw [zJ]; rfl,zW _,fun _=>rfl⟩ (by simp (disch:=omega) only [go_sem,Aa,h00,if_true]) ?_
  rintro ⟨i,acc⟩ ⟨k,hi,hk,hR,hal,hz⟩
  dsimp only at hi hR hal hz
  have hni:i.toNat=k:=by omega
  have hni1:(i+1).toNat=k+1:=by omega
  have hi1:(i+1=0)=False:=eq_false (by omega)
  rcases zF k s.binds.length with hlt | hge
  · have hg:=get_at Bd.d hlt
    rw [Bd.d_eq] at hg
    have hval:=Dz (Sb.J6 hs hlt)
    have hc:=Ou u hu htu s.binds[k].term (by have:=Ed hval; omega)
    have hn9:=Sb.RF hu hval
    have hp:=UN ⟨acc⟩ s.binds[k].var (s.binds[k].term.ap u.look) (by show acc.length≤_; omega) (by omega)
    rw [Qd2] at hp
    obtain ⟨acc2,ha2⟩:∃ acc2,acc2=Il acc (match CH u s.binds[k] with | some c=>[c] | none=>[]):=⟨_,rfl⟩
    rw [←ha2] at hp
    have hp:E 116 [.agg [.arr (acc.map Bd.d)],.str s.binds[k].var,(s.binds[k].term.ap u.look).sv] []=some (.agg [.arr (acc2.map Bd.d)],[]):=hp
    have hl2:acc2.length≤k+1:=by
      rw [ha2,(O3 _ acc).length_eq,zG]
      cases CH u s.binds[k] with
      | none=>simp only [zV]; omega
      | some c=>simp only [zE,zV]; omega
    have hR2:Il acc2 ((s.binds.drop (k+1)).filterMap (CH u))=Il [] (Hq s u):=by
      rw [←hR,zA hlt,z8,ha2]
      cases CH u s.binds[k] with
      | none=>rfl
      | some c=>rfl
    rcases yB k with h0 | h0
    · have hi0:(i=0)=True:=eq_true (by omega)
      obtain rfl:=hz h0
      rw [zN] at hp
      simp (disch:=omega) only [go_sem,Aa,hni,hg,hc,hp,hi0,if_true,AE,C5,BI]
      exact ⟨(i+1,acc2),⟨k+1,by dsimp only; omega,hlt,hR2,by dsimp only; omega,by intro h; omega⟩,by dsimp only; omega,by simp only [hi1,if_false,and_self]⟩
    · have hi0:(i=0)=False:=eq_false (by omega)
      simp (disch:=omega) only [go_sem,Aa,hni,hg,hc,hp,hi0,if_false,AE,C5,BI]
      exact ⟨(i+1,acc2),⟨k+1,by dsimp only; omega,hlt,hR2,by dsimp only; omega,by intro h; omega⟩,by dsimp only; omega,by simp only [hi1,if_false,and_self]⟩
  rw [zB hge,List.filterMap_nil] at hR
  have hR:acc=Il [] (Hq s u):=hR
  have hor:∃ fl:Bool,(if i=0 then SV.nil else SV.arr (acc.map Bd.d))=(bif fl then SV.arr (acc.map Bd.d) else SV.nil)∧(fl=false→acc=[]):=by
    rcases yB k with h0 | h0
    · exact ⟨false,by rw [if_pos (by omega)]; rfl,fun _=>hz h0⟩
    · exact ⟨true,by rw [if_neg (by omega)]; rfl,fun h=>by cases h⟩
  obtain ⟨fl,hfl,hfz⟩:=hor
  rw [hfl]
  simp (disch:=omega) only [go_sem,Aa,hni]
  refine go_loop (α:=Int × Bool × List Bd) (fun a=>⟨slots 63 0 [(2,.ptr 0 0),(3,.ptr 1 0),(4,.ptr 2 0),(5,.ptr 3 0),(7,.int .i64 a.1)],[.box 76 [.arr (s.binds.map Bd.d)],.box 76 [.arr (u.binds.map Bd.d)],.box 76 [.nil],.box 76 [bif a.2.1 then .arr (a.2.2.map Bd.d) else .nil]]⟩) (fun a=>∃ k:Nat,a.1=k∧k≤u.binds.length∧Il a.2.2 ((u.binds.drop k).filter (fun b=>!DJ s.binds b.var))=Il [] (Cr s u)∧a.2.2.length≤12+k∧(a.2.1=false→a.2.2=[])) (fun a=>u.binds.length-a.1.toNat) (0,fl,acc) ⟨0,rfl,zI _,by rw [zJ,hR,← Qcp]; rfl,by dsimp only; omega,hfz⟩ (by cases fl <;> (simp (disch:=omega) only [go_sem,Aa])) ?_
  clear hR hfl hfz hal hz
  rintro ⟨i,fl,acc⟩ ⟨k,hi,hk,hR,hal,hfz⟩
  dsimp only at hi hR hal hfz
  have hni:i.toNat=k:=by omega
  have hni1:(i+1).toNat=k+1:=by omega
  rcases zF k u.binds.length with hlt | hge
  · have hg:=get_at Bd.d hlt
    rw [Bd.d_eq] at hg
    have hbok:=Sb.J6 hu hlt
    have hval:=Dz hbok
    have hf:=Wt s u.binds[k].var (by omega)
    rw [Rm (Sb.J5 hs)] at hf
    rw [zA hlt,List.filter_cons] at hR
    cases hh:DJ s.binds u.binds[k].var with
    | true =>
      rw [hh,if_pos rfl] at hf
      rw [hh,if_neg (by simp)] at hR
      cases fl with
      | false =>
        simp (disch:=omega) only [go_sem,Aa,hni,hg,hf,AE,C5,BI]
        exact ⟨(i+1,false,acc),⟨k+1,by dsimp only; omega,hlt,hR,by dsimp only; omega,hfz⟩,by dsimp only; omega,by first | trivial | rfl⟩
      | true =>
        simp (disch:=omega) only [go_sem,Aa,hni,hg,hf,AE,C5,BI]
        exact ⟨(i+1,true,acc),⟨k+1,by dsimp only; omega,hlt,hR,by dsimp only; omega,hfz⟩,by dsimp only; omega,by first | trivial | rfl⟩
    | false =>
      rw [hh,if_neg (by simp)] at hf
      rw [hh,if_pos (by simp)] at hR
      have hp:=UN ⟨acc⟩ u.binds[k].var u.binds[k].term (by show acc.length≤_; omega) (by have:=Ed hval; omega)
      have hpt:(Sb.mk acc).put ⟨u.binds[k].var,u.binds[k].term⟩=⟨Gh acc u.binds[k]⟩:=Qd3 hbok
      rw [hpt] at hp
      have hp:E 116 [.agg [.arr (acc.map Bd.d)],.str u.binds[k].var,u.binds[k].term.sv] []=some (.agg [.arr ((Gh acc u.binds[k]).map Bd.d)],[]):=hp
      have hl2:(Gh acc u.binds[k]).length≤12+(k+1):=by rw [Qcr]; omega
      cases fl with
      | false =>
        obtain rfl:=hfz rfl
        rw [zN] at hp
        simp (disch:=omega) only [go_sem,Aa,hni,hg,hf,hp,AE,C5,BI]
        exact ⟨(i+1,true,Gh [] u.binds[k]),⟨k+1,by dsimp only; omega,hlt,hR,hl2,by intro h; cases h⟩,by dsimp only; omega,by first | trivial | rfl⟩
      | true =>
        simp (disch:=omega) only [go_sem,Aa,hni,hg,hf,hp,AE,C5,BI]
        exact ⟨(i+1,true,Gh acc u.binds[k]),⟨k+1,by dsimp only; omega,hlt,hR,hl2,by intro h; cases h⟩,by dsimp only; omega,by first | trivial | rfl⟩
  · rw [zB hge,List.filter_nil] at hR
    have hR:acc=Il [] (Cr s u):=hR
    rw [←hend,← hR]
    cases fl with
    | false =>
      obtain rfl:=hfz rfl
      simp (disch:=omega) only [go_sem,Aa,hni,zN]
    | true =>
      simp (disch:=omega) only [go_sem,Aa,hni,zN]
noncomputable def S8 (s u:Sb):Bool:=s.ok&&(u.ok&&Cs s u)
noncomputable def WU (s u:Sb):Sb:=bif S8 s u then Ck s u else ⟨[]⟩
theorem S9 (s u:Sb) (hts:s.tame) (htu:u.tame):E 115 [s.sv,u.sv] []=some (.tup [(WU s u).sv,.bool (S8 s u)],[]):=by
  have h1:=Nk s hts
  have h2:=Nk u htu
  have z1:(Sb.mk []).osv=.agg [.ref 0]:=rfl
  have z2:(Sb.mk []).obs=[.row 139 3 []]:=rfl
  have z3:(Sb.mk []).sv=.agg [.arr []]:=rfl
  cases hs:s.ok with
  | false =>
    have e:S8 s u=false:=by unfold S8; rw [hs]; rfl
    rw [hs] at h1
    unfold WU
    rw [e]
    simp only [cond_false,z1,z2,z3]
    refine Af BG Bs (of_decide_eq_true rfl) ?_
    simp (disch:=omega) only [Br,go_sem,Aa,h1,h2,Ci]
  | true =>
    rw [hs] at h1
    cases hu:u.ok with
    | false =>
      have e:S8 s u=false:=by unfold S8; rw [hu,yC,yJ]
      rw [hu] at h2
      unfold WU
      rw [e]
      simp only [cond_false,z1,z2,z3]
      refine Af BG Bs (of_decide_eq_true rfl) ?_
      simp (disch:=omega) only [Br,go_sem,Aa,h1,h2,Ci]
    | true =>
      rw [hu] at h2
      have e:S8 s u=Cs s u:=by unfold S8; rw [hs,hu]; rfl
      have h3:=WT s u hs hu hts htu
      unfold WU
      rw [e]
      have h4:=Nk (Ck s u) (TK hs hu)
      have z6:(Ck s u).sv=.agg [.arr ((Ck s u).binds.map Bd.d)]:=rfl
      have e2:Cs s u=(Ck s u).ok:=rfl
      rw [←e2] at h4
      rw [z6] at h3 h4
      cases hq:Cs s u with
      | false =>
        rw [hq] at h4
        simp only [cond_false,z3]
        refine Af BG Bs (of_decide_eq_true rfl) ?_
        simp (disch:=omega) only [Br,go_sem,Aa,h1,h2,h3,h4,Ci,FH]
      | true =>
        rw [hq] at h4
        simp only [cond_true,z6]
        refine Af BG Bs (of_decide_eq_true rfl) ?_
        simp (disch:=omega) only [Br,go_sem,Aa,h1,h2,h3,h4,Ci,FH]
noncomputable def Hx:List ByteArray→ByteArray→List ByteArray
 | [],n=>[n]
 | x :: xs,n=>bif strLt x n then x :: Hx xs n else bif dec (x=n) then x :: xs else n :: x :: xs
noncomputable def Dr:List ByteArray→ByteArray→Nat
 | [],_=>0
 | x :: xs,n=>bif strLt x n then Dr xs n+1 else 0
theorem WV:∀ {xs:List ByteArray} {n m:ByteArray},m∈Hx xs n ↔ m∈xs∨m=n
  | [],n,m=>by simp [Hx]
  | x :: xs,n,m=>by
    rw [Hx]
    cases strLt x n with
    | true=>rw [cond_true,zP,WV,zP,or_assoc]
    | false =>
      rw [cond_false]
      by_cases h:x=n
      · rw [At h,cond_true]
        exact ⟨.inl,fun h'=>h'.elim id fun e=>by subst e; subst h; simp⟩
      · rw [A3 h,cond_false,zP]
        exact or_comm
theorem WW:∀ (xs:List ByteArray) (n:ByteArray),(Hx xs n).length≤xs.length+1
  | [],n=>by simp [Hx]
  | x :: xs,n=>by
    have h:=WW xs n
    rw [Hx]
    cases strLt x n with
    | true=>simp only [cond_true,zE]; omega
    | false =>
      rw [cond_false]
      cases dec (x=n) with
      | true=>simp only [cond_true,zE]; omega
      | false=>simp only [cond_false,zE]; omega
theorem ZR:∀ (xs:List ByteArray) (n:ByteArray),Dr xs n≤xs.length
 | [],n=>by simp [Dr]
 | x :: xs,n=>by
  have h:=ZR xs n
  rw [Dr]
  cases strLt x n with
  | true=>simp only [cond_true,zE]; omega
  | false=>simp only [cond_false,zE]; omega
theorem RG:∀ {xs:List ByteArray} {n:ByteArray} (h:Dr xs n<xs.length),xs[Dr xs n]=n→Hx xs n=xs
  | [],n,h,_=>by simp at h
  | x :: xs,n,h,e=>by
    rw [Hx]
    cases hq:strLt x n with
    | true =>
      simp only [Dr,hq,cond_true,zE,List.getElem_cons_succ] at h e
      rw [cond_true,RG (by omega) e]
    | false =>
      simp only [Dr,hq,cond_false,List.getElem_cons_zero] at e
      rw [cond_false,At e]; rfl
theorem RH:∀ {xs:List ByteArray} {n:ByteArray},(∀ h:Dr xs n<xs.length,¬ xs[Dr xs n]=n)→Hx xs n=xs.take (Dr xs n)++n :: xs.drop (Dr xs n)
  | [],n,_=>by simp [Hx,Dr]
  | x :: xs,n,h=>by
    rw [Hx]
    cases hq:strLt x n with
    | true =>
      simp only [Dr,hq,cond_true,zE,List.getElem_cons_succ] at h ⊢
      rw [RH fun h'=>h (by omega)]
      simp
    | false =>
      simp only [Dr,hq,cond_false,List.getElem_cons_zero] at h ⊢
      rw [A3 (h (by simp))]
      simp
theorem QaM {xs:List ByteArray} {n:ByteArray} {k:Nat} (h:k+Dr (xs.drop k) n=Dr xs n) (hk:k<xs.length):(strLt xs[k] n=true∧k+1+Dr (xs.drop (k+1)) n=Dr xs n)∨(strLt xs[k] n=false∧k=Dr xs n):=by
 rw [zA hk,Dr] at h
 cases hq:strLt xs[k] n with
 | true=>rw [hq,cond_true] at h; exact .inl ⟨rfl,by omega⟩
 | false=>rw [hq,cond_false] at h; exact .inr ⟨rfl,by omega⟩
theorem ot_take (xs:List ByteArray) (k:Nat):((xs.map fun s=>[D.str s]).take k).map (fun x=>x.map D.ot)=(xs.take k).map fun s=>[OT.str s]:=by
 rw [←List.map_take,zX]; rfl
theorem ot_drop (xs:List ByteArray) (k:Nat):((xs.map fun s=>[D.str s]).drop k).map (fun x=>x.map D.ot)=(xs.drop k).map fun s=>[OT.str s]:=by
 rw [←List.map_drop,zX]; rfl
theorem ZS (xs:List ByteArray):((xs.map fun s=>[OT.str s]).all fun l=>l.length == 1)=true:=by
 rw [zZ,zR]
 intro x _; rfl
theorem Qcs (xs:List ByteArray):((xs.map fun s=>[D.str s]).all fun l=>l.length == 1)=true:=by
 rw [zZ,zR]
 intro x _; rfl
def N6:SC:=(.seq (.reg [⟨some 4,none,.mv (.c .nil)⟩]) (.seq (.reg [⟨some 5,none,.mv (.c (.int .i64 0))⟩]) (.seq (.block 0 (.loop [1,1,0,0,0,1,0,0,0,0,0,0,0,0,0,0,0,0,0,0,0,0,0,0,0,0,0,0,0,0,0,0,0,0,0,0,0,0,0,0,0,0,0,0,0] (.seq (.seq (.reg [⟨some 6,none,.mv (.t 5)⟩,⟨some 7,none,.mv (.t 0)⟩,⟨some 8,none,.len false (.t 7)⟩,⟨some 9,none,.bin .lss false (.t 6) (.t 8)⟩,⟨some 10,none,.mv (.t 9)⟩,⟨(some 11),(some (10,true)),(.mv (.t 0))⟩,⟨(some 12),(some (10,true)),(.mv (.t 5))⟩,⟨(some 13),(some (10,true)),(.iaddr 1 (.t 11) (.t 12))⟩,⟨(some 14),(some (10,true)),(.load false 1 (.t 13))⟩,⟨(some 15),(some (10,true)),(.mv (.t 1))⟩,⟨(some 16),(some (10,true)),(.bin .lss false (.t 14) (.t 15))⟩,⟨some 17,none,.pick (.t 10) (.t 16) (.c (.bool false))⟩]) (.cond (.t 17) .skip (.exit 0))) (.block 1 (.reg [⟨some 18,none,.mv (.t 5)⟩,⟨some 19,none,.bin .add false (.t 18) (.c (.int .i64 1))⟩,⟨some 5,none,.mv (.t 19)⟩]))))) (.seq (.seq (.reg [⟨some 20,none,.mv (.t 5)⟩,⟨some 21,none,.mv (.t 0)⟩,⟨some 22,none,.len false (.t 21)⟩,⟨some 23,none,.bin .lss false (.t 20) (.t 22)⟩,⟨some 24,none,.mv (.t 23)⟩,⟨(some 25),(some (24,true)),(.mv (.t 0))⟩,⟨(some 26),(some (24,true)),(.mv (.t 5))⟩,⟨(some 27),(some (24,true)),(.iaddr 1 (.t 25) (.t 26))⟩,⟨(some 28),(some (24,true)),(.load false 1 (.t 27))⟩,⟨(some 29),(some (24,true)),(.mv (.t 1))⟩,⟨(some 30),(some (24,true)),(.bin .eql false (.t 28) (.t 29))⟩,⟨some 31,none,.pick (.t 24) (.t 30) (.c (.bool false))⟩]) (.cond (.t 31) (.seq (.reg [⟨some 32,none,.mv (.t 0)⟩,⟨some 4,none,.mv (.t 32)⟩]) .ret) .skip)) (.seq (.dreg [[],[],[],[1,2],[0,3,1,2],[],[5],[4,0,3,1,2,6,5],[],[],[8,9],[7,4,0,3,1,2,6,5,10,8,9],[11,7,4,0,3,1,2,6,5,10,8,9]] [⟨(some 33),none,(.mkrow 9 1 [(.str ⟨#[]⟩)] 0 [])⟩,⟨some 34,none,.mv (.t 0)⟩,⟨some 35,none,.mv (.t 5)⟩,⟨some 36,none,.slice false 1 (.t 34) none (some (.t 35))⟩,⟨(some 37),none,(.append 9 1 16 [(.str ⟨#[]⟩)] (.t 33) (.t 36))⟩,⟨some 38,none,.mv (.t 1)⟩,⟨(some 39),none,(.mkrow 9 1 [(.str ⟨#[]⟩)] 1 [(0,(.t 38))])⟩,⟨(some 40),none,(.append 9 1 16 [(.str ⟨#[]⟩)] (.t 37) (.t 39))⟩,⟨some 41,none,.mv (.t 0)⟩,⟨some 42,none,.mv (.t 5)⟩,⟨some 43,none,.slice false 1 (.t 41) (some (.t 42)) none⟩,⟨(some 44),none,(.append 9 1 16 [(.str ⟨#[]⟩)] (.t 40) (.t 43))⟩,⟨some 4,none,.mv (.t 44)⟩]) .ret)))))
theorem UO:codeOf Tryz.prog 173=some ⟨45,N6,[(.tmp 4)]⟩:=by kernel_rfl
theorem N7:modes 173=⟨[],.frz,none,false⟩:=by unfold modes; rfl
theorem Qd4 (xs:List ByteArray) (n:ByteArray) (hl:xs.length≤1048576):E 173 [.arr (xs.map fun s=>[D.str s]),.str n] []=some (.arr ((Hx xs n).map fun s=>[D.str s]),[]):=by
  have e1:=ot_take xs (Dr xs n)
  have e2:=ot_drop xs (Dr xs n)
  have e3:=ZS (xs.take (Dr xs n))
  have e4:=ZS (xs.drop (Dr xs n))
  have e5:=Qcs xs
  have l1:=ZR xs n
  have e6:(xs.map fun s=>[D.str s]).take xs.length=xs.map fun s=>[D.str s]:=List.take_of_length_le (by simp)
  have e7:(xs.take (Dr xs n)).length=Dr xs n:=by rw [List.length_take]; omega
  have e8:(xs.drop (Dr xs n)).length=xs.length-Dr xs n:=List.length_drop
  have hf:∀ ys:List ByteArray,ys=Hx xs n→(ys.map fun s=>[OT.str s])=(Hx xs n).map fun s=>[OT.str s]:=fun ys h=>by rw [h]
  refine Af UO N7 (of_decide_eq_true rfl) ?_
  simp (disch:=omega) only [N6,go_sem,Aa]
  refine go_loop (α:=Int) (fun a=>⟨slots 45 0 [(0,.arr (xs.map fun s=>[D.str s])),(1,.str n),(5,.int .i64 a)],[]⟩) (fun a=>∃ k:Nat,a=k∧k≤(xs).length∧k+Dr (xs.drop k) n=Dr xs n) (fun a=>(xs).length-(a).toNat) 0 ⟨0,rfl,zI _,by rw [zJ,Nat.zero_add]⟩ (by simp (disch:=omega) only [go_sem,Aa]) ?_
  rintro i ⟨k,hi,hk,hR⟩
  have hni:i.toNat=k:=by omega
  have hni1:(i+1).toNat=k+1:=by omega
  rcases zF k (xs).length with hlt | hge
  · have hg:=get_at (fun s=>[D.str s]) hlt
    rcases QaM hR hlt with ⟨q,hR'⟩ | ⟨q,hk'⟩
    · simp (disch:=omega) only [go_sem,Aa,hni,hg,q]
      exact ⟨i+1,⟨k+1,by omega,hlt,hR'⟩,by omega,by first | trivial | rfl⟩
    · subst hk'
      by_cases h0:xs[Dr xs n]=n
      · have hi0:=RG hlt h0
        rw [hi0]
        simp (disch:=omega) only [go_sem,Aa,hni,hg,q,h0,e6,Hi,E5]
      · have hi0:=RH (fun _=>h0)
        have hx:(xs.take (Dr xs n)).map (fun s=>[OT.str s])++([[OT.str n]]++(xs.drop (Dr xs n)).map (fun s=>[OT.str s]))=(Hx xs n).map fun s=>[OT.str s]:=by rw [hi0]; simp
        have hx2:(xs.take (Dr xs n)).map (fun s=>[OT.str s])++[[OT.str n]]++(xs.drop (Dr xs n)).map (fun s=>[OT.str s])=(Hx xs n).map fun s=>[OT.str s]:=by rw [hi0]; simp
        simp (disch:=omega) only [go_sem,Aa,hni,hg,q,h0,e1,e2,e3,e4,e5,e6,e7,e8,hx2,zG,zQ]
  · obtain rfl:k=xs.length:=by omega
    have hk':xs.length=Dr xs n:=by rw [←hR,zB (zW _)]; simp [Dr]
    have hi0:=RH (xs:=xs) (n:=n) (fun h=>by omega)
    have hx2:(xs.take (Dr xs n)).map (fun s=>[OT.str s])++[[OT.str n]]++(xs.drop (Dr xs n)).map (fun s=>[OT.str s])=(Hx xs n).map fun s=>[OT.str s]:=by rw [hi0]; simp
    rw [hk'] at hni
    simp (disch:=omega) only [go_sem,Aa,hni,e1,e2,e3,e4,e5,e6,e7,e8,hx2,zG,zQ]
noncomputable def JN (l ns:List ByteArray):List ByteArray:=ns.foldl Hx l
theorem RI:∀ (ns l:List ByteArray),(JN l ns).length≤l.length+ns.length
 | [],l=>by simp [JN]
 | n :: ns,l=>by
  have h:=RI ns (Hx l n)
  have h2:=WW l n
  simp only [JN,List.foldl_cons,zE] at h ⊢
  omega
theorem WX:∀ {ns l:List ByteArray} {m:ByteArray},m∈JN l ns ↔ m∈l∨m∈ns
 | [],l,m=>by simp [JN]
 | n :: ns,l,m=>by
  have h:=WX (ns:=ns) (l:=Hx l n) (m:=m)
  simp only [JN,List.foldl_cons] at h ⊢
  rw [h,WV]
  simp only [zP]
  exact or_assoc
theorem Qct (l a b:List ByteArray):JN l (a++b)=JN (JN l a) b:=List.foldl_append
def Io:SC:=(.seq (.reg [⟨some 3,none,.boxv 71 2 (.t 1)⟩,⟨some 4,none,.mv (.c .nil)⟩]) (.seq (.seq (.reg [⟨some 6,none,.faddr 0 (.t 3)⟩,⟨some 7,none,.load false 1 (.t 6)⟩,⟨some 8,none,.call 77 [(.t 7)]⟩]) (.cond (.t 8) (.seq (.reg [⟨some 9,none,.mv (.t 0)⟩,⟨some 10,none,.faddr 0 (.t 3)⟩,⟨some 11,none,.load false 1 (.t 10)⟩,⟨some 12,none,.call 173 [(.t 9),(.t 11)]⟩,⟨some 4,none,.mv (.t 12)⟩]) .ret) .skip)) (.seq (.seq (.reg [⟨some 5,none,.mv (.c (.int .i64 0))⟩]) (.block 0 (.loop [1,0,0,1,0,1,0,0,0,0,0,0,0,0,0,0,0,0,0,0,0,0,0,0,0,0,0,0] (.seq (.seq (.reg [⟨some 13,none,.mv (.t 5)⟩,⟨some 14,none,.faddr 1 (.t 3)⟩,⟨some 15,none,.load false 1 (.t 14)⟩,⟨some 16,none,.len false (.t 15)⟩,⟨some 17,none,.bin .lss false (.t 13) (.t 16)⟩]) (.cond (.t 17) .skip (.exit 0))) (.seq (.block 1 (.reg [⟨some 20,none,.mv (.t 0)⟩,⟨some 21,none,.faddr 1 (.t 3)⟩,⟨some 22,none,.load false 1 (.t 21)⟩,⟨some 23,none,.mv (.t 5)⟩,⟨some 24,none,.iaddr 2 (.t 22) (.t 23)⟩,⟨some 25,none,.load true 2 (.t 24)⟩,⟨some 26,none,.call 149 [(.t 20),(.t 25)]⟩,⟨some 0,none,.mv (.t 26)⟩])) (.reg [⟨some 18,none,.mv (.t 5)⟩,⟨some 19,none,.bin .add false (.t 18) (.c (.int .i64 1))⟩,⟨some 5,none,.mv (.t 19)⟩])))))) (.seq (.reg [⟨some 27,none,.mv (.t 0)⟩,⟨some 4,none,.mv (.t 27)⟩]) .ret))))
theorem LN:codeOf Tryz.prog 149=some ⟨28,Io,[(.tmp 4)]⟩:=by kernel_rfl
theorem FR:modes 149=⟨[],.asis,none,false⟩:=by unfold modes; rfl
def LO:SC:=(.seq (.reg [⟨some 1,none,.boxv 71 2 (.t 0)⟩,⟨some 2,none,.mv (.c .nil)⟩]) (.seq (.reg [⟨(some 3),none,(.mkrow 9 1 [(.str ⟨#[]⟩)] 0 [])⟩,⟨some 4,none,.load true 2 (.t 1)⟩,⟨some 5,none,.call 149 [(.t 3),(.t 4)]⟩,⟨some 2,none,.mv (.t 5)⟩]) .ret))
theorem SA:codeOf Tryz.prog 114=some ⟨6,LO,[(.tmp 2)]⟩:=by kernel_rfl
theorem Ip:modes 114=⟨[],.frz,none,false⟩:=by unfold modes; rfl
abbrev Qcu (x:Tm):Prop:=∀ l:List ByteArray,l.length+x.nodes≤1048576→E 149 [.arr (l.map fun s=>[D.str s]),x.sv] []=some (.arr ((JN l x.vs).map fun s=>[D.str s]),[])
theorem QaN (x:Tm) (ih:∀ y∈x.args,Qcu y):Qcu x:=by
 intro l hn
 have hl:=Tm.length_le x.args
 have hne:=Tm.Ao x
 have hvs:=Tm.Fz x
 have hp:=Qd4 l x.name (by omega)
 cases hvv:An x.name with
 | true =>
  rw [hvv] at hvs
  have e:JN l x.vs=Hx l x.name:=by rw [hvs]; rfl
  rw [e]
  refine Af LN FR (of_decide_eq_true rfl) ?_
  simp (disch:=omega) only [Io,go_sem,Aa,hvv,hp,Ah,Am,N7]
 | false =>
  rw [hvv] at hvs
  simp only [cond_false] at hvs
  rw [hvs]
  refine Af LN FR (of_decide_eq_true rfl) ?_
  simp (disch:=omega) only [Io,go_sem,Aa,hvv,Ah,Am]
  refine go_loop (α:=Int × (List ByteArray)) (fun a=>⟨slots 28 0 [(0,.arr ((a.2).map fun s=>[D.str s])),(3,.ptr 0 0),(5,.int .i64 (a.1))],[.box 71 [.str x.name,.arr (x.args.map Tm.d)]]⟩) (fun a=>∃ k:Nat,a.1=k∧k≤(x.args).length∧JN (a.2) (Tm.vsL (x.args.drop k))=JN l (Tm.vsL x.args)∧(a.2).length+Tm.Bi (x.args.drop k)≤1048576) (fun a=>(x.args).length-(a.1).toNat) (0,l) ⟨0,rfl,zI _,by rw [zJ],by rw [zJ]; dsimp only; omega⟩ (by simp (disch:=omega) only [go_sem,Aa]) ?_
  rintro ⟨i,acc⟩ ⟨k,hi,hk,hR⟩
  dsimp only at hi hR
  have hni:i.toNat=k:=by omega
  have hni1:(i+1).toNat=k+1:=by omega
  rcases zF k (x.args).length with hlt | hge
  ·have hg:=get_at Tm.d hlt
   rw [Tm.d_eq] at hg
   obtain ⟨hR1,hR2⟩:=hR
   rw [zA hlt,Tm.vsL,Qct] at hR1
   rw [zA hlt,Tm.Bi] at hR2
   have hc:=ih x.args[k] (zC hlt) acc (by omega)
   have hlen:=RI x.args[k].vs acc
   have hvl:=Tm.vs_len x.args[k]
   simp (disch:=omega) only [go_sem,Aa,hni,hg,hc,FR]
   exact ⟨(i+1,JN acc x.args[k].vs),⟨k+1,by dsimp only; omega,hlt,hR1,by dsimp only; omega⟩,by dsimp only; omega,by first | trivial | rfl⟩
  ·rw [zB hge,Tm.vsL] at hR
   obtain ⟨hR1,hR2⟩:=hR
   have hR1:acc=JN l (Tm.vsL x.args):=hR1
   rw [←hR1]
   simp (disch:=omega) only [go_sem,Aa,hni]
theorem WY (x:Tm):Qcu x:=QaN x fun y hy=>WY y
termination_by SizeOf.sizeOf x
decreasing_by exact Tm.Ay hy
theorem Qcv (x:Tm) (hn:x.nodes≤1048576):E 114 [x.sv] []=some (.arr ((JN [] x.vs).map fun s=>[D.str s]),[]):=by
 have h:=WY x [] (by simpa using hn)
 rw [zN] at h
 refine Af SA Ip (of_decide_eq_true rfl) ?_
 simp (disch:=omega) only [LO,go_sem,Aa,h,FR]
theorem Sb.WZ {s:Sb} {n:ByteArray} {t:Tm} (h:s.look n=some t):(⟨n,t⟩:Bd)∈s.binds:=by
 cases hh:DJ s.binds n with
 | false=>rw [Sb.PJ hh] at h; cases h
 | true =>
  have hlt:=HD hh
  rw [Sb.K4 hh hlt] at h
  obtain rfl:=Option.some.inj h
  have e:=U9 hh hlt
  have h1:=zC hlt
  have h2:∀ c:Bd,c.var=n→(⟨n,c.term⟩:Bd)=c:=fun c e=>by rw [←e]
  rw [h2 _ e]; exact h1
theorem Sb.IR {s:Sb} (hs:Nl s.binds) {n:ByteArray}:s.look n=none ↔ ∀ b∈s.binds,b.var≠n:=by
 cases hh:DJ s.binds n with
 | false =>
  rw [Sb.PJ hh]
  refine ⟨fun _ b hb e=>?_,fun _=>rfl⟩
  rw [WF hs] at hh
  exact List.any_eq_false.1 hh b hb (At e)
 | true =>
  have hlt:=HD hh
  rw [Sb.K4 hh hlt]
  exact ⟨fun h=>(by cases h),fun h=>absurd (U9 hh hlt) (h _ (zC hlt))⟩
theorem Sb.KM {s:Sb} (hs:Nl s.binds) {b:Bd} (h:b∈s.binds):s.look b.var=some b.term:=by
 cases hq:s.look b.var with
 | none=>exact absurd rfl ((Sb.IR hs).1 hq b h)
 | some t =>
  have h2:=Sb.WZ hq
  obtain ⟨i,hi,e1⟩:=zL h
  obtain ⟨j,hj,e2⟩:=zL h2
  have hij:i=j:=(List.getElem_inj (h₀:=by simpa using hi) (h₁:=by simpa using hj) (Ms hs)).1 (by simp only [List.getElem_map,e1,e2])
  subst hij
  rw [e1] at e2
  rw [e2]
theorem Tm.Qcw {f:ByteArray→Option Tm} (x:Tm) {v:ByteArray} (h:v∈(x.ap f).vs):(v∈x.vs∧f v=none)∨∃ w∈x.vs,∃ t,f w=some t∧v∈t.vs:=by
 rw [Tm.HF] at h
 by_cases hv:An x.name=true
 ·rw [if_pos hv] at h
  have hx:x.vs=[x.name]:=by rw [Tm.Fz,hv]; rfl
  cases hq:f x.name with
  | none =>
   rw [hq,yF,Tm.Fz] at h
   have h:v∈(bif An x.name then [x.name] else _):=h
   rw [hv,cond_true] at h
   have e:v=x.name:=by simpa using h
   subst e
   exact .inl ⟨by rw [hx]; simp,hq⟩
  | some t =>
   rw [hq,Option.getD_some] at h
   exact .inr ⟨x.name,by rw [hx]; simp,t,hq,h⟩
 ·rw [if_neg hv] at h
  have hv0:An x.name=false:=by simpa using hv
  have hx:x.vs=Tm.vsL x.args:=by rw [Tm.Fz,hv0]; rfl
  rw [Tm.Fz] at h
  have h:v∈(bif An x.name then [x.name] else Tm.vsL (Tm.apL f x.args)):=h
  rw [hv0,cond_false,Tm.Nm,Tm.vsL_mem] at h
  obtain ⟨z,hz,hvz⟩:=h
  obtain ⟨y,hy,rfl⟩:=List.mem_map.1 hz
  rw [hx]
  rcases Tm.Qcw y hvz with ⟨h1,h2⟩ | ⟨w,h1,t,h2,h3⟩
  ·exact .inl ⟨Tm.vsL_mem.2 ⟨y,hy,h1⟩,h2⟩
  ·exact .inr ⟨w,Tm.vsL_mem.2 ⟨y,hy,h1⟩,t,h2,h3⟩
termination_by SizeOf.sizeOf x
decreasing_by exact Tm.Ay hy
theorem Xa {α:Type} {g:α→α}:∀ {xs:List α},(∀ x∈xs,g x=x)→xs.map g=xs
 | [],_=>rfl
 | x :: xs,h=>by rw [zK,h x (by simp),Xa fun y hy=>h y (by simp [hy])]
theorem Tm.Qcx (x:Tm):Tm.mk x.name x.args=x:=by obtain ⟨n,a⟩:=x; rfl
theorem Tm.ZT {f:ByteArray→Option Tm} (x:Tm) (hx:x.names=true) (h:∀ v∈x.vs,f v=none):x.ap f=x:=by
 rw [Tm.HF]
 by_cases hv:An x.name=true
 ·have hx0:=Tm.En hx hv
  rw [if_pos hv,h x.name (by rw [Tm.Fz,hv]; simp),yF]
  conv=>rhs; rw [←Tm.Qcx x,hx0]
 ·have hv0:An x.name=false:=by simpa using hv
  rw [if_neg hv,Tm.Nm,Xa fun y hy=>Tm.ZT y (Tm.Eo hx hy) fun v hvv=>h v (by
   rw [Tm.Fz,hv0,cond_false]
   exact Tm.vsL_mem.2 ⟨y,hy,hvv⟩),Tm.Qcx]
termination_by SizeOf.sizeOf x
decreasing_by exact Tm.Ay hy
def Sb.idem (s:Sb):Prop:=∀ w t,s.look w=some t→∀ v∈t.vs,s.look v=none
theorem Sb.UP {s:Sb} (hi:s.idem) {x:Tm} {v:ByteArray} (h:v∈(x.ap s.look).vs):s.look v=none:=by
 rcases Tm.Qcw x h with ⟨_,h2⟩ | ⟨w,_,t,h2,h3⟩
 ·exact h2
 ·exact hi w t h2 v h3
theorem Tm.Xb {x y:Tm} (hx:x.expr=true) (hy:y∈x.args):y.expr=true:=by
  have h1:=Tm.Ro hx
  have h2:=Tm.K5 hx hy
  unfold Tm.small at h1
  rw [zD,decide_eq_true_eq,decide_eq_true_eq] at h1
  have n1:=Tm.AT hy
  have n2:=Tm.Ao x
  have d2:=Tm.Ll x
  have d1:y.deep≤Tm.Eu x.args:=by
    have key:∀ xs:List Tm,y∈xs→y.deep≤Tm.Eu xs:=by
      intro xs
      induction xs with
      | nil=>intro h; cases h
      | cons z zs ih =>
        intro h
        rw [Tm.Eu]
        rcases zP.1 h with rfl | h
        · exact Nat.le_max_left _ _
        · exact Nat.le_trans (ih h) (Nat.le_max_right _ _)
    exact key _ hy
  unfold Tm.expr Tm.valid Tm.small
  rw [h2,decide_eq_true (by omega),decide_eq_true (by omega)]; rfl
noncomputable def Az (x y:Tm):Bd:=bif An x.name&&!(An y.name&&strLt x.name y.name) then ⟨x.name,y⟩ else ⟨y.name,x⟩
noncomputable def BN (b:Bd):Bool:=!dec (b.var∈b.term.vs)&&(Sb.mk [b]).ok
noncomputable def BE:Nat→Sb→List (Tm × Tm)→Option (Option Sb)
  | 0,_,_=>none
  | n + 1,s,l=>match l with
    | []=>some (some s)
    | p :: l=>bif BT s p.1&&BT s p.2 then
        (bif dec (AI s p.1=AI s p.2) then BE n s l
        else bif An (AI s p.1).name || An (AI s p.2).name then
          (bif BN (Az (AI s p.1) (AI s p.2))&&Cs s ⟨[Az (AI s p.1) (AI s p.2)]⟩ then BE n (Ck s ⟨[Az (AI s p.1) (AI s p.2)]⟩) l else some none)
        else bif dec ((AI s p.1).name=(AI s p.2).name)&&dec ((AI s p.1).args.length=(AI s p.2).args.length) then BE n s ((AI s p.1).args.zip (AI s p.2).args++l)
        else some none)
      else some none
def Hy:List (Tm × Tm)→Nat
 | []=>0
 | p :: l=>p.1.nodes+Hy l
structure uInv (s:Sb) (l:List (Tm × Tm)):Prop where
 ok:s.ok=true
 idem:s.idem
 ex:∀ p∈l,p.1.expr=true∧p.2.expr=true
 pq:∃ P Q,l=P++Q∧(∀ p∈P,p.1.ap s.look=p.1)∧Hy P≤30∧Q.length≤1+30*s.binds.length
theorem RJ:∀ P:List (Tm × Tm),P.length≤Hy P
 | []=>zW _
 | p :: P=>by
  have h1:=RJ P
  have h2:=Tm.Lk p.1
  rw [Hy,zE]; omega
theorem uInv.len {s:Sb} {l:List (Tm × Tm)} (h:uInv s l):l.length≤391:=by
 obtain ⟨P,Q,rfl,_,h2,h3⟩:=h.pq
 have h1:=RJ P
 have h4:=ok_len h.ok
 rw [zG]; omega
theorem uInv.pop {s:Sb} {p:Tm × Tm} {l:List (Tm × Tm)} (h:uInv s (p :: l)):uInv s l:=by
 refine ⟨h.ok,h.idem,fun q hq=>h.ex q (by simp [hq]),?_⟩
 obtain ⟨P,Q,e,h1,h2,h3⟩:=h.pq
 cases P with
 | nil =>
  cases Q with
  | nil=>cases e
  | cons q Q =>
   simp only [yI,z7] at e
   exact ⟨[],Q,e.2,fun _ h=>by simp at h,by rw [Hy]; omega,by simp only [zE] at h3; omega⟩
 | cons q P =>
  simp only [zS,z7] at e
  rw [Hy] at h2
  exact ⟨P,Q,e.2,fun z hz=>h1 z (by simp [hz]),by omega,h3⟩
theorem RK:∀ (xs ys:List Tm),Hy (xs.zip ys)≤Tm.Bi xs
 | [],ys=>by simp [Hy]
 | x :: xs,[]=>by simp [Hy]
 | x :: xs,y :: ys=>by
  have h:=RK xs ys
  rw [List.zip_cons_cons,Hy,Tm.Bi]
  show x.nodes+_≤_
  omega
theorem Xc:∀ (a b:List (Tm × Tm)),Hy (a++b)=Hy a+Hy b
 | [],b=>by simp [Hy]
 | p :: a,b=>by rw [zS,Hy,Hy,Xc a b]; omega
theorem C6 {s:Sb} {x:Tm} (h:BT s x=true):(AI s x).expr=true:=by
 rw [Eb h]
 unfold BT at h
 rw [zD,zD] at h
 have h2:(x.ap s.look).expr=(x.ap s.look).small:=Tm.QbX (Sb.Fg h.1) x h.2.1
 rw [h2]; exact h.2.2
theorem PL {α β:Type} {a:α} {b:β}:∀ {xs:List α} {ys:List β},(a,b)∈xs.zip ys→a∈xs∧b∈ys
 | [],ys,h=>by simp at h
 | x :: xs,[],h=>by simp at h
 | x :: xs,y :: ys,h=>by
  rw [List.zip_cons_cons] at h
  rcases zP.1 h with h | h
  ·simp only [Prod.mk.injEq] at h; exact ⟨by rw [h.1]; simp,by rw [h.2]; simp⟩
  ·obtain ⟨h1,h2⟩:=PL h; exact ⟨by simp [h1],by simp [h2]⟩
theorem TL {s:Sb} (hi:s.idem) {x:Tm} (hx:BT s x=true) (hv:An (AI s x).name=false) {y:Tm} (hy:y∈(AI s x).args):y.ap s.look=y:=by
 have he:=C6 hx
 refine Tm.ZT y (Tm.K5 he hy) fun v hvv=>?_
 have h1:v∈(AI s x).vs:=by
  rw [Tm.Fz,hv,cond_false]
  exact Tm.vsL_mem.2 ⟨y,hy,hvv⟩
 rw [Eb hx] at h1
 exact Sb.UP hi h1
theorem uInv.dec {s:Sb} {p:Tm × Tm} {l:List (Tm × Tm)} (h:uInv s (p :: l)) (h1:BT s p.1=true) (h2:BT s p.2=true) (hv:An (AI s p.1).name=false):uInv s ((AI s p.1).args.zip (AI s p.2).args++l):=by
  have e1:=C6 h1
  have e2:=C6 h2
  have hn:=Tm.As e1
  have hn2:=Tm.Ao (AI s p.1)
  have hz:=RK (AI s p.1).args (AI s p.2).args
  refine ⟨h.ok,h.idem,fun q hq=>?_,?_⟩
  · rcases zU.1 hq with hq | hq
    · obtain ⟨a,b⟩:=q
      obtain ⟨k1,k2⟩:=PL hq
      exact ⟨Tm.Xb e1 k1,Tm.Xb e2 k2⟩
    · exact h.ex q (by simp [hq])
  · obtain ⟨P,Q,e,g1,g2,g3⟩:=h.pq
    have hfix:∀ q∈(AI s p.1).args.zip (AI s p.2).args,q.1.ap s.look=q.1:=fun q hq=>by
      obtain ⟨a,b⟩:=q
      exact TL h.idem h1 hv (PL hq).1
    cases P with
    | nil =>
      cases Q with
      | nil=>cases e
      | cons q Q =>
        simp only [yI,z7] at e
        rw [←e.2] at g3
        exact ⟨_,l,rfl,hfix,by omega,by simp only [zE,e.2] at g3 ⊢; omega⟩
    | cons q P =>
      simp only [zS,z7] at e
      obtain ⟨rfl,rfl⟩:=e
      rw [Hy] at g2
      have hself:AI s p.1=p.1:=by rw [Eb h1]; exact g1 p (by simp)
      refine ⟨(AI s p.1).args.zip (AI s p.2).args++P,Q,by rw [zY],fun q hq=>?_,?_,g3⟩
      · rcases zU.1 hq with hq | hq
        · exact hfix q hq
        · exact g1 q (by simp [hq])
      · rw [Xc]
        rw [hself] at hn2 hz ⊢
        omega
theorem Gi (x y:Tm) (h:(An x.name || An y.name)=true):(Az x y=⟨x.name,y⟩∧An x.name=true)∨(Az x y=⟨y.name,x⟩∧An y.name=true):=by
 unfold Az
 cases h1:An x.name with
 | true =>
  cases h2:An y.name with
  | true =>
   cases strLt x.name y.name with
   | true=>exact .inr ⟨rfl,rfl⟩
   | false=>exact .inl ⟨rfl,rfl⟩
  | false=>exact .inl ⟨rfl,rfl⟩
 | false =>
  rw [h1,Bool.false_or] at h
  rw [h]
  exact .inr ⟨rfl,rfl⟩
theorem RL {b:Bd} (hb:(Sb.mk [b]).ok=true) (n:ByteArray):(Sb.mk [b]).look n=if b.var=n then some b.term else none:=by
 have hup:=Sb.J5 hb
 by_cases h:b.var=n
 ·rw [if_pos h,← h]
  exact Sb.KM hup (by simp)
 ·rw [if_neg h]
  exact (Sb.IR hup).2 fun c hc=>by
   have:c=b:=by simpa using hc
   rw [this]; exact h
theorem Qd5 {s:Sb} {b:Bd} (hs:s.ok=true) (hi:s.idem) (hb:(Sb.mk [b]).ok=true) (hv:s.look b.var=none) (ht:∀ v∈b.term.vs,s.look v=none) (ho:b.var ∉ b.term.vs) (hc:Cs s ⟨[b]⟩=true) :
    (Ck s ⟨[b]⟩).binds.length=s.binds.length+1∧(Ck s ⟨[b]⟩).idem:=by
  have hup:=Sb.J5 hs
  have hcok:(Ck s ⟨[b]⟩).ok=true:=hc
  have hcup:=Sb.J5 hcok
  have hbok:Hw b=true:=Sb.J6 (x:=⟨[b]⟩) hb (k:=0) (by simp)
  have hone:∀ c∈s.binds,CH ⟨[b]⟩ c=some ⟨c.var,c.term.ap (Sb.mk [b]).look⟩:=fun c hcm=>by
    have hcb:Hw c=true:=by
      obtain ⟨k,hk,rfl⟩:=zL hcm
      exact Sb.J6 hs hk
    have hcl:=Sb.KM hup hcm
    have hcv:=Ww hcb
    unfold CH
    rw [A3,cond_false]
    intro e
    have hne:c.term.name≠c.var:=by
      unfold Hw at hcb
      rw [zD,zD,yD] at hcb
      exact Ct.1 hcb.2.2
    rw [Tm.HF] at e
    by_cases hv':An c.term.name=true
    · rw [if_pos hv',RL hb] at e
      by_cases hbn:b.var=c.term.name
      · rw [if_pos hbn,Option.getD_some] at e
        have:c.var∈b.term.vs:=by
          rw [Tm.Fz,e,hcv]; simp
        rw [ht _ this] at hcl; cases hcl
      · rw [if_neg hbn,yF] at e
        exact hne e
    · rw [if_neg hv'] at e
      exact hne e
  have hl1:Hq s ⟨[b]⟩=s.binds.map fun c=>⟨c.var,c.term.ap (Sb.mk [b]).look⟩:=by
    unfold Hq
    have key:∀ xs:List Bd,(∀ c∈xs,CH ⟨[b]⟩ c=some ⟨c.var,c.term.ap (Sb.mk [b]).look⟩)→xs.filterMap (CH ⟨[b]⟩)=xs.map fun c=>⟨c.var,c.term.ap (Sb.mk [b]).look⟩:=by
      intro xs
      induction xs with
      | nil=>intro _; rfl
      | cons x xs ih=>intro h; rw [z8,h x (by simp),zK,ih fun c hc=>h c (by simp [hc])]
    exact key _ hone
  have hl2:ZQ s ⟨[b]⟩=[b]:=by
    unfold ZQ
    have hh:DJ s.binds b.var=false:=by
      cases hh:DJ s.binds b.var with
      | false=>rfl
      | true=>rw [Sb.K4 hh (HD hh)] at hv; cases hv
    simp [hh]
  have hmem:∀ c,c∈(Ck s ⟨[b]⟩).binds ↔ (∃ d∈s.binds,c=⟨d.var,d.term.ap (Sb.mk [b]).look⟩)∨c=b:=fun c=>by
    unfold Ck
    show c∈(Cr s ⟨[b]⟩).mergeSort bdLe ↔ _
    rw [(zT _ _).mem_iff]
    unfold Cr
    rw [hl1,hl2,zU,List.mem_map]
    simp only [List.mem_singleton]
    constructor
    · rintro (⟨d,h1,h2⟩ | h)
      · exact .inl ⟨d,h1,h2.symm⟩
      · exact .inr h
    · rintro (⟨d,h1,h2⟩ | h)
      · exact .inl ⟨d,h1,h2.symm⟩
      · exact .inr h
  refine ⟨?_,fun w t hw v hvt=>?_⟩
  · unfold Ck
    show ((Cr s ⟨[b]⟩).mergeSort bdLe).length=_
    rw [(zT _ _).length_eq]
    unfold Cr
    rw [hl1,hl2,zG,zH]; rfl
  · have key:v≠b.var∧s.look v=none:=by
      have hterm:∀ z∈b.term.vs,z≠b.var∧s.look z=none:=fun z hz=>⟨fun e=>ho (e▸hz),ht z hz⟩
      rcases (hmem _).1 (Sb.WZ hw) with ⟨d,hd,e⟩ | e
      · simp only [Bd.mk.injEq] at e
        obtain ⟨rfl,rfl⟩:=e
        rcases Tm.Qcw d.term hvt with ⟨k1,k2⟩ | ⟨w',k1,t',k2,k3⟩
        · rw [RL hb] at k2
          have hne:b.var≠v:=fun e=>by rw [if_pos e] at k2; cases k2
          exact ⟨fun e=>hne e.symm,hi _ _ (Sb.KM hup hd) v k1⟩
        · rw [RL hb] at k2
          split at k2
          · obtain rfl:=Option.some.inj k2
            exact hterm v k3
          · cases k2
      · have e2:t=b.term:=by rw [←e]
        rw [e2] at hvt
        exact hterm v hvt
    refine (Sb.IR hcup).2 fun c hcm e=>?_
    rcases (hmem c).1 hcm with ⟨d,hd,e2⟩ | e2
    · have e3:c.var=d.var:=by rw [e2]
      exact (Sb.IR hup).1 key.2 d hd (e3.symm.trans e)
    · rw [e2] at e
      exact key.1 e.symm
theorem QaO {s:Sb} (hi:s.idem) {a c:Tm} (h1:BT s a=true) (h2:BT s c=true) (hv:(An (AI s a).name || An (AI s c).name)=true) :
  s.look (Az (AI s a) (AI s c)).var=none∧∀ v∈(Az (AI s a) (AI s c)).term.vs,s.look v=none:=by
 have ha:∀ v∈(AI s a).vs,s.look v=none:=fun v h=>by rw [Eb h1] at h; exact Sb.UP hi h
 have hc:∀ v∈(AI s c).vs,s.look v=none:=fun v h=>by rw [Eb h2] at h; exact Sb.UP hi h
 rcases Gi _ _ hv with ⟨e,k⟩ | ⟨e,k⟩
 ·rw [e]
  exact ⟨ha _ (by rw [Tm.Fz,k]; simp),hc⟩
 ·rw [e]
  exact ⟨hc _ (by rw [Tm.Fz,k]; simp),ha⟩
theorem uInv.bind {s:Sb} {p:Tm × Tm} {l:List (Tm × Tm)} (h:uInv s (p :: l)) (h1:BT s p.1=true) (h2:BT s p.2=true) (hv:(An (AI s p.1).name || An (AI s p.2).name)=true)
  (hb:BN (Az (AI s p.1) (AI s p.2))=true) (hc:Cs s ⟨[Az (AI s p.1) (AI s p.2)]⟩=true):uInv (Ck s ⟨[Az (AI s p.1) (AI s p.2)]⟩) l∧(Ck s ⟨[Az (AI s p.1) (AI s p.2)]⟩).binds.length=s.binds.length+1:=by
 obtain ⟨f1,f2⟩:=QaO h.idem h1 h2 hv
 unfold BN at hb
 rw [zD,yD] at hb
 obtain ⟨g1,g2⟩:=Qd5 h.ok h.idem hb.2 f1 f2 (Ct.1 hb.1) hc
 refine ⟨⟨hc,g2,fun q hq=>h.ex q (by simp [hq]),[],l,rfl,fun q hq=>by simp at hq,by rw [Hy]; omega,?_⟩,g1⟩
 obtain ⟨P,Q,e,k1,k2,k3⟩:=h.pq
 have hl:(p :: l).length=P.length+Q.length:=by rw [e,zG]
 have hP:=RJ P
 simp only [zE] at hl
 rw [g1]
 omega
noncomputable def apN (s:Sb):List (Tm × Tm)→Nat
 | []=>0
 | p :: l=>(p.1.ap s.look).nodes+apN s l
theorem ZU (s:Sb):∀ a b:List (Tm × Tm),apN s (a++b)=apN s a+apN s b
 | [],b=>by simp [apN]
 | p :: a,b=>by rw [zS,apN,apN,ZU s a b]; omega
theorem Xd (s:Sb):∀ l:List (Tm × Tm),(∀ p∈l,p.1.ap s.look=p.1)→apN s l=Hy l
 | [],_=>by rw [apN,Hy]
 | p :: l,h=>by rw [apN,Hy,h p (by simp),Xd s l fun q hq=>h q (by simp [hq])]
theorem Qcy:∀ (k m:Nat) (s:Sb) (l:List (Tm × Tm)),uInv s l→12≤s.binds.length+k→apN s l≤m→∃ n r,BE n s l=some r:=by
  intro k
  induction k with
  | zero=>exact fun m=>uEnd 0 (fun h=>absurd h (by omega)) m
  | succ k ih=>exact fun m=>uEnd (k+1) (fun _ m s l=>ih m s l) m
where
  uEnd (k : Nat) (ih:0<k→∀ (m:Nat) (s:Sb) (l:List (Tm × Tm)),uInv s l→12≤s.binds.length+(k-1)→apN s l≤m→∃ n r,BE n s l=some r):∀ (m:Nat) (s:Sb) (l:List (Tm × Tm)),uInv s l→12≤s.binds.length+k→apN s l≤m→∃ n r,BE n s l=some r
    | m,s,[],h,hk,hm=>⟨1,some s,by rw [BE]⟩
    | m, s, p :: l,h,hk,hm=>by
      have hp:=Tm.Lk (p.1.ap s.look)
      rw [apN] at hm
      obtain ⟨m,rfl⟩:∃ m',m=m'+1:=⟨m-1,by omega⟩
      cases h1:BT s p.1 with
      | false=>exact ⟨1,none,by rw [BE]; simp only [h1,yC,cond_false]⟩
      | true =>
        cases h2:BT s p.2 with
        | false=>exact ⟨1,none,by rw [BE]; simp only [h2,yJ,cond_false]⟩
        | true =>
          cases h3:dec (AI s p.1=AI s p.2) with
          | true =>
            obtain ⟨n,r,hr⟩:=uEnd k ih m s l h.pop hk (by omega)
            exact ⟨n+1,r,by rw [BE]; simp only [h1,h2,h3,zO,cond_true]; exact hr⟩
          | false =>
            cases h4:An (AI s p.1).name || An (AI s p.2).name with
            | true =>
              cases h5:BN (Az (AI s p.1) (AI s p.2))&&Cs s ⟨[Az (AI s p.1) (AI s p.2)]⟩ with
              | false=>exact ⟨1,none,by rw [BE]; simp only [h1,h2,h3,h4,h5,zO,cond_true,cond_false]⟩
              | true =>
                have h5':=h5
                rw [zD] at h5'
                obtain ⟨g1,g2⟩:=h.bind h1 h2 h4 h5'.1 h5'.2
                have g3:=ok_len g1.ok
                obtain ⟨n,r,hr⟩:=ih (by omega) _ _ l g1 (by omega) (zW _)
                exact ⟨n+1,r,by rw [BE]; simp only [h1,h2,h3,h4,h5,zO,cond_true,cond_false]; exact hr⟩
            | false =>
              have h4':=h4
              rw [Bool.or_eq_false_iff] at h4'
              cases h5:dec ((AI s p.1).name=(AI s p.2).name)&&dec ((AI s p.1).args.length=(AI s p.2).args.length) with
              | false=>exact ⟨1,none,by rw [BE]; simp only [h1,h2,h3,h4,h5,zO,cond_true,cond_false]⟩
              | true =>
                have hz:=RK (AI s p.1).args (AI s p.2).args
                have hs:=Xd s ((AI s p.1).args.zip (AI s p.2).args) fun q hq=>by
                  obtain ⟨a,b⟩:=q
                  exact TL h.idem h1 h4'.1 (PL hq).1
                have hn:=Tm.Ao (AI s p.1)
                rw [Eb h1] at hn
                rw [Eb h1] at hs hz
                obtain ⟨n,r,hr⟩:=uEnd k ih m s _ (h.dec h1 h2 h4'.1) hk (by rw [ZU,Eb h1,hs]; omega)
                exact ⟨n+1,r,by rw [BE]; simp only [h1,h2,h3,h4,h5,zO,cond_true,cond_false]; exact hr⟩
theorem uInv.start {a b:Tm} (ha:a.expr=true) (hb:b.expr=true):uInv ⟨[]⟩ [(a,b)]:=by
 have hok:(Sb.mk []).ok=true:=by unfold Sb.ok; simp [IC]
 have hl:∀ n,(Sb.mk []).look n=none:=fun n=>(Sb.IR (Sb.J5 hok)).2 fun c hc=>by simp at hc
 exact ⟨hok,(fun w t h=>by rw [hl] at h; cases h),(fun p hp=>by
  have:p=(a,b):=by simpa using hp
  rw [this]; exact ⟨ha,hb⟩),[],[(a,b)],rfl,fun q hq=>absurd hq (by simp),by rw [Hy]; omega,by simp⟩
theorem YK {a b:Tm} (ha:a.expr=true) (hb:b.expr=true):∃ n r,BE n ⟨[]⟩ [(a,b)]=some r:=Qcy 12 _ _ _ (uInv.start ha hb) (by omega) (zW _)
def IS:SC:=(.seq (.reg [⟨some 2,none,.boxv 71 2 (.t 0)⟩,⟨some 4,none,.mv (.c (.int .i64 0))⟩]) (.seq (.reg [⟨some 5,none,.mv (.c (.int .i64 0))⟩]) (.seq (.seq (.reg [⟨some 8,none,.faddr 0 (.t 2)⟩,⟨some 9,none,.load false 1 (.t 8)⟩,⟨some 10,none,.mv (.t 1)⟩,⟨some 11,none,.bin .eql false (.t 9) (.t 10)⟩]) (.cond (.t 11) (.reg [⟨some 5,none,.mv (.c (.int .i64 1))⟩]) .skip)) (.seq (.seq (.reg [⟨some 12,none,.faddr 1 (.t 2)⟩,⟨some 13,none,.load false 1 (.t 12)⟩,⟨some 14,none,.len false (.t 13)⟩,⟨some 15,none,.mv (.c (.int .i64 0))⟩]) (.block 0 (.loop [0,1,0,0,0,1,0,0,0,0,0,0,0,1,1,1,0,0,0,0,0,0,0,0,0,0] (.seq (.reg [⟨some 16,none,.bin .lss false (.t 15) (.t 14)⟩]) (.seq (.cond (.t 16) .skip (.exit 0)) (.seq (.block 1 (.seq (.reg [⟨some 17,none,.iaddr 2 (.t 13) (.t 15)⟩,⟨some 18,none,.load true 2 (.t 17)⟩,⟨(some 7),none,(.alloc 71 [(.str ⟨#[]⟩),.nil])⟩,⟨none,none,(.store 2 (.t 7) (.t 18))⟩]) (.reg [⟨some 19,none,.mv (.t 5)⟩,⟨some 20,none,.load true 2 (.t 7)⟩,⟨some 21,none,.mv (.t 1)⟩,⟨some 22,none,.call 161 [(.t 20),(.t 21)]⟩,⟨some 23,none,.bin .add false (.t 19) (.t 22)⟩,⟨some 5,none,.mv (.t 23)⟩]))) (.reg [⟨some 24,none,.bin .add false (.t 15) (.c (.int .i64 1))⟩,⟨some 15,none,.mv (.t 24)⟩]))))))) (.seq (.reg [⟨some 25,none,.mv (.t 5)⟩,⟨some 4,none,.mv (.t 25)⟩]) .ret)))))
theorem OB:codeOf Tryz.prog 161=some ⟨26,IS,[(.tmp 4)]⟩:=by kernel_rfl
theorem FI:modes 161=⟨[],.asis,none,false⟩:=by unfold modes; rfl
mutual
noncomputable def Tm.cnt (n:ByteArray):Tm→Nat
 | .mk name args=>(bif dec (name=n) then 1 else 0)+Tm.OC n args
noncomputable def Tm.OC (n:ByteArray):List Tm→Nat
 | []=>0
 | x :: xs=>Tm.cnt n x+Tm.OC n xs
end
theorem Tm.YL (n:ByteArray) (x:Tm):x.cnt n=(bif dec (x.name=n) then 1 else 0)+Tm.OC n x.args:=by
 obtain ⟨a,b⟩:=x
 rw [Tm.cnt]; rfl
theorem Tm.ZV (n:ByteArray):∀ xs:List Tm,(∀ x∈xs,x.cnt n≤x.nodes)→Tm.OC n xs≤Tm.Bi xs
 | [],_=>by rw [Tm.OC]; omega
 | x :: xs,h=>by
  have h1:=h x (by simp)
  have h2:=Tm.ZV n xs fun y hy=>h y (by simp [hy])
  rw [Tm.OC,Tm.Bi]; omega
theorem Tm.Qcz (n:ByteArray) (x:Tm):x.cnt n≤x.nodes:=by
 have h:=Tm.ZV n x.args fun y hy=>Tm.Qcz n y
 rw [Tm.YL,Tm.Ao]
 cases dec (x.name=n) with
 | true=>simp only [cond_true]; omega
 | false=>simp only [cond_false]; omega
termination_by SizeOf.sizeOf x
decreasing_by exact Tm.Ay hy
theorem Tm.Xe {n:ByteArray}:∀ {xs:List Tm},0<Tm.OC n xs ↔ ∃ x∈xs,0<x.cnt n
  | []=>by rw [Tm.OC]; simp
  | x :: xs=>by
    have h:=Tm.Xe (n:=n) (xs:=xs)
    rw [Tm.OC]
    constructor
    · intro hp
      rcases yB (x.cnt n) with h0 | h0
      · obtain ⟨y,h1,h2⟩:=h.1 (by omega)
        exact ⟨y,by simp [h1],h2⟩
      · exact ⟨x,by simp,h0⟩
    · rintro ⟨y,h1,h2⟩
      rcases zP.1 h1 with rfl | h1
      · omega
      · have:=h.2 ⟨y,h1,h2⟩; omega
theorem UQ (x:Tm) (n:ByteArray) (hn:x.nodes≤1099511627776) (ih:∀ y∈x.args,E 161 [y.sv,.str n] []=some (.int .i64 (y.cnt n:Nat),[])):E 161 [x.sv,.str n] []=some (.int .i64 (x.cnt n:Nat),[]):=by
 have hx:=Tm.Ao x
 have hl:=Tm.length_le x.args
 have hle:=Tm.Qcz n x
 have hc0:=Tm.YL n x
 have hsv:x.sv=.agg [.str x.name,.arr (x.args.map Tm.d)]:=rfl
 rw [hsv]
 obtain ⟨c0,hc0'⟩:∃ c0:Nat,c0=bif dec (x.name=n) then 1 else 0:=⟨_,rfl⟩
 rw [←hc0'] at hc0
 by_cases he:x.name=n
 all_goals
  have hq:=he
  first
   |rw [At he,cond_true] at hc0'
   |rw [A3 he,cond_false] at hc0'
  first
   |have hq:=eq_true he
   |have hq:=eq_false he
  refine Af OB FI (of_decide_eq_true rfl) ?_
  simp (disch:=omega) only [IS,go_sem,Aa,hq]
  refine go_loop (α:=Int × (Nat)) (fun a=>⟨slots 26 0 [(1,.str n),(5,.int .i64 (((a.2):Nat):Int)),(13,.arr (x.args.map Tm.d)),(14,.int .i64 x.args.length),(15,.int .i64 (a.1))],[]⟩) (fun a=>∃ k:Nat,a.1=k∧k≤(x.args).length∧(a.2)+Tm.OC n (x.args.drop k)=x.cnt n) (fun a=>(x.args).length-(a.1).toNat) (0,c0) ⟨0,rfl,zI _,by rw [zJ]; exact hc0.symm⟩ (by simp (disch:=omega) only [go_sem,Aa,hc0',Int.natCast_zero,Int.natCast_one]) ?_
  rintro ⟨i,acc⟩ ⟨k,hi,hk,hR⟩
  dsimp only at hi hR
  have hni:i.toNat=k:=by omega
  have hni1:(i+1).toNat=k+1:=by omega
  rcases zF k (x.args).length with hlt | hge
  ·have hg:=get_at Tm.d hlt
   rw [Tm.d_eq] at hg
   have hc:=ih x.args[k] (zC hlt)
   rw [zA hlt,Tm.OC] at hR
   simp (disch:=omega) only [go_sem,Aa,hni,hg,hc,FI]
   exact ⟨(i+1,acc+x.args[k].cnt n),⟨k+1,by dsimp only; omega,hlt,by omega⟩,by dsimp only; omega,by simp⟩
  ·rw [zB hge,Tm.OC] at hR
   simp (disch:=omega) only [go_sem,Aa,hni]
   try omega
theorem Pk (x:Tm) (n:ByteArray) (hn:x.nodes≤1099511627776):E 161 [x.sv,.str n] []=some (.int .i64 (x.cnt n:Nat),[]) :=
 UQ x n hn fun y hy=>Pk y n (by have:=Tm.AT hy; have:=Tm.Ao x; omega)
termination_by SizeOf.sizeOf x
decreasing_by exact Tm.Ay hy
def Pl:SC:=(.seq (.reg [⟨some 4,none,.mv (.c (.bool false))⟩]) (.seq (.seq (.reg [⟨some 5,none,.mv (.c (.int .i64 0))⟩]) (.block 0 (.loop [1,1,0,0,0,1,0,0,0,0,0,0,0,0,0,0,0,0] (.seq (.seq (.reg [⟨some 6,none,.mv (.t 5)⟩,⟨some 7,none,.mv (.t 0)⟩,⟨some 8,none,.len false (.t 7)⟩,⟨some 9,none,.bin .lss false (.t 6) (.t 8)⟩]) (.cond (.t 9) .skip (.exit 0))) (.seq (.block 1 (.seq (.reg [⟨some 12,none,.mv (.t 0)⟩,⟨some 13,none,.mv (.t 5)⟩,⟨some 14,none,.iaddr 1 (.t 12) (.t 13)⟩,⟨some 15,none,.load false 1 (.t 14)⟩,⟨some 16,none,.mv (.t 1)⟩,⟨some 17,none,.bin .eql false (.t 15) (.t 16)⟩]) (.cond (.t 17) (.seq (.reg [⟨some 4,none,.mv (.c (.bool true))⟩]) .ret) .skip))) (.reg [⟨some 10,none,.mv (.t 5)⟩,⟨some 11,none,.bin .add false (.t 10) (.c (.int .i64 1))⟩,⟨some 5,none,.mv (.t 11)⟩])))))) (.seq (.reg [⟨some 4,none,.mv (.c (.bool false))⟩]) .ret)))
theorem Xf:codeOf Tryz.prog 113=some ⟨18,Pl,[(.tmp 4)]⟩:=by kernel_rfl
theorem Gj:modes 113=⟨[],.asis,none,false⟩:=by unfold modes; rfl
theorem Qc0 (xs:List ByteArray) (n:ByteArray) (hl:xs.length≤1099511627776):E 113 [.arr (xs.map fun s=>[D.str s]),.str n] []=some (.bool (dec (n∈xs)),[]):=by
  refine Af Xf Gj (of_decide_eq_true rfl) ?_
  simp (disch:=omega) only [Pl,go_sem,Aa]
  refine go_loop (α:=Int) (fun a=>⟨slots 18 0 [(0,.arr (xs.map fun s=>[D.str s])),(1,.str n),(5,.int .i64 a)],[]⟩) (fun a=>∃ k:Nat,a=k∧k≤(xs).length∧dec (n∈xs.drop k)=dec (n∈xs)) (fun a=>(xs).length-(a).toNat) 0 ⟨0,rfl,zI _,by rw [zJ]⟩ (by simp (disch:=omega) only [go_sem,Aa]) ?_
  rintro i ⟨k,hi,hk,hR⟩
  have hni:i.toNat=k:=by omega
  have hni1:(i+1).toNat=k+1:=by omega
  rcases zF k (xs).length with hlt | hge
  · have hg:=get_at (fun s=>[D.str s]) hlt
    rw [zA hlt] at hR
    by_cases hp:xs[k]=n
    · have hq:=eq_true hp
      have ht:dec (n∈xs)=true:=At (hp▸zC hlt)
      simp (disch:=omega) only [go_sem,Aa,hni,hg,hq]
      exact ht.symm
    · have hq:=eq_false hp
      have hR:dec (n∈xs.drop (k+1))=dec (n∈xs):=by
        rw [←hR]
        exact EY (by simp only [zP]; exact ⟨.inr,fun h=>h.elim (fun e=>absurd e.symm hp) id⟩)
      simp (disch:=omega) only [go_sem,Aa,hni,hg,hq]
      exact ⟨i+1,⟨k+1,by omega,hlt,hR⟩,by omega,by first | trivial | rfl⟩
  · rw [zB hge,A3 (by simp)] at hR
    simp (disch:=omega) only [go_sem,Aa,hni]
    exact hR
def LP:SC:=(.seq (.reg [⟨some 3,none,.boxv 71 2 (.t 1)⟩,⟨some 4,none,.mv (.c (.bool false))⟩]) (.seq (.reg [⟨some 5,none,.load true 2 (.t 3)⟩,⟨some 6,none,.mv (.t 0)⟩,⟨some 7,none,.call 161 [(.t 5),(.t 6)]⟩,⟨some 8,none,.bin .gtr false (.t 7) (.c (.int .i64 0))⟩,⟨some 4,none,.mv (.t 8)⟩]) .ret))
theorem SB:codeOf Tryz.prog 130=some ⟨9,LP,[(.tmp 4)]⟩:=by kernel_rfl
theorem Cm:modes 130=⟨[],.asis,none,false⟩:=by unfold modes; rfl
theorem Tm.ZW {n:ByteArray} (hn:An n=true) (x:Tm) (hx:An x.name=true→x.args=[]) (ih:∀ y∈x.args,(0<y.cnt n ↔ n∈y.vs)):0<x.cnt n ↔ n∈x.vs:=by
 rw [Tm.YL,Tm.Fz]
 cases hv:An x.name with
 | true =>
  rw [hx hv,Tm.OC,cond_true]
  by_cases h:x.name=n
  ·rw [At h,h]; simp
  ·rw [A3 h]
   simp only [cond_false,List.mem_singleton]
   exact ⟨fun k=>absurd k (by omega),fun k=>absurd k.symm h⟩
 | false =>
  have h:¬ x.name=n:=fun e=>by rw [e,hn] at hv; cases hv
  rw [A3 h,cond_false,cond_false,Nat.zero_add,Tm.Xe,Tm.vsL_mem]
  constructor
  ·rintro ⟨y,h1,h2⟩; exact ⟨y,h1,(ih y h1).1 h2⟩
  ·rintro ⟨y,h1,h2⟩; exact ⟨y,h1,(ih y h1).2 h2⟩
theorem Tm.Qc1 {n:ByteArray} (hn:An n=true) (x:Tm) (hx:x.names=true):0<x.cnt n ↔ n∈x.vs :=
 Tm.ZW hn x (Tm.En hx) fun y hy=>Tm.Qc1 hn y (Tm.Eo hx hy)
termination_by SizeOf.sizeOf x
decreasing_by exact Tm.Ay hy
theorem Tm.Qek {n:ByteArray} (hn:An n=true) (x:Tm) (hx:x.expr=true):dec ((0:Int)<(x.cnt n:Nat))=dec (n∈x.vs):=by
 have h:=Tm.ZW hn x (Tm.Wy hx) fun y hy=>Tm.Qc1 hn y (Tm.K5 hx hy)
 refine EY ?_
 rw [←h]; omega
theorem Tm.E8 {x:Tm} (h:x.expr=true):x.cok=true:=by
 rcases Tm.Mq h with hn | ⟨he,ha⟩
 ·exact Tm.I9 x hn
 ·have hname:x.name=⟨#[61]⟩:=by unfold Tm.eqn at he; exact Ar.1 he
  have hc:Km ⟨#[61]⟩=true:=by kernel_rfl
  rw [Tm.Kn,hname,hc,yK]
  have key:∀ xs:List Tm,(∀ y∈xs,y.names=true)→Tm.So xs=true:=by
   intro xs
   induction xs with
   | nil=>intro _; rw [Tm.So]
   | cons y ys ih=>intro hh; rw [Tm.So,Tm.I9 y (hh y (by simp)),ih fun z hz=>hh z (by simp [hz])]; rfl
  exact key _ fun y hy=>Tm.K5 h hy
theorem Xg (n:ByteArray) (hn:An n=true) (x:Tm) (hx:x.expr=true):E 130 [.str n,x.sv] []=some (.bool (dec (n∈x.vs)),[]):=by
 have h:=Pk x n (by have:=Tm.As hx; omega)
 rw [←Tm.Qek hn x hx]
 refine Af SB Cm (of_decide_eq_true rfl) ?_
 simp (disch:=omega) only [LP,go_sem,Aa,h,FI]
def By:SC:=(.seq (.reg [⟨some 1,none,.boxv 107 4 (.t 0)⟩,⟨some 2,none,.alloc 76 [.nil]⟩,⟨some 3,none,.mv (.c (.bool false))⟩]) (.seq (.dreg [[],[0],[],[2],[],[],[4,1,0,5],[5,3,2,6,4,1,0]] [⟨some 7,none,.faddr 0 (.t 1)⟩,⟨some 8,none,.load true 2 (.t 7)⟩,⟨some 9,none,.faddr 2 (.t 1)⟩,⟨some 10,none,.load true 2 (.t 9)⟩,⟨(some 4),none,(.alloc 71 [(.str ⟨#[]⟩),.nil])⟩,⟨(some 5),none,(.alloc 71 [(.str ⟨#[]⟩),.nil])⟩,⟨none,none,(.store 2 (.t 4) (.t 8))⟩,⟨none,none,(.store 2 (.t 5) (.t 10))⟩]) (.seq (.seq (.reg [⟨some 11,none,.load true 2 (.t 4)⟩,⟨some 12,none,.call 89 [(.t 11)]⟩,⟨some 13,none,.un .not (.t 12)⟩,⟨some 14,none,.mv (.t 13)⟩,⟨(some 15),(some (14,false)),(.load true 2 (.t 5))⟩,⟨(some 16),(some (14,false)),(.call 89 [(.t 15)])⟩,⟨(some 17),(some (14,false)),(.mv (.t 16))⟩,⟨(some 18),(some (17,true)),(.faddr 0 (.t 5))⟩,⟨(some 19),(some (17,true)),(.load false 1 (.t 18))⟩,⟨(some 20),(some (17,true)),(.faddr 0 (.t 4))⟩,⟨(some 21),(some (17,true)),(.load false 1 (.t 20))⟩,⟨(some 22),(some (17,true)),(.bin .gtr false (.t 19) (.t 21))⟩,⟨(some 23),(some (14,false)),(.pick (.t 17) (.t 22) (.c (.bool false)))⟩,⟨some 24,none,.pick (.t 14) (.c (.bool true)) (.t 23)⟩]) (.cond (.t 24) (.reg [⟨some 25,none,.load true 2 (.t 5)⟩,⟨some 26,none,.load true 2 (.t 4)⟩,⟨none,none,(.store 2 (.t 4) (.t 25))⟩,⟨none,none,(.store 2 (.t 5) (.t 26))⟩]) .skip)) (.seq (.reg [⟨some 27,none,.faddr 0 (.t 4)⟩,⟨some 28,none,.load false 1 (.t 27)⟩,⟨some 29,none,.load true 2 (.t 5)⟩,⟨(some 30),none,(.build [(.str ⟨#[]⟩),(.str ⟨#[]⟩),.nil] [(0,(1,(.t 28))),(1,(2,(.t 29)))])⟩,⟨(some 31),none,(.mkrow 139 3 [(.str ⟨#[]⟩),(.str ⟨#[]⟩),.nil] 1 [(0,(.t 30))])⟩,⟨some 32,none,.build [.nil] [(0,(1,(.t 31)))]⟩,⟨some 6,none,.alloc 76 [.nil]⟩,⟨none,none,(.store 1 (.t 6) (.t 32))⟩]) (.seq (.dreg [[],[],[1],[],[2,1,3],[4,2,1,3],[5,4,2,1,3],[6,5,4,2,1,3],[7,6,5,4,2,1,3],[6,5,4,2,1,3,8,7],[0,8,7,6,5,4,2,1,3],[9,6,5,4,2,1,3,8,7,10,0]] [⟨some 33,none,.load true 1 (.t 6)⟩,⟨some 34,none,.faddr 0 (.t 4)⟩,⟨some 35,none,.load false 1 (.t 34)⟩,⟨some 36,none,.load true 2 (.t 5)⟩,⟨some 37,none,.call 130 [(.t 35),(.t 36)]⟩,⟨some 38,none,.un .not (.t 37)⟩,⟨some 39,none,.mv (.t 38)⟩,⟨(some 40),(some (39,true)),(.load true 1 (.t 6))⟩,⟨(some 41),(some (39,true)),(.call 131 [(.t 40)])⟩,⟨some 42,none,.pick (.t 39) (.t 41) (.c (.bool false))⟩,⟨none,none,(.store 1 (.t 2) (.t 33))⟩,⟨some 3,none,.mv (.t 42)⟩]) .ret)))))
theorem BF:codeOf Tryz.prog 90=some ⟨43,By,[(.cell 2 true 1),(.tmp 3)]⟩:=by kernel_rfl
theorem Ae:modes 90=⟨[],.frz,none,false⟩:=by unfold modes; rfl
def Iq:SC:=(.seq (.reg [⟨some 3,none,.boxv 76 1 (.t 0)⟩,⟨some 5,none,.boxv 71 2 (.t 2)⟩,⟨some 6,none,.alloc 76 [.nil]⟩,⟨some 7,none,.mv (.c (.bool false))⟩]) (.seq (.seq (.reg [⟨some 8,none,.load true 2 (.t 5)⟩,⟨some 9,none,.call 114 [(.t 8)]⟩,⟨some 10,none,.mv (.t 1)⟩,⟨some 11,none,.call 113 [(.t 9),(.t 10)]⟩]) (.cond (.t 11) (.seq (.reg [⟨some 12,none,.load true 1 (.t 3)⟩,⟨none,none,(.store 1 (.t 6) (.t 12))⟩,⟨some 7,none,.mv (.c (.bool false))⟩]) .ret) .skip)) (.seq (.dreg [[],[],[],[],[1,2,3],[0,4,1,2,3],[5,0,4,1,2,3],[5,0,4,1,2,3],[6,5,0,4,1,2,3,7],[7,5,0,4,1,2,3,8,6]] [⟨some 13,none,.load true 1 (.t 3)⟩,⟨some 14,none,.build [.nil] []⟩,⟨some 15,none,.mv (.t 1)⟩,⟨some 16,none,.load true 2 (.t 5)⟩,⟨some 17,none,.call 116 [(.t 14),(.t 15),(.t 16)]⟩,⟨some 18,none,.call 115 [(.t 13),(.t 17)]⟩,⟨some 19,none,.ext (.t 18) 0⟩,⟨some 20,none,.ext (.t 18) 1⟩,⟨none,none,(.store 1 (.t 6) (.t 19))⟩,⟨some 7,none,.mv (.t 20)⟩]) .ret)))
theorem LQ:codeOf Tryz.prog 78=some ⟨21,Iq,[(.cell 6 true 1),(.tmp 7)]⟩:=by kernel_rfl
theorem Al:modes 78=⟨[],.frz,none,false⟩:=by unfold modes; rfl
theorem Hs {b:Bd} (h:b.term.nodes≤1099511627776):(Sb.mk [b]).tame:=⟨by simp,fun y hy=>by
 have:y=b:=by simpa using hy
 rw [this]; exact h⟩
theorem HO (x y:Tm) (hx:x.expr=true) (hy:y.expr=true) (hv:(An x.name || An y.name)=true):E 90 [.agg [.str x.name,.arr (x.args.map Tm.d),.str y.name,.arr (y.args.map Tm.d)]] []=some (.tup [(Sb.mk [Az x y]).sv,.bool (BN (Az x y))],[]):=by
  have h1:=Dd x (Tm.E8 hx)
  have h2:=Dd y (Tm.E8 hy)
  have n1:=Tm.As hx
  have n2:=Tm.As hy
  have hor:(Az x y=⟨x.name,y⟩∧An x.name=true∧(An y.name&&strLt x.name y.name)=false)∨(Az x y=⟨y.name,x⟩∧An y.name=true∧(An x.name=false∨(An y.name&&strLt x.name y.name)=true)):=by
    unfold Az
    cases h1:An x.name with
    | true =>
      cases h3:An y.name&&strLt x.name y.name with
      | true=>rw [zD] at h3; exact .inr ⟨rfl,h3.1,.inr (by rfl)⟩
      | false=>exact .inl ⟨rfl,rfl,rfl⟩
    | false =>
      rw [h1,Bool.false_or] at hv
      exact .inr ⟨rfl,hv,.inl (by rfl)⟩
  rcases hor with ⟨e,k1,k2⟩ | ⟨e,k1,k2⟩
  · rw [e]
    have ho:=Xg x.name k1 y hy
    have hi:=DI ⟨[⟨x.name,y⟩]⟩ (Hs (by show y.nodes≤_; omega))
    have hsv:(Sb.mk [⟨x.name,y⟩]).sv=.agg [.arr [[.str x.name,.str y.name,.arr (y.args.map Tm.d)]]]:=rfl
    rw [hsv] at hi ⊢
    unfold BN
    rw [k1] at h1
    cases hv2:An y.name with
    | false =>
      rw [hv2] at h2
      cases hb:dec (x.name∈y.vs) with
      | true =>
        rw [hb] at ho
        refine Af BF Ae (of_decide_eq_true rfl) ?_
        simp (disch:=omega) only [By,go_sem,Aa,h1,h2,ho,hi,hb,Ak,Cm,Ax]
      | false =>
        rw [hb] at ho
        refine Af BF Ae (of_decide_eq_true rfl) ?_
        simp (disch:=omega) only [By,go_sem,Aa,h1,h2,ho,hi,hb,Ak,Cm,Ax]
    | true =>
      rw [hv2] at h2 k2
      rw [yK] at k2
      cases hb:dec (x.name∈y.vs) with
      | true =>
        rw [hb] at ho
        refine Af BF Ae (of_decide_eq_true rfl) ?_
        simp (disch:=omega) only [By,go_sem,Aa,h1,h2,ho,hi,hb,k2,IB,yG,Ak,Cm,Ax]
      | false =>
        rw [hb] at ho
        refine Af BF Ae (of_decide_eq_true rfl) ?_
        simp (disch:=omega) only [By,go_sem,Aa,h1,h2,ho,hi,hb,k2,IB,yG,Ak,Cm,Ax]
  · rw [e]
    have ho:=Xg y.name k1 x hx
    have hi:=DI ⟨[⟨y.name,x⟩]⟩ (Hs (by show x.nodes≤_; omega))
    have hsv:(Sb.mk [⟨y.name,x⟩]).sv=.agg [.arr [[.str y.name,.str x.name,.arr (x.args.map Tm.d)]]]:=rfl
    rw [hsv] at hi ⊢
    unfold BN
    rw [k1] at h2 k2
    rw [yK] at k2
    cases hv1:An x.name with
    | false =>
      rw [hv1] at h1
      cases hb:dec (y.name∈x.vs) with
      | true =>
        rw [hb] at ho
        refine Af BF Ae (of_decide_eq_true rfl) ?_
        simp (disch:=omega) only [By,go_sem,Aa,h1,h2,ho,hi,hb,Ak,Cm,Ax]
      | false =>
        rw [hb] at ho
        refine Af BF Ae (of_decide_eq_true rfl) ?_
        simp (disch:=omega) only [By,go_sem,Aa,h1,h2,ho,hi,hb,Ak,Cm,Ax]
    | true =>
      rw [hv1] at h1 k2
      have k2:strLt x.name y.name=true:=k2.elim (fun h=>by cases h) id
      cases hb:dec (y.name∈x.vs) with
      | true =>
        rw [hb] at ho
        refine Af BF Ae (of_decide_eq_true rfl) ?_
        simp (disch:=omega) only [By,go_sem,Aa,h1,h2,ho,hi,hb,k2,IB,yG,Ak,Cm,Ax]
      | false =>
        rw [hb] at ho
        refine Af BF Ae (of_decide_eq_true rfl) ?_
        simp (disch:=omega) only [By,go_sem,Aa,h1,h2,ho,hi,hb,k2,IB,yG,Ak,Cm,Ax]
theorem C2 (s:Sb) (hs:s.ok=true) (n:ByteArray) (t:Tm) (ht:t.expr=true) (hne:t.name=n→n∈t.vs):∃ r:Sb,E 78 [s.sv,.str n,t.sv] []=some (.tup [r.sv,.bool (BN ⟨n,t⟩&&Cs s ⟨[⟨n,t⟩]⟩)],[])∧((BN ⟨n,t⟩&&Cs s ⟨[⟨n,t⟩]⟩)=true→r=Ck s ⟨[⟨n,t⟩]⟩):=by
  have n1:=Tm.As ht
  have h1:=Qcv t (by omega)
  have hl:=RI t.vs []
  have hvl:=Tm.vs_len t
  have h2:=Qc0 (JN [] t.vs) n (by simp only [zV] at hl; omega)
  have e1:dec (n∈JN [] t.vs)=dec (n∈t.vs):=EY (by rw [WX]; simp)
  rw [e1] at h2
  have hss:s.sv=.agg [.arr (s.binds.map Bd.d)]:=rfl
  cases hb:dec (n∈t.vs) with
  | true =>
    rw [hb] at h2
    refine ⟨s,?_,fun h=>?_⟩
    · have e2:BN ⟨n,t⟩=false:=by
        unfold BN
        show (!dec (n∈t.vs)&&_)=false
        rw [hb]; rfl
      rw [e2,yC,hss]
      refine Af LQ Al (of_decide_eq_true rfl) ?_
      simp (disch:=omega) only [Iq,go_sem,Aa,h1,h2,Ip,Gj]
    · unfold BN at h
      have h:((!dec (n∈t.vs)&&_)&&_)=true:=h
      rw [hb] at h; cases h
  | false =>
    rw [hb] at h2
    have hnn:¬ t.name=n:=fun e=>Ct.1 hb (hne e)
    have h3:=UN ⟨[]⟩ n t (by show 0≤_; omega) (by omega)
    have hput:(Sb.mk []).put ⟨n,t⟩=⟨[⟨n,t⟩]⟩:=by
      unfold Sb.put
      rw [A3 hnn]; rfl
    rw [hput] at h3
    have hpsv:(Sb.mk [⟨n,t⟩]).sv=.agg [.arr [[.str n,.str t.name,.arr (t.args.map Tm.d)]]]:=rfl
    have htame:s.tame:=⟨by have:=ok_len hs; omega,fun c hc=>by
      obtain ⟨k,hk,rfl⟩:=zL hc
      have:=Ed (Dz (Sb.J6 hs hk)); omega⟩
    have h4:=S9 s ⟨[⟨n,t⟩]⟩ htame (Hs (by show t.nodes≤_; omega))
    have e0:(Sb.mk []).sv=.agg [.arr []]:=rfl
    rw [e0,hpsv] at h3
    rw [hpsv] at h4
    have e2:S8 s ⟨[⟨n,t⟩]⟩=(BN ⟨n,t⟩&&Cs s ⟨[⟨n,t⟩]⟩):=by
      unfold S8 BN
      show _=((!dec (n∈t.vs)&&_)&&_)
      rw [hs,hb]; rfl
    rw [e2] at h4
    refine ⟨WU s ⟨[⟨n,t⟩]⟩,?_,fun h=>?_⟩
    · have hrs:(WU s ⟨[⟨n,t⟩]⟩).sv=.agg [.arr ((WU s ⟨[⟨n,t⟩]⟩).binds.map Bd.d)]:=rfl
      rw [hss] at h4 ⊢
      rw [hrs] at h4 ⊢
      refine Af LQ Al (of_decide_eq_true rfl) ?_
      simp (disch:=omega) only [Iq,go_sem,Aa,h1,h2,h3,h4,Ip,Gj,C5,Bs]
    · unfold WU
      rw [e2,h]; rfl
def eqD (p:Tm × Tm):List D:=[.str p.1.name,.arr (p.1.args.map Tm.d),.str p.2.name,.arr (p.2.args.map Tm.d)]
def eqO (p:Tm × Tm):List OT:=[.str p.1.name,.sh (p.1.args.map Tm.d),.str p.2.name,.sh (p.2.args.map Tm.d)]
theorem RN:∀ l:List (Tm × Tm),OT.erss (l.map eqO)=l.map eqD
 | []=>rfl
 | p :: l=>by rw [zK,zK,OT.erss,RN l]; rfl
theorem RO:∀ l:List (Tm × Tm),OT.AL (l.map eqO)=true
 | []=>rfl
 | p :: l=>by rw [zK,OT.AL,RO l]; rfl
theorem KN (l:List (Tm × Tm)):(l.map eqD).map (fun x=>x.map D.ot)=l.map eqO:=by rw [zX]; rfl
theorem HP (l:List (Tm × Tm)):((l.map eqO).all fun x=>x.length == 4)=true:=by
 rw [zZ,zR]; intro x _; rfl
theorem PM (l:List (Tm × Tm)):((l.map eqD).all fun x=>x.length == 4)=true:=by
 rw [zZ,zR]; intro x _; rfl
noncomputable def uTo (t:Option Sb):Sb:=t.getD ⟨[]⟩
def uOk (t:Option Sb):Bool:=t.isSome
theorem EH {s:Sb} (hs:s.ok=true):s.tame:=⟨by have:=ok_len hs; omega,fun c hc=>by
 obtain ⟨k,hk,rfl⟩:=zL hc
 have:=Ed (Dz (Sb.J6 hs hk)); omega⟩
theorem Gk {α β:Type} {xs:List α} {ys:List β} {k:Nat} (h:k<xs.length) (h':k<ys.length):(xs.zip ys).take k++[(xs[k],ys[k])]=(xs.zip ys).take (k+1):=by
 have hz:k<(xs.zip ys).length:=by rw [List.length_zip]; omega
 rw [List.take_succ_eq_append_getElem hz,List.getElem_zip]
theorem PN:∀ (n:Nat) (s:Sb) (l:List (Tm × Tm)) (r:Sb),uInv s l→BE n s l=some (some r)→r.ok=true
  | 0,s,l,r,h,e=>by rw [BE] at e; cases e
  | n+1,s,[],r,h,e=>by
    rw [BE] at e
    simp only [Option.some.injEq] at e
    rw [←e]; exact h.ok
  | n + 1, s, p :: l,r,h,e=>by
    rw [BE] at e
    cases h1:BT s p.1 with
    | false=>simp only [h1,yC,cond_false] at e; cases e
    | true =>
      cases h2:BT s p.2 with
      | false=>simp only [h2,yJ,cond_false] at e; cases e
      | true =>
        cases h3:dec (AI s p.1=AI s p.2) with
        | true =>
          simp only [h1,h2,h3,zO,cond_true] at e
          exact PN n s l r h.pop e
        | false =>
          cases h4:An (AI s p.1).name || An (AI s p.2).name with
          | true =>
            cases h5:BN (Az (AI s p.1) (AI s p.2))&&Cs s ⟨[Az (AI s p.1) (AI s p.2)]⟩ with
            | false=>simp only [h1,h2,h3,h4,h5,zO,cond_true,cond_false] at e; cases e
            | true =>
              simp only [h1,h2,h3,h4,h5,zO,cond_true,cond_false] at e
              rw [zD] at h5
              exact PN n _ l r (h.bind h1 h2 h4 h5.1 h5.2).1 e
          | false =>
            have h4':=h4
            rw [Bool.or_eq_false_iff] at h4'
            cases h5:dec ((AI s p.1).name=(AI s p.2).name)&&dec ((AI s p.1).args.length=(AI s p.2).args.length) with
            | false=>simp only [h1,h2,h3,h4,h5,zO,cond_true,cond_false] at e; cases e
            | true =>
              simp only [h1,h2,h3,h4,h5,zO,cond_true,cond_false] at e
              exact PN n s _ r (h.dec h1 h2 h4'.1) e
open Classical in
noncomputable def unR (a b:Tm):Option Sb:=if h:∃ r,∃ n,BE n ⟨[]⟩ [(a,b)]=some r then h.choose else none
theorem RP {a b:Tm} (ha:a.expr=true) (hb:b.expr=true):∃ n,BE n ⟨[]⟩ [(a,b)]=some (unR a b):=by
 obtain ⟨n,r,h⟩:=YK ha hb
 have he:∃ r,∃ n,BE n ⟨[]⟩ [(a,b)]=some r:=⟨r,n,h⟩
 unfold unR
 rw [dif_pos he]
 exact he.choose_spec
theorem Qc2 {a b:Tm} (ha:a.expr=true) (hb:b.expr=true) {s:Sb} (h:unR a b=some s):s.ok=true:=by
 obtain ⟨n,hn⟩:=RP ha hb
 rw [h] at hn
 exact PN n _ _ s (uInv.start ha hb) hn
noncomputable def F0 (s:Sb) (l:List Lt):Bool:=Ev s l&&(nz 10 (apC s l)).norm
noncomputable def RQ (s:Sb) (l:List Lt):Cl:=if F0 s l then nz 10 (apC s l) else ⟨[]⟩
theorem N8 {s:Sb} {l:List Lt} (h:F0 s l=false):RQ s l=⟨[]⟩:=by unfold RQ; rw [if_neg (by rw [h]; simp)]
theorem RR {s:Sb} {l:List Lt} (h:F0 s l=true):RQ s l=nz 10 (apC s l):=by unfold RQ; rw [if_pos h]
theorem Qc3 {s:Sb} {l:List Lt} (h:Ev s l=true):(apC s l).ok=true:=by
 rw [PK h]
 unfold Ev at h
 rw [zD] at h
 exact h.2
theorem Qc4 {c:Cl} (h:c.ok=true):c.tame:=⟨by have:=Cl.ok_len h; omega,fun y hy=>by have:=Tm.CG (Cl.CR h y hy); omega⟩
noncomputable def hasB (c:Cl) (i:Int):Bool:=dec (0≤i)&&dec (i≤(c.lits.length:Int)-1)
theorem PO {c:Cl} {i:Int} (h:hasB c i=true):∃ p:Nat,i=p∧p<c.lits.length:=by
 unfold hasB at h
 rw [zD] at h
 have h1:=Ar.1 h.1
 have h2:=Ar.1 h.2
 exact ⟨i.toNat,by omega,by omega⟩
noncomputable def L1 (c:Cl) (i:Int):Lt:=(c.lits[i.toNat]?).getD ⟨false,.mk ⟨#[]⟩ []⟩
theorem Ju {c:Cl} {p:Nat} (h:p<c.lits.length):L1 c (p:Int)=c.lits[p]:=by
 unfold L1
 rw [Int.toNat_natCast,List.getElem?_eq_getElem h]; rfl
noncomputable def QeB (c:Cl) (i k:Int):Bool:=hasB c i&&(hasB c k&&(dec (i<k)&&((L1 c i).pos == (L1 c k).pos)))
noncomputable def QeC (c:Cl) (i k:Int):Option Sb:=bif QeB c i k then unR (L1 c i).atom (L1 c k).atom else none
noncomputable def QeD (c:Cl) (i k:Int):Bool:=match QeC c i k with
 | none=>false
 | some s=>F0 s (c.lits.eraseIdx k.toNat)
theorem Pm {c:Cl} (hc:c.ok=true) (k:Nat):∀ x∈c.lits.eraseIdx k,x.atom.atom=true:=fun x hx=>Cl.CR hc x (List.mem_of_mem_eraseIdx hx)
theorem TM {c:Cl} (hc:c.ok=true) (k:Nat):(c.lits.eraseIdx k).length≤8:=by
 have h1:=List.length_eraseIdx_le c.lits k
 have h2:=Cl.ok_len hc
 omega
noncomputable def Cl.ap (d:Cl):Cl:=d.rn (Dl Gf d.ns)
theorem Cl.ZX {d:Cl} (h:d.ok=true):d.ap.ok=true:=Cl.ZO (Cl.yE h) h
theorem Cl.ZY {d:Cl} (h:d.ok=true) (hn:d.norm=true):d.ap.lits=d.lits.map (Lt.rn (Dl Gf d.ns)):=Cl.YE h hn
theorem Cl.RS {d:Cl} (h:d.ok=true) (hn:d.norm=true):d.ap.lits.length=d.lits.length:=by rw [Cl.ZY h hn,zH]
theorem Cl.Qd6 {d:Cl} (h:d.ok=true) (hn:d.norm=true) (k:Int):hasB d.ap k=hasB d k:=by unfold hasB; rw [Cl.RS h hn]
theorem Cl.Qel {d:Cl} (h:d.ok=true) (hn:d.norm=true) {q:Nat} (hq:q<d.lits.length):(L1 d.ap q).pos=(L1 d q).pos:=by
 rw [Ju hq,Ju (by rw [Cl.RS h hn]; exact hq)]
 simp only [Cl.ZY h hn,List.getElem_map]
 rfl
noncomputable def Jv (c:Cl) (i:Int) (d:Cl) (k:Int):Bool:=hasB c i&&(hasB d k&&!((L1 c i).pos == (L1 d k).pos))
noncomputable def UR (c:Cl) (i:Int) (d:Cl) (k:Int):Option Sb:=bif Jv c i d k then unR (L1 c i).atom (L1 d.ap k).atom else none
noncomputable def N9 (c:Cl) (i:Int) (d:Cl) (k:Int):List Lt:=c.lits.eraseIdx i.toNat++d.ap.lits.eraseIdx k.toNat
noncomputable def KO (c:Cl) (i:Int) (d:Cl) (k:Int):Bool:=match UR c i d k with
 | none=>false
 | some s=>F0 s (N9 c i d k)
noncomputable def US (c:Cl) (i:Int) (d:Cl) (k:Int):Cl:=match UR c i d k with
 | none=>⟨[]⟩
 | some s=>RQ s (N9 c i d k)
theorem KP {c d:Cl} {i k:Int} (h:UR c i d k=none):KO c i d k=false∧US c i d k=⟨[]⟩:=by
 unfold KO US
 rw [h]
 exact ⟨rfl,rfl⟩
theorem Xh {c d:Cl} {i k:Int} {s:Sb} (h:UR c i d k=some s):KO c i d k=F0 s (N9 c i d k)∧US c i d k=RQ s (N9 c i d k):=by
 unfold KO US
 rw [h]
 exact ⟨rfl,rfl⟩
theorem Lv {c d:Cl} {i k:Int} (h:Jv c i d k=false):UR c i d k=none:=by unfold UR; rw [h]; rfl
theorem Xi {c d:Cl} {i k:Int} (h:Jv c i d k=true):UR c i d k=unR (L1 c i).atom (L1 d.ap k).atom:=by unfold UR; rw [h]; rfl
theorem RT {c d:Cl} (hc:c.ok=true) (hd:d.ok=true) (i k:Int):∀ x∈N9 c i d k,x.atom.atom=true:=fun x hx=>by
 rcases zU.1 hx with h | h
 ·exact Pm hc _ x h
 ·exact Pm (Cl.ZX hd) _ x h
theorem Xj {c d:Cl} (hc:c.ok=true) (hd:d.ok=true) (i k:Int):(N9 c i d k).length≤16:=by
 have h1:=TM hc i.toNat
 have h2:=TM (Cl.ZX hd) k.toNat
 unfold N9
 rw [zG]; omega
abbrev u2b:SC:=(.seq (.seq (.reg [⟨(some 22),none,(.mv (.t 7))⟩,⟨(some 23),none,(.len false (.t 22))⟩,⟨(some 24),none,(.bin .gtr false (.t 23) (.c (.int .i64 0)))⟩]) (.cond (.t 24) .skip (.exit 0))) (.block 1 (.seq (.dreg [[],[],[1],[2,1],[3,2,1],[0,4,3,2,1],[5,0,4,3,2,1],[6,5,0,4,3,2,1],[6,5,0,4,3,2,1],[],[9,7,6,5,0,4,3,2,1],[8,6,5,0,4,3,2,1,10,9,7]] [⟨(some 26),none,(.load true 1 (.t 6))⟩,⟨(some 27),none,(.mv (.t 7))⟩,⟨(some 28),none,(.iaddr 4 (.t 27) (.c (.int .i64 0)))⟩,⟨(some 29),none,(.faddr 0 (.t 28))⟩,⟨(some 30),none,(.load true 2 (.t 29))⟩,⟨(some 31),none,(.call 87 [(.t 26),(.t 30)])⟩,⟨(some 25),none,(.mv (.t 31))⟩,⟨(some 32),none,(.ext (.t 25) 0)⟩,⟨(some 33),none,(.ext (.t 25) 1)⟩,⟨(some 8),none,(.alloc 71 [(.str ⟨#[]⟩),.nil])⟩,⟨none,none,(.store 2 (.t 8) (.t 32))⟩,⟨(some 9),none,(.mv (.t 33))⟩]) (.seq (.dreg [[],[],[1],[2,1],[3,2,1],[0,4,3,2,1],[5,0,4,3,2,1],[6,5,0,4,3,2,1],[6,5,0,4,3,2,1],[],[9,7,6,5,0,4,3,2,1],[8,6,5,0,4,3,2,1,10,9,7]] [⟨(some 35),none,(.load true 1 (.t 6))⟩,⟨(some 36),none,(.mv (.t 7))⟩,⟨(some 37),none,(.iaddr 4 (.t 36) (.c (.int .i64 0)))⟩,⟨(some 38),none,(.faddr 2 (.t 37))⟩,⟨(some 39),none,(.load true 2 (.t 38))⟩,⟨(some 40),none,(.call 87 [(.t 35),(.t 39)])⟩,⟨(some 34),none,(.mv (.t 40))⟩,⟨(some 41),none,(.ext (.t 34) 0)⟩,⟨(some 42),none,(.ext (.t 34) 1)⟩,⟨(some 10),none,(.alloc 71 [(.str ⟨#[]⟩),.nil])⟩,⟨none,none,(.store 2 (.t 10) (.t 41))⟩,⟨(some 11),none,(.mv (.t 42))⟩]) (.seq (.reg [⟨(some 43),none,(.mv (.t 7))⟩,⟨(some 44),none,(.slice false 4 (.t 43) (some (.c (.int .i64 1))) none)⟩,⟨(some 7),none,(.mv (.t 44))⟩]) (.block 2 (.seq (.reg [⟨(some 69),none,(.mv (.t 9))⟩,⟨(some 70),none,(.un .not (.t 69))⟩,⟨(some 71),none,(.mv (.t 70))⟩,⟨(some 72),(some (71,false)),(.mv (.t 11))⟩,⟨(some 73),(some (71,false)),(.un .not (.t 72))⟩,⟨(some 74),none,(.pick (.t 71) (.c (.bool true)) (.t 73))⟩,⟨(some 68),none,(.mv (.t 74))⟩]) (.cond (.t 68) (.seq (.reg [⟨(some 75),none,(.build [.nil] [])⟩,⟨none,none,(.store 1 (.t 4) (.t 75))⟩,⟨(some 5),none,(.mv (.c (.bool false)))⟩]) .ret) (.seq (.reg [⟨(some 77),none,(.load true 2 (.t 8))⟩,⟨(some 78),none,(.load true 2 (.t 10))⟩,⟨(some 79),none,(.call 88 [(.t 77),(.t 78)])⟩,⟨(some 76),none,(.mv (.t 79))⟩]) (.cond (.t 76) .skip (.seq (.reg [⟨(some 81),none,(.load true 2 (.t 8))⟩,⟨(some 82),none,(.call 89 [(.t 81)])⟩,⟨(some 83),none,(.mv (.t 82))⟩,⟨(some 84),(some (83,false)),(.load true 2 (.t 10))⟩,⟨(some 85),(some (83,false)),(.call 89 [(.t 84)])⟩,⟨(some 86),none,(.pick (.t 83) (.c (.bool true)) (.t 85))⟩,⟨(some 80),none,(.mv (.t 86))⟩]) (.cond (.t 80) (.seq (.reg [⟨(some 88),none,(.load true 2 (.t 8))⟩,⟨(some 89),none,(.load true 2 (.t 10))⟩,⟨(some 90),none,(.build [(.str ⟨#[]⟩),.nil,(.str ⟨#[]⟩),.nil] [(0,(2,(.t 88))),(2,(2,(.t 89)))])⟩,⟨(some 91),none,(.call 90 [(.t 90)])⟩,⟨(some 87),none,(.mv (.t 91))⟩,⟨(some 92),none,(.ext (.t 87) 0)⟩,⟨(some 93),none,(.ext (.t 87) 1)⟩,⟨(some 12),none,(.alloc 76 [.nil])⟩,⟨none,none,(.store 1 (.t 12) (.t 92))⟩,⟨(some 13),none,(.mv (.t 93))⟩]) (.seq (.seq (.reg [⟨(some 94),none,(.mv (.t 13))⟩,⟨(some 95),none,(.un .not (.t 94))⟩]) (.cond (.t 95) (.seq (.reg [⟨(some 96),none,(.build [.nil] [])⟩,⟨none,none,(.store 1 (.t 4) (.t 96))⟩,⟨(some 5),none,(.mv (.c (.bool false)))⟩]) .ret) .skip)) (.seq (.reg [⟨(some 98),none,(.load true 1 (.t 6))⟩,⟨(some 99),none,(.load true 1 (.t 12))⟩,⟨(some 100),none,(.call 91 [(.t 98),(.t 99)])⟩,⟨(some 97),none,(.mv (.t 100))⟩,⟨(some 101),none,(.ext (.t 97) 0)⟩,⟨(some 102),none,(.ext (.t 97) 1)⟩,⟨none,none,(.store 1 (.t 6) (.t 101))⟩,⟨(some 13),none,(.mv (.t 102))⟩]) (.seq (.reg [⟨(some 103),none,(.mv (.t 13))⟩,⟨(some 104),none,(.un .not (.t 103))⟩]) (.cond (.t 104) (.seq (.reg [⟨(some 105),none,(.build [.nil] [])⟩,⟨none,none,(.store 1 (.t 4) (.t 105))⟩,⟨(some 5),none,(.mv (.c (.bool false)))⟩]) .ret) .skip))))) (.seq (.reg [⟨(some 107),none,(.faddr 0 (.t 8))⟩,⟨(some 108),none,(.load false 1 (.t 107))⟩,⟨(some 109),none,(.faddr 0 (.t 10))⟩,⟨(some 110),none,(.load false 1 (.t 109))⟩,⟨(some 111),none,(.bin .neq false (.t 108) (.t 110))⟩,⟨(some 112),none,(.mv (.t 111))⟩,⟨(some 113),(some (112,false)),(.faddr 1 (.t 8))⟩,⟨(some 114),(some (112,false)),(.load false 1 (.t 113))⟩,⟨(some 115),(some (112,false)),(.len false (.t 114))⟩,⟨(some 116),(some (112,false)),(.faddr 1 (.t 10))⟩,⟨(some 117),(some (112,false)),(.load false 1 (.t 116))⟩,⟨(some 118),(some (112,false)),(.len false (.t 117))⟩,⟨(some 119),(some (112,false)),(.bin .neq false (.t 115) (.t 118))⟩,⟨(some 120),none,(.pick (.t 112) (.c (.bool true)) (.t 119))⟩,⟨(some 106),none,(.mv (.t 120))⟩]) (.cond (.t 106) (.seq (.reg [⟨(some 121),none,(.build [.nil] [])⟩,⟨none,none,(.store 1 (.t 4) (.t 121))⟩,⟨(some 5),none,(.mv (.c (.bool false)))⟩]) .ret) (.seq (.reg [⟨(some 45),none,(.mkrow 107 4 [(.str ⟨#[]⟩),.nil,(.str ⟨#[]⟩),.nil] 0 [])⟩,⟨(some 14),none,(.mv (.t 45))⟩]) (.seq (.seq (.reg [⟨(some 46),none,(.faddr 1 (.t 8))⟩,⟨(some 47),none,(.load false 1 (.t 46))⟩,⟨(some 48),none,(.len false (.t 47))⟩,⟨(some 49),none,(.mv (.c (.int .i64 0)))⟩]) (.block 3 (.loop [0,0,0,0,1,0,1,1,0,0,1,0,0,0,1,0,0,0,0,0,0,0,0,0,0,0,0,0,0,0,0,0,0,0,0,0,0,0,0,0,0,0,0,0,0,0,0,1,1,1,0,0,0,0,0,0,0,0,0,0,0,0,0,0,0,0,0,0,0,0,0,0,0,0,0,0,0,0,0,0,0,0,0,0,0,0,0,0,0,0,0,0,0,0,0,0,0,0,0,0,0,0,0,0,0,0,0,0,0,0,0,0,0,0,0,0,0,0,0,0,0,0,0] (.seq (.reg [⟨(some 50),none,(.bin .lss false (.t 49) (.t 48))⟩]) (.seq (.cond (.t 50) .skip (.exit 3)) (.seq (.block 4 (.seq (.reg [⟨(some 51),none,(.mv (.t 49))⟩,⟨(some 52),none,(.iaddr 2 (.t 47) (.t 49))⟩,⟨(some 53),none,(.load true 2 (.t 52))⟩,⟨(some 16),none,(.alloc 71 [(.str ⟨#[]⟩),.nil])⟩,⟨(some 15),none,(.mv (.t 51))⟩,⟨none,none,(.store 2 (.t 16) (.t 53))⟩]) (.dreg [[],[],[],[2],[],[3,2,4],[5,3,2,4],[1,6,5,3,2,4],[7,1,6,5,3,2,4],[0,8,7,1,6,5,3,2,4],[9,0,8,7,1,6,5,3,2,4]] [⟨(some 54),none,(.mv (.t 14))⟩,⟨(some 55),none,(.load true 2 (.t 16))⟩,⟨(some 56),none,(.faddr 1 (.t 10))⟩,⟨(some 57),none,(.load false 1 (.t 56))⟩,⟨(some 58),none,(.mv (.t 15))⟩,⟨(some 59),none,(.iaddr 2 (.t 57) (.t 58))⟩,⟨(some 60),none,(.load true 2 (.t 59))⟩,⟨(some 61),none,(.build [(.str ⟨#[]⟩),.nil,(.str ⟨#[]⟩),.nil] [(0,(2,(.t 55))),(2,(2,(.t 60)))])⟩,⟨(some 62),none,(.mkrow 107 4 [(.str ⟨#[]⟩),.nil,(.str ⟨#[]⟩),.nil] 1 [(0,(.t 61))])⟩,⟨(some 63),none,(.append 107 4 80 [(.str ⟨#[]⟩),.nil,(.str ⟨#[]⟩),.nil] (.t 54) (.t 62))⟩,⟨(some 14),none,(.mv (.t 63))⟩]))) (.reg [⟨(some 64),none,(.bin .add false (.t 49) (.c (.int .i64 1)))⟩,⟨(some 49),none,(.mv (.t 64))⟩]))))))) (.reg [⟨(some 65),none,(.mv (.t 14))⟩,⟨(some 66),none,(.mv (.t 7))⟩,⟨(some 67),none,(.append 107 4 80 [(.str ⟨#[]⟩),.nil,(.str ⟨#[]⟩),.nil] (.t 65) (.t 66))⟩,⟨(some 7),none,(.mv (.t 67))⟩])))))))))))))))))
abbrev u2r:SC:=(.seq (.reg [⟨(some 122),none,(.load true 1 (.t 6))⟩,⟨none,none,(.store 1 (.t 4) (.t 122))⟩,⟨(some 5),none,(.mv (.c (.bool true)))⟩]) .ret)
def NA:SC:=(.seq (.reg [⟨some 2,none,.boxv 71 2 (.t 0)⟩,⟨some 3,none,.boxv 71 2 (.t 1)⟩,⟨some 4,none,.alloc 76 [.nil]⟩,⟨some 5,none,.mv (.c (.bool false))⟩]) (.seq (.reg [⟨some 17,none,.build [.nil] []⟩,⟨some 6,none,.alloc 76 [.nil]⟩,⟨none,none,(.store 1 (.t 6) (.t 17))⟩]) (.seq (.reg [⟨some 18,none,.load true 2 (.t 2)⟩,⟨some 19,none,.load true 2 (.t 3)⟩,⟨(some 20),none,(.build [(.str ⟨#[]⟩),.nil,(.str ⟨#[]⟩),.nil] [(0,(2,(.t 18))),(2,(2,(.t 19)))])⟩,⟨(some 21),none,(.mkrow 107 4 [(.str ⟨#[]⟩),.nil,(.str ⟨#[]⟩),.nil] 1 [(0,(.t 20))])⟩,⟨some 7,none,.mv (.t 21)⟩]) (.seq (.block 0 (.loop [0,0,0,0,1,0,1,1,0,0,0,0,0,0,0,0,0,0,0,0,0,0,0,0,0,0,0,0,0,0,0,0,0,0,0,0,0,0,0,0,0,0,0,0,0,0,0,0,0,0,0,0,0,0,0,0,0,0,0,0,0,0,0,0,0,0,0,0,0,0,0,0,0,0,0,0,0,0,0,0,0,0,0,0,0,0,0,0,0,0,0,0,0,0,0,0,0,0,0,0,0,0,0,0,0,0,0,0,0,0,0,0,0,0,0,0,0,0,0,0,0,0,0] u2b)) u2r))))
theorem UT:codeOf Tryz.prog 57=some ⟨123,NA,[(.cell 4 true 1),(.tmp 5)]⟩:=by kernel_rfl
theorem Jw:modes 57=⟨[],.own [some (139,3),none],none,false⟩:=by unfold modes; rfl
abbrev u2H:Nat × Bool × Bool × Sb × List (Tm × Tm)→St:=fun a=>⟨slots 123 0 [(4,.ptr 0 0),(6,.ptr 1 0),(7,(bif a.2.2.1 then .ref 2 else .arr (a.2.2.2.2.map eqD)))],([.box 76 [.nil],.box 76 [bif a.2.1 then .nil else .ref (bif a.2.2.1 then 3 else 2)]]++((bif a.2.2.1 then [.row 107 4 (a.2.2.2.2.map eqO)] else [])++(bif a.2.1 then [] else [.row 139 3 (a.2.2.2.1.binds.map Bd.o)])))⟩
abbrev u2R (total:Option Sb):Nat × Bool × Bool × Sb × List (Tm × Tm)→Prop:=fun a=>uInv a.2.2.2.1 a.2.2.2.2∧BE a.1 a.2.2.2.1 a.2.2.2.2=some total∧(a.2.1=true→a.2.2.2.1.binds=[])
abbrev u2K (total:Option Sb):X→St→Prop:=blk 0 (QK 0 u2r (Sp (.own [some (139,3),none]) 0 [(.cell 4 true 1),(.tmp 5)] (.tup [(uTo total).osv,.bool (uOk total)],(uTo total).obs)))
abbrev KQ:List Nat:=[0,0,0,0,1,0,1,1,0,0,0,0,0,0,0,0,0,0,0,0,0,0,0,0,0,0,0,0,0,0,0,0,0,0,0,0,0,0,0,0,0,0,0,0,0,0,0,0,0,0,0,0,0,0,0,0,0,0,0,0,0,0,0,0,0,0,0,0,0,0,0,0,0,0,0,0,0,0,0,0,0,0,0,0,0,0,0,0,0,0,0,0,0,0,0,0,0,0,0,0,0,0,0,0,0,0,0,0,0,0,0,0,0,0,0,0,0,0,0,0,0,0,0]
end Go.Proofs.YtibdknkacmimgaaGreatDoor
