/-
  This text holds, one behind the other: This text tells what the laws' measuring functions answer. No condition.
  This text tells what the laws' copying functions answer. No condition.
  This text tells what the laws' comparing functions answer. No condition.
  This text tells what composing substitutions answers in the program. No condition.
  This text tells what composing substitutions answers in both packages. No condition.
  This text tells what the variables of a term answer in the reference. No condition.
  This text holds the plain laws of unification: what the steps do, and that they end. No condition.
  This text tells how often a name occurs in a term. No condition.
  This text tells whether a name is in a list of names, in the reference. No condition.
  This text tells whether a variable occurs in a term, in the program. No condition.
  This text tells what the steps of unification answer in both packages. No condition.
  This text says how equations lie in memory. No condition.
  This text holds what unifying comes to. No condition.
  This text holds what factors and resolvents come to. No condition.
  This text names the parts of the program's unifying loop. No condition.
-/
import Derived.Test.YtibdknkacmimgaaGreatDoorK46c
import Derived.Test.YtibdknkacmimgaaGreatDoorK46d
set_option maxHeartbeats 16000000
set_option maxRecDepth 100000
set_option linter.unusedSimpArgs false
set_option linter.unusedVariables false
set_option linter.unusedSectionVars false
namespace Go.Proofs.YtibdknkacmimgaaGreatDoor
open Go.RowKit
def L9:SC:=(.seq (.reg [⟨some 2,none,.boxv 65 2 (.t 0)⟩,⟨some 4,none,.mv (.c (.int .i64 0))⟩]) (.seq (.reg [⟨some 5,none,.mv (.t 1)⟩,⟨some 6,none,.faddr 0 (.t 2)⟩,⟨some 7,none,.load false 1 (.t 6)⟩,⟨some 8,none,.len true (.t 7)⟩,⟨some 9,none,.bin .sub false (.t 5) (.t 8)⟩,⟨some 1,none,.mv (.t 9)⟩]) (.seq (.seq (.reg [⟨some 10,none,.mv (.t 1)⟩,⟨some 11,none,.bin .lss false (.t 10) (.c (.int .i64 0))⟩]) (.cond (.t 11) (.seq (.reg [⟨some 4,none,.mv (.c (.int .i64 (-(0+1))))⟩]) .ret) .skip)) (.seq (.reg [⟨some 12,none,.faddr 1 (.t 2)⟩,⟨some 13,none,.load false 1 (.t 12)⟩,⟨some 14,none,.mv (.t 1)⟩,⟨some 15,none,.call 102 [(.t 13),(.t 14)]⟩,⟨some 1,none,.mv (.t 15)⟩]) (.seq (.seq (.reg [⟨some 16,none,.mv (.t 1)⟩,⟨some 17,none,.bin .lss false (.t 16) (.c (.int .i64 0))⟩]) (.cond (.t 17) (.seq (.reg [⟨some 4,none,.mv (.c (.int .i64 (-(0+1))))⟩]) .ret) .skip)) (.seq (.reg [⟨some 18,none,.mv (.t 1)⟩,⟨some 4,none,.mv (.t 18)⟩]) .ret))))))
theorem Sj:codeOf Tryz.prog 71=some ⟨19,L9,[(.tmp 4)]⟩:=by kernel_rfl
theorem F6:modes 71=⟨[],.asis,none,false⟩:=by unfold modes; rfl
def K6:SC:=(.seq (.reg [⟨some 4,none,.mv (.c (.int .i64 0))⟩]) (.seq (.reg [⟨some 6,none,.mv (.t 1)⟩,⟨some 7,none,.mv (.t 0)⟩,⟨some 8,none,.len false (.t 7)⟩,⟨some 9,none,.bin .sub false (.t 6) (.t 8)⟩,⟨some 1,none,.mv (.t 9)⟩]) (.seq (.seq (.reg [⟨some 10,none,.mv (.t 1)⟩,⟨some 11,none,.bin .lss false (.t 10) (.c (.int .i64 0))⟩]) (.cond (.t 11) (.seq (.reg [⟨some 4,none,.mv (.c (.int .i64 (-(0+1))))⟩]) .ret) .skip)) (.seq (.seq (.reg [⟨some 5,none,.mv (.c (.int .i64 0))⟩]) (.block 0 (.loop [1,1,0,0,0,1,0,0,0,0,0,0,0,0,0,0,0,0,0,0,0,0,0,0,0,0,0] (.seq (.seq (.reg [⟨some 12,none,.mv (.t 5)⟩,⟨some 13,none,.mv (.t 0)⟩,⟨some 14,none,.len false (.t 13)⟩,⟨some 15,none,.bin .lss false (.t 12) (.t 14)⟩]) (.cond (.t 15) .skip (.exit 0))) (.seq (.block 1 (.seq (.reg [⟨some 18,none,.mv (.t 0)⟩,⟨some 19,none,.mv (.t 5)⟩,⟨some 20,none,.iaddr 2 (.t 18) (.t 19)⟩,⟨some 21,none,.load true 2 (.t 20)⟩,⟨some 22,none,.mv (.t 1)⟩,⟨some 23,none,.call 71 [(.t 21),(.t 22)]⟩,⟨some 1,none,.mv (.t 23)⟩]) (.seq (.reg [⟨some 24,none,.mv (.t 1)⟩,⟨some 25,none,.bin .lss false (.t 24) (.c (.int .i64 0))⟩]) (.cond (.t 25) (.seq (.reg [⟨some 4,none,.mv (.c (.int .i64 (-(0+1))))⟩]) .ret) .skip)))) (.reg [⟨some 16,none,.mv (.t 5)⟩,⟨some 17,none,.bin .add false (.t 16) (.c (.int .i64 1))⟩,⟨some 5,none,.mv (.t 17)⟩])))))) (.seq (.reg [⟨some 26,none,.mv (.t 1)⟩,⟨some 4,none,.mv (.t 26)⟩]) .ret)))))
theorem Rs:codeOf Tryz.prog 102=some ⟨27,K6,[(.tmp 4)]⟩:=by kernel_rfl
theorem Hh:modes 102=⟨[],.asis,none,false⟩:=by unfold modes; rfl
abbrev Nj (x:Tm):Prop:=D.fits x.d→∀ left:Int,0≤left→left≤1048576→E 71 [x.sv,.int .i64 left] []=some (.int .i64 (szR left x.bulk),[])
abbrev T4 (xs:List Tm):Prop:=D.fit (.arr (xs.map Tm.d))→∀ left:Int,0≤left→left≤1048576→E 102 [.arr (xs.map Tm.d),.int .i64 left] []=some (.int .i64 (szR left (xs.length+Tm.sumB xs:Nat)),[])
theorem U7 (xs:List Tm) (h:∀ x∈xs,Nj x):T4 xs:=by
  intro hfit left h0 h1
  simp only [D.fit,List.length_map] at hfit
  have q0:=BG left (xs.length+Tm.sumB xs)
  refine Ah Rs Hh (of_decide_eq_true rfl) ?_
  simp (disch:=omega) only [K6,go_sem,Aa]
  repeat' (refine Di (fun hq=>?_) (fun hq=>?_) <;> (first | replace hq:=Au.1 hq | replace hq:=C7.1 hq) <;> (try simp (disch:=omega) only [go_sem,Aa]))
  · omega
  refine go_loop (α:=Int × Int) (fun a=>⟨slots 27 0 [(0,.arr (xs.map Tm.d)),(1,.int .i64 a.2),(5,.int .i64 a.1)],[]⟩) (fun a=>∃ k:Nat,a.1=k∧k≤xs.length∧0≤a.2∧a.2≤1048576∧szR a.2 (Tm.sumB (xs.drop k))=szR left (xs.length+Tm.sumB xs:Nat)) (fun a=>xs.length-a.1.toNat) (0,left-xs.length) ⟨0,rfl,Nat.zero_le _,by omega,by omega,?_⟩ (by simp (disch:=omega) only [go_sem,Aa]) ?_
  · have q1:=BG (left-xs.length) (Tm.sumB xs)
    rw [List.drop_zero]
    dsimp only
    omega
  · rintro ⟨i,l⟩ ⟨k,hi,hk,hl0,hl1,hs⟩
    dsimp only at hi hl0 hl1 hs
    rcases Nat.lt_or_ge k xs.length with hlt | hge
    · have hg:=get_at Tm.d hlt
      rw [Tm.d_eq] at hg
      have hd:Tm.sumB (xs.drop k)=xs[k].bulk+Tm.sumB (xs.drop (k+1)):=by rw [List.drop_eq_getElem_cons hlt,Tm.sumB]
      rw [hd] at hs
      have hc:=h xs[k] (List.getElem_mem hlt) (D.NX hfit.2 _ (List.getElem_mem hlt)) l hl0 hl1
      have q1:=BG l xs[k].bulk
      have q2:=BG l (xs[k].bulk+Tm.sumB (xs.drop (k+1)))
      have q3:=BG (l-xs[k].bulk) (Tm.sumB (xs.drop (k+1)))
      have hn:i.toNat=k:=by omega
      simp (disch:=omega) only [go_sem,Aa,hn,hg,hc,F6]
      repeat' (refine Di (fun hq=>?_) (fun hq=>?_) <;> (first | replace hq:=Au.1 hq | replace hq:=C7.1 hq) <;> (try simp (disch:=omega) only [go_sem,Aa]))
      · omega
      · refine ⟨(i+1,l-xs[k].bulk),⟨k+1,by dsimp only; omega,hlt,by dsimp only; omega,by dsimp only; omega,by dsimp only; omega⟩,by dsimp only; omega,?_⟩
        have e:szR l xs[k].bulk=l-xs[k].bulk:=by omega
        simp only [e,and_self]
    · have hd:xs.drop k=[]:=List.drop_eq_nil_of_le hge
      rw [hd] at hs
      have q1:=BG l (Tm.sumB [])
      simp only [Tm.sumB] at hs q1
      simp (disch:=omega) only [go_sem,Aa]
      omega
theorem W2 (x:Tm) (h_args:T4 x.args):Nj x:=by
 intro hfit left h0 h1
 rw [Tm.d_eq] at hfit
 simp only [D.fits,D.fit] at hfit
 replace h_args:=h_args (by simp only [D.fit,List.length_map]; simp only [List.length_map] at hfit; simp only [hfit,and_self])
 have q:=BG left x.bulk
 have qb:=Tm.bulk_eq x
 have q0:=BG (left-(x.name.size:Int)) ((x.args.length+Tm.sumB x.args))
 refine Ah Sj F6 (of_decide_eq_true rfl) ?_
 simp (disch:=omega) only [L9,go_sem,Aa,h_args,Hh]
 repeat' (refine Di (fun hq=>?_) (fun hq=>?_) <;> (first | replace hq:=Au.1 hq | replace hq:=C7.1 hq) <;> (try simp (disch:=omega) only [go_sem,Aa,h_args,Hh]))
 all_goals omega
theorem W3 (x:Tm):Nj x:=W2 x (U7 x.args fun y hy=>W3 y)
termination_by SizeOf.sizeOf x
decreasing_by exact Tm.Aw hy
def ID:SC:=(.seq (.reg [⟨some 2,none,.boxv 67 3 (.t 0)⟩,⟨some 4,none,.mv (.c (.int .i64 0))⟩]) (.seq (.reg [⟨some 5,none,.faddr 1 (.t 2)⟩,⟨some 6,none,.load true 2 (.t 5)⟩,⟨some 7,none,.mv (.t 1)⟩,⟨some 8,none,.call 71 [(.t 6),(.t 7)]⟩,⟨some 1,none,.mv (.t 8)⟩]) (.seq (.seq (.reg [⟨some 9,none,.mv (.t 1)⟩,⟨some 10,none,.bin .lss false (.t 9) (.c (.int .i64 0))⟩]) (.cond (.t 10) (.seq (.reg [⟨some 4,none,.mv (.c (.int .i64 (-(0+1))))⟩]) .ret) .skip)) (.seq (.reg [⟨some 11,none,.mv (.t 1)⟩,⟨some 4,none,.mv (.t 11)⟩]) .ret))))
theorem Or:codeOf Tryz.prog 46=some ⟨12,ID,[(.tmp 4)]⟩:=by kernel_rfl
theorem IE:modes 46=⟨[],.asis,none,false⟩:=by unfold modes; rfl
def H9:SC:=(.seq (.reg [⟨some 4,none,.mv (.c (.int .i64 0))⟩]) (.seq (.reg [⟨some 6,none,.mv (.t 1)⟩,⟨some 7,none,.mv (.t 0)⟩,⟨some 8,none,.len false (.t 7)⟩,⟨some 9,none,.bin .sub false (.t 6) (.t 8)⟩,⟨some 1,none,.mv (.t 9)⟩]) (.seq (.seq (.reg [⟨some 10,none,.mv (.t 1)⟩,⟨some 11,none,.bin .lss false (.t 10) (.c (.int .i64 0))⟩]) (.cond (.t 11) (.seq (.reg [⟨some 4,none,.mv (.c (.int .i64 (-(0+1))))⟩]) .ret) .skip)) (.seq (.seq (.reg [⟨some 5,none,.mv (.c (.int .i64 0))⟩]) (.block 0 (.loop [1,1,0,0,0,1,0,0,0,0,0,0,0,0,0,0,0,0,0,0,0,0,0,0,0,0,0] (.seq (.seq (.reg [⟨some 12,none,.mv (.t 5)⟩,⟨some 13,none,.mv (.t 0)⟩,⟨some 14,none,.len false (.t 13)⟩,⟨some 15,none,.bin .lss false (.t 12) (.t 14)⟩]) (.cond (.t 15) .skip (.exit 0))) (.seq (.block 1 (.seq (.reg [⟨some 18,none,.mv (.t 0)⟩,⟨some 19,none,.mv (.t 5)⟩,⟨some 20,none,.iaddr 3 (.t 18) (.t 19)⟩,⟨some 21,none,.load true 3 (.t 20)⟩,⟨some 22,none,.mv (.t 1)⟩,⟨some 23,none,.call 46 [(.t 21),(.t 22)]⟩,⟨some 1,none,.mv (.t 23)⟩]) (.seq (.reg [⟨some 24,none,.mv (.t 1)⟩,⟨some 25,none,.bin .lss false (.t 24) (.c (.int .i64 0))⟩]) (.cond (.t 25) (.seq (.reg [⟨some 4,none,.mv (.c (.int .i64 (-(0+1))))⟩]) .ret) .skip)))) (.reg [⟨some 16,none,.mv (.t 5)⟩,⟨some 17,none,.bin .add false (.t 16) (.c (.int .i64 1))⟩,⟨some 5,none,.mv (.t 17)⟩])))))) (.seq (.reg [⟨some 26,none,.mv (.t 1)⟩,⟨some 4,none,.mv (.t 26)⟩]) .ret)))))
theorem Nk:codeOf Tryz.prog 28=some ⟨27,H9,[(.tmp 4)]⟩:=by kernel_rfl
theorem EY:modes 28=⟨[],.asis,none,false⟩:=by unfold modes; rfl
abbrev K7 (x:Lt):Prop:=D.fits x.d→∀ left:Int,0≤left→left≤1048576→E 46 [x.sv,.int .i64 left] []=some (.int .i64 (szR left x.bulk),[])
abbrev Nl (xs:List Lt):Prop:=D.fit (.arr (xs.map Lt.d))→∀ left:Int,0≤left→left≤1048576→E 28 [.arr (xs.map Lt.d),.int .i64 left] []=some (.int .i64 (szR left (xs.length+Lt.sumB xs:Nat)),[])
theorem Pk (xs:List Lt) (h:∀ x∈xs,K7 x):Nl xs:=by
  intro hfit left h0 h1
  simp only [D.fit,List.length_map] at hfit
  have q0:=BG left (xs.length+Lt.sumB xs)
  refine Ah Nk EY (of_decide_eq_true rfl) ?_
  simp (disch:=omega) only [H9,go_sem,Aa]
  repeat' (refine Di (fun hq=>?_) (fun hq=>?_) <;> (first | replace hq:=Au.1 hq | replace hq:=C7.1 hq) <;> (try simp (disch:=omega) only [go_sem,Aa]))
  · omega
  refine go_loop (α:=Int × Int) (fun a=>⟨slots 27 0 [(0,.arr (xs.map Lt.d)),(1,.int .i64 a.2),(5,.int .i64 a.1)],[]⟩) (fun a=>∃ k:Nat,a.1=k∧k≤xs.length∧0≤a.2∧a.2≤1048576∧szR a.2 (Lt.sumB (xs.drop k))=szR left (xs.length+Lt.sumB xs:Nat)) (fun a=>xs.length-a.1.toNat) (0,left-xs.length) ⟨0,rfl,Nat.zero_le _,by omega,by omega,?_⟩ (by simp (disch:=omega) only [go_sem,Aa]) ?_
  · have q1:=BG (left-xs.length) (Lt.sumB xs)
    rw [List.drop_zero]
    dsimp only
    omega
  · rintro ⟨i,l⟩ ⟨k,hi,hk,hl0,hl1,hs⟩
    dsimp only at hi hl0 hl1 hs
    rcases Nat.lt_or_ge k xs.length with hlt | hge
    · have hg:=get_at Lt.d hlt
      rw [Lt.d_eq] at hg
      have hd:Lt.sumB (xs.drop k)=xs[k].bulk+Lt.sumB (xs.drop (k+1)):=by rw [List.drop_eq_getElem_cons hlt,Lt.sumB]
      rw [hd] at hs
      have hc:=h xs[k] (List.getElem_mem hlt) (D.NX hfit.2 _ (List.getElem_mem hlt)) l hl0 hl1
      have q1:=BG l xs[k].bulk
      have q2:=BG l (xs[k].bulk+Lt.sumB (xs.drop (k+1)))
      have q3:=BG (l-xs[k].bulk) (Lt.sumB (xs.drop (k+1)))
      have hn:i.toNat=k:=by omega
      simp (disch:=omega) only [go_sem,Aa,hn,hg,hc,IE]
      repeat' (refine Di (fun hq=>?_) (fun hq=>?_) <;> (first | replace hq:=Au.1 hq | replace hq:=C7.1 hq) <;> (try simp (disch:=omega) only [go_sem,Aa]))
      · omega
      · refine ⟨(i+1,l-xs[k].bulk),⟨k+1,by dsimp only; omega,hlt,by dsimp only; omega,by dsimp only; omega,by dsimp only; omega⟩,by dsimp only; omega,?_⟩
        have e:szR l xs[k].bulk=l-xs[k].bulk:=by omega
        simp only [e,and_self]
    · have hd:xs.drop k=[]:=List.drop_eq_nil_of_le hge
      rw [hd] at hs
      have q1:=BG l (Lt.sumB [])
      simp only [Lt.sumB] at hs q1
      simp (disch:=omega) only [go_sem,Aa]
      omega
theorem Rt (x:Lt) (h_atom:Nj x.atom):K7 x:=by
 intro hfit left h0 h1
 rw [Lt.d_eq] at hfit
 simp only [D.fits,D.fit] at hfit
 replace h_atom:=h_atom (by rw [Tm.d_eq]; simp only [D.fits,D.fit,hfit,and_self])
 have q:=BG left x.bulk
 have qb:=Lt.bulk_eq x
 have q0:=BG left (x.atom.bulk)
 refine Ah Or IE (of_decide_eq_true rfl) ?_
 simp (disch:=omega) only [ID,go_sem,Aa,h_atom,F6]
 repeat' (refine Di (fun hq=>?_) (fun hq=>?_) <;> (first | replace hq:=Au.1 hq | replace hq:=C7.1 hq) <;> (try simp (disch:=omega) only [go_sem,Aa,h_atom,F6]))
 all_goals omega
theorem W4 (x:Lt):K7 x:=Rt x (W3 x.atom)
def J6:SC:=(.seq (.reg [⟨some 2,none,.boxv 24 1 (.t 0)⟩,⟨some 4,none,.mv (.c (.int .i64 0))⟩]) (.seq (.reg [⟨some 5,none,.faddr 0 (.t 2)⟩,⟨some 6,none,.load false 1 (.t 5)⟩,⟨some 7,none,.mv (.t 1)⟩,⟨some 8,none,.call 28 [(.t 6),(.t 7)]⟩,⟨some 1,none,.mv (.t 8)⟩]) (.seq (.seq (.reg [⟨some 9,none,.mv (.t 1)⟩,⟨some 10,none,.bin .lss false (.t 9) (.c (.int .i64 0))⟩]) (.cond (.t 10) (.seq (.reg [⟨some 4,none,.mv (.c (.int .i64 (-(0+1))))⟩]) .ret) .skip)) (.seq (.reg [⟨some 11,none,.mv (.t 1)⟩,⟨some 4,none,.mv (.t 11)⟩]) .ret))))
theorem Pl:codeOf Tryz.prog 8=some ⟨12,J6,[(.tmp 4)]⟩:=by kernel_rfl
theorem CD:modes 8=⟨[],.asis,none,false⟩:=by unfold modes; rfl
abbrev Ru (x:Cl):Prop:=D.fits x.d→∀ left:Int,0≤left→left≤1048576→E 8 [x.sv,.int .i64 left] []=some (.int .i64 (szR left x.bulk),[])
theorem Sk (x:Cl) (h_lits:Nl x.lits):Ru x:=by
 intro hfit left h0 h1
 rw [Cl.d_eq] at hfit
 simp only [D.fits,D.fit] at hfit
 replace h_lits:=h_lits (by simp only [D.fit,List.length_map]; simp only [List.length_map] at hfit; simp only [hfit,and_self])
 have q:=BG left x.bulk
 have qb:=Cl.bulk_eq x
 have q0:=BG left ((x.lits.length+Lt.sumB x.lits))
 refine Ah Pl CD (of_decide_eq_true rfl) ?_
 simp (disch:=omega) only [J6,go_sem,Aa,h_lits,EY]
 repeat' (refine Di (fun hq=>?_) (fun hq=>?_) <;> (first | replace hq:=Au.1 hq | replace hq:=C7.1 hq) <;> (try simp (disch:=omega) only [go_sem,Aa,h_lits,EY]))
 all_goals omega
theorem Y0 (x:Cl):Ru x:=Sk x (Pk x.lits fun y hy=>W4 y)
def LA:SC:=(.seq (.reg [⟨some 1,none,.boxv 65 2 (.t 0)⟩,⟨(some 2),none,(.alloc 71 [(.str ⟨#[]⟩),.nil])⟩]) (.seq (.reg [⟨(some 3),none,(.alloc 71 [(.str ⟨#[]⟩),.nil])⟩]) (.seq (.reg [⟨some 4,none,.faddr 0 (.t 1)⟩,⟨some 5,none,.load false 1 (.t 4)⟩,⟨some 6,none,.faddr 0 (.t 3)⟩,⟨none,none,(.store 1 (.t 6) (.t 5))⟩]) (.seq (.reg [⟨some 7,none,.faddr 1 (.t 1)⟩,⟨some 8,none,.load false 1 (.t 7)⟩,⟨some 9,none,.call 118 [(.t 8)]⟩,⟨some 10,none,.faddr 1 (.t 3)⟩,⟨none,none,(.store 1 (.t 10) (.t 9))⟩]) (.seq (.reg [⟨some 11,none,.load true 2 (.t 3)⟩,⟨none,none,(.store 2 (.t 2) (.t 11))⟩]) .ret)))))
theorem Sl:codeOf Tryz.prog 81=some ⟨12,LA,[(.cell 2 true 2)]⟩:=by kernel_rfl
theorem Ig:modes 81=⟨[],.asis,none,false⟩:=by unfold modes; rfl
def K8:SC:=(.seq (.reg [⟨some 2,none,.mv (.c .nil)⟩]) (.seq (.reg [⟨some 5,none,.mv (.t 0)⟩,⟨some 6,none,.len false (.t 5)⟩,⟨(some 7),none,(.mkslice 71 2 40 [(.str ⟨#[]⟩),.nil] (.t 6))⟩,⟨some 3,none,.mv (.t 7)⟩]) (.seq (.seq (.reg [⟨some 4,none,.mv (.c (.int .i64 0))⟩]) (.block 0 (.loop [1,0,0,1,1,0,0,0,0,0,0,0,0,0,0,0,0,0,0,0,0,0,0] (.seq (.seq (.reg [⟨some 8,none,.mv (.t 4)⟩,⟨some 9,none,.mv (.t 0)⟩,⟨some 10,none,.len false (.t 9)⟩,⟨some 11,none,.bin .lss false (.t 8) (.t 10)⟩]) (.cond (.t 11) .skip (.exit 0))) (.seq (.block 1 (.reg [⟨some 14,none,.mv (.t 3)⟩,⟨some 15,none,.mv (.t 4)⟩,⟨some 16,none,.mv (.t 0)⟩,⟨some 17,none,.mv (.t 4)⟩,⟨some 18,none,.iaddr 2 (.t 16) (.t 17)⟩,⟨some 19,none,.load true 2 (.t 18)⟩,⟨some 20,none,.call 81 [(.t 19)]⟩,⟨some 21,none,.iaddr 2 (.t 14) (.t 15)⟩,⟨none,none,(.store 2 (.t 21) (.t 20))⟩])) (.reg [⟨some 12,none,.mv (.t 4)⟩,⟨some 13,none,.bin .add false (.t 12) (.c (.int .i64 1))⟩,⟨some 4,none,.mv (.t 13)⟩])))))) (.seq (.reg [⟨some 22,none,.mv (.t 3)⟩,⟨some 2,none,.mv (.t 22)⟩]) .ret))))
theorem Rv:codeOf Tryz.prog 118=some ⟨23,K8,[(.tmp 2)]⟩:=by kernel_rfl
theorem K9:modes 118=⟨[],.asis,none,false⟩:=by unfold modes; rfl
abbrev Nm (x:Tm):Prop:=x.bulk≤1048576→E 81 [x.sv] []=some (x.osv,x.obs)
abbrev T5 (xs:List Tm):Prop:=xs.length+Tm.sumB xs≤1048576→E 118 [.arr (xs.map Tm.d)] []=some (.ref 0,[.row 71 2 (xs.map Tm.o)])
theorem U8 (xs:List Tm) (h:∀ x∈xs,Nm x):T5 xs:=by
 intro hb
 refine Ah Rv K9 (of_decide_eq_true rfl) ?_
 simp (disch:=omega) only [K8,go_sem,Aa]
 refine go_loop (α:=Int) (fun i=>⟨slots 23 0 [(0,.arr (xs.map Tm.d)),(3,.ref 0),(4,.int .i64 i)],[.row 71 2 (FH Tm.o [.str ⟨#[]⟩,.ow []] xs i.toNat)]⟩) (fun i=>∃ k:Nat,i=k∧k≤xs.length) (fun i=>xs.length-i.toNat) 0 ⟨0,rfl,Nat.zero_le _⟩ (by simp (disch:=omega) only [go_sem,Aa,Je,Int.toNat_zero]) ?_
 ·rintro i ⟨k,rfl,hk⟩
  obtain ⟨i,hi⟩:∃ i:Int,i=(k:Int):=⟨_,rfl⟩
  rw [←hi]
  have hn:i.toNat=k:=by omega
  have hn1:(i+1).toNat=k+1:=by omega
  rcases Nat.lt_or_ge k xs.length with hlt | hge
  ·have hg:=get_at Tm.d hlt
   rw [Tm.d_eq] at hg
   have hz:=La Tm.o [.str ⟨#[]⟩,.ow []] hlt
   have hle:=Tm.bulk_le xs k hlt
   have hc:=h xs[k] (List.getElem_mem hlt) (by omega)
   have hs:=Lb Tm.o [.str ⟨#[]⟩,.ow []] hlt
   rw [Tm.o_eq] at hs
   simp (disch:=omega) only [go_sem,Aa,hn,hg,hc,hz,KY,Ig,Tm.osv,Tm.obs]
   refine ⟨i+1,⟨k+1,by omega,hlt⟩,by omega,?_⟩
   simp (disch:=omega) only [go_sem,Aa,hn1,hs]
  ·obtain rfl:k=xs.length:=by omega
   simp (disch:=omega) only [go_sem,Aa,hn,KZ]
theorem W5 (x:Tm) (h_args:T5 x.args):Nm x:=by
 intro hb
 have qb:=Tm.bulk_eq x
 replace h_args:=h_args (by omega)
 refine Ah Sl Ig (of_decide_eq_true rfl) ?_
 simp (disch:=omega) only [LA,go_sem,Aa,h_args,K9]
theorem W6 (x:Tm):Nm x:=W5 x (U8 x.args fun y hy=>W6 y)
termination_by SizeOf.sizeOf x
decreasing_by exact Tm.Aw hy
def IF:SC:=(.seq (.reg [⟨some 1,none,.boxv 67 3 (.t 0)⟩,⟨(some 2),none,(.alloc 73 [(.bool false),(.str ⟨#[]⟩),.nil])⟩]) (.seq (.reg [⟨(some 3),none,(.alloc 73 [(.bool false),(.str ⟨#[]⟩),.nil])⟩]) (.seq (.reg [⟨some 4,none,.faddr 0 (.t 1)⟩,⟨some 5,none,.load false 1 (.t 4)⟩,⟨some 6,none,.faddr 0 (.t 3)⟩,⟨none,none,(.store 1 (.t 6) (.t 5))⟩]) (.seq (.reg [⟨some 7,none,.faddr 1 (.t 1)⟩,⟨some 8,none,.load true 2 (.t 7)⟩,⟨some 9,none,.call 81 [(.t 8)]⟩,⟨some 10,none,.faddr 1 (.t 3)⟩,⟨none,none,(.store 2 (.t 10) (.t 9))⟩]) (.seq (.reg [⟨some 11,none,.load true 3 (.t 3)⟩,⟨none,none,(.store 3 (.t 2) (.t 11))⟩]) .ret)))))
theorem Ot:codeOf Tryz.prog 53=some ⟨12,IF,[(.cell 2 true 3)]⟩:=by kernel_rfl
theorem IG:modes 53=⟨[],.asis,none,false⟩:=by unfold modes; rfl
def HD:SC:=(.seq (.reg [⟨some 2,none,.mv (.c .nil)⟩]) (.seq (.reg [⟨some 5,none,.mv (.t 0)⟩,⟨some 6,none,.len false (.t 5)⟩,⟨(some 7),none,(.mkslice 73 3 48 [(.bool false),(.str ⟨#[]⟩),.nil] (.t 6))⟩,⟨some 3,none,.mv (.t 7)⟩]) (.seq (.seq (.reg [⟨some 4,none,.mv (.c (.int .i64 0))⟩]) (.block 0 (.loop [1,0,0,1,1,0,0,0,0,0,0,0,0,0,0,0,0,0,0,0,0,0,0] (.seq (.seq (.reg [⟨some 8,none,.mv (.t 4)⟩,⟨some 9,none,.mv (.t 0)⟩,⟨some 10,none,.len false (.t 9)⟩,⟨some 11,none,.bin .lss false (.t 8) (.t 10)⟩]) (.cond (.t 11) .skip (.exit 0))) (.seq (.block 1 (.reg [⟨some 14,none,.mv (.t 3)⟩,⟨some 15,none,.mv (.t 4)⟩,⟨some 16,none,.mv (.t 0)⟩,⟨some 17,none,.mv (.t 4)⟩,⟨some 18,none,.iaddr 3 (.t 16) (.t 17)⟩,⟨some 19,none,.load true 3 (.t 18)⟩,⟨some 20,none,.call 53 [(.t 19)]⟩,⟨some 21,none,.iaddr 3 (.t 14) (.t 15)⟩,⟨none,none,(.store 3 (.t 21) (.t 20))⟩])) (.reg [⟨some 12,none,.mv (.t 4)⟩,⟨some 13,none,.bin .add false (.t 12) (.c (.int .i64 1))⟩,⟨some 4,none,.mv (.t 13)⟩])))))) (.seq (.reg [⟨some 22,none,.mv (.t 3)⟩,⟨some 2,none,.mv (.t 22)⟩]) .ret))))
theorem Nn:codeOf Tryz.prog 31=some ⟨23,HD,[(.tmp 2)]⟩:=by kernel_rfl
theorem HF:modes 31=⟨[],.asis,none,false⟩:=by unfold modes; rfl
abbrev KA (x:Lt):Prop:=x.bulk≤1048576→E 53 [x.sv] []=some (x.osv,x.obs)
abbrev No (xs:List Lt):Prop:=xs.length+Lt.sumB xs≤1048576→E 31 [.arr (xs.map Lt.d)] []=some (.ref 0,[.row 73 3 (xs.map Lt.o)])
theorem Pm (xs:List Lt) (h:∀ x∈xs,KA x):No xs:=by
 intro hb
 refine Ah Nn HF (of_decide_eq_true rfl) ?_
 simp (disch:=omega) only [HD,go_sem,Aa]
 refine go_loop (α:=Int) (fun i=>⟨slots 23 0 [(0,.arr (xs.map Lt.d)),(3,.ref 0),(4,.int .i64 i)],[.row 73 3 (FH Lt.o [.bool false,.str ⟨#[]⟩,.ow []] xs i.toNat)]⟩) (fun i=>∃ k:Nat,i=k∧k≤xs.length) (fun i=>xs.length-i.toNat) 0 ⟨0,rfl,Nat.zero_le _⟩ (by simp (disch:=omega) only [go_sem,Aa,Je,Int.toNat_zero]) ?_
 ·rintro i ⟨k,rfl,hk⟩
  obtain ⟨i,hi⟩:∃ i:Int,i=(k:Int):=⟨_,rfl⟩
  rw [←hi]
  have hn:i.toNat=k:=by omega
  have hn1:(i+1).toNat=k+1:=by omega
  rcases Nat.lt_or_ge k xs.length with hlt | hge
  ·have hg:=get_at Lt.d hlt
   rw [Lt.d_eq] at hg
   have hz:=La Lt.o [.bool false,.str ⟨#[]⟩,.ow []] hlt
   have hle:=Lt.bulk_le xs k hlt
   have hc:=h xs[k] (List.getElem_mem hlt) (by omega)
   have hs:=Lb Lt.o [.bool false,.str ⟨#[]⟩,.ow []] hlt
   rw [Lt.o_eq] at hs
   simp (disch:=omega) only [go_sem,Aa,hn,hg,hc,hz,KY,IG,Lt.osv,Lt.obs]
   refine ⟨i+1,⟨k+1,by omega,hlt⟩,by omega,?_⟩
   simp (disch:=omega) only [go_sem,Aa,hn1,hs]
  ·obtain rfl:k=xs.length:=by omega
   simp (disch:=omega) only [go_sem,Aa,hn,KZ]
theorem Rw (x:Lt) (h_atom:Nm x.atom):KA x:=by
 intro hb
 have qb:=Lt.bulk_eq x
 replace h_atom:=h_atom (by omega)
 refine Ah Ot IG (of_decide_eq_true rfl) ?_
 simp (disch:=omega) only [IF,go_sem,Aa,h_atom,Ig]
theorem W7 (x:Lt):KA x:=Rw x (W6 x.atom)
def J7:SC:=(.seq (.reg [⟨some 1,none,.boxv 24 1 (.t 0)⟩,⟨some 2,none,.alloc 28 [.nil]⟩]) (.seq (.reg [⟨some 3,none,.alloc 28 [.nil]⟩]) (.seq (.reg [⟨some 4,none,.faddr 0 (.t 1)⟩,⟨some 5,none,.load false 1 (.t 4)⟩,⟨some 6,none,.call 31 [(.t 5)]⟩,⟨some 7,none,.faddr 0 (.t 3)⟩,⟨none,none,(.store 1 (.t 7) (.t 6))⟩]) (.seq (.reg [⟨some 8,none,.load true 1 (.t 3)⟩,⟨none,none,(.store 1 (.t 2) (.t 8))⟩]) .ret))))
theorem Pn:codeOf Tryz.prog 10=some ⟨9,J7,[(.cell 2 true 1)]⟩:=by kernel_rfl
theorem Dy:modes 10=⟨[],.asis,none,false⟩:=by unfold modes; rfl
abbrev Rx (x:Cl):Prop:=x.bulk≤1048576→E 10 [x.sv] []=some (x.osv,x.obs)
theorem Sm (x:Cl) (h_lits:No x.lits):Rx x:=by
 intro hb
 have qb:=Cl.bulk_eq x
 replace h_lits:=h_lits (by omega)
 refine Ah Pn Dy (of_decide_eq_true rfl) ?_
 simp (disch:=omega) only [J7,go_sem,Aa,h_lits,HF]
theorem Y1 (x:Cl):Rx x:=Sm x (Pm x.lits fun y hy=>W7 y)
def LB:SC:=(.seq (.reg [⟨some 2,none,.boxv 71 2 (.t 0)⟩,⟨some 3,none,.boxv 71 2 (.t 1)⟩,⟨some 4,none,.mv (.c (.bool false))⟩]) (.seq (.seq (.reg [⟨some 5,none,.faddr 0 (.t 2)⟩,⟨some 6,none,.load false 1 (.t 5)⟩,⟨some 7,none,.faddr 0 (.t 3)⟩,⟨some 8,none,.load false 1 (.t 7)⟩,⟨some 9,none,.bin .neq false (.t 6) (.t 8)⟩]) (.cond (.t 9) (.seq (.reg [⟨some 4,none,.mv (.c (.bool false))⟩]) .ret) .skip)) (.seq (.seq (.reg [⟨some 10,none,.faddr 1 (.t 2)⟩,⟨some 11,none,.load false 1 (.t 10)⟩,⟨some 12,none,.faddr 1 (.t 3)⟩,⟨some 13,none,.load false 1 (.t 12)⟩,⟨some 14,none,.call 141 [(.t 11),(.t 13)]⟩,⟨some 15,none,.un .not (.t 14)⟩]) (.cond (.t 15) (.seq (.reg [⟨some 4,none,.mv (.c (.bool false))⟩]) .ret) .skip)) (.seq (.reg [⟨some 4,none,.mv (.c (.bool true))⟩]) .ret))))
theorem Sn:codeOf Tryz.prog 96=some ⟨16,LB,[(.tmp 4)]⟩:=by kernel_rfl
theorem Ih:modes 96=⟨[],.asis,none,false⟩:=by unfold modes; rfl
def KB:SC:=(.seq (.reg [⟨some 4,none,.mv (.c (.bool false))⟩]) (.seq (.seq (.reg [⟨some 6,none,.mv (.t 0)⟩,⟨some 7,none,.len false (.t 6)⟩,⟨some 8,none,.mv (.t 1)⟩,⟨some 9,none,.len false (.t 8)⟩,⟨some 10,none,.bin .neq false (.t 7) (.t 9)⟩]) (.cond (.t 10) (.seq (.reg [⟨some 4,none,.mv (.c (.bool false))⟩]) .ret) .skip)) (.seq (.seq (.reg [⟨some 5,none,.mv (.c (.int .i64 0))⟩]) (.block 0 (.loop [1,1,0,0,0,1,0,0,0,0,0,0,0,0,0,0,0,0,0,0,0,0,0,0,0,0,0] (.seq (.seq (.reg [⟨some 11,none,.mv (.t 5)⟩,⟨some 12,none,.mv (.t 0)⟩,⟨some 13,none,.len false (.t 12)⟩,⟨some 14,none,.bin .lss false (.t 11) (.t 13)⟩]) (.cond (.t 14) .skip (.exit 0))) (.seq (.block 1 (.seq (.dreg [[],[],[0,1],[2,0,1],[],[],[4,5],[6,4,5],[3,2,0,1,7,6,4,5],[8,3,2,0,1,7,6,4,5]] [⟨some 17,none,.mv (.t 0)⟩,⟨some 18,none,.mv (.t 5)⟩,⟨some 19,none,.iaddr 2 (.t 17) (.t 18)⟩,⟨some 20,none,.load true 2 (.t 19)⟩,⟨some 21,none,.mv (.t 1)⟩,⟨some 22,none,.mv (.t 5)⟩,⟨some 23,none,.iaddr 2 (.t 21) (.t 22)⟩,⟨some 24,none,.load true 2 (.t 23)⟩,⟨some 25,none,.call 96 [(.t 20),(.t 24)]⟩,⟨some 26,none,.un .not (.t 25)⟩]) (.cond (.t 26) (.seq (.reg [⟨some 4,none,.mv (.c (.bool false))⟩]) .ret) .skip))) (.reg [⟨some 15,none,.mv (.t 5)⟩,⟨some 16,none,.bin .add false (.t 15) (.c (.int .i64 1))⟩,⟨some 5,none,.mv (.t 16)⟩])))))) (.seq (.reg [⟨some 4,none,.mv (.c (.bool true))⟩]) .ret))))
theorem Ry:codeOf Tryz.prog 141=some ⟨27,KB,[(.tmp 4)]⟩:=by kernel_rfl
theorem KC:modes 141=⟨[],.asis,none,false⟩:=by unfold modes; rfl
abbrev Np (x:Tm):Prop:=x.bulk≤1048576→E 96 [x.sv,x.sv] []=some (.bool true,[])
abbrev T6 (xs:List Tm):Prop:=xs.length+Tm.sumB xs≤1048576→E 141 [.arr (xs.map Tm.d),.arr (xs.map Tm.d)] []=some (.bool true,[])
theorem U9 (xs:List Tm) (h:∀ x∈xs,Np x):T6 xs:=by
 intro hb
 refine Ah Ry KC (of_decide_eq_true rfl) ?_
 simp (disch:=omega) only [KB,go_sem,Aa]
 refine go_loop (α:=Int) (fun i=>⟨slots 27 0 [(0,.arr (xs.map Tm.d)),(1,.arr (xs.map Tm.d)),(5,.int .i64 i)],[]⟩) (fun i=>∃ k:Nat,i=k∧k≤xs.length) (fun i=>xs.length-i.toNat) 0 ⟨0,rfl,Nat.zero_le _⟩ (by simp (disch:=omega) only [go_sem,Aa]) ?_
 ·rintro i ⟨k,rfl,hk⟩
  obtain ⟨i,hi⟩:∃ i:Int,i=(k:Int):=⟨_,rfl⟩
  rw [←hi]
  have hn:i.toNat=k:=by omega
  rcases Nat.lt_or_ge k xs.length with hlt | hge
  ·have hg:=get_at Tm.d hlt
   rw [Tm.d_eq] at hg
   have hle:=Tm.bulk_le xs k hlt
   have hc:=h xs[k] (List.getElem_mem hlt) (by omega)
   simp (disch:=omega) only [go_sem,Aa,hn,hg,hc,Ih]
   refine ⟨i+1,⟨k+1,by omega,hlt⟩,by omega,?_⟩
   trivial
  ·obtain rfl:k=xs.length:=by omega
   simp (disch:=omega) only [go_sem,Aa,hn]
theorem W8 (x:Tm) (h_args:T6 x.args):Np x:=by
 intro hb
 have qb:=Tm.bulk_eq x
 replace h_args:=h_args (by omega)
 refine Ah Sn Ih (of_decide_eq_true rfl) ?_
 simp (disch:=omega) only [LB,go_sem,Aa,h_args,KC,Dr]
theorem W9 (x:Tm):Np x:=W8 x (U9 x.args fun y hy=>W9 y)
termination_by SizeOf.sizeOf x
decreasing_by exact Tm.Aw hy
def IH:SC:=(.seq (.reg [⟨some 2,none,.boxv 73 3 (.t 0)⟩,⟨some 3,none,.boxv 73 3 (.t 1)⟩,⟨some 4,none,.mv (.c (.bool false))⟩]) (.seq (.seq (.reg [⟨some 5,none,.faddr 0 (.t 2)⟩,⟨some 6,none,.load false 1 (.t 5)⟩,⟨some 7,none,.faddr 0 (.t 3)⟩,⟨some 8,none,.load false 1 (.t 7)⟩,⟨some 9,none,.bin .neq true (.t 6) (.t 8)⟩]) (.cond (.t 9) (.seq (.reg [⟨some 4,none,.mv (.c (.bool false))⟩]) .ret) .skip)) (.seq (.seq (.reg [⟨some 10,none,.faddr 1 (.t 2)⟩,⟨some 11,none,.load true 2 (.t 10)⟩,⟨some 12,none,.faddr 1 (.t 3)⟩,⟨some 13,none,.load true 2 (.t 12)⟩,⟨some 14,none,.call 96 [(.t 11),(.t 13)]⟩,⟨some 15,none,.un .not (.t 14)⟩]) (.cond (.t 15) (.seq (.reg [⟨some 4,none,.mv (.c (.bool false))⟩]) .ret) .skip)) (.seq (.reg [⟨some 4,none,.mv (.c (.bool true))⟩]) .ret))))
theorem Ou:codeOf Tryz.prog 60=some ⟨16,IH,[(.tmp 4)]⟩:=by kernel_rfl
theorem II:modes 60=⟨[],.asis,none,false⟩:=by unfold modes; rfl
def HG:SC:=(.seq (.reg [⟨some 4,none,.mv (.c (.bool false))⟩]) (.seq (.seq (.reg [⟨some 6,none,.mv (.t 0)⟩,⟨some 7,none,.len false (.t 6)⟩,⟨some 8,none,.mv (.t 1)⟩,⟨some 9,none,.len false (.t 8)⟩,⟨some 10,none,.bin .neq false (.t 7) (.t 9)⟩]) (.cond (.t 10) (.seq (.reg [⟨some 4,none,.mv (.c (.bool false))⟩]) .ret) .skip)) (.seq (.seq (.reg [⟨some 5,none,.mv (.c (.int .i64 0))⟩]) (.block 0 (.loop [1,1,0,0,0,1,0,0,0,0,0,0,0,0,0,0,0,0,0,0,0,0,0,0,0,0,0] (.seq (.seq (.reg [⟨some 11,none,.mv (.t 5)⟩,⟨some 12,none,.mv (.t 0)⟩,⟨some 13,none,.len false (.t 12)⟩,⟨some 14,none,.bin .lss false (.t 11) (.t 13)⟩]) (.cond (.t 14) .skip (.exit 0))) (.seq (.block 1 (.seq (.dreg [[],[],[0,1],[2,0,1],[],[],[4,5],[6,4,5],[3,2,0,1,7,6,4,5],[8,3,2,0,1,7,6,4,5]] [⟨some 17,none,.mv (.t 0)⟩,⟨some 18,none,.mv (.t 5)⟩,⟨some 19,none,.iaddr 3 (.t 17) (.t 18)⟩,⟨some 20,none,.load true 3 (.t 19)⟩,⟨some 21,none,.mv (.t 1)⟩,⟨some 22,none,.mv (.t 5)⟩,⟨some 23,none,.iaddr 3 (.t 21) (.t 22)⟩,⟨some 24,none,.load true 3 (.t 23)⟩,⟨some 25,none,.call 60 [(.t 20),(.t 24)]⟩,⟨some 26,none,.un .not (.t 25)⟩]) (.cond (.t 26) (.seq (.reg [⟨some 4,none,.mv (.c (.bool false))⟩]) .ret) .skip))) (.reg [⟨some 15,none,.mv (.t 5)⟩,⟨some 16,none,.bin .add false (.t 15) (.c (.int .i64 1))⟩,⟨some 5,none,.mv (.t 16)⟩])))))) (.seq (.reg [⟨some 4,none,.mv (.c (.bool true))⟩]) .ret))))
theorem Nq:codeOf Tryz.prog 34=some ⟨27,HG,[(.tmp 4)]⟩:=by kernel_rfl
theorem HH:modes 34=⟨[],.asis,none,false⟩:=by unfold modes; rfl
abbrev KD (x:Lt):Prop:=x.bulk≤1048576→E 60 [x.sv,x.sv] []=some (.bool true,[])
abbrev Nr (xs:List Lt):Prop:=xs.length+Lt.sumB xs≤1048576→E 34 [.arr (xs.map Lt.d),.arr (xs.map Lt.d)] []=some (.bool true,[])
theorem Po (xs:List Lt) (h:∀ x∈xs,KD x):Nr xs:=by
 intro hb
 refine Ah Nq HH (of_decide_eq_true rfl) ?_
 simp (disch:=omega) only [HG,go_sem,Aa]
 refine go_loop (α:=Int) (fun i=>⟨slots 27 0 [(0,.arr (xs.map Lt.d)),(1,.arr (xs.map Lt.d)),(5,.int .i64 i)],[]⟩) (fun i=>∃ k:Nat,i=k∧k≤xs.length) (fun i=>xs.length-i.toNat) 0 ⟨0,rfl,Nat.zero_le _⟩ (by simp (disch:=omega) only [go_sem,Aa]) ?_
 ·rintro i ⟨k,rfl,hk⟩
  obtain ⟨i,hi⟩:∃ i:Int,i=(k:Int):=⟨_,rfl⟩
  rw [←hi]
  have hn:i.toNat=k:=by omega
  rcases Nat.lt_or_ge k xs.length with hlt | hge
  ·have hg:=get_at Lt.d hlt
   rw [Lt.d_eq] at hg
   have hle:=Lt.bulk_le xs k hlt
   have hc:=h xs[k] (List.getElem_mem hlt) (by omega)
   simp (disch:=omega) only [go_sem,Aa,hn,hg,hc,II]
   refine ⟨i+1,⟨k+1,by omega,hlt⟩,by omega,?_⟩
   trivial
  ·obtain rfl:k=xs.length:=by omega
   simp (disch:=omega) only [go_sem,Aa,hn]
theorem Rz (x:Lt) (h_atom:Np x.atom):KD x:=by
 intro hb
 have qb:=Lt.bulk_eq x
 replace h_atom:=h_atom (by omega)
 refine Ah Ou II (of_decide_eq_true rfl) ?_
 simp (disch:=omega) only [IH,go_sem,Aa,h_atom,Ih,Dr]
theorem WA (x:Lt):KD x:=Rz x (W9 x.atom)
def J8:SC:=(.seq (.reg [⟨some 2,none,.boxv 28 1 (.t 0)⟩,⟨some 3,none,.boxv 28 1 (.t 1)⟩,⟨some 4,none,.mv (.c (.bool false))⟩]) (.seq (.seq (.reg [⟨some 5,none,.faddr 0 (.t 2)⟩,⟨some 6,none,.load false 1 (.t 5)⟩,⟨some 7,none,.faddr 0 (.t 3)⟩,⟨some 8,none,.load false 1 (.t 7)⟩,⟨some 9,none,.call 34 [(.t 6),(.t 8)]⟩,⟨some 10,none,.un .not (.t 9)⟩]) (.cond (.t 10) (.seq (.reg [⟨some 4,none,.mv (.c (.bool false))⟩]) .ret) .skip)) (.seq (.reg [⟨some 4,none,.mv (.c (.bool true))⟩]) .ret)))
theorem Pp:codeOf Tryz.prog 12=some ⟨11,J8,[(.tmp 4)]⟩:=by kernel_rfl
theorem Dz:modes 12=⟨[],.asis,none,false⟩:=by unfold modes; rfl
abbrev R0 (x:Cl):Prop:=x.bulk≤1048576→E 12 [x.sv,x.sv] []=some (.bool true,[])
theorem So (x:Cl) (h_lits:Nr x.lits):R0 x:=by
 intro hb
 have qb:=Cl.bulk_eq x
 replace h_lits:=h_lits (by omega)
 refine Ah Pp Dz (of_decide_eq_true rfl) ?_
 simp (disch:=omega) only [J8,go_sem,Aa,h_lits,HH,Dr]
theorem R1 (x:Cl):R0 x:=So x (Po x.lits fun y hy=>WA y)
theorem A5:modes 134=⟨[true],.asis,some Dh,false⟩:=by unfold modes; rfl
theorem Qdh (l:List Bd) (hl:l.length≤1099511627776) (hn:(l.map Bd.var).Nodup):E 134 [.ref 0,.fn 135 []] [.row 139 3 (l.map Bd.o)]=some (.tup [],[.row 139 3 ((l.mergeSort bdLe).map Bd.o)]):=by
 rw [Jc (g:=Dh) (congrArg FM.ext A5)]
 unfold Dh
 simp only
 have e1:(l.map Bd.o).map VI=l.map Bd.var:=by rw [List.map_map]; rfl
 rw [Ay ⟨by first | trivial | rfl,by first | trivial | rfl,fun e he=>by obtain ⟨b,_,rfl⟩:=List.mem_map.1 he; exact ⟨_,_,_,rfl⟩,by rw [e1]; exact hn,by simpa using hl⟩,cond_true]
 have e2:(l.mergeSort bdLe).map Bd.o=(l.map Bd.o).mergeSort rowLe:=List.map_mergeSort fun a _ b _=>rfl
 rw [e2]
theorem Qa5:E 134 [.nil,.fn 135 []] []=some (.tup [],[]):=by
 rw [Jc (g:=Dh) (congrArg FM.ext A5)]
 unfold Dh
 simp only
 rw [Ay (by first | trivial | rfl),cond_true]
def J9:SC:=(.seq (.reg [⟨some 2,none,.boxv 76 1 (.t 0)⟩,⟨some 3,none,.boxv 76 1 (.t 1)⟩,⟨some 4,none,.alloc 76 [.nil]⟩,⟨some 5,none,.mv (.c (.bool false))⟩]) (.seq (.reg [⟨some 14,none,.build [.nil] []⟩,⟨some 6,none,.alloc 76 [.nil]⟩,⟨none,none,(.store 1 (.t 6) (.t 14))⟩]) (.seq (.seq (.reg [⟨some 15,none,.faddr 0 (.t 2)⟩,⟨some 16,none,.load false 1 (.t 15)⟩,⟨some 17,none,.len false (.t 16)⟩,⟨some 18,none,.mv (.c (.int .i64 0))⟩]) (.block 0 (.loop [0,0,1,1,1,0,1,0,0,0,0,0,0,0,0,0,1,1,1,0,0,0,0,0,0,0,0,0,0,0,0,0,0,0,0,0,0,0,0,0,0,0,0,0,0,0,0,0,0,0,0,0,0,0,0,0,0,0,0,0,0,0,0,0,0,0,0,0,0,0,0,0,0,0,0,0,0] (.seq (.reg [⟨some 19,none,.bin .lss false (.t 18) (.t 17)⟩]) (.seq (.cond (.t 19) .skip (.exit 0)) (.seq (.block 1 (.seq (.reg [⟨some 20,none,.iaddr 3 (.t 16) (.t 18)⟩,⟨some 21,none,.load true 3 (.t 20)⟩,⟨(some 8),none,(.alloc 139 [(.str ⟨#[]⟩),(.str ⟨#[]⟩),.nil])⟩,⟨none,none,(.store 3 (.t 8) (.t 21))⟩]) (.seq (.reg [⟨some 22,none,.load true 1 (.t 3)⟩,⟨some 23,none,.faddr 1 (.t 8)⟩,⟨some 24,none,.load true 2 (.t 23)⟩,⟨some 25,none,.call 126 [(.t 22),(.t 24)]⟩,⟨(some 9),none,(.alloc 71 [(.str ⟨#[]⟩),.nil])⟩,⟨none,none,(.store 2 (.t 9) (.t 25))⟩]) (.seq (.reg [⟨some 26,none,.faddr 0 (.t 9)⟩,⟨some 27,none,.load false 1 (.t 26)⟩,⟨some 28,none,.faddr 0 (.t 8)⟩,⟨some 29,none,.load false 1 (.t 28)⟩,⟨some 30,none,.bin .neq false (.t 27) (.t 29)⟩]) (.cond (.t 30) (.reg [⟨some 31,none,.faddr 0 (.t 6)⟩,⟨some 32,none,.load false 1 (.t 31)⟩,⟨some 33,none,.faddr 0 (.t 8)⟩,⟨some 34,none,.load false 1 (.t 33)⟩,⟨some 35,none,.load true 2 (.t 9)⟩,⟨(some 36),none,(.build [(.str ⟨#[]⟩),(.str ⟨#[]⟩),.nil] [(0,(1,(.t 34))),(1,(2,(.t 35)))])⟩,⟨(some 37),none,(.mkrow 139 3 [(.str ⟨#[]⟩),(.str ⟨#[]⟩),.nil] 1 [(0,(.t 36))])⟩,⟨(some 38),none,(.append 139 3 56 [(.str ⟨#[]⟩),(.str ⟨#[]⟩),.nil] (.t 32) (.t 37))⟩,⟨some 39,none,.faddr 0 (.t 6)⟩,⟨none,none,(.store 1 (.t 39) (.t 38))⟩]) .skip))))) (.reg [⟨some 40,none,.bin .add false (.t 18) (.c (.int .i64 1))⟩,⟨some 18,none,.mv (.t 40)⟩]))))))) (.seq (.seq (.reg [⟨some 41,none,.faddr 0 (.t 3)⟩,⟨some 42,none,.load false 1 (.t 41)⟩,⟨some 43,none,.len false (.t 42)⟩,⟨some 44,none,.mv (.c (.int .i64 0))⟩]) (.block 2 (.loop [0,0,1,0,1,0,1,0,0,0,0,0,0,0,0,0,0,0,0,0,0,0,0,0,0,0,0,0,0,0,0,0,0,0,0,0,0,0,0,0,0,0,1,1,1,0,0,0,0,0,0,0,0,0,0,0,0,0,0,0,0,0,0,0,0,0,0,0,0,0,0,0,0,0,0,0,0] (.seq (.reg [⟨some 45,none,.bin .lss false (.t 44) (.t 43)⟩]) (.seq (.cond (.t 45) .skip (.exit 2)) (.seq (.block 3 (.seq (.reg [⟨some 46,none,.iaddr 3 (.t 42) (.t 44)⟩,⟨some 47,none,.load true 3 (.t 46)⟩,⟨(some 11),none,(.alloc 139 [(.str ⟨#[]⟩),(.str ⟨#[]⟩),.nil])⟩,⟨none,none,(.store 3 (.t 11) (.t 47))⟩]) (.seq (.reg [⟨some 49,none,.load true 1 (.t 2)⟩,⟨some 50,none,.faddr 0 (.t 11)⟩,⟨some 51,none,.load false 1 (.t 50)⟩,⟨some 52,none,.call 132 [(.t 49),(.t 51)]⟩,⟨some 48,none,.mv (.t 52)⟩,⟨some 53,none,.ext (.t 48) 0⟩,⟨some 54,none,.ext (.t 48) 1⟩,⟨(some 12),none,(.alloc 71 [(.str ⟨#[]⟩),.nil])⟩,⟨none,none,(.store 2 (.t 12) (.t 53))⟩,⟨some 13,none,.mv (.t 54)⟩]) (.seq (.reg [⟨some 55,none,.mv (.t 13)⟩,⟨some 56,none,.un .not (.t 55)⟩]) (.cond (.t 56) (.dreg [[],[0],[],[2],[],[4],[5,4],[3,2,6,5,4],[7,3,2,6,5,4],[1,0,8,7,3,2,6,5,4],[0,1,2,3,4,5,6,7,8,9],[10,0,1,2,3,4,5,6,7,8,9]] [⟨some 57,none,.faddr 0 (.t 6)⟩,⟨some 58,none,.load false 1 (.t 57)⟩,⟨some 59,none,.faddr 0 (.t 11)⟩,⟨some 60,none,.load false 1 (.t 59)⟩,⟨some 61,none,.faddr 1 (.t 11)⟩,⟨some 62,none,.load true 2 (.t 61)⟩,⟨some 63,none,.call 133 [(.t 62)]⟩,⟨(some 64),none,(.build [(.str ⟨#[]⟩),(.str ⟨#[]⟩),.nil] [(0,(1,(.t 60))),(1,(2,(.t 63)))])⟩,⟨(some 65),none,(.mkrow 139 3 [(.str ⟨#[]⟩),(.str ⟨#[]⟩),.nil] 1 [(0,(.t 64))])⟩,⟨(some 66),none,(.append 139 3 56 [(.str ⟨#[]⟩),(.str ⟨#[]⟩),.nil] (.t 58) (.t 65))⟩,⟨some 67,none,.faddr 0 (.t 6)⟩,⟨none,none,(.store 1 (.t 67) (.t 66))⟩]) .skip))))) (.reg [⟨some 68,none,.bin .add false (.t 44) (.c (.int .i64 1))⟩,⟨some 44,none,.mv (.t 68)⟩]))))))) (.seq (.reg [⟨some 69,none,.faddr 0 (.t 6)⟩,⟨some 70,none,.load false 1 (.t 69)⟩,⟨some 71,none,.call 134 [(.t 70),(.c (.fn 135 []))]⟩]) (.seq (.seq (.reg [⟨some 72,none,.load true 1 (.t 6)⟩,⟨some 73,none,.call 131 [(.t 72)]⟩,⟨some 74,none,.un .not (.t 73)⟩]) (.cond (.t 74) (.seq (.reg [⟨some 75,none,.build [.nil] []⟩,⟨none,none,(.store 1 (.t 4) (.t 75))⟩,⟨some 5,none,.mv (.c (.bool false))⟩]) .ret) .skip)) (.seq (.reg [⟨some 76,none,.load true 1 (.t 6)⟩,⟨none,none,(.store 1 (.t 4) (.t 76))⟩,⟨some 5,none,.mv (.c (.bool true))⟩]) .ret)))))))
theorem Pq:codeOf Tryz.prog 91=some ⟨77,J9,[(.cell 4 true 1),(.tmp 5)]⟩:=by kernel_rfl
theorem Aj:modes 91=⟨[],.own [some (139,3),none],none,false⟩:=by unfold modes; rfl
theorem Sb.R2 {u:Sb} (hu:u.ok=true) {t:Tm} (ht:t.valid=true):(t.ap u.look).nodes≤900:=by
 have h:=Tm.I6 (Sb.ES hu) t
 have h2:t.nodes≤30:=Tm.Ar (by unfold Tm.expr; rw [ht]; rfl)
 omega
theorem WB {t:Tm} (h:t.valid=true):t.names=true:=by
 unfold Tm.valid at h; rw [Bool.and_eq_true] at h; exact h.2
theorem DT {t:Tm} (h:t.valid=true):t.nodes≤30:=Tm.Ar (by unfold Tm.expr; rw [h]; rfl)
theorem ok_len {s:Sb} (h:s.ok=true):s.binds.length≤12:=by
 unfold Sb.ok at h; rw [Bool.and_eq_true,decide_eq_true_eq] at h; exact h.1
theorem QbZ (s u:Sb):(Ce s u).binds.length≤s.binds.length+u.binds.length:=by
 unfold Ce
 show ((Cj s u).mergeSort bdLe).length≤_
 rw [(List.mergeSort_perm _ _).length_eq]
 exact Rp s u
theorem Y2 {s u:Sb} (hs:s.ok=true) (hu:u.ok=true) {b:Bd} (h:b∈Cj s u):b.term.nodes≤900:=by
 unfold Cj at h
 rcases List.mem_append.1 h with h | h
 ·obtain ⟨c,hc,_,e⟩:=T3 h
  obtain ⟨k,hk,rfl⟩:=List.getElem_of_mem hc
  rw [e]
  exact Sb.R2 hu (Dm (Sb.J2 hs hk))
 ·have hc:=(List.mem_filter.1 h).1
  obtain ⟨k,hk,rfl⟩:=List.getElem_of_mem hc
  have:=DT (Dm (Sb.J2 hu hk))
  omega
theorem T7 {s u:Sb} (hs:s.ok=true) (hu:u.ok=true):(Ce s u).tame:=by
 have h1:=QbZ s u
 have h2:=ok_len hs
 have h3:=ok_len hu
 refine ⟨by omega,fun y hy=>?_⟩
 have:=Y2 hs hu ((List.mergeSort_perm (Cj s u) bdLe).mem_iff.1 hy)
 omega
noncomputable def Ck (s u:Sb):Bool:=(Ce s u).ok
noncomputable def EZ (s u:Sb):Sb:=bif Ck s u then Ce s u else ⟨[]⟩
theorem Jo (s u:Sb) (hs:s.ok=true) (hu:u.ok=true) (hts:s.tame) (htu:u.tame):E 91 [s.sv,u.sv] []=some (.tup [(EZ s u).osv,.bool (Ck s u)],(EZ s u).obs):=by
  have hsl:=ok_len hs
  have hul:=ok_len hu
  have hnil:(([]:List Bd)=[])=True:=eq_self _
  refine Ah Pq Aj (of_decide_eq_true rfl) ?_
  simp (disch:=omega) only [J9,go_sem,Aa]
  refine go_loop (α:=Int × List Bd) (fun a=>⟨slots 77 0 [(2,.ptr 0 0),(3,.ptr 1 0),(4,.ptr 2 0),(6,.ptr 3 0),(16,.arr (s.binds.map Bd.d)),(17,.int .i64 s.binds.length),(18,.int .i64 a.1)],(if a.2=[] then [.box 76 [.arr (s.binds.map Bd.d)],.box 76 [.arr (u.binds.map Bd.d)],.box 76 [.nil],.box 76 [.nil]] else [.box 76 [.arr (s.binds.map Bd.d)],.box 76 [.arr (u.binds.map Bd.d)],.box 76 [.nil],.box 76 [.ref 4],.row 139 3 (a.2.map Bd.o)])⟩) (fun a=>∃ k:Nat,a.1=k∧k≤s.binds.length∧a.2++(s.binds.drop k).filterMap (C6 u)=Hg s u∧a.2.length≤k) (fun a=>s.binds.length-a.1.toNat) (0,[]) ⟨0,rfl,Nat.zero_le _,by rw [List.drop_zero]; rfl,Nat.le_refl _⟩ (by simp (disch:=omega) only [go_sem,Aa,hnil,if_true]) ?_
  rintro ⟨i,acc⟩ ⟨k,hi,hk,hR,hal⟩
  dsimp only at hi hR hal
  have hni:i.toNat=k:=by omega
  have hni1:(i+1).toNat=k+1:=by omega
  rcases Nat.lt_or_ge k s.binds.length with hlt | hge
  · have hg:=get_at Bd.d hlt
    rw [Bd.d_eq] at hg
    have hval:=Dm (Sb.J2 hs hlt)
    have hc:=Zy u hu htu s.binds[k].term (WB hval) (by have:=DT hval; omega)
    rw [List.drop_eq_getElem_cons hlt,List.filterMap_cons] at hR
    cases hq:dec ((s.binds[k].term.ap u.look).name=s.binds[k].var) with
    | true =>
      have ho:C6 u s.binds[k]=none:=by unfold C6; rw [hq]; rfl
      rw [ho] at hR
      rcases List.eq_nil_or_concat acc with ha | ⟨ys,y,ha⟩
      · subst ha
        simp (disch:=omega) only [go_sem,Aa,hni,hg,hc,hq,hnil,if_true,Tm.osv,Tm.obs,Av,A6,AX]
        exact ⟨(i+1,[]),⟨k+1,by dsimp only; omega,hlt,hR,by dsimp only; omega⟩,by dsimp only; omega,by first | trivial | rfl | simp only [hnil,if_true,and_self]⟩
      · have hne:(acc=[])=False:=eq_false (by rw [ha]; simp)
        simp (disch:=omega) only [go_sem,Aa,hni,hg,hc,hq,hne,if_false,Tm.osv,Tm.obs,List.length_map,Av,A6,AX]
        exact ⟨(i+1,acc),⟨k+1,by dsimp only; omega,hlt,hR,by dsimp only; omega⟩,by dsimp only; omega,by first | trivial | rfl | simp only [hne,if_false,and_self]⟩
    | false =>
      have ho:C6 u s.binds[k]=some ⟨s.binds[k].var,s.binds[k].term.ap u.look⟩:=by unfold C6; rw [hq]; rfl
      rw [ho] at hR
      obtain ⟨b,hb⟩:∃ b:Bd,b=⟨s.binds[k].var,s.binds[k].term.ap u.look⟩:=⟨_,rfl⟩
      have hbo:[OT.str s.binds[k].var,.str (s.binds[k].term.ap u.look).name,.ow ((s.binds[k].term.ap u.look).args.map Tm.o)]=b.o:=by rw [hb]; rfl
      have hR':(acc++[b])++(s.binds.drop (k+1)).filterMap (C6 u)=Hg s u:=by rw [hb,List.append_assoc]; exact hR
      have hnea:(acc++[b]=[])=False:=eq_false (by simp)
      have hlen:(acc++[b]).length≤k+1:=by rw [List.length_append]; simp only [List.length_cons,List.length_nil]; omega
      rcases List.eq_nil_or_concat acc with ha | ⟨ys,y,ha⟩
      · subst ha
        have hneb:([b]=[])=False:=eq_false (by simp)
        simp (disch:=omega) only [go_sem,Aa,hni,hg,hc,hq,hnil,if_true,Tm.osv,Tm.obs,Av,A6,AX]
        exact ⟨(i+1,[b]),⟨k+1,by dsimp only; omega,hlt,hR',by simp⟩,by dsimp only; omega,by simp only [hneb,if_false,← hbo,List.map_cons,List.map_nil,and_self]⟩
      · have hne:(acc=[])=False:=eq_false (by rw [ha]; simp)
        simp (disch:=omega) only [go_sem,Aa,hni,hg,hc,hq,hne,if_false,Tm.osv,Tm.obs,List.length_map,Av,A6,AX]
        exact ⟨(i+1,acc++[b]),⟨k+1,by dsimp only; omega,hlt,hR',by dsimp only; omega⟩,by dsimp only; omega,by simp only [hnea,if_false,← hbo,List.map_append,List.map_cons,List.map_nil,and_self]⟩
  rw [List.drop_eq_nil_of_le hge,List.filterMap_nil,List.append_nil] at hR
  subst hR
  have hl1:(Hg s u).length≤12:=by omega
  have htame:=T7 hs hu
  have hvalid:=D7 (Ce s u) htame
  have hnd:=Na (Sb.J1 hs) (Sb.J1 hu)
  have hcl:=Rp s u
  have hsort:=Qdh (Cj s u) (by omega) hnd
  have hsn:=Qa5
  have hosv:(Ce s u).sv=.agg [.arr (((Cj s u).mergeSort bdLe).map Bd.d)]:=rfl
  rw [hosv] at hvalid
  have hor:((Hg s u=[])=True)∨((Hg s u=[])=False):=by
    by_cases h:Hg s u=[]
    · exact .inl (eq_true h)
    · exact .inr (eq_false h)
  rcases hor with hE | hE
  all_goals
    simp (disch:=omega) only [go_sem,Aa,hni,hE,if_true,if_false]
    refine go_loop (α:=Int × List Bd) (fun a=>⟨slots 77 0 [(2,.ptr 0 0),(4,.ptr 1 0),(6,.ptr 2 0),(42,.arr (u.binds.map Bd.d)),(43,.int .i64 u.binds.length),(44,.int .i64 a.1)],(if a.2=[] then [.box 76 [.arr (s.binds.map Bd.d)],.box 76 [.nil],.box 76 [.nil]] else [.box 76 [.arr (s.binds.map Bd.d)],.box 76 [.nil],.box 76 [.ref 3],.row 139 3 (a.2.map Bd.o)])⟩) (fun a=>∃ k:Nat,a.1=k∧k≤u.binds.length∧a.2++(u.binds.drop k).filter (fun b=>!D8 s.binds b.var)=Cj s u∧a.2.length≤12+k) (fun a=>u.binds.length-a.1.toNat) (0,Hg s u) ⟨0,rfl,Nat.zero_le _,by rw [List.drop_zero]; rfl,by dsimp only; omega⟩ (by simp (disch:=omega) only [go_sem,Aa,hE,if_true,if_false]) ?_
    rintro ⟨i,acc⟩ ⟨k,hi,hk,hR,hal⟩
    dsimp only at hi hR hal
    have hni:i.toNat=k:=by omega
    have hni1:(i+1).toNat=k+1:=by omega
    rcases Nat.lt_or_ge k u.binds.length with hlt | hge
    · have hg:=get_at Bd.d hlt
      rw [Bd.d_eq] at hg
      have hval:=Dm (Sb.J2 hu hlt)
      have hc:=Jk u.binds[k].term (by have:=DT hval; omega)
      rw [List.drop_eq_getElem_cons hlt,List.filter_cons] at hR
      cases hh:D8 s.binds u.binds[k].var with
      | true =>
        have hq:=Yp s hs u.binds[k].var (by omega) hh (Hz hh)
        rw [hh,if_neg (by simp)] at hR
        rcases List.eq_nil_or_concat acc with ha | ⟨ys,y,ha⟩
        · subst ha
          simp (disch:=omega) only [go_sem,Aa,hni,hg,hc,hq,hnil,if_true,Tm.osv,Tm.obs,Av,A6,AX]
          exact ⟨(i+1,[]),⟨k+1,by dsimp only; omega,hlt,hR,by simp⟩,by dsimp only; omega,by first | trivial | rfl | simp only [hnil,if_true,and_self]⟩
        · have hne:(acc=[])=False:=eq_false (by rw [ha]; simp)
          simp (disch:=omega) only [go_sem,Aa,hni,hg,hc,hq,hne,if_false,Tm.osv,Tm.obs,List.length_map,Av,A6,AX]
          exact ⟨(i+1,acc),⟨k+1,by dsimp only; omega,hlt,hR,by dsimp only; omega⟩,by dsimp only; omega,by first | trivial | rfl | simp only [hne,if_false,and_self]⟩
      | false =>
        have hq:=Qaw s hs u.binds[k].var (by omega) hh
        rw [hh,if_pos (by simp)] at hR
        have hbo:[OT.str u.binds[k].var,.str u.binds[k].term.name,.ow (u.binds[k].term.args.map Tm.o)]=u.binds[k].o:=rfl
        have hR':(acc++[u.binds[k]])++(u.binds.drop (k+1)).filter (fun b=>!D8 s.binds b.var)=Cj s u:=by rw [List.append_assoc]; exact hR
        have hnea:(acc++[u.binds[k]]=[])=False:=eq_false (by simp)
        have hlen:(acc++[u.binds[k]]).length≤12+(k+1):=by rw [List.length_append]; simp only [List.length_cons,List.length_nil]; omega
        rcases List.eq_nil_or_concat acc with ha | ⟨ys,y,ha⟩
        · subst ha
          have hneb:([u.binds[k]]=[])=False:=eq_false (by simp)
          simp (disch:=omega) only [go_sem,Aa,hni,hg,hc,hq,hnil,if_true,Tm.osv,Tm.obs,Av,A6,AX]
          exact ⟨(i+1,[u.binds[k]]),⟨k+1,by dsimp only; omega,hlt,hR',by simp; omega⟩,by dsimp only; omega,by simp only [hneb,if_false,← hbo,List.map_cons,List.map_nil,and_self]⟩
        · have hne:(acc=[])=False:=eq_false (by rw [ha]; simp)
          simp (disch:=omega) only [go_sem,Aa,hni,hg,hc,hq,hne,if_false,Tm.osv,Tm.obs,List.length_map,Av,A6,AX]
          exact ⟨(i+1,acc++[u.binds[k]]),⟨k+1,by dsimp only; omega,hlt,hR',by dsimp only; omega⟩,by dsimp only; omega,by simp only [hnea,if_false,← hbo,List.map_append,List.map_cons,List.map_nil,and_self]⟩
    · rw [List.drop_eq_nil_of_le hge,List.filter_nil,List.append_nil] at hR
      subst hR
      unfold EZ
      cases hok:Ck s u with
      | false =>
        have hok':(Ce s u).ok=false:=hok
        rw [hok'] at hvalid
        simp only [cond_false]
        rcases List.eq_nil_or_concat (Cj s u) with ha | ⟨ys,y,ha⟩
        · have hz:(Cj s u=[])=True:=eq_true ha
          rw [ha,List.mergeSort_nil,List.map_nil] at hvalid
          simp (disch:=omega) only [go_sem,Aa,hni,hz,if_true,hsn,hvalid,Ax,A5]
          try rfl
        · have hz:(Cj s u=[])=False:=eq_false (by rw [ha]; simp)
          simp (disch:=omega) only [go_sem,Aa,hni,hz,if_false,hsort,hvalid,Bd.erss,Bd.fus,Ax,A5]
          try rfl
      | true =>
        have hok':(Ce s u).ok=true:=hok
        rw [hok'] at hvalid
        simp only [cond_true]
        rcases List.eq_nil_or_concat (Cj s u) with ha | ⟨ys,y,ha⟩
        · have hz:(Cj s u=[])=True:=eq_true ha
          have hcs:Ce s u=⟨[]⟩:=by unfold Ce; rw [ha,List.mergeSort_nil]
          rw [hcs]
          rw [ha,List.mergeSort_nil,List.map_nil] at hvalid
          simp (disch:=omega) only [go_sem,Aa,hni,hz,if_true,hsn,hvalid,Ax,A5]
          try rfl
        · have hz:(Cj s u=[])=False:=eq_false (by rw [ha]; simp)
          simp (disch:=omega) only [go_sem,Aa,hni,hz,if_false,hsort,hvalid,Bd.erss,Bd.fus,Ax,A5]
          try rfl
def Jp:SC:=(.seq (.reg [⟨some 3,none,.boxv 76 1 (.t 0)⟩,⟨some 5,none,.boxv 71 2 (.t 2)⟩,⟨some 6,none,.alloc 76 [.nil]⟩]) (.seq (.seq (.reg [⟨some 9,none,.faddr 0 (.t 5)⟩,⟨some 10,none,.load false 1 (.t 9)⟩,⟨some 11,none,.mv (.t 1)⟩,⟨some 12,none,.bin .eql false (.t 10) (.t 11)⟩]) (.cond (.t 12) (.seq (.reg [⟨some 13,none,.load true 1 (.t 3)⟩,⟨none,none,(.store 1 (.t 6) (.t 13))⟩]) .ret) .skip)) (.seq (.reg [⟨some 7,none,.mv (.c (.int .i64 0))⟩]) (.seq (.block 0 (.loop [0,1,0,1,0,1,1,1,0,0,0,0,0,0,0,0,0,0,0,0,0,0,0,0,0,0,0,0,0,0,0,0,0,0,0,0,0,0,0,0,0,0,0,0,0,0,0,0,0,0,0] (.seq (.seq (.reg [⟨some 14,none,.mv (.t 7)⟩,⟨some 15,none,.faddr 0 (.t 3)⟩,⟨some 16,none,.load false 1 (.t 15)⟩,⟨some 17,none,.len false (.t 16)⟩,⟨some 18,none,.bin .lss false (.t 14) (.t 17)⟩,⟨some 19,none,.mv (.t 18)⟩,⟨(some 20),(some (19,true)),(.faddr 0 (.t 3))⟩,⟨(some 21),(some (19,true)),(.load false 1 (.t 20))⟩,⟨(some 22),(some (19,true)),(.mv (.t 7))⟩,⟨(some 23),(some (19,true)),(.iaddr 3 (.t 21) (.t 22))⟩,⟨(some 24),(some (19,true)),(.faddr 0 (.t 23))⟩,⟨(some 25),(some (19,true)),(.load false 1 (.t 24))⟩,⟨(some 26),(some (19,true)),(.mv (.t 1))⟩,⟨(some 27),(some (19,true)),(.bin .lss false (.t 25) (.t 26))⟩,⟨some 28,none,.pick (.t 19) (.t 27) (.c (.bool false))⟩]) (.cond (.t 28) .skip (.exit 0))) (.block 1 (.reg [⟨some 29,none,.mv (.t 7)⟩,⟨some 30,none,.bin .add false (.t 29) (.c (.int .i64 1))⟩,⟨some 7,none,.mv (.t 30)⟩]))))) (.seq (.reg [⟨(some 31),none,(.mkrow 139 3 [(.str ⟨#[]⟩),(.str ⟨#[]⟩),.nil] 0 [])⟩,⟨some 32,none,.faddr 0 (.t 3)⟩,⟨some 33,none,.load false 1 (.t 32)⟩,⟨some 34,none,.mv (.t 7)⟩,⟨some 35,none,.slice false 3 (.t 33) none (some (.t 34))⟩,⟨(some 36),none,(.append 139 3 56 [(.str ⟨#[]⟩),(.str ⟨#[]⟩),.nil] (.t 31) (.t 35))⟩,⟨some 8,none,.mv (.t 36)⟩]) (.seq (.reg [⟨some 37,none,.mv (.t 8)⟩,⟨some 38,none,.mv (.t 1)⟩,⟨some 39,none,.load true 2 (.t 5)⟩,⟨some 40,none,.call 148 [(.t 39)]⟩,⟨(some 41),none,(.build [(.str ⟨#[]⟩),(.str ⟨#[]⟩),.nil] [(0,(1,(.t 38))),(1,(2,(.t 40)))])⟩,⟨(some 42),none,(.mkrow 139 3 [(.str ⟨#[]⟩),(.str ⟨#[]⟩),.nil] 1 [(0,(.t 41))])⟩,⟨(some 43),none,(.append 139 3 56 [(.str ⟨#[]⟩),(.str ⟨#[]⟩),.nil] (.t 37) (.t 42))⟩,⟨some 8,none,.mv (.t 43)⟩]) (.seq (.reg [⟨some 44,none,.mv (.t 8)⟩,⟨some 45,none,.faddr 0 (.t 3)⟩,⟨some 46,none,.load false 1 (.t 45)⟩,⟨some 47,none,.mv (.t 7)⟩,⟨some 48,none,.slice false 3 (.t 46) (some (.t 47)) none⟩,⟨(some 49),none,(.append 139 3 56 [(.str ⟨#[]⟩),(.str ⟨#[]⟩),.nil] (.t 44) (.t 48))⟩,⟨some 50,none,.build [.nil] [(0,(1,(.t 49)))]⟩,⟨none,none,(.store 1 (.t 6) (.t 50))⟩]) .ret)))))))
theorem Ns:codeOf Tryz.prog 116=some ⟨51,Jp,[(.cell 6 true 1)]⟩:=by kernel_rfl
theorem Cu:modes 116=⟨[],.frz,none,false⟩:=by unfold modes; rfl
def IJ:SC:=(.seq (.reg [⟨some 2,none,.boxv 76 1 (.t 0)⟩,⟨some 3,none,.boxv 76 1 (.t 1)⟩,⟨some 4,none,.alloc 76 [.nil]⟩]) (.seq (.reg [⟨some 8,none,.build [.nil] []⟩,⟨some 5,none,.alloc 76 [.nil]⟩,⟨none,none,(.store 1 (.t 5) (.t 8))⟩]) (.seq (.seq (.reg [⟨some 6,none,.mv (.c (.int .i64 0))⟩]) (.block 0 (.loop [0,0,1,1,1,1,1,0,0,0,0,0,0,0,0,0,0,0,0,0,0,0,0,0,0,0,0,0,0,0,0,0,0,0,0,0,0,0,0,0,0,0,0,0,0,0,0,0,0,0,0,0,0,0,0,0,0,0,0,0,0,0,0] (.seq (.seq (.reg [⟨some 9,none,.mv (.t 6)⟩,⟨some 10,none,.faddr 0 (.t 2)⟩,⟨some 11,none,.load false 1 (.t 10)⟩,⟨some 12,none,.len false (.t 11)⟩,⟨some 13,none,.bin .lss false (.t 9) (.t 12)⟩]) (.cond (.t 13) .skip (.exit 0))) (.seq (.block 1 (.dreg [[],[],[1],[],[2,1,3],[4,2,1,3],[5,4,2,1,3],[],[],[8],[],[9,8,10],[11,9,8,10],[12,11,9,8,10],[7,13,12,11,9,8,10],[0,6,5,4,2,1,3,14,7,13,12,11,9,8,10],[15,0,6,5,4,2,1,3,14,7,13,12,11,9,8,10]] [⟨some 16,none,.load true 1 (.t 5)⟩,⟨some 17,none,.faddr 0 (.t 2)⟩,⟨some 18,none,.load false 1 (.t 17)⟩,⟨some 19,none,.mv (.t 6)⟩,⟨some 20,none,.iaddr 3 (.t 18) (.t 19)⟩,⟨some 21,none,.faddr 0 (.t 20)⟩,⟨some 22,none,.load false 1 (.t 21)⟩,⟨some 23,none,.load true 1 (.t 3)⟩,⟨some 24,none,.faddr 0 (.t 2)⟩,⟨some 25,none,.load false 1 (.t 24)⟩,⟨some 26,none,.mv (.t 6)⟩,⟨some 27,none,.iaddr 3 (.t 25) (.t 26)⟩,⟨some 28,none,.faddr 1 (.t 27)⟩,⟨some 29,none,.load true 2 (.t 28)⟩,⟨some 30,none,.call 111 [(.t 23),(.t 29)]⟩,⟨some 31,none,.call 116 [(.t 16),(.t 22),(.t 30)]⟩,⟨none,none,(.store 1 (.t 5) (.t 31))⟩])) (.reg [⟨some 14,none,.mv (.t 6)⟩,⟨some 15,none,.bin .add false (.t 14) (.c (.int .i64 1))⟩,⟨some 6,none,.mv (.t 15)⟩])))))) (.seq (.seq (.reg [⟨some 7,none,.mv (.c (.int .i64 0))⟩]) (.block 2 (.loop [0,0,1,1,1,1,0,1,0,0,0,0,0,0,0,0,0,0,0,0,0,0,0,0,0,0,0,0,0,0,0,0,0,0,0,0,0,0,0,0,0,0,0,0,0,0,0,0,0,0,0,0,0,0,0,0,0,0,0,0,0,0,0] (.seq (.seq (.reg [⟨some 32,none,.mv (.t 7)⟩,⟨some 33,none,.faddr 0 (.t 3)⟩,⟨some 34,none,.load false 1 (.t 33)⟩,⟨some 35,none,.len false (.t 34)⟩,⟨some 36,none,.bin .lss false (.t 32) (.t 35)⟩]) (.cond (.t 36) .skip (.exit 2))) (.seq (.block 3 (.seq (.dreg [[],[],[1],[],[2,1,3],[4,2,1,3],[5,4,2,1,3],[0,6,5,4,2,1,3],[7,0,6,5,4,2,1,3]] [⟨some 39,none,.load true 1 (.t 2)⟩,⟨some 40,none,.faddr 0 (.t 3)⟩,⟨some 41,none,.load false 1 (.t 40)⟩,⟨some 42,none,.mv (.t 7)⟩,⟨some 43,none,.iaddr 3 (.t 41) (.t 42)⟩,⟨some 44,none,.faddr 0 (.t 43)⟩,⟨some 45,none,.load false 1 (.t 44)⟩,⟨some 46,none,.call 147 [(.t 39),(.t 45)]⟩,⟨some 47,none,.bin .lss false (.t 46) (.c (.int .i64 0))⟩]) (.cond (.t 47) (.dreg [[],[],[1],[],[2,1,3],[4,2,1,3],[5,4,2,1,3],[],[7],[],[8,7,9],[10,8,7,9],[11,10,8,7,9],[0,6,5,4,2,1,3,12,11,10,8,7,9],[13,0,6,5,4,2,1,3,12,11,10,8,7,9]] [⟨some 48,none,.load true 1 (.t 5)⟩,⟨some 49,none,.faddr 0 (.t 3)⟩,⟨some 50,none,.load false 1 (.t 49)⟩,⟨some 51,none,.mv (.t 7)⟩,⟨some 52,none,.iaddr 3 (.t 50) (.t 51)⟩,⟨some 53,none,.faddr 0 (.t 52)⟩,⟨some 54,none,.load false 1 (.t 53)⟩,⟨some 55,none,.faddr 0 (.t 3)⟩,⟨some 56,none,.load false 1 (.t 55)⟩,⟨some 57,none,.mv (.t 7)⟩,⟨some 58,none,.iaddr 3 (.t 56) (.t 57)⟩,⟨some 59,none,.faddr 1 (.t 58)⟩,⟨some 60,none,.load true 2 (.t 59)⟩,⟨some 61,none,.call 116 [(.t 48),(.t 54),(.t 60)]⟩,⟨none,none,(.store 1 (.t 5) (.t 61))⟩]) .skip))) (.reg [⟨some 37,none,.mv (.t 7)⟩,⟨some 38,none,.bin .add false (.t 37) (.c (.int .i64 1))⟩,⟨some 7,none,.mv (.t 38)⟩])))))) (.seq (.reg [⟨some 62,none,.load true 1 (.t 5)⟩,⟨none,none,(.store 1 (.t 4) (.t 62))⟩]) .ret)))))
theorem Ov:codeOf Tryz.prog 150=some ⟨63,IJ,[(.cell 4 true 1)]⟩:=by kernel_rfl
theorem Fy:modes 150=⟨[],.frz,none,false⟩:=by unfold modes; rfl
def Bp:SC:=(.seq (.reg [⟨some 2,none,.boxv 76 1 (.t 0)⟩,⟨some 3,none,.boxv 76 1 (.t 1)⟩,⟨some 4,none,.alloc 76 [.nil]⟩,⟨some 5,none,.mv (.c (.bool false))⟩]) (.seq (.seq (.reg [⟨some 7,none,.load true 1 (.t 2)⟩,⟨some 8,none,.call 109 [(.t 7)]⟩,⟨some 9,none,.un .not (.t 8)⟩,⟨some 10,none,.mv (.t 9)⟩,⟨(some 11),(some (10,false)),(.load true 1 (.t 3))⟩,⟨(some 12),(some (10,false)),(.call 109 [(.t 11)])⟩,⟨(some 13),(some (10,false)),(.un .not (.t 12))⟩,⟨some 14,none,.pick (.t 10) (.c (.bool true)) (.t 13)⟩]) (.cond (.t 14) (.seq (.reg [⟨some 15,none,.build [.nil] []⟩,⟨none,none,(.store 1 (.t 4) (.t 15))⟩,⟨some 5,none,.mv (.c (.bool false))⟩]) .ret) .skip)) (.seq (.reg [⟨some 16,none,.load true 1 (.t 2)⟩,⟨some 17,none,.load true 1 (.t 3)⟩,⟨some 18,none,.call 150 [(.t 16),(.t 17)]⟩,⟨some 6,none,.alloc 76 [.nil]⟩,⟨none,none,(.store 1 (.t 6) (.t 18))⟩]) (.seq (.seq (.reg [⟨some 19,none,.load true 1 (.t 6)⟩,⟨some 20,none,.call 109 [(.t 19)]⟩,⟨some 21,none,.un .not (.t 20)⟩]) (.cond (.t 21) (.seq (.reg [⟨some 22,none,.build [.nil] []⟩,⟨none,none,(.store 1 (.t 4) (.t 22))⟩,⟨some 5,none,.mv (.c (.bool false))⟩]) .ret) .skip)) (.seq (.reg [⟨some 23,none,.load true 1 (.t 6)⟩,⟨none,none,(.store 1 (.t 4) (.t 23))⟩,⟨some 5,none,.mv (.c (.bool true))⟩]) .ret)))))
theorem BD:codeOf Tryz.prog 115=some ⟨24,Bp,[(.cell 4 true 1),(.tmp 5)]⟩:=by kernel_rfl
theorem Br:modes 115=⟨[],.frz,none,false⟩:=by unfold modes; rfl
noncomputable def Sb.put (x:Sb) (b:Bd):Sb:=bif dec (b.term.name=b.var) then x else ⟨FP x.binds b⟩
theorem Bd.ot_take (xs:List Bd) (k:Nat):((xs.map Bd.d).take k).map (fun x=>x.map D.ot)=(xs.take k).map fun b=>b.d.map D.ot:=by
 rw [←List.map_take,List.map_map]; rfl
theorem Bd.ot_drop (xs:List Bd) (k:Nat):((xs.map Bd.d).drop k).map (fun x=>x.map D.ot)=(xs.drop k).map fun b=>b.d.map D.ot:=by
 rw [←List.map_drop,List.map_map]; rfl
theorem Bd.al3 (xs:List Bd):((xs.map fun b=>b.d.map D.ot).all fun l=>l.length == 3)=true:=by
 rw [List.all_map,List.all_eq_true]
 intro x _
 show ((x.d.map D.ot).length == 3)=true
 rw [Bd.d_eq]; rfl
theorem Bd.ald3 (xs:List Bd):((xs.map Bd.d).all fun l=>l.length == 3)=true:=by
 rw [List.all_map,List.all_eq_true]
 intro x _
 show (x.d.length == 3)=true
 rw [Bd.d_eq]; rfl
theorem Bd.dfu:∀ xs:List Bd,OT.AN (xs.map fun b=>b.d.map D.ot)=true
 | []=>rfl
 | x :: xs=>by rw [List.map_cons,Bd.d_eq]; simp [OT.AN,OT.Dc,OT.full,D.ot,Bd.dfu xs]
theorem Bd.der:∀ xs:List Bd,OT.erss (xs.map fun b=>b.d.map D.ot)=xs.map Bd.d
 | []=>rfl
 | x :: xs=>by rw [List.map_cons,List.map_cons,Bd.d_eq]; simp [OT.erss,OT.ers,OT.er,D.ot,Bd.der xs]
theorem Qa6 {xs:List Bd} {n:ByteArray} {k:Nat} (h:k+Bl (xs.drop k) n=Bl xs n) (hk:k<xs.length):(strLt xs[k].var n=true∧k+1+Bl (xs.drop (k+1)) n=Bl xs n)∨(strLt xs[k].var n=false∧k=Bl xs n):=by
 rw [List.drop_eq_getElem_cons hk,Bl] at h
 cases hq:strLt xs[k].var n with
 | true=>rw [hq] at h; simp only [cond_true,if_true] at h; exact .inl ⟨rfl,by omega⟩
 | false=>rw [hq] at h; simp only [cond_false,Bool.false_eq_true,if_false] at h; exact .inr ⟨rfl,by omega⟩
theorem UA (x:Sb) (n:ByteArray) (t:Tm) (hl:x.binds.length≤1048576) (ht:t.nodes≤1099511627776):E 116 [x.sv,.str n,t.sv] []=some ((x.put ⟨n,t⟩).sv,[]):=by
  have ho:=P1 t ht
  have e1:=Bd.ot_take x.binds (Bl x.binds n)
  have e2:=Bd.ot_drop x.binds (Bl x.binds n)
  have e3:=Bd.al3 (x.binds.take (Bl x.binds n))
  have e4:=Bd.al3 (x.binds.drop (Bl x.binds n))
  have e5:=Bd.ald3 x.binds
  have l1:=Uu n x.binds
  have e6:(x.binds.map Bd.d).take x.binds.length=x.binds.map Bd.d:=List.take_of_length_le (by simp)
  have e7:(x.binds.take (Bl x.binds n)).length=Bl x.binds n:=by rw [List.length_take]; omega
  have e8:(x.binds.drop (Bl x.binds n)).length=x.binds.length-Bl x.binds n:=List.length_drop
  have hin:=Ww ⟨n,t⟩ x.binds
  have hx2:(x.binds.take (Bl x.binds n)).map (fun b=>b.d.map D.ot)++[[OT.str n,.str t.name,.sh (t.args.map Tm.d)]]++(x.binds.drop (Bl x.binds n)).map (fun b=>b.d.map D.ot)=(FP x.binds ⟨n,t⟩).map fun b=>b.d.map D.ot:=by
    rw [hin]
    simp only [List.map_append,List.map_cons,List.append_assoc,List.cons_append,List.nil_append]
    rw [Bd.d_eq]; rfl
  have hfu:=Bd.dfu (FP x.binds ⟨n,t⟩)
  have her:=Bd.der (FP x.binds ⟨n,t⟩)
  have hsv:(Sb.mk (FP x.binds ⟨n,t⟩)).sv=.agg [.arr ((FP x.binds ⟨n,t⟩).map Bd.d)]:=rfl
  unfold Sb.put
  cases hq:dec (t.name=n) with
  | true =>
    simp only [hq,cond_true]
    refine Ah Ns Cu (of_decide_eq_true rfl) ?_
    simp (disch:=omega) only [Jp,go_sem,Aa,hq]
    try rfl
  | false =>
    simp only [hq,cond_false]
    rw [hsv]
    refine Ah Ns Cu (of_decide_eq_true rfl) ?_
    simp (disch:=omega) only [Jp,go_sem,Aa,hq]
    refine go_loop (α:=Int) (fun a=>⟨slots 51 0 [(1,.str n),(3,.ptr 0 0),(5,.ptr 1 0),(6,.ptr 2 0),(7,.int .i64 a)],[.box 76 [.arr (x.binds.map Bd.d)],.box 71 [.str t.name,.arr (t.args.map Tm.d)],.box 76 [.nil]]⟩) (fun a=>∃ k:Nat,a=k∧k≤(x.binds).length∧k+Bl (x.binds.drop k) n=Bl x.binds n) (fun a=>(x.binds).length-(a).toNat) 0 ⟨0,rfl,Nat.zero_le _,by rw [List.drop_zero,Nat.zero_add]⟩ (by simp (disch:=omega) only [go_sem,Aa]) ?_
    rintro i ⟨k,hi,hk,hR⟩
    have hni:i.toNat=k:=by omega
    have hni1:(i+1).toNat=k+1:=by omega
    rcases Nat.lt_or_ge k (x.binds).length with hlt | hge
    · have hg:=get_at Bd.d hlt
      rw [Bd.d_eq] at hg
      rcases Qa6 hR hlt with ⟨q,hR'⟩ | ⟨q,hk'⟩
      · simp (disch:=omega) only [go_sem,Aa,hni,hg,q]
        exact ⟨i+1,⟨k+1,by omega,hlt,hR'⟩,by omega,by first | trivial | rfl⟩
      · subst hk'
        simp (disch:=omega) only [go_sem,Aa,hni,hg,q,ho,e1,e2,e3,e4,e5,e6,e7,e8,hx2,hfu,her,List.length_append,Int.toNat_zero,CF]
    · obtain rfl:k=x.binds.length:=by omega
      have hk':x.binds.length=Bl x.binds n:=by rw [←hR,List.drop_eq_nil_of_le (Nat.le_refl _)]; simp [Bl]
      rw [hk'] at hni
      simp (disch:=omega) only [go_sem,Aa,hni,ho,e1,e2,e3,e4,e5,e6,e7,e8,hx2,hfu,her,List.length_append,Int.toNat_zero,CF]
theorem Qca (b:Bd) (xs:List Bd):(FP xs b).length=xs.length+1:=by rw [(Lj b xs).length_eq]; rfl
theorem Qdi (u:Sb) (acc:List Bd) (b:Bd):(Sb.mk acc).put ⟨b.var,b.term.ap u.look⟩=⟨If acc (match C6 u b with | some c=>[c] | none=>[])⟩:=by
 unfold Sb.put C6
 cases dec ((b.term.ap u.look).name=b.var) with
 | true=>rfl
 | false=>rfl
theorem Qdj {acc:List Bd} {b:Bd} (h:Hm b=true):(Sb.mk acc).put b=⟨FP acc b⟩:=by
 unfold Hm at h
 rw [Bool.and_eq_true,Bool.and_eq_true,Bool.not_eq_true'] at h
 unfold Sb.put
 rw [h.2.2]; rfl
theorem WC (s u:Sb) (hs:s.ok=true) (hu:u.ok=true) (hts:s.tame) (htu:u.tame):E 150 [s.sv,u.sv] []=some ((Ce s u).sv,[]):=by
  have hsl:=ok_len hs
  have hul:=ok_len hu
  have hend:If [] (Cj s u)=(Ce s u).binds:=Qa4 (Na (Sb.J1 hs) (Sb.J1 hu))
  have h00:((0:Int)=0)=True:=eq_self _
  have hsv:(Ce s u).sv=.agg [.arr ((Ce s u).binds.map Bd.d)]:=rfl
  rw [hsv]
  refine Ah Ov Fy (of_decide_eq_true rfl) ?_
  simp (disch:=omega) only [IJ,go_sem,Aa]
  refine go_loop (α:=Int × List Bd) (fun a=>⟨slots 63 0 [(2,.ptr 0 0),(3,.ptr 1 0),(4,.ptr 2 0),(5,.ptr 3 0),(6,.int .i64 a.1)],[.box 76 [.arr (s.binds.map Bd.d)],.box 76 [.arr (u.binds.map Bd.d)],.box 76 [.nil],.box 76 [if a.1=0 then .nil else .arr (a.2.map Bd.d)]]⟩) (fun a=>∃ k:Nat,a.1=k∧k≤s.binds.length∧If a.2 ((s.binds.drop k).filterMap (C6 u))=If [] (Hg s u)∧a.2.length≤k∧(k=0→a.2=[])) (fun a=>s.binds.length-a.1.toNat) (0,[]) ⟨0,rfl,Nat.zero_le _,by rw [List.drop_zero]; rfl,Nat.le_refl _,fun _=>rfl⟩ (by simp (disch:=omega) only [go_sem,Aa,h00,if_true]) ?_
  rintro ⟨i,acc⟩ ⟨k,hi,hk,hR,hal,hz⟩
  dsimp only at hi hR hal hz
  have hni:i.toNat=k:=by omega
  have hni1:(i+1).toNat=k+1:=by omega
  have hi1:(i+1=0)=False:=eq_false (by omega)
  rcases Nat.lt_or_ge k s.binds.length with hlt | hge
  · have hg:=get_at Bd.d hlt
    rw [Bd.d_eq] at hg
    have hval:=Dm (Sb.J2 hs hlt)
    have hc:=Of u hu htu s.binds[k].term (by have:=DT hval; omega)
    have hn9:=Sb.R2 hu hval
    have hp:=UA ⟨acc⟩ s.binds[k].var (s.binds[k].term.ap u.look) (by show acc.length≤_; omega) (by omega)
    rw [Qdi] at hp
    obtain ⟨acc2,ha2⟩:∃ acc2,acc2=If acc (match C6 u s.binds[k] with | some c=>[c] | none=>[]):=⟨_,rfl⟩
    rw [←ha2] at hp
    have hp:E 116 [.agg [.arr (acc.map Bd.d)],.str s.binds[k].var,(s.binds[k].term.ap u.look).sv] []=some (.agg [.arr (acc2.map Bd.d)],[]):=hp
    have hl2:acc2.length≤k+1:=by
      rw [ha2,(On _ acc).length_eq,List.length_append]
      cases C6 u s.binds[k] with
      | none=>simp only [List.length_nil]; omega
      | some c=>simp only [List.length_cons,List.length_nil]; omega
    have hR2:If acc2 ((s.binds.drop (k+1)).filterMap (C6 u))=If [] (Hg s u):=by
      rw [←hR,List.drop_eq_getElem_cons hlt,List.filterMap_cons,ha2]
      cases C6 u s.binds[k] with
      | none=>rfl
      | some c=>rfl
    rcases Nat.eq_zero_or_pos k with h0 | h0
    · have hi0:(i=0)=True:=eq_true (by omega)
      obtain rfl:=hz h0
      rw [List.map_nil] at hp
      simp (disch:=omega) only [go_sem,Aa,hni,hg,hc,hp,hi0,if_true,AG,Cu,BF]
      exact ⟨(i+1,acc2),⟨k+1,by dsimp only; omega,hlt,hR2,by dsimp only; omega,by intro h; omega⟩,by dsimp only; omega,by simp only [hi1,if_false,and_self]⟩
    · have hi0:(i=0)=False:=eq_false (by omega)
      simp (disch:=omega) only [go_sem,Aa,hni,hg,hc,hp,hi0,if_false,AG,Cu,BF]
      exact ⟨(i+1,acc2),⟨k+1,by dsimp only; omega,hlt,hR2,by dsimp only; omega,by intro h; omega⟩,by dsimp only; omega,by simp only [hi1,if_false,and_self]⟩
  rw [List.drop_eq_nil_of_le hge,List.filterMap_nil] at hR
  have hR:acc=If [] (Hg s u):=hR
  have hor:∃ fl:Bool,(if i=0 then SV.nil else SV.arr (acc.map Bd.d))=(bif fl then SV.arr (acc.map Bd.d) else SV.nil)∧(fl=false→acc=[]):=by
    rcases Nat.eq_zero_or_pos k with h0 | h0
    · exact ⟨false,by rw [if_pos (by omega)]; rfl,fun _=>hz h0⟩
    · exact ⟨true,by rw [if_neg (by omega)]; rfl,fun h=>by cases h⟩
  obtain ⟨fl,hfl,hfz⟩:=hor
  rw [hfl]
  simp (disch:=omega) only [go_sem,Aa,hni]
  refine go_loop (α:=Int × Bool × List Bd) (fun a=>⟨slots 63 0 [(2,.ptr 0 0),(3,.ptr 1 0),(4,.ptr 2 0),(5,.ptr 3 0),(7,.int .i64 a.1)],[.box 76 [.arr (s.binds.map Bd.d)],.box 76 [.arr (u.binds.map Bd.d)],.box 76 [.nil],.box 76 [bif a.2.1 then .arr (a.2.2.map Bd.d) else .nil]]⟩) (fun a=>∃ k:Nat,a.1=k∧k≤u.binds.length∧If a.2.2 ((u.binds.drop k).filter (fun b=>!D8 s.binds b.var))=If [] (Cj s u)∧a.2.2.length≤12+k∧(a.2.1=false→a.2.2=[])) (fun a=>u.binds.length-a.1.toNat) (0,fl,acc) ⟨0,rfl,Nat.zero_le _,by rw [List.drop_zero,hR,← QbY]; rfl,by dsimp only; omega,hfz⟩ (by cases fl <;> (simp (disch:=omega) only [go_sem,Aa])) ?_
  clear hR hfl hfz hal hz
  rintro ⟨i,fl,acc⟩ ⟨k,hi,hk,hR,hal,hfz⟩
  dsimp only at hi hR hal hfz
  have hni:i.toNat=k:=by omega
  have hni1:(i+1).toNat=k+1:=by omega
  rcases Nat.lt_or_ge k u.binds.length with hlt | hge
  · have hg:=get_at Bd.d hlt
    rw [Bd.d_eq] at hg
    have hbok:=Sb.J2 hu hlt
    have hval:=Dm hbok
    have hf:=Wc s u.binds[k].var (by omega)
    rw [QW (Sb.J1 hs)] at hf
    rw [List.drop_eq_getElem_cons hlt,List.filter_cons] at hR
    cases hh:D8 s.binds u.binds[k].var with
    | true =>
      rw [hh,if_pos rfl] at hf
      rw [hh,if_neg (by simp)] at hR
      cases fl with
      | false =>
        simp (disch:=omega) only [go_sem,Aa,hni,hg,hf,AG,Cu,BF]
        exact ⟨(i+1,false,acc),⟨k+1,by dsimp only; omega,hlt,hR,by dsimp only; omega,hfz⟩,by dsimp only; omega,by first | trivial | rfl⟩
      | true =>
        simp (disch:=omega) only [go_sem,Aa,hni,hg,hf,AG,Cu,BF]
        exact ⟨(i+1,true,acc),⟨k+1,by dsimp only; omega,hlt,hR,by dsimp only; omega,hfz⟩,by dsimp only; omega,by first | trivial | rfl⟩
    | false =>
      rw [hh,if_neg (by simp)] at hf
      rw [hh,if_pos (by simp)] at hR
      have hp:=UA ⟨acc⟩ u.binds[k].var u.binds[k].term (by show acc.length≤_; omega) (by have:=DT hval; omega)
      have hpt:(Sb.mk acc).put ⟨u.binds[k].var,u.binds[k].term⟩=⟨FP acc u.binds[k]⟩:=Qdj hbok
      rw [hpt] at hp
      have hp:E 116 [.agg [.arr (acc.map Bd.d)],.str u.binds[k].var,u.binds[k].term.sv] []=some (.agg [.arr ((FP acc u.binds[k]).map Bd.d)],[]):=hp
      have hl2:(FP acc u.binds[k]).length≤12+(k+1):=by rw [Qca]; omega
      cases fl with
      | false =>
        obtain rfl:=hfz rfl
        rw [List.map_nil] at hp
        simp (disch:=omega) only [go_sem,Aa,hni,hg,hf,hp,AG,Cu,BF]
        exact ⟨(i+1,true,FP [] u.binds[k]),⟨k+1,by dsimp only; omega,hlt,hR,hl2,by intro h; cases h⟩,by dsimp only; omega,by first | trivial | rfl⟩
      | true =>
        simp (disch:=omega) only [go_sem,Aa,hni,hg,hf,hp,AG,Cu,BF]
        exact ⟨(i+1,true,FP acc u.binds[k]),⟨k+1,by dsimp only; omega,hlt,hR,hl2,by intro h; cases h⟩,by dsimp only; omega,by first | trivial | rfl⟩
  · rw [List.drop_eq_nil_of_le hge,List.filter_nil] at hR
    have hR:acc=If [] (Cj s u):=hR
    rw [←hend,← hR]
    cases fl with
    | false =>
      obtain rfl:=hfz rfl
      simp (disch:=omega) only [go_sem,Aa,hni,List.map_nil]
    | true =>
      simp (disch:=omega) only [go_sem,Aa,hni,List.map_nil]
noncomputable def Sp (s u:Sb):Bool:=s.ok&&(u.ok&&Ck s u)
noncomputable def WD (s u:Sb):Sb:=bif Sp s u then Ce s u else ⟨[]⟩
theorem Sq (s u:Sb) (hts:s.tame) (htu:u.tame):E 115 [s.sv,u.sv] []=some (.tup [(WD s u).sv,.bool (Sp s u)],[]):=by
  have h1:=MS s hts
  have h2:=MS u htu
  have z1:(Sb.mk []).osv=.agg [.ref 0]:=rfl
  have z2:(Sb.mk []).obs=[.row 139 3 []]:=rfl
  have z3:(Sb.mk []).sv=.agg [.arr []]:=rfl
  cases hs:s.ok with
  | false =>
    have e:Sp s u=false:=by unfold Sp; rw [hs]; rfl
    rw [hs] at h1
    unfold WD
    rw [e]
    simp only [cond_false,z1,z2,z3]
    refine Ah BD Br (of_decide_eq_true rfl) ?_
    simp (disch:=omega) only [Bp,go_sem,Aa,h1,h2,Cc]
  | true =>
    rw [hs] at h1
    cases hu:u.ok with
    | false =>
      have e:Sp s u=false:=by unfold Sp; rw [hu,Bool.false_and,Bool.and_false]
      rw [hu] at h2
      unfold WD
      rw [e]
      simp only [cond_false,z1,z2,z3]
      refine Ah BD Br (of_decide_eq_true rfl) ?_
      simp (disch:=omega) only [Bp,go_sem,Aa,h1,h2,Cc]
    | true =>
      rw [hu] at h2
      have e:Sp s u=Ck s u:=by unfold Sp; rw [hs,hu]; rfl
      have h3:=WC s u hs hu hts htu
      unfold WD
      rw [e]
      have h4:=MS (Ce s u) (T7 hs hu)
      have z6:(Ce s u).sv=.agg [.arr ((Ce s u).binds.map Bd.d)]:=rfl
      have e2:Ck s u=(Ce s u).ok:=rfl
      rw [←e2] at h4
      rw [z6] at h3 h4
      cases hq:Ck s u with
      | false =>
        rw [hq] at h4
        simp only [cond_false,z3]
        refine Ah BD Br (of_decide_eq_true rfl) ?_
        simp (disch:=omega) only [Bp,go_sem,Aa,h1,h2,h3,h4,Cc,Fy]
      | true =>
        rw [hq] at h4
        simp only [cond_true,z6]
        refine Ah BD Br (of_decide_eq_true rfl) ?_
        simp (disch:=omega) only [Bp,go_sem,Aa,h1,h2,h3,h4,Cc,Fy]
noncomputable def Hn:List ByteArray→ByteArray→List ByteArray
 | [],n=>[n]
 | x :: xs,n=>bif strLt x n then x :: Hn xs n else bif dec (x=n) then x :: xs else n :: x :: xs
noncomputable def Db:List ByteArray→ByteArray→Nat
 | [],_=>0
 | x :: xs,n=>bif strLt x n then Db xs n+1 else 0
theorem WE:∀ {xs:List ByteArray} {n m:ByteArray},m∈Hn xs n ↔ m∈xs∨m=n
  | [],n,m=>by simp [Hn]
  | x :: xs,n,m=>by
    rw [Hn]
    cases strLt x n with
    | true=>rw [cond_true,List.mem_cons,WE,List.mem_cons,or_assoc]
    | false =>
      rw [cond_false]
      by_cases h:x=n
      · rw [Ay h,cond_true]
        exact ⟨.inl,fun h'=>h'.elim id fun e=>by subst e; subst h; simp⟩
      · rw [A8 h,cond_false,List.mem_cons]
        exact or_comm
theorem WF:∀ (xs:List ByteArray) (n:ByteArray),(Hn xs n).length≤xs.length+1
  | [],n=>by simp [Hn]
  | x :: xs,n=>by
    have h:=WF xs n
    rw [Hn]
    cases strLt x n with
    | true=>simp only [cond_true,List.length_cons]; omega
    | false =>
      rw [cond_false]
      cases dec (x=n) with
      | true=>simp only [cond_true,List.length_cons]; omega
      | false=>simp only [cond_false,List.length_cons]; omega
theorem ZA:∀ (xs:List ByteArray) (n:ByteArray),Db xs n≤xs.length
 | [],n=>by simp [Db]
 | x :: xs,n=>by
  have h:=ZA xs n
  rw [Db]
  cases strLt x n with
  | true=>simp only [cond_true,List.length_cons]; omega
  | false=>simp only [cond_false,List.length_cons]; omega
theorem R4:∀ {xs:List ByteArray} {n:ByteArray} (h:Db xs n<xs.length),xs[Db xs n]=n→Hn xs n=xs
  | [],n,h,_=>by simp at h
  | x :: xs,n,h,e=>by
    rw [Hn]
    cases hq:strLt x n with
    | true =>
      simp only [Db,hq,cond_true,List.length_cons,List.getElem_cons_succ] at h e
      rw [cond_true,R4 (by omega) e]
    | false =>
      simp only [Db,hq,cond_false,List.getElem_cons_zero] at e
      rw [cond_false,Ay e]; rfl
theorem R5:∀ {xs:List ByteArray} {n:ByteArray},(∀ h:Db xs n<xs.length,¬ xs[Db xs n]=n)→Hn xs n=xs.take (Db xs n)++n :: xs.drop (Db xs n)
  | [],n,_=>by simp [Hn,Db]
  | x :: xs,n,h=>by
    rw [Hn]
    cases hq:strLt x n with
    | true =>
      simp only [Db,hq,cond_true,List.length_cons,List.getElem_cons_succ] at h ⊢
      rw [R5 fun h'=>h (by omega)]
      simp
    | false =>
      simp only [Db,hq,cond_false,List.getElem_cons_zero] at h ⊢
      rw [A8 (h (by simp))]
      simp
theorem Qa7 {xs:List ByteArray} {n:ByteArray} {k:Nat} (h:k+Db (xs.drop k) n=Db xs n) (hk:k<xs.length):(strLt xs[k] n=true∧k+1+Db (xs.drop (k+1)) n=Db xs n)∨(strLt xs[k] n=false∧k=Db xs n):=by
 rw [List.drop_eq_getElem_cons hk,Db] at h
 cases hq:strLt xs[k] n with
 | true=>rw [hq,cond_true] at h; exact .inl ⟨rfl,by omega⟩
 | false=>rw [hq,cond_false] at h; exact .inr ⟨rfl,by omega⟩
theorem ot_take (xs:List ByteArray) (k:Nat):((xs.map fun s=>[D.str s]).take k).map (fun x=>x.map D.ot)=(xs.take k).map fun s=>[OT.str s]:=by
 rw [←List.map_take,List.map_map]; rfl
theorem ot_drop (xs:List ByteArray) (k:Nat):((xs.map fun s=>[D.str s]).drop k).map (fun x=>x.map D.ot)=(xs.drop k).map fun s=>[OT.str s]:=by
 rw [←List.map_drop,List.map_map]; rfl
theorem ZB (xs:List ByteArray):((xs.map fun s=>[OT.str s]).all fun l=>l.length == 1)=true:=by
 rw [List.all_map,List.all_eq_true]
 intro x _; rfl
theorem Qcb (xs:List ByteArray):((xs.map fun s=>[D.str s]).all fun l=>l.length == 1)=true:=by
 rw [List.all_map,List.all_eq_true]
 intro x _; rfl
def Nt:SC:=(.seq (.reg [⟨some 4,none,.mv (.c .nil)⟩]) (.seq (.reg [⟨some 5,none,.mv (.c (.int .i64 0))⟩]) (.seq (.block 0 (.loop [1,1,0,0,0,1,0,0,0,0,0,0,0,0,0,0,0,0,0,0,0,0,0,0,0,0,0,0,0,0,0,0,0,0,0,0,0,0,0,0,0,0,0,0,0] (.seq (.seq (.reg [⟨some 6,none,.mv (.t 5)⟩,⟨some 7,none,.mv (.t 0)⟩,⟨some 8,none,.len false (.t 7)⟩,⟨some 9,none,.bin .lss false (.t 6) (.t 8)⟩,⟨some 10,none,.mv (.t 9)⟩,⟨(some 11),(some (10,true)),(.mv (.t 0))⟩,⟨(some 12),(some (10,true)),(.mv (.t 5))⟩,⟨(some 13),(some (10,true)),(.iaddr 1 (.t 11) (.t 12))⟩,⟨(some 14),(some (10,true)),(.load false 1 (.t 13))⟩,⟨(some 15),(some (10,true)),(.mv (.t 1))⟩,⟨(some 16),(some (10,true)),(.bin .lss false (.t 14) (.t 15))⟩,⟨some 17,none,.pick (.t 10) (.t 16) (.c (.bool false))⟩]) (.cond (.t 17) .skip (.exit 0))) (.block 1 (.reg [⟨some 18,none,.mv (.t 5)⟩,⟨some 19,none,.bin .add false (.t 18) (.c (.int .i64 1))⟩,⟨some 5,none,.mv (.t 19)⟩]))))) (.seq (.seq (.reg [⟨some 20,none,.mv (.t 5)⟩,⟨some 21,none,.mv (.t 0)⟩,⟨some 22,none,.len false (.t 21)⟩,⟨some 23,none,.bin .lss false (.t 20) (.t 22)⟩,⟨some 24,none,.mv (.t 23)⟩,⟨(some 25),(some (24,true)),(.mv (.t 0))⟩,⟨(some 26),(some (24,true)),(.mv (.t 5))⟩,⟨(some 27),(some (24,true)),(.iaddr 1 (.t 25) (.t 26))⟩,⟨(some 28),(some (24,true)),(.load false 1 (.t 27))⟩,⟨(some 29),(some (24,true)),(.mv (.t 1))⟩,⟨(some 30),(some (24,true)),(.bin .eql false (.t 28) (.t 29))⟩,⟨some 31,none,.pick (.t 24) (.t 30) (.c (.bool false))⟩]) (.cond (.t 31) (.seq (.reg [⟨some 32,none,.mv (.t 0)⟩,⟨some 4,none,.mv (.t 32)⟩]) .ret) .skip)) (.seq (.dreg [[],[],[],[1,2],[0,3,1,2],[],[5],[4,0,3,1,2,6,5],[],[],[8,9],[7,4,0,3,1,2,6,5,10,8,9],[11,7,4,0,3,1,2,6,5,10,8,9]] [⟨(some 33),none,(.mkrow 9 1 [(.str ⟨#[]⟩)] 0 [])⟩,⟨some 34,none,.mv (.t 0)⟩,⟨some 35,none,.mv (.t 5)⟩,⟨some 36,none,.slice false 1 (.t 34) none (some (.t 35))⟩,⟨(some 37),none,(.append 9 1 16 [(.str ⟨#[]⟩)] (.t 33) (.t 36))⟩,⟨some 38,none,.mv (.t 1)⟩,⟨(some 39),none,(.mkrow 9 1 [(.str ⟨#[]⟩)] 1 [(0,(.t 38))])⟩,⟨(some 40),none,(.append 9 1 16 [(.str ⟨#[]⟩)] (.t 37) (.t 39))⟩,⟨some 41,none,.mv (.t 0)⟩,⟨some 42,none,.mv (.t 5)⟩,⟨some 43,none,.slice false 1 (.t 41) (some (.t 42)) none⟩,⟨(some 44),none,(.append 9 1 16 [(.str ⟨#[]⟩)] (.t 40) (.t 43))⟩,⟨some 4,none,.mv (.t 44)⟩]) .ret)))))
theorem UC:codeOf Tryz.prog 173=some ⟨45,Nt,[(.tmp 4)]⟩:=by kernel_rfl
theorem Nu:modes 173=⟨[],.frz,none,false⟩:=by unfold modes; rfl
theorem Qdk (xs:List ByteArray) (n:ByteArray) (hl:xs.length≤1048576):E 173 [.arr (xs.map fun s=>[D.str s]),.str n] []=some (.arr ((Hn xs n).map fun s=>[D.str s]),[]):=by
  have e1:=ot_take xs (Db xs n)
  have e2:=ot_drop xs (Db xs n)
  have e3:=ZB (xs.take (Db xs n))
  have e4:=ZB (xs.drop (Db xs n))
  have e5:=Qcb xs
  have l1:=ZA xs n
  have e6:(xs.map fun s=>[D.str s]).take xs.length=xs.map fun s=>[D.str s]:=List.take_of_length_le (by simp)
  have e7:(xs.take (Db xs n)).length=Db xs n:=by rw [List.length_take]; omega
  have e8:(xs.drop (Db xs n)).length=xs.length-Db xs n:=List.length_drop
  have hf:∀ ys:List ByteArray,ys=Hn xs n→(ys.map fun s=>[OT.str s])=(Hn xs n).map fun s=>[OT.str s]:=fun ys h=>by rw [h]
  refine Ah UC Nu (of_decide_eq_true rfl) ?_
  simp (disch:=omega) only [Nt,go_sem,Aa]
  refine go_loop (α:=Int) (fun a=>⟨slots 45 0 [(0,.arr (xs.map fun s=>[D.str s])),(1,.str n),(5,.int .i64 a)],[]⟩) (fun a=>∃ k:Nat,a=k∧k≤(xs).length∧k+Db (xs.drop k) n=Db xs n) (fun a=>(xs).length-(a).toNat) 0 ⟨0,rfl,Nat.zero_le _,by rw [List.drop_zero,Nat.zero_add]⟩ (by simp (disch:=omega) only [go_sem,Aa]) ?_
  rintro i ⟨k,hi,hk,hR⟩
  have hni:i.toNat=k:=by omega
  have hni1:(i+1).toNat=k+1:=by omega
  rcases Nat.lt_or_ge k (xs).length with hlt | hge
  · have hg:=get_at (fun s=>[D.str s]) hlt
    rcases Qa7 hR hlt with ⟨q,hR'⟩ | ⟨q,hk'⟩
    · simp (disch:=omega) only [go_sem,Aa,hni,hg,q]
      exact ⟨i+1,⟨k+1,by omega,hlt,hR'⟩,by omega,by first | trivial | rfl⟩
    · subst hk'
      by_cases h0:xs[Db xs n]=n
      · have hi0:=R4 hlt h0
        rw [hi0]
        simp (disch:=omega) only [go_sem,Aa,hni,hg,q,h0,e6,GV,Dr]
      · have hi0:=R5 (fun _=>h0)
        have hx:(xs.take (Db xs n)).map (fun s=>[OT.str s])++([[OT.str n]]++(xs.drop (Db xs n)).map (fun s=>[OT.str s]))=(Hn xs n).map fun s=>[OT.str s]:=by rw [hi0]; simp
        have hx2:(xs.take (Db xs n)).map (fun s=>[OT.str s])++[[OT.str n]]++(xs.drop (Db xs n)).map (fun s=>[OT.str s])=(Hn xs n).map fun s=>[OT.str s]:=by rw [hi0]; simp
        simp (disch:=omega) only [go_sem,Aa,hni,hg,q,h0,e1,e2,e3,e4,e5,e6,e7,e8,hx2,List.length_append,Int.toNat_zero]
  · obtain rfl:k=xs.length:=by omega
    have hk':xs.length=Db xs n:=by rw [←hR,List.drop_eq_nil_of_le (Nat.le_refl _)]; simp [Db]
    have hi0:=R5 (xs:=xs) (n:=n) (fun h=>by omega)
    have hx2:(xs.take (Db xs n)).map (fun s=>[OT.str s])++[[OT.str n]]++(xs.drop (Db xs n)).map (fun s=>[OT.str s])=(Hn xs n).map fun s=>[OT.str s]:=by rw [hi0]; simp
    rw [hk'] at hni
    simp (disch:=omega) only [go_sem,Aa,hni,e1,e2,e3,e4,e5,e6,e7,e8,hx2,List.length_append,Int.toNat_zero]
noncomputable def JF (l ns:List ByteArray):List ByteArray:=ns.foldl Hn l
theorem R6:∀ (ns l:List ByteArray),(JF l ns).length≤l.length+ns.length
 | [],l=>by simp [JF]
 | n :: ns,l=>by
  have h:=R6 ns (Hn l n)
  have h2:=WF l n
  simp only [JF,List.foldl_cons,List.length_cons] at h ⊢
  omega
theorem WG:∀ {ns l:List ByteArray} {m:ByteArray},m∈JF l ns ↔ m∈l∨m∈ns
 | [],l,m=>by simp [JF]
 | n :: ns,l,m=>by
  have h:=WG (ns:=ns) (l:=Hn l n) (m:=m)
  simp only [JF,List.foldl_cons] at h ⊢
  rw [h,WE]
  simp only [List.mem_cons]
  exact or_assoc
theorem Qcc (l a b:List ByteArray):JF l (a++b)=JF (JF l a) b:=List.foldl_append
def Ii:SC:=(.seq (.reg [⟨some 3,none,.boxv 71 2 (.t 1)⟩,⟨some 4,none,.mv (.c .nil)⟩]) (.seq (.seq (.reg [⟨some 6,none,.faddr 0 (.t 3)⟩,⟨some 7,none,.load false 1 (.t 6)⟩,⟨some 8,none,.call 77 [(.t 7)]⟩]) (.cond (.t 8) (.seq (.reg [⟨some 9,none,.mv (.t 0)⟩,⟨some 10,none,.faddr 0 (.t 3)⟩,⟨some 11,none,.load false 1 (.t 10)⟩,⟨some 12,none,.call 173 [(.t 9),(.t 11)]⟩,⟨some 4,none,.mv (.t 12)⟩]) .ret) .skip)) (.seq (.seq (.reg [⟨some 5,none,.mv (.c (.int .i64 0))⟩]) (.block 0 (.loop [1,0,0,1,0,1,0,0,0,0,0,0,0,0,0,0,0,0,0,0,0,0,0,0,0,0,0,0] (.seq (.seq (.reg [⟨some 13,none,.mv (.t 5)⟩,⟨some 14,none,.faddr 1 (.t 3)⟩,⟨some 15,none,.load false 1 (.t 14)⟩,⟨some 16,none,.len false (.t 15)⟩,⟨some 17,none,.bin .lss false (.t 13) (.t 16)⟩]) (.cond (.t 17) .skip (.exit 0))) (.seq (.block 1 (.reg [⟨some 20,none,.mv (.t 0)⟩,⟨some 21,none,.faddr 1 (.t 3)⟩,⟨some 22,none,.load false 1 (.t 21)⟩,⟨some 23,none,.mv (.t 5)⟩,⟨some 24,none,.iaddr 2 (.t 22) (.t 23)⟩,⟨some 25,none,.load true 2 (.t 24)⟩,⟨some 26,none,.call 149 [(.t 20),(.t 25)]⟩,⟨some 0,none,.mv (.t 26)⟩])) (.reg [⟨some 18,none,.mv (.t 5)⟩,⟨some 19,none,.bin .add false (.t 18) (.c (.int .i64 1))⟩,⟨some 5,none,.mv (.t 19)⟩])))))) (.seq (.reg [⟨some 27,none,.mv (.t 0)⟩,⟨some 4,none,.mv (.t 27)⟩]) .ret))))
theorem LC:codeOf Tryz.prog 149=some ⟨28,Ii,[(.tmp 4)]⟩:=by kernel_rfl
theorem F7:modes 149=⟨[],.asis,none,false⟩:=by unfold modes; rfl
def LE:SC:=(.seq (.reg [⟨some 1,none,.boxv 71 2 (.t 0)⟩,⟨some 2,none,.mv (.c .nil)⟩]) (.seq (.reg [⟨(some 3),none,(.mkrow 9 1 [(.str ⟨#[]⟩)] 0 [])⟩,⟨some 4,none,.load true 2 (.t 1)⟩,⟨some 5,none,.call 149 [(.t 3),(.t 4)]⟩,⟨some 2,none,.mv (.t 5)⟩]) .ret))
theorem Sr:codeOf Tryz.prog 114=some ⟨6,LE,[(.tmp 2)]⟩:=by kernel_rfl
theorem Ij:modes 114=⟨[],.frz,none,false⟩:=by unfold modes; rfl
abbrev Qcd (x:Tm):Prop:=∀ l:List ByteArray,l.length+x.nodes≤1048576→E 149 [.arr (l.map fun s=>[D.str s]),x.sv] []=some (.arr ((JF l x.vs).map fun s=>[D.str s]),[])
theorem Qa8 (x:Tm) (ih:∀ y∈x.args,Qcd y):Qcd x:=by
 intro l hn
 have hl:=Tm.length_le x.args
 have hne:=Tm.An x
 have hvs:=Tm.Gl x
 have hp:=Qdk l x.name (by omega)
 cases hvv:Aq x.name with
 | true =>
  rw [hvv] at hvs
  have e:JF l x.vs=Hn l x.name:=by rw [hvs]; rfl
  rw [e]
  refine Ah LC F7 (of_decide_eq_true rfl) ?_
  simp (disch:=omega) only [Ii,go_sem,Aa,hvv,hp,Af,Am,Nu]
 | false =>
  rw [hvv] at hvs
  simp only [cond_false] at hvs
  rw [hvs]
  refine Ah LC F7 (of_decide_eq_true rfl) ?_
  simp (disch:=omega) only [Ii,go_sem,Aa,hvv,Af,Am]
  refine go_loop (α:=Int × (List ByteArray)) (fun a=>⟨slots 28 0 [(0,.arr ((a.2).map fun s=>[D.str s])),(3,.ptr 0 0),(5,.int .i64 (a.1))],[.box 71 [.str x.name,.arr (x.args.map Tm.d)]]⟩) (fun a=>∃ k:Nat,a.1=k∧k≤(x.args).length∧JF (a.2) (Tm.vsL (x.args.drop k))=JF l (Tm.vsL x.args)∧(a.2).length+Tm.Bb (x.args.drop k)≤1048576) (fun a=>(x.args).length-(a.1).toNat) (0,l) ⟨0,rfl,Nat.zero_le _,by rw [List.drop_zero],by rw [List.drop_zero]; dsimp only; omega⟩ (by simp (disch:=omega) only [go_sem,Aa]) ?_
  rintro ⟨i,acc⟩ ⟨k,hi,hk,hR⟩
  dsimp only at hi hR
  have hni:i.toNat=k:=by omega
  have hni1:(i+1).toNat=k+1:=by omega
  rcases Nat.lt_or_ge k (x.args).length with hlt | hge
  ·have hg:=get_at Tm.d hlt
   rw [Tm.d_eq] at hg
   obtain ⟨hR1,hR2⟩:=hR
   rw [List.drop_eq_getElem_cons hlt,Tm.vsL,Qcc] at hR1
   rw [List.drop_eq_getElem_cons hlt,Tm.Bb] at hR2
   have hc:=ih x.args[k] (List.getElem_mem hlt) acc (by omega)
   have hlen:=R6 x.args[k].vs acc
   have hvl:=Tm.vs_len x.args[k]
   simp (disch:=omega) only [go_sem,Aa,hni,hg,hc,F7]
   exact ⟨(i+1,JF acc x.args[k].vs),⟨k+1,by dsimp only; omega,hlt,hR1,by dsimp only; omega⟩,by dsimp only; omega,by first | trivial | rfl⟩
  ·rw [List.drop_eq_nil_of_le hge,Tm.vsL] at hR
   obtain ⟨hR1,hR2⟩:=hR
   have hR1:acc=JF l (Tm.vsL x.args):=hR1
   rw [←hR1]
   simp (disch:=omega) only [go_sem,Aa,hni]
theorem WH (x:Tm):Qcd x:=Qa8 x fun y hy=>WH y
termination_by SizeOf.sizeOf x
decreasing_by exact Tm.Aw hy
theorem Qce (x:Tm) (hn:x.nodes≤1048576):E 114 [x.sv] []=some (.arr ((JF [] x.vs).map fun s=>[D.str s]),[]):=by
 have h:=WH x [] (by simpa using hn)
 rw [List.map_nil] at h
 refine Ah Sr Ij (of_decide_eq_true rfl) ?_
 simp (disch:=omega) only [LE,go_sem,Aa,h,F7]
theorem Sb.WI {s:Sb} {n:ByteArray} {t:Tm} (h:s.look n=some t):(⟨n,t⟩:Bd)∈s.binds:=by
 cases hh:D8 s.binds n with
 | false=>rw [Sb.P4 hh] at h; cases h
 | true =>
  have hlt:=Hz hh
  rw [Sb.Ku hh hlt] at h
  obtain rfl:=Option.some.inj h
  have e:=Ux hh hlt
  have h1:=List.getElem_mem hlt
  have h2:∀ c:Bd,c.var=n→(⟨n,c.term⟩:Bd)=c:=fun c e=>by rw [←e]
  rw [h2 _ e]; exact h1
theorem Sb.IK {s:Sb} (hs:MT s.binds) {n:ByteArray}:s.look n=none ↔ ∀ b∈s.binds,b.var≠n:=by
 cases hh:D8 s.binds n with
 | false =>
  rw [Sb.P4 hh]
  refine ⟨fun _ b hb e=>?_,fun _=>rfl⟩
  rw [Wx hs] at hh
  exact List.any_eq_false.1 hh b hb (Ay e)
 | true =>
  have hlt:=Hz hh
  rw [Sb.Ku hh hlt]
  exact ⟨fun h=>(by cases h),fun h=>absurd (Ux hh hlt) (h _ (List.getElem_mem hlt))⟩
theorem Sb.KE {s:Sb} (hs:MT s.binds) {b:Bd} (h:b∈s.binds):s.look b.var=some b.term:=by
 cases hq:s.look b.var with
 | none=>exact absurd rfl ((Sb.IK hs).1 hq b h)
 | some t =>
  have h2:=Sb.WI hq
  obtain ⟨i,hi,e1⟩:=List.getElem_of_mem h
  obtain ⟨j,hj,e2⟩:=List.getElem_of_mem h2
  have hij:i=j:=(List.getElem_inj (h₀:=by simpa using hi) (h₁:=by simpa using hj) (Mh hs)).1 (by simp only [List.getElem_map,e1,e2])
  subst hij
  rw [e1] at e2
  rw [e2]
theorem Tm.Qcf {f:ByteArray→Option Tm} (x:Tm) {v:ByteArray} (h:v∈(x.ap f).vs):(v∈x.vs∧f v=none)∨∃ w∈x.vs,∃ t,f w=some t∧v∈t.vs:=by
 rw [Tm.H0] at h
 by_cases hv:Aq x.name=true
 ·rw [if_pos hv] at h
  have hx:x.vs=[x.name]:=by rw [Tm.Gl,hv]; rfl
  cases hq:f x.name with
  | none =>
   rw [hq,Option.getD_none,Tm.Gl] at h
   have h:v∈(bif Aq x.name then [x.name] else _):=h
   rw [hv,cond_true] at h
   have e:v=x.name:=by simpa using h
   subst e
   exact .inl ⟨by rw [hx]; simp,hq⟩
  | some t =>
   rw [hq,Option.getD_some] at h
   exact .inr ⟨x.name,by rw [hx]; simp,t,hq,h⟩
 ·rw [if_neg hv] at h
  have hv0:Aq x.name=false:=by simpa using hv
  have hx:x.vs=Tm.vsL x.args:=by rw [Tm.Gl,hv0]; rfl
  rw [Tm.Gl] at h
  have h:v∈(bif Aq x.name then [x.name] else Tm.vsL (Tm.apL f x.args)):=h
  rw [hv0,cond_false,Tm.MU,Tm.vsL_mem] at h
  obtain ⟨z,hz,hvz⟩:=h
  obtain ⟨y,hy,rfl⟩:=List.mem_map.1 hz
  rw [hx]
  rcases Tm.Qcf y hvz with ⟨h1,h2⟩ | ⟨w,h1,t,h2,h3⟩
  ·exact .inl ⟨Tm.vsL_mem.2 ⟨y,hy,h1⟩,h2⟩
  ·exact .inr ⟨w,Tm.vsL_mem.2 ⟨y,hy,h1⟩,t,h2,h3⟩
termination_by SizeOf.sizeOf x
decreasing_by exact Tm.Aw hy
theorem WJ {α:Type} {g:α→α}:∀ {xs:List α},(∀ x∈xs,g x=x)→xs.map g=xs
 | [],_=>rfl
 | x :: xs,h=>by rw [List.map_cons,h x (by simp),WJ fun y hy=>h y (by simp [hy])]
theorem Tm.Qcg (x:Tm):Tm.mk x.name x.args=x:=by obtain ⟨n,a⟩:=x; rfl
theorem Tm.ZC {f:ByteArray→Option Tm} (x:Tm) (hx:x.names=true) (h:∀ v∈x.vs,f v=none):x.ap f=x:=by
 rw [Tm.H0]
 by_cases hv:Aq x.name=true
 ·have hx0:=Tm.Fu hx hv
  rw [if_pos hv,h x.name (by rw [Tm.Gl,hv]; simp),Option.getD_none]
  conv=>rhs; rw [←Tm.Qcg x,hx0]
 ·have hv0:Aq x.name=false:=by simpa using hv
  rw [if_neg hv,Tm.MU,WJ fun y hy=>Tm.ZC y (Tm.ED hx hy) fun v hvv=>h v (by
   rw [Tm.Gl,hv0,cond_false]
   exact Tm.vsL_mem.2 ⟨y,hy,hvv⟩),Tm.Qcg]
termination_by SizeOf.sizeOf x
decreasing_by exact Tm.Aw hy
def Sb.idem (s:Sb):Prop:=∀ w t,s.look w=some t→∀ v∈t.vs,s.look v=none
theorem Sb.UD {s:Sb} (hi:s.idem) {x:Tm} {v:ByteArray} (h:v∈(x.ap s.look).vs):s.look v=none:=by
 rcases Tm.Qcf x h with ⟨_,h2⟩ | ⟨w,_,t,h2,h3⟩
 ·exact h2
 ·exact hi w t h2 v h3
theorem Tm.WK {x y:Tm} (hx:x.expr=true) (hy:y∈x.args):y.expr=true:=by
  have h1:=Tm.QY hx
  have h2:=Tm.I7 hx hy
  unfold Tm.small at h1
  rw [Bool.and_eq_true,decide_eq_true_eq,decide_eq_true_eq] at h1
  have n1:=Tm.AU hy
  have n2:=Tm.An x
  have d2:=Tm.Le x
  have d1:y.deep≤Tm.Ef x.args:=by
    have key:∀ xs:List Tm,y∈xs→y.deep≤Tm.Ef xs:=by
      intro xs
      induction xs with
      | nil=>intro h; cases h
      | cons z zs ih =>
        intro h
        rw [Tm.Ef]
        rcases List.mem_cons.1 h with rfl | h
        · exact Nat.le_max_left _ _
        · exact Nat.le_trans (ih h) (Nat.le_max_right _ _)
    exact key _ hy
  unfold Tm.expr Tm.valid Tm.small
  rw [h2,decide_eq_true (by omega),decide_eq_true (by omega)]; rfl
noncomputable def Az (x y:Tm):Bd:=bif Aq x.name&&!(Aq y.name&&strLt x.name y.name) then ⟨x.name,y⟩ else ⟨y.name,x⟩
noncomputable def BL (b:Bd):Bool:=!dec (b.var∈b.term.vs)&&(Sb.mk [b]).ok
noncomputable def BB:Nat→Sb→List (Tm × Tm)→Option (Option Sb)
  | 0,_,_=>none
  | n + 1,s,l=>match l with
    | []=>some (some s)
    | p :: l=>bif BO s p.1&&BO s p.2 then
        (bif dec (AK s p.1=AK s p.2) then BB n s l
        else bif Aq (AK s p.1).name || Aq (AK s p.2).name then
          (bif BL (Az (AK s p.1) (AK s p.2))&&Ck s ⟨[Az (AK s p.1) (AK s p.2)]⟩ then BB n (Ce s ⟨[Az (AK s p.1) (AK s p.2)]⟩) l else some none)
        else bif dec ((AK s p.1).name=(AK s p.2).name)&&dec ((AK s p.1).args.length=(AK s p.2).args.length) then BB n s ((AK s p.1).args.zip (AK s p.2).args++l)
        else some none)
      else some none
def Ho:List (Tm × Tm)→Nat
 | []=>0
 | p :: l=>p.1.nodes+Ho l
structure uInv (s:Sb) (l:List (Tm × Tm)):Prop where
 ok:s.ok=true
 idem:s.idem
 ex:∀ p∈l,p.1.expr=true∧p.2.expr=true
 pq:∃ P Q,l=P++Q∧(∀ p∈P,p.1.ap s.look=p.1)∧Ho P≤30∧Q.length≤1+30*s.binds.length
theorem R7:∀ P:List (Tm × Tm),P.length≤Ho P
 | []=>Nat.le_refl _
 | p :: P=>by
  have h1:=R7 P
  have h2:=Tm.Lc p.1
  rw [Ho,List.length_cons]; omega
theorem uInv.len {s:Sb} {l:List (Tm × Tm)} (h:uInv s l):l.length≤391:=by
 obtain ⟨P,Q,rfl,_,h2,h3⟩:=h.pq
 have h1:=R7 P
 have h4:=ok_len h.ok
 rw [List.length_append]; omega
theorem uInv.pop {s:Sb} {p:Tm × Tm} {l:List (Tm × Tm)} (h:uInv s (p :: l)):uInv s l:=by
 refine ⟨h.ok,h.idem,fun q hq=>h.ex q (by simp [hq]),?_⟩
 obtain ⟨P,Q,e,h1,h2,h3⟩:=h.pq
 cases P with
 | nil =>
  cases Q with
  | nil=>cases e
  | cons q Q =>
   simp only [List.nil_append,List.cons.injEq] at e
   exact ⟨[],Q,e.2,fun _ h=>by simp at h,by rw [Ho]; omega,by simp only [List.length_cons] at h3; omega⟩
 | cons q P =>
  simp only [List.cons_append,List.cons.injEq] at e
  rw [Ho] at h2
  exact ⟨P,Q,e.2,fun z hz=>h1 z (by simp [hz]),by omega,h3⟩
theorem R8:∀ (xs ys:List Tm),Ho (xs.zip ys)≤Tm.Bb xs
 | [],ys=>by simp [Ho]
 | x :: xs,[]=>by simp [Ho]
 | x :: xs,y :: ys=>by
  have h:=R8 xs ys
  rw [List.zip_cons_cons,Ho,Tm.Bb]
  show x.nodes+_≤_
  omega
theorem WL:∀ (a b:List (Tm × Tm)),Ho (a++b)=Ho a+Ho b
 | [],b=>by simp [Ho]
 | p :: a,b=>by rw [List.cons_append,Ho,Ho,WL a b]; omega
theorem Cv {s:Sb} {x:Tm} (h:BO s x=true):(AK s x).expr=true:=by
 rw [DQ h]
 unfold BO at h
 rw [Bool.and_eq_true,Bool.and_eq_true] at h
 have h2:(x.ap s.look).expr=(x.ap s.look).small:=Tm.QbJ (Sb.ES h.1) x h.2.1
 rw [h2]; exact h.2.2
theorem P5 {α β:Type} {a:α} {b:β}:∀ {xs:List α} {ys:List β},(a,b)∈xs.zip ys→a∈xs∧b∈ys
 | [],ys,h=>by simp at h
 | x :: xs,[],h=>by simp at h
 | x :: xs,y :: ys,h=>by
  rw [List.zip_cons_cons] at h
  rcases List.mem_cons.1 h with h | h
  ·simp only [Prod.mk.injEq] at h; exact ⟨by rw [h.1]; simp,by rw [h.2]; simp⟩
  ·obtain ⟨h1,h2⟩:=P5 h; exact ⟨by simp [h1],by simp [h2]⟩
theorem T8 {s:Sb} (hi:s.idem) {x:Tm} (hx:BO s x=true) (hv:Aq (AK s x).name=false) {y:Tm} (hy:y∈(AK s x).args):y.ap s.look=y:=by
 have he:=Cv hx
 refine Tm.ZC y (Tm.I7 he hy) fun v hvv=>?_
 have h1:v∈(AK s x).vs:=by
  rw [Tm.Gl,hv,cond_false]
  exact Tm.vsL_mem.2 ⟨y,hy,hvv⟩
 rw [DQ hx] at h1
 exact Sb.UD hi h1
theorem uInv.dec {s:Sb} {p:Tm × Tm} {l:List (Tm × Tm)} (h:uInv s (p :: l)) (h1:BO s p.1=true) (h2:BO s p.2=true) (hv:Aq (AK s p.1).name=false):uInv s ((AK s p.1).args.zip (AK s p.2).args++l):=by
  have e1:=Cv h1
  have e2:=Cv h2
  have hn:=Tm.Ar e1
  have hn2:=Tm.An (AK s p.1)
  have hz:=R8 (AK s p.1).args (AK s p.2).args
  refine ⟨h.ok,h.idem,fun q hq=>?_,?_⟩
  · rcases List.mem_append.1 hq with hq | hq
    · obtain ⟨a,b⟩:=q
      obtain ⟨k1,k2⟩:=P5 hq
      exact ⟨Tm.WK e1 k1,Tm.WK e2 k2⟩
    · exact h.ex q (by simp [hq])
  · obtain ⟨P,Q,e,g1,g2,g3⟩:=h.pq
    have hfix:∀ q∈(AK s p.1).args.zip (AK s p.2).args,q.1.ap s.look=q.1:=fun q hq=>by
      obtain ⟨a,b⟩:=q
      exact T8 h.idem h1 hv (P5 hq).1
    cases P with
    | nil =>
      cases Q with
      | nil=>cases e
      | cons q Q =>
        simp only [List.nil_append,List.cons.injEq] at e
        rw [←e.2] at g3
        exact ⟨_,l,rfl,hfix,by omega,by simp only [List.length_cons,e.2] at g3 ⊢; omega⟩
    | cons q P =>
      simp only [List.cons_append,List.cons.injEq] at e
      obtain ⟨rfl,rfl⟩:=e
      rw [Ho] at g2
      have hself:AK s p.1=p.1:=by rw [DQ h1]; exact g1 p (by simp)
      refine ⟨(AK s p.1).args.zip (AK s p.2).args++P,Q,by rw [List.append_assoc],fun q hq=>?_,?_,g3⟩
      · rcases List.mem_append.1 hq with hq | hq
        · exact hfix q hq
        · exact g1 q (by simp [hq])
      · rw [WL]
        rw [hself] at hn2 hz ⊢
        omega
theorem FQ (x y:Tm) (h:(Aq x.name || Aq y.name)=true):(Az x y=⟨x.name,y⟩∧Aq x.name=true)∨(Az x y=⟨y.name,x⟩∧Aq y.name=true):=by
 unfold Az
 cases h1:Aq x.name with
 | true =>
  cases h2:Aq y.name with
  | true =>
   cases strLt x.name y.name with
   | true=>exact .inr ⟨rfl,rfl⟩
   | false=>exact .inl ⟨rfl,rfl⟩
  | false=>exact .inl ⟨rfl,rfl⟩
 | false =>
  rw [h1,Bool.false_or] at h
  rw [h]
  exact .inr ⟨rfl,rfl⟩
theorem R9 {b:Bd} (hb:(Sb.mk [b]).ok=true) (n:ByteArray):(Sb.mk [b]).look n=if b.var=n then some b.term else none:=by
 have hup:=Sb.J1 hb
 by_cases h:b.var=n
 ·rw [if_pos h,← h]
  exact Sb.KE hup (by simp)
 ·rw [if_neg h]
  exact (Sb.IK hup).2 fun c hc=>by
   have:c=b:=by simpa using hc
   rw [this]; exact h
theorem Qdl {s:Sb} {b:Bd} (hs:s.ok=true) (hi:s.idem) (hb:(Sb.mk [b]).ok=true) (hv:s.look b.var=none) (ht:∀ v∈b.term.vs,s.look v=none) (ho:b.var ∉ b.term.vs) (hc:Ck s ⟨[b]⟩=true) :
    (Ce s ⟨[b]⟩).binds.length=s.binds.length+1∧(Ce s ⟨[b]⟩).idem:=by
  have hup:=Sb.J1 hs
  have hcok:(Ce s ⟨[b]⟩).ok=true:=hc
  have hcup:=Sb.J1 hcok
  have hbok:Hm b=true:=Sb.J2 (x:=⟨[b]⟩) hb (k:=0) (by simp)
  have hone:∀ c∈s.binds,C6 ⟨[b]⟩ c=some ⟨c.var,c.term.ap (Sb.mk [b]).look⟩:=fun c hcm=>by
    have hcb:Hm c=true:=by
      obtain ⟨k,hk,rfl⟩:=List.getElem_of_mem hcm
      exact Sb.J2 hs hk
    have hcl:=Sb.KE hup hcm
    have hcv:=Wh hcb
    unfold C6
    rw [A8,cond_false]
    intro e
    have hne:c.term.name≠c.var:=by
      unfold Hm at hcb
      rw [Bool.and_eq_true,Bool.and_eq_true,Bool.not_eq_true'] at hcb
      exact C7.1 hcb.2.2
    rw [Tm.H0] at e
    by_cases hv':Aq c.term.name=true
    · rw [if_pos hv',R9 hb] at e
      by_cases hbn:b.var=c.term.name
      · rw [if_pos hbn,Option.getD_some] at e
        have:c.var∈b.term.vs:=by
          rw [Tm.Gl,e,hcv]; simp
        rw [ht _ this] at hcl; cases hcl
      · rw [if_neg hbn,Option.getD_none] at e
        exact hne e
    · rw [if_neg hv'] at e
      exact hne e
  have hl1:Hg s ⟨[b]⟩=s.binds.map fun c=>⟨c.var,c.term.ap (Sb.mk [b]).look⟩:=by
    unfold Hg
    have key:∀ xs:List Bd,(∀ c∈xs,C6 ⟨[b]⟩ c=some ⟨c.var,c.term.ap (Sb.mk [b]).look⟩)→xs.filterMap (C6 ⟨[b]⟩)=xs.map fun c=>⟨c.var,c.term.ap (Sb.mk [b]).look⟩:=by
      intro xs
      induction xs with
      | nil=>intro _; rfl
      | cons x xs ih=>intro h; rw [List.filterMap_cons,h x (by simp),List.map_cons,ih fun c hc=>h c (by simp [hc])]
    exact key _ hone
  have hl2:Z9 s ⟨[b]⟩=[b]:=by
    unfold Z9
    have hh:D8 s.binds b.var=false:=by
      cases hh:D8 s.binds b.var with
      | false=>rfl
      | true=>rw [Sb.Ku hh (Hz hh)] at hv; cases hv
    simp [hh]
  have hmem:∀ c,c∈(Ce s ⟨[b]⟩).binds ↔ (∃ d∈s.binds,c=⟨d.var,d.term.ap (Sb.mk [b]).look⟩)∨c=b:=fun c=>by
    unfold Ce
    show c∈(Cj s ⟨[b]⟩).mergeSort bdLe ↔ _
    rw [(List.mergeSort_perm _ _).mem_iff]
    unfold Cj
    rw [hl1,hl2,List.mem_append,List.mem_map]
    simp only [List.mem_singleton]
    constructor
    · rintro (⟨d,h1,h2⟩ | h)
      · exact .inl ⟨d,h1,h2.symm⟩
      · exact .inr h
    · rintro (⟨d,h1,h2⟩ | h)
      · exact .inl ⟨d,h1,h2.symm⟩
      · exact .inr h
  refine ⟨?_,fun w t hw v hvt=>?_⟩
  · unfold Ce
    show ((Cj s ⟨[b]⟩).mergeSort bdLe).length=_
    rw [(List.mergeSort_perm _ _).length_eq]
    unfold Cj
    rw [hl1,hl2,List.length_append,List.length_map]; rfl
  · have key:v≠b.var∧s.look v=none:=by
      have hterm:∀ z∈b.term.vs,z≠b.var∧s.look z=none:=fun z hz=>⟨fun e=>ho (e▸hz),ht z hz⟩
      rcases (hmem _).1 (Sb.WI hw) with ⟨d,hd,e⟩ | e
      · simp only [Bd.mk.injEq] at e
        obtain ⟨rfl,rfl⟩:=e
        rcases Tm.Qcf d.term hvt with ⟨k1,k2⟩ | ⟨w',k1,t',k2,k3⟩
        · rw [R9 hb] at k2
          have hne:b.var≠v:=fun e=>by rw [if_pos e] at k2; cases k2
          exact ⟨fun e=>hne e.symm,hi _ _ (Sb.KE hup hd) v k1⟩
        · rw [R9 hb] at k2
          split at k2
          · obtain rfl:=Option.some.inj k2
            exact hterm v k3
          · cases k2
      · have e2:t=b.term:=by rw [←e]
        rw [e2] at hvt
        exact hterm v hvt
    refine (Sb.IK hcup).2 fun c hcm e=>?_
    rcases (hmem c).1 hcm with ⟨d,hd,e2⟩ | e2
    · have e3:c.var=d.var:=by rw [e2]
      exact (Sb.IK hup).1 key.2 d hd (e3.symm.trans e)
    · rw [e2] at e
      exact key.1 e.symm
theorem Qa9 {s:Sb} (hi:s.idem) {a c:Tm} (h1:BO s a=true) (h2:BO s c=true) (hv:(Aq (AK s a).name || Aq (AK s c).name)=true) :
  s.look (Az (AK s a) (AK s c)).var=none∧∀ v∈(Az (AK s a) (AK s c)).term.vs,s.look v=none:=by
 have ha:∀ v∈(AK s a).vs,s.look v=none:=fun v h=>by rw [DQ h1] at h; exact Sb.UD hi h
 have hc:∀ v∈(AK s c).vs,s.look v=none:=fun v h=>by rw [DQ h2] at h; exact Sb.UD hi h
 rcases FQ _ _ hv with ⟨e,k⟩ | ⟨e,k⟩
 ·rw [e]
  exact ⟨ha _ (by rw [Tm.Gl,k]; simp),hc⟩
 ·rw [e]
  exact ⟨hc _ (by rw [Tm.Gl,k]; simp),ha⟩
theorem uInv.bind {s:Sb} {p:Tm × Tm} {l:List (Tm × Tm)} (h:uInv s (p :: l)) (h1:BO s p.1=true) (h2:BO s p.2=true) (hv:(Aq (AK s p.1).name || Aq (AK s p.2).name)=true)
  (hb:BL (Az (AK s p.1) (AK s p.2))=true) (hc:Ck s ⟨[Az (AK s p.1) (AK s p.2)]⟩=true):uInv (Ce s ⟨[Az (AK s p.1) (AK s p.2)]⟩) l∧(Ce s ⟨[Az (AK s p.1) (AK s p.2)]⟩).binds.length=s.binds.length+1:=by
 obtain ⟨f1,f2⟩:=Qa9 h.idem h1 h2 hv
 unfold BL at hb
 rw [Bool.and_eq_true,Bool.not_eq_true'] at hb
 obtain ⟨g1,g2⟩:=Qdl h.ok h.idem hb.2 f1 f2 (C7.1 hb.1) hc
 refine ⟨⟨hc,g2,fun q hq=>h.ex q (by simp [hq]),[],l,rfl,fun q hq=>by simp at hq,by rw [Ho]; omega,?_⟩,g1⟩
 obtain ⟨P,Q,e,k1,k2,k3⟩:=h.pq
 have hl:(p :: l).length=P.length+Q.length:=by rw [e,List.length_append]
 have hP:=R7 P
 simp only [List.length_cons] at hl
 rw [g1]
 omega
noncomputable def apN (s:Sb):List (Tm × Tm)→Nat
 | []=>0
 | p :: l=>(p.1.ap s.look).nodes+apN s l
theorem ZD (s:Sb):∀ a b:List (Tm × Tm),apN s (a++b)=apN s a+apN s b
 | [],b=>by simp [apN]
 | p :: a,b=>by rw [List.cons_append,apN,apN,ZD s a b]; omega
theorem WM (s:Sb):∀ l:List (Tm × Tm),(∀ p∈l,p.1.ap s.look=p.1)→apN s l=Ho l
 | [],_=>by rw [apN,Ho]
 | p :: l,h=>by rw [apN,Ho,h p (by simp),WM s l fun q hq=>h q (by simp [hq])]
theorem Qch:∀ (k m:Nat) (s:Sb) (l:List (Tm × Tm)),uInv s l→12≤s.binds.length+k→apN s l≤m→∃ n r,BB n s l=some r:=by
  intro k
  induction k with
  | zero=>exact fun m=>uEnd 0 (fun h=>absurd h (by omega)) m
  | succ k ih=>exact fun m=>uEnd (k+1) (fun _ m s l=>ih m s l) m
where
  uEnd (k : Nat) (ih:0<k→∀ (m:Nat) (s:Sb) (l:List (Tm × Tm)),uInv s l→12≤s.binds.length+(k-1)→apN s l≤m→∃ n r,BB n s l=some r):∀ (m:Nat) (s:Sb) (l:List (Tm × Tm)),uInv s l→12≤s.binds.length+k→apN s l≤m→∃ n r,BB n s l=some r
    | m,s,[],h,hk,hm=>⟨1,some s,by rw [BB]⟩
    | m, s, p :: l,h,hk,hm=>by
      have hp:=Tm.Lc (p.1.ap s.look)
      rw [apN] at hm
      obtain ⟨m,rfl⟩:∃ m',m=m'+1:=⟨m-1,by omega⟩
      cases h1:BO s p.1 with
      | false=>exact ⟨1,none,by rw [BB]; simp only [h1,Bool.false_and,cond_false]⟩
      | true =>
        cases h2:BO s p.2 with
        | false=>exact ⟨1,none,by rw [BB]; simp only [h2,Bool.and_false,cond_false]⟩
        | true =>
          cases h3:dec (AK s p.1=AK s p.2) with
          | true =>
            obtain ⟨n,r,hr⟩:=uEnd k ih m s l h.pop hk (by omega)
            exact ⟨n+1,r,by rw [BB]; simp only [h1,h2,h3,Bool.and_self,cond_true]; exact hr⟩
          | false =>
            cases h4:Aq (AK s p.1).name || Aq (AK s p.2).name with
            | true =>
              cases h5:BL (Az (AK s p.1) (AK s p.2))&&Ck s ⟨[Az (AK s p.1) (AK s p.2)]⟩ with
              | false=>exact ⟨1,none,by rw [BB]; simp only [h1,h2,h3,h4,h5,Bool.and_self,cond_true,cond_false]⟩
              | true =>
                have h5':=h5
                rw [Bool.and_eq_true] at h5'
                obtain ⟨g1,g2⟩:=h.bind h1 h2 h4 h5'.1 h5'.2
                have g3:=ok_len g1.ok
                obtain ⟨n,r,hr⟩:=ih (by omega) _ _ l g1 (by omega) (Nat.le_refl _)
                exact ⟨n+1,r,by rw [BB]; simp only [h1,h2,h3,h4,h5,Bool.and_self,cond_true,cond_false]; exact hr⟩
            | false =>
              have h4':=h4
              rw [Bool.or_eq_false_iff] at h4'
              cases h5:dec ((AK s p.1).name=(AK s p.2).name)&&dec ((AK s p.1).args.length=(AK s p.2).args.length) with
              | false=>exact ⟨1,none,by rw [BB]; simp only [h1,h2,h3,h4,h5,Bool.and_self,cond_true,cond_false]⟩
              | true =>
                have hz:=R8 (AK s p.1).args (AK s p.2).args
                have hs:=WM s ((AK s p.1).args.zip (AK s p.2).args) fun q hq=>by
                  obtain ⟨a,b⟩:=q
                  exact T8 h.idem h1 h4'.1 (P5 hq).1
                have hn:=Tm.An (AK s p.1)
                rw [DQ h1] at hn
                rw [DQ h1] at hs hz
                obtain ⟨n,r,hr⟩:=uEnd k ih m s _ (h.dec h1 h2 h4'.1) hk (by rw [ZD,DQ h1,hs]; omega)
                exact ⟨n+1,r,by rw [BB]; simp only [h1,h2,h3,h4,h5,Bool.and_self,cond_true,cond_false]; exact hr⟩
theorem uInv.start {a b:Tm} (ha:a.expr=true) (hb:b.expr=true):uInv ⟨[]⟩ [(a,b)]:=by
 have hok:(Sb.mk []).ok=true:=by unfold Sb.ok; simp [I4]
 have hl:∀ n,(Sb.mk []).look n=none:=fun n=>(Sb.IK (Sb.J1 hok)).2 fun c hc=>by simp at hc
 exact ⟨hok,(fun w t h=>by rw [hl] at h; cases h),(fun p hp=>by
  have:p=(a,b):=by simpa using hp
  rw [this]; exact ⟨ha,hb⟩),[],[(a,b)],rfl,fun q hq=>absurd hq (by simp),by rw [Ho]; omega,by simp⟩
theorem Y3 {a b:Tm} (ha:a.expr=true) (hb:b.expr=true):∃ n r,BB n ⟨[]⟩ [(a,b)]=some r:=Qch 12 _ _ _ (uInv.start ha hb) (by omega) (Nat.le_refl _)
def IL:SC:=(.seq (.reg [⟨some 2,none,.boxv 71 2 (.t 0)⟩,⟨some 4,none,.mv (.c (.int .i64 0))⟩]) (.seq (.reg [⟨some 5,none,.mv (.c (.int .i64 0))⟩]) (.seq (.seq (.reg [⟨some 8,none,.faddr 0 (.t 2)⟩,⟨some 9,none,.load false 1 (.t 8)⟩,⟨some 10,none,.mv (.t 1)⟩,⟨some 11,none,.bin .eql false (.t 9) (.t 10)⟩]) (.cond (.t 11) (.reg [⟨some 5,none,.mv (.c (.int .i64 1))⟩]) .skip)) (.seq (.seq (.reg [⟨some 12,none,.faddr 1 (.t 2)⟩,⟨some 13,none,.load false 1 (.t 12)⟩,⟨some 14,none,.len false (.t 13)⟩,⟨some 15,none,.mv (.c (.int .i64 0))⟩]) (.block 0 (.loop [0,1,0,0,0,1,0,0,0,0,0,0,0,1,1,1,0,0,0,0,0,0,0,0,0,0] (.seq (.reg [⟨some 16,none,.bin .lss false (.t 15) (.t 14)⟩]) (.seq (.cond (.t 16) .skip (.exit 0)) (.seq (.block 1 (.seq (.reg [⟨some 17,none,.iaddr 2 (.t 13) (.t 15)⟩,⟨some 18,none,.load true 2 (.t 17)⟩,⟨(some 7),none,(.alloc 71 [(.str ⟨#[]⟩),.nil])⟩,⟨none,none,(.store 2 (.t 7) (.t 18))⟩]) (.reg [⟨some 19,none,.mv (.t 5)⟩,⟨some 20,none,.load true 2 (.t 7)⟩,⟨some 21,none,.mv (.t 1)⟩,⟨some 22,none,.call 161 [(.t 20),(.t 21)]⟩,⟨some 23,none,.bin .add false (.t 19) (.t 22)⟩,⟨some 5,none,.mv (.t 23)⟩]))) (.reg [⟨some 24,none,.bin .add false (.t 15) (.c (.int .i64 1))⟩,⟨some 15,none,.mv (.t 24)⟩]))))))) (.seq (.reg [⟨some 25,none,.mv (.t 5)⟩,⟨some 4,none,.mv (.t 25)⟩]) .ret)))))
theorem Ow:codeOf Tryz.prog 161=some ⟨26,IL,[(.tmp 4)]⟩:=by kernel_rfl
theorem Fz:modes 161=⟨[],.asis,none,false⟩:=by unfold modes; rfl
mutual
noncomputable def Tm.cnt (n:ByteArray):Tm→Nat
 | .mk name args=>(bif dec (name=n) then 1 else 0)+Tm.Ox n args
noncomputable def Tm.Ox (n:ByteArray):List Tm→Nat
 | []=>0
 | x :: xs=>Tm.cnt n x+Tm.Ox n xs
end
theorem Tm.Y4 (n:ByteArray) (x:Tm):x.cnt n=(bif dec (x.name=n) then 1 else 0)+Tm.Ox n x.args:=by
 obtain ⟨a,b⟩:=x
 rw [Tm.cnt]; rfl
theorem Tm.ZE (n:ByteArray):∀ xs:List Tm,(∀ x∈xs,x.cnt n≤x.nodes)→Tm.Ox n xs≤Tm.Bb xs
 | [],_=>by rw [Tm.Ox]; omega
 | x :: xs,h=>by
  have h1:=h x (by simp)
  have h2:=Tm.ZE n xs fun y hy=>h y (by simp [hy])
  rw [Tm.Ox,Tm.Bb]; omega
theorem Tm.Qci (n:ByteArray) (x:Tm):x.cnt n≤x.nodes:=by
 have h:=Tm.ZE n x.args fun y hy=>Tm.Qci n y
 rw [Tm.Y4,Tm.An]
 cases dec (x.name=n) with
 | true=>simp only [cond_true]; omega
 | false=>simp only [cond_false]; omega
termination_by SizeOf.sizeOf x
decreasing_by exact Tm.Aw hy
theorem Tm.WN {n:ByteArray}:∀ {xs:List Tm},0<Tm.Ox n xs ↔ ∃ x∈xs,0<x.cnt n
  | []=>by rw [Tm.Ox]; simp
  | x :: xs=>by
    have h:=Tm.WN (n:=n) (xs:=xs)
    rw [Tm.Ox]
    constructor
    · intro hp
      rcases Nat.eq_zero_or_pos (x.cnt n) with h0 | h0
      · obtain ⟨y,h1,h2⟩:=h.1 (by omega)
        exact ⟨y,by simp [h1],h2⟩
      · exact ⟨x,by simp,h0⟩
    · rintro ⟨y,h1,h2⟩
      rcases List.mem_cons.1 h1 with rfl | h1
      · omega
      · have:=h.2 ⟨y,h1,h2⟩; omega
theorem UE (x:Tm) (n:ByteArray) (hn:x.nodes≤1099511627776) (ih:∀ y∈x.args,E 161 [y.sv,.str n] []=some (.int .i64 (y.cnt n:Nat),[])):E 161 [x.sv,.str n] []=some (.int .i64 (x.cnt n:Nat),[]):=by
 have hx:=Tm.An x
 have hl:=Tm.length_le x.args
 have hle:=Tm.Qci n x
 have hc0:=Tm.Y4 n x
 have hsv:x.sv=.agg [.str x.name,.arr (x.args.map Tm.d)]:=rfl
 rw [hsv]
 obtain ⟨c0,hc0'⟩:∃ c0:Nat,c0=bif dec (x.name=n) then 1 else 0:=⟨_,rfl⟩
 rw [←hc0'] at hc0
 by_cases he:x.name=n
 all_goals
  have hq:=he
  first
   |rw [Ay he,cond_true] at hc0'
   |rw [A8 he,cond_false] at hc0'
  first
   |have hq:=eq_true he
   |have hq:=eq_false he
  refine Ah Ow Fz (of_decide_eq_true rfl) ?_
  simp (disch:=omega) only [IL,go_sem,Aa,hq]
  refine go_loop (α:=Int × (Nat)) (fun a=>⟨slots 26 0 [(1,.str n),(5,.int .i64 (((a.2):Nat):Int)),(13,.arr (x.args.map Tm.d)),(14,.int .i64 x.args.length),(15,.int .i64 (a.1))],[]⟩) (fun a=>∃ k:Nat,a.1=k∧k≤(x.args).length∧(a.2)+Tm.Ox n (x.args.drop k)=x.cnt n) (fun a=>(x.args).length-(a.1).toNat) (0,c0) ⟨0,rfl,Nat.zero_le _,by rw [List.drop_zero]; exact hc0.symm⟩ (by simp (disch:=omega) only [go_sem,Aa,hc0',Int.natCast_zero,Int.natCast_one]) ?_
  rintro ⟨i,acc⟩ ⟨k,hi,hk,hR⟩
  dsimp only at hi hR
  have hni:i.toNat=k:=by omega
  have hni1:(i+1).toNat=k+1:=by omega
  rcases Nat.lt_or_ge k (x.args).length with hlt | hge
  ·have hg:=get_at Tm.d hlt
   rw [Tm.d_eq] at hg
   have hc:=ih x.args[k] (List.getElem_mem hlt)
   rw [List.drop_eq_getElem_cons hlt,Tm.Ox] at hR
   simp (disch:=omega) only [go_sem,Aa,hni,hg,hc,Fz]
   exact ⟨(i+1,acc+x.args[k].cnt n),⟨k+1,by dsimp only; omega,hlt,by omega⟩,by dsimp only; omega,by simp⟩
  ·rw [List.drop_eq_nil_of_le hge,Tm.Ox] at hR
   simp (disch:=omega) only [go_sem,Aa,hni]
   try omega
theorem OR (x:Tm) (n:ByteArray) (hn:x.nodes≤1099511627776):E 161 [x.sv,.str n] []=some (.int .i64 (x.cnt n:Nat),[]) :=
 UE x n hn fun y hy=>OR y n (by have:=Tm.AU hy; have:=Tm.An x; omega)
termination_by SizeOf.sizeOf x
decreasing_by exact Tm.Aw hy
def OS:SC:=(.seq (.reg [⟨some 4,none,.mv (.c (.bool false))⟩]) (.seq (.seq (.reg [⟨some 5,none,.mv (.c (.int .i64 0))⟩]) (.block 0 (.loop [1,1,0,0,0,1,0,0,0,0,0,0,0,0,0,0,0,0] (.seq (.seq (.reg [⟨some 6,none,.mv (.t 5)⟩,⟨some 7,none,.mv (.t 0)⟩,⟨some 8,none,.len false (.t 7)⟩,⟨some 9,none,.bin .lss false (.t 6) (.t 8)⟩]) (.cond (.t 9) .skip (.exit 0))) (.seq (.block 1 (.seq (.reg [⟨some 12,none,.mv (.t 0)⟩,⟨some 13,none,.mv (.t 5)⟩,⟨some 14,none,.iaddr 1 (.t 12) (.t 13)⟩,⟨some 15,none,.load false 1 (.t 14)⟩,⟨some 16,none,.mv (.t 1)⟩,⟨some 17,none,.bin .eql false (.t 15) (.t 16)⟩]) (.cond (.t 17) (.seq (.reg [⟨some 4,none,.mv (.c (.bool true))⟩]) .ret) .skip))) (.reg [⟨some 10,none,.mv (.t 5)⟩,⟨some 11,none,.bin .add false (.t 10) (.c (.int .i64 1))⟩,⟨some 5,none,.mv (.t 11)⟩])))))) (.seq (.reg [⟨some 4,none,.mv (.c (.bool false))⟩]) .ret)))
theorem WO:codeOf Tryz.prog 113=some ⟨18,OS,[(.tmp 4)]⟩:=by kernel_rfl
theorem FR:modes 113=⟨[],.asis,none,false⟩:=by unfold modes; rfl
theorem Qcj (xs:List ByteArray) (n:ByteArray) (hl:xs.length≤1099511627776):E 113 [.arr (xs.map fun s=>[D.str s]),.str n] []=some (.bool (dec (n∈xs)),[]):=by
  refine Ah WO FR (of_decide_eq_true rfl) ?_
  simp (disch:=omega) only [OS,go_sem,Aa]
  refine go_loop (α:=Int) (fun a=>⟨slots 18 0 [(0,.arr (xs.map fun s=>[D.str s])),(1,.str n),(5,.int .i64 a)],[]⟩) (fun a=>∃ k:Nat,a=k∧k≤(xs).length∧dec (n∈xs.drop k)=dec (n∈xs)) (fun a=>(xs).length-(a).toNat) 0 ⟨0,rfl,Nat.zero_le _,by rw [List.drop_zero]⟩ (by simp (disch:=omega) only [go_sem,Aa]) ?_
  rintro i ⟨k,hi,hk,hR⟩
  have hni:i.toNat=k:=by omega
  have hni1:(i+1).toNat=k+1:=by omega
  rcases Nat.lt_or_ge k (xs).length with hlt | hge
  · have hg:=get_at (fun s=>[D.str s]) hlt
    rw [List.drop_eq_getElem_cons hlt] at hR
    by_cases hp:xs[k]=n
    · have hq:=eq_true hp
      have ht:dec (n∈xs)=true:=Ay (hp▸List.getElem_mem hlt)
      simp (disch:=omega) only [go_sem,Aa,hni,hg,hq]
      exact ht.symm
    · have hq:=eq_false hp
      have hR:dec (n∈xs.drop (k+1))=dec (n∈xs):=by
        rw [←hR]
        exact EJ (by simp only [List.mem_cons]; exact ⟨.inr,fun h=>h.elim (fun e=>absurd e.symm hp) id⟩)
      simp (disch:=omega) only [go_sem,Aa,hni,hg,hq]
      exact ⟨i+1,⟨k+1,by omega,hlt,hR⟩,by omega,by first | trivial | rfl⟩
  · rw [List.drop_eq_nil_of_le hge,A8 (by simp)] at hR
    simp (disch:=omega) only [go_sem,Aa,hni]
    exact hR
def LF:SC:=(.seq (.reg [⟨some 3,none,.boxv 71 2 (.t 1)⟩,⟨some 4,none,.mv (.c (.bool false))⟩]) (.seq (.reg [⟨some 5,none,.load true 2 (.t 3)⟩,⟨some 6,none,.mv (.t 0)⟩,⟨some 7,none,.call 161 [(.t 5),(.t 6)]⟩,⟨some 8,none,.bin .gtr false (.t 7) (.c (.int .i64 0))⟩,⟨some 4,none,.mv (.t 8)⟩]) .ret))
theorem Ss:codeOf Tryz.prog 130=some ⟨9,LF,[(.tmp 4)]⟩:=by kernel_rfl
theorem Cf:modes 130=⟨[],.asis,none,false⟩:=by unfold modes; rfl
theorem Tm.ZF {n:ByteArray} (hn:Aq n=true) (x:Tm) (hx:Aq x.name=true→x.args=[]) (ih:∀ y∈x.args,(0<y.cnt n ↔ n∈y.vs)):0<x.cnt n ↔ n∈x.vs:=by
 rw [Tm.Y4,Tm.Gl]
 cases hv:Aq x.name with
 | true =>
  rw [hx hv,Tm.Ox,cond_true]
  by_cases h:x.name=n
  ·rw [Ay h,h]; simp
  ·rw [A8 h]
   simp only [cond_false,List.mem_singleton]
   exact ⟨fun k=>absurd k (by omega),fun k=>absurd k.symm h⟩
 | false =>
  have h:¬ x.name=n:=fun e=>by rw [e,hn] at hv; cases hv
  rw [A8 h,cond_false,cond_false,Nat.zero_add,Tm.WN,Tm.vsL_mem]
  constructor
  ·rintro ⟨y,h1,h2⟩; exact ⟨y,h1,(ih y h1).1 h2⟩
  ·rintro ⟨y,h1,h2⟩; exact ⟨y,h1,(ih y h1).2 h2⟩
theorem Tm.Qck {n:ByteArray} (hn:Aq n=true) (x:Tm) (hx:x.names=true):0<x.cnt n ↔ n∈x.vs :=
 Tm.ZF hn x (Tm.Fu hx) fun y hy=>Tm.Qck hn y (Tm.ED hx hy)
termination_by SizeOf.sizeOf x
decreasing_by exact Tm.Aw hy
theorem Tm.QdN {n:ByteArray} (hn:Aq n=true) (x:Tm) (hx:x.expr=true):dec ((0:Int)<(x.cnt n:Nat))=dec (n∈x.vs):=by
 have h:=Tm.ZF hn x (Tm.Wj hx) fun y hy=>Tm.Qck hn y (Tm.I7 hx hy)
 refine EJ ?_
 rw [←h]; omega
theorem Tm.Ep {x:Tm} (h:x.expr=true):x.cok=true:=by
 rcases Tm.Jl h with hn | ⟨he,ha⟩
 ·exact Tm.Iz x hn
 ·have hname:x.name=⟨#[61]⟩:=by unfold Tm.eqn at he; exact Au.1 he
  have hc:Kc ⟨#[61]⟩=true:=by kernel_rfl
  rw [Tm.Kd,hname,hc,Bool.true_and]
  have key:∀ xs:List Tm,(∀ y∈xs,y.names=true)→Tm.RU xs=true:=by
   intro xs
   induction xs with
   | nil=>intro _; rw [Tm.RU]
   | cons y ys ih=>intro hh; rw [Tm.RU,Tm.Iz y (hh y (by simp)),ih fun z hz=>hh z (by simp [hz])]; rfl
  exact key _ fun y hy=>Tm.I7 h hy
theorem WP (n:ByteArray) (hn:Aq n=true) (x:Tm) (hx:x.expr=true):E 130 [.str n,x.sv] []=some (.bool (dec (n∈x.vs)),[]):=by
 have h:=OR x n (by have:=Tm.Ar hx; omega)
 rw [←Tm.QdN hn x hx]
 refine Ah Ss Cf (of_decide_eq_true rfl) ?_
 simp (disch:=omega) only [LF,go_sem,Aa,h,Fz]
def Bx:SC:=(.seq (.reg [⟨some 1,none,.boxv 107 4 (.t 0)⟩,⟨some 2,none,.alloc 76 [.nil]⟩,⟨some 3,none,.mv (.c (.bool false))⟩]) (.seq (.dreg [[],[0],[],[2],[],[],[4,1,0,5],[5,3,2,6,4,1,0]] [⟨some 7,none,.faddr 0 (.t 1)⟩,⟨some 8,none,.load true 2 (.t 7)⟩,⟨some 9,none,.faddr 2 (.t 1)⟩,⟨some 10,none,.load true 2 (.t 9)⟩,⟨(some 4),none,(.alloc 71 [(.str ⟨#[]⟩),.nil])⟩,⟨(some 5),none,(.alloc 71 [(.str ⟨#[]⟩),.nil])⟩,⟨none,none,(.store 2 (.t 4) (.t 8))⟩,⟨none,none,(.store 2 (.t 5) (.t 10))⟩]) (.seq (.seq (.reg [⟨some 11,none,.load true 2 (.t 4)⟩,⟨some 12,none,.call 89 [(.t 11)]⟩,⟨some 13,none,.un .not (.t 12)⟩,⟨some 14,none,.mv (.t 13)⟩,⟨(some 15),(some (14,false)),(.load true 2 (.t 5))⟩,⟨(some 16),(some (14,false)),(.call 89 [(.t 15)])⟩,⟨(some 17),(some (14,false)),(.mv (.t 16))⟩,⟨(some 18),(some (17,true)),(.faddr 0 (.t 5))⟩,⟨(some 19),(some (17,true)),(.load false 1 (.t 18))⟩,⟨(some 20),(some (17,true)),(.faddr 0 (.t 4))⟩,⟨(some 21),(some (17,true)),(.load false 1 (.t 20))⟩,⟨(some 22),(some (17,true)),(.bin .gtr false (.t 19) (.t 21))⟩,⟨(some 23),(some (14,false)),(.pick (.t 17) (.t 22) (.c (.bool false)))⟩,⟨some 24,none,.pick (.t 14) (.c (.bool true)) (.t 23)⟩]) (.cond (.t 24) (.reg [⟨some 25,none,.load true 2 (.t 5)⟩,⟨some 26,none,.load true 2 (.t 4)⟩,⟨none,none,(.store 2 (.t 4) (.t 25))⟩,⟨none,none,(.store 2 (.t 5) (.t 26))⟩]) .skip)) (.seq (.reg [⟨some 27,none,.faddr 0 (.t 4)⟩,⟨some 28,none,.load false 1 (.t 27)⟩,⟨some 29,none,.load true 2 (.t 5)⟩,⟨(some 30),none,(.build [(.str ⟨#[]⟩),(.str ⟨#[]⟩),.nil] [(0,(1,(.t 28))),(1,(2,(.t 29)))])⟩,⟨(some 31),none,(.mkrow 139 3 [(.str ⟨#[]⟩),(.str ⟨#[]⟩),.nil] 1 [(0,(.t 30))])⟩,⟨some 32,none,.build [.nil] [(0,(1,(.t 31)))]⟩,⟨some 6,none,.alloc 76 [.nil]⟩,⟨none,none,(.store 1 (.t 6) (.t 32))⟩]) (.seq (.dreg [[],[],[1],[],[2,1,3],[4,2,1,3],[5,4,2,1,3],[6,5,4,2,1,3],[7,6,5,4,2,1,3],[6,5,4,2,1,3,8,7],[0,8,7,6,5,4,2,1,3],[9,6,5,4,2,1,3,8,7,10,0]] [⟨some 33,none,.load true 1 (.t 6)⟩,⟨some 34,none,.faddr 0 (.t 4)⟩,⟨some 35,none,.load false 1 (.t 34)⟩,⟨some 36,none,.load true 2 (.t 5)⟩,⟨some 37,none,.call 130 [(.t 35),(.t 36)]⟩,⟨some 38,none,.un .not (.t 37)⟩,⟨some 39,none,.mv (.t 38)⟩,⟨(some 40),(some (39,true)),(.load true 1 (.t 6))⟩,⟨(some 41),(some (39,true)),(.call 131 [(.t 40)])⟩,⟨some 42,none,.pick (.t 39) (.t 41) (.c (.bool false))⟩,⟨none,none,(.store 1 (.t 2) (.t 33))⟩,⟨some 3,none,.mv (.t 42)⟩]) .ret)))))
theorem BC:codeOf Tryz.prog 90=some ⟨43,Bx,[(.cell 2 true 1),(.tmp 3)]⟩:=by kernel_rfl
theorem Ae:modes 90=⟨[],.frz,none,false⟩:=by unfold modes; rfl
def Ik:SC:=(.seq (.reg [⟨some 3,none,.boxv 76 1 (.t 0)⟩,⟨some 5,none,.boxv 71 2 (.t 2)⟩,⟨some 6,none,.alloc 76 [.nil]⟩,⟨some 7,none,.mv (.c (.bool false))⟩]) (.seq (.seq (.reg [⟨some 8,none,.load true 2 (.t 5)⟩,⟨some 9,none,.call 114 [(.t 8)]⟩,⟨some 10,none,.mv (.t 1)⟩,⟨some 11,none,.call 113 [(.t 9),(.t 10)]⟩]) (.cond (.t 11) (.seq (.reg [⟨some 12,none,.load true 1 (.t 3)⟩,⟨none,none,(.store 1 (.t 6) (.t 12))⟩,⟨some 7,none,.mv (.c (.bool false))⟩]) .ret) .skip)) (.seq (.dreg [[],[],[],[],[1,2,3],[0,4,1,2,3],[5,0,4,1,2,3],[5,0,4,1,2,3],[6,5,0,4,1,2,3,7],[7,5,0,4,1,2,3,8,6]] [⟨some 13,none,.load true 1 (.t 3)⟩,⟨some 14,none,.build [.nil] []⟩,⟨some 15,none,.mv (.t 1)⟩,⟨some 16,none,.load true 2 (.t 5)⟩,⟨some 17,none,.call 116 [(.t 14),(.t 15),(.t 16)]⟩,⟨some 18,none,.call 115 [(.t 13),(.t 17)]⟩,⟨some 19,none,.ext (.t 18) 0⟩,⟨some 20,none,.ext (.t 18) 1⟩,⟨none,none,(.store 1 (.t 6) (.t 19))⟩,⟨some 7,none,.mv (.t 20)⟩]) .ret)))
theorem LG:codeOf Tryz.prog 78=some ⟨21,Ik,[(.cell 6 true 1),(.tmp 7)]⟩:=by kernel_rfl
theorem Al:modes 78=⟨[],.frz,none,false⟩:=by unfold modes; rfl
theorem Hi {b:Bd} (h:b.term.nodes≤1099511627776):(Sb.mk [b]).tame:=⟨by simp,fun y hy=>by
 have:y=b:=by simpa using hy
 rw [this]; exact h⟩
theorem HJ (x y:Tm) (hx:x.expr=true) (hy:y.expr=true) (hv:(Aq x.name || Aq y.name)=true):E 90 [.agg [.str x.name,.arr (x.args.map Tm.d),.str y.name,.arr (y.args.map Tm.d)]] []=some (.tup [(Sb.mk [Az x y]).sv,.bool (BL (Az x y))],[]):=by
  have h1:=CU x (Tm.Ep hx)
  have h2:=CU y (Tm.Ep hy)
  have n1:=Tm.Ar hx
  have n2:=Tm.Ar hy
  have hor:(Az x y=⟨x.name,y⟩∧Aq x.name=true∧(Aq y.name&&strLt x.name y.name)=false)∨(Az x y=⟨y.name,x⟩∧Aq y.name=true∧(Aq x.name=false∨(Aq y.name&&strLt x.name y.name)=true)):=by
    unfold Az
    cases h1:Aq x.name with
    | true =>
      cases h3:Aq y.name&&strLt x.name y.name with
      | true=>rw [Bool.and_eq_true] at h3; exact .inr ⟨rfl,h3.1,.inr (by rfl)⟩
      | false=>exact .inl ⟨rfl,rfl,rfl⟩
    | false =>
      rw [h1,Bool.false_or] at hv
      exact .inr ⟨rfl,hv,.inl (by rfl)⟩
  rcases hor with ⟨e,k1,k2⟩ | ⟨e,k1,k2⟩
  · rw [e]
    have ho:=WP x.name k1 y hy
    have hi:=D7 ⟨[⟨x.name,y⟩]⟩ (Hi (by show y.nodes≤_; omega))
    have hsv:(Sb.mk [⟨x.name,y⟩]).sv=.agg [.arr [[.str x.name,.str y.name,.arr (y.args.map Tm.d)]]]:=rfl
    rw [hsv] at hi ⊢
    unfold BL
    rw [k1] at h1
    cases hv2:Aq y.name with
    | false =>
      rw [hv2] at h2
      cases hb:dec (x.name∈y.vs) with
      | true =>
        rw [hb] at ho
        refine Ah BC Ae (of_decide_eq_true rfl) ?_
        simp (disch:=omega) only [Bx,go_sem,Aa,h1,h2,ho,hi,hb,Ak,Cf,Ax]
      | false =>
        rw [hb] at ho
        refine Ah BC Ae (of_decide_eq_true rfl) ?_
        simp (disch:=omega) only [Bx,go_sem,Aa,h1,h2,ho,hi,hb,Ak,Cf,Ax]
    | true =>
      rw [hv2] at h2 k2
      rw [Bool.true_and] at k2
      cases hb:dec (x.name∈y.vs) with
      | true =>
        rw [hb] at ho
        refine Ah BC Ae (of_decide_eq_true rfl) ?_
        simp (disch:=omega) only [Bx,go_sem,Aa,h1,h2,ho,hi,hb,k2,I3,Bool.not_not,Ak,Cf,Ax]
      | false =>
        rw [hb] at ho
        refine Ah BC Ae (of_decide_eq_true rfl) ?_
        simp (disch:=omega) only [Bx,go_sem,Aa,h1,h2,ho,hi,hb,k2,I3,Bool.not_not,Ak,Cf,Ax]
  · rw [e]
    have ho:=WP y.name k1 x hx
    have hi:=D7 ⟨[⟨y.name,x⟩]⟩ (Hi (by show x.nodes≤_; omega))
    have hsv:(Sb.mk [⟨y.name,x⟩]).sv=.agg [.arr [[.str y.name,.str x.name,.arr (x.args.map Tm.d)]]]:=rfl
    rw [hsv] at hi ⊢
    unfold BL
    rw [k1] at h2 k2
    rw [Bool.true_and] at k2
    cases hv1:Aq x.name with
    | false =>
      rw [hv1] at h1
      cases hb:dec (y.name∈x.vs) with
      | true =>
        rw [hb] at ho
        refine Ah BC Ae (of_decide_eq_true rfl) ?_
        simp (disch:=omega) only [Bx,go_sem,Aa,h1,h2,ho,hi,hb,Ak,Cf,Ax]
      | false =>
        rw [hb] at ho
        refine Ah BC Ae (of_decide_eq_true rfl) ?_
        simp (disch:=omega) only [Bx,go_sem,Aa,h1,h2,ho,hi,hb,Ak,Cf,Ax]
    | true =>
      rw [hv1] at h1 k2
      have k2:strLt x.name y.name=true:=k2.elim (fun h=>by cases h) id
      cases hb:dec (y.name∈x.vs) with
      | true =>
        rw [hb] at ho
        refine Ah BC Ae (of_decide_eq_true rfl) ?_
        simp (disch:=omega) only [Bx,go_sem,Aa,h1,h2,ho,hi,hb,k2,I3,Bool.not_not,Ak,Cf,Ax]
      | false =>
        rw [hb] at ho
        refine Ah BC Ae (of_decide_eq_true rfl) ?_
        simp (disch:=omega) only [Bx,go_sem,Aa,h1,h2,ho,hi,hb,k2,I3,Bool.not_not,Ak,Cf,Ax]
theorem Cp (s:Sb) (hs:s.ok=true) (n:ByteArray) (t:Tm) (ht:t.expr=true) (hne:t.name=n→n∈t.vs):∃ r:Sb,E 78 [s.sv,.str n,t.sv] []=some (.tup [r.sv,.bool (BL ⟨n,t⟩&&Ck s ⟨[⟨n,t⟩]⟩)],[])∧((BL ⟨n,t⟩&&Ck s ⟨[⟨n,t⟩]⟩)=true→r=Ce s ⟨[⟨n,t⟩]⟩):=by
  have n1:=Tm.Ar ht
  have h1:=Qce t (by omega)
  have hl:=R6 t.vs []
  have hvl:=Tm.vs_len t
  have h2:=Qcj (JF [] t.vs) n (by simp only [List.length_nil] at hl; omega)
  have e1:dec (n∈JF [] t.vs)=dec (n∈t.vs):=EJ (by rw [WG]; simp)
  rw [e1] at h2
  have hss:s.sv=.agg [.arr (s.binds.map Bd.d)]:=rfl
  cases hb:dec (n∈t.vs) with
  | true =>
    rw [hb] at h2
    refine ⟨s,?_,fun h=>?_⟩
    · have e2:BL ⟨n,t⟩=false:=by
        unfold BL
        show (!dec (n∈t.vs)&&_)=false
        rw [hb]; rfl
      rw [e2,Bool.false_and,hss]
      refine Ah LG Al (of_decide_eq_true rfl) ?_
      simp (disch:=omega) only [Ik,go_sem,Aa,h1,h2,Ij,FR]
    · unfold BL at h
      have h:((!dec (n∈t.vs)&&_)&&_)=true:=h
      rw [hb] at h; cases h
  | false =>
    rw [hb] at h2
    have hnn:¬ t.name=n:=fun e=>C7.1 hb (hne e)
    have h3:=UA ⟨[]⟩ n t (by show 0≤_; omega) (by omega)
    have hput:(Sb.mk []).put ⟨n,t⟩=⟨[⟨n,t⟩]⟩:=by
      unfold Sb.put
      rw [A8 hnn]; rfl
    rw [hput] at h3
    have hpsv:(Sb.mk [⟨n,t⟩]).sv=.agg [.arr [[.str n,.str t.name,.arr (t.args.map Tm.d)]]]:=rfl
    have htame:s.tame:=⟨by have:=ok_len hs; omega,fun c hc=>by
      obtain ⟨k,hk,rfl⟩:=List.getElem_of_mem hc
      have:=DT (Dm (Sb.J2 hs hk)); omega⟩
    have h4:=Sq s ⟨[⟨n,t⟩]⟩ htame (Hi (by show t.nodes≤_; omega))
    have e0:(Sb.mk []).sv=.agg [.arr []]:=rfl
    rw [e0,hpsv] at h3
    rw [hpsv] at h4
    have e2:Sp s ⟨[⟨n,t⟩]⟩=(BL ⟨n,t⟩&&Ck s ⟨[⟨n,t⟩]⟩):=by
      unfold Sp BL
      show _=((!dec (n∈t.vs)&&_)&&_)
      rw [hs,hb]; rfl
    rw [e2] at h4
    refine ⟨WD s ⟨[⟨n,t⟩]⟩,?_,fun h=>?_⟩
    · have hrs:(WD s ⟨[⟨n,t⟩]⟩).sv=.agg [.arr ((WD s ⟨[⟨n,t⟩]⟩).binds.map Bd.d)]:=rfl
      rw [hss] at h4 ⊢
      rw [hrs] at h4 ⊢
      refine Ah LG Al (of_decide_eq_true rfl) ?_
      simp (disch:=omega) only [Ik,go_sem,Aa,h1,h2,h3,h4,Ij,FR,Cu,Br]
    · unfold WD
      rw [e2,h]; rfl
def eqD (p:Tm × Tm):List D:=[.str p.1.name,.arr (p.1.args.map Tm.d),.str p.2.name,.arr (p.2.args.map Tm.d)]
def eqO (p:Tm × Tm):List OT:=[.str p.1.name,.sh (p.1.args.map Tm.d),.str p.2.name,.sh (p.2.args.map Tm.d)]
theorem RA:∀ l:List (Tm × Tm),OT.erss (l.map eqO)=l.map eqD
 | []=>rfl
 | p :: l=>by rw [List.map_cons,List.map_cons,OT.erss,RA l]; rfl
theorem RB:∀ l:List (Tm × Tm),OT.AN (l.map eqO)=true
 | []=>rfl
 | p :: l=>by rw [List.map_cons,OT.AN,RB l]; rfl
theorem KF (l:List (Tm × Tm)):(l.map eqD).map (fun x=>x.map D.ot)=l.map eqO:=by rw [List.map_map]; rfl
theorem HK (l:List (Tm × Tm)):((l.map eqO).all fun x=>x.length == 4)=true:=by
 rw [List.all_map,List.all_eq_true]; intro x _; rfl
theorem P6 (l:List (Tm × Tm)):((l.map eqD).all fun x=>x.length == 4)=true:=by
 rw [List.all_map,List.all_eq_true]; intro x _; rfl
noncomputable def uTo (t:Option Sb):Sb:=t.getD ⟨[]⟩
def uOk (t:Option Sb):Bool:=t.isSome
theorem E0 {s:Sb} (hs:s.ok=true):s.tame:=⟨by have:=ok_len hs; omega,fun c hc=>by
 obtain ⟨k,hk,rfl⟩:=List.getElem_of_mem hc
 have:=DT (Dm (Sb.J2 hs hk)); omega⟩
theorem FS {α β:Type} {xs:List α} {ys:List β} {k:Nat} (h:k<xs.length) (h':k<ys.length):(xs.zip ys).take k++[(xs[k],ys[k])]=(xs.zip ys).take (k+1):=by
 have hz:k<(xs.zip ys).length:=by rw [List.length_zip]; omega
 rw [List.take_succ_eq_append_getElem hz,List.getElem_zip]
theorem P7:∀ (n:Nat) (s:Sb) (l:List (Tm × Tm)) (r:Sb),uInv s l→BB n s l=some (some r)→r.ok=true
  | 0,s,l,r,h,e=>by rw [BB] at e; cases e
  | n+1,s,[],r,h,e=>by
    rw [BB] at e
    simp only [Option.some.injEq] at e
    rw [←e]; exact h.ok
  | n + 1, s, p :: l,r,h,e=>by
    rw [BB] at e
    cases h1:BO s p.1 with
    | false=>simp only [h1,Bool.false_and,cond_false] at e; cases e
    | true =>
      cases h2:BO s p.2 with
      | false=>simp only [h2,Bool.and_false,cond_false] at e; cases e
      | true =>
        cases h3:dec (AK s p.1=AK s p.2) with
        | true =>
          simp only [h1,h2,h3,Bool.and_self,cond_true] at e
          exact P7 n s l r h.pop e
        | false =>
          cases h4:Aq (AK s p.1).name || Aq (AK s p.2).name with
          | true =>
            cases h5:BL (Az (AK s p.1) (AK s p.2))&&Ck s ⟨[Az (AK s p.1) (AK s p.2)]⟩ with
            | false=>simp only [h1,h2,h3,h4,h5,Bool.and_self,cond_true,cond_false] at e; cases e
            | true =>
              simp only [h1,h2,h3,h4,h5,Bool.and_self,cond_true,cond_false] at e
              rw [Bool.and_eq_true] at h5
              exact P7 n _ l r (h.bind h1 h2 h4 h5.1 h5.2).1 e
          | false =>
            have h4':=h4
            rw [Bool.or_eq_false_iff] at h4'
            cases h5:dec ((AK s p.1).name=(AK s p.2).name)&&dec ((AK s p.1).args.length=(AK s p.2).args.length) with
            | false=>simp only [h1,h2,h3,h4,h5,Bool.and_self,cond_true,cond_false] at e; cases e
            | true =>
              simp only [h1,h2,h3,h4,h5,Bool.and_self,cond_true,cond_false] at e
              exact P7 n s _ r (h.dec h1 h2 h4'.1) e
open Classical in
noncomputable def unR (a b:Tm):Option Sb:=if h:∃ r,∃ n,BB n ⟨[]⟩ [(a,b)]=some r then h.choose else none
theorem RC {a b:Tm} (ha:a.expr=true) (hb:b.expr=true):∃ n,BB n ⟨[]⟩ [(a,b)]=some (unR a b):=by
 obtain ⟨n,r,h⟩:=Y3 ha hb
 have he:∃ r,∃ n,BB n ⟨[]⟩ [(a,b)]=some r:=⟨r,n,h⟩
 unfold unR
 rw [dif_pos he]
 exact he.choose_spec
theorem Qcl {a b:Tm} (ha:a.expr=true) (hb:b.expr=true) {s:Sb} (h:unR a b=some s):s.ok=true:=by
 obtain ⟨n,hn⟩:=RC ha hb
 rw [h] at hn
 exact P7 n _ _ s (uInv.start ha hb) hn
theorem Qen {p:Prop} (h:dec p=false):¬ p:=fun hp=>by rw [Ay hp] at h; cases h
noncomputable def FT (s:Sb) (l:List Lt):Bool:=Eg s l&&(nz 10 (apC s l)).norm
noncomputable def Su (s:Sb) (l:List Lt):Cl:=if FT s l then nz 10 (apC s l) else ⟨[]⟩
theorem Nv {s:Sb} {l:List Lt} (h:FT s l=false):Su s l=⟨[]⟩:=by unfold Su; rw [if_neg (by rw [h]; simp)]
theorem RD {s:Sb} {l:List Lt} (h:FT s l=true):Su s l=nz 10 (apC s l):=by unfold Su; rw [if_pos h]
theorem Y5 {s:Sb} {l:List Lt} (h:Eg s l=true):(apC s l).ok=true:=by
 rw [U2 h]
 unfold Eg at h
 rw [Bool.and_eq_true] at h
 exact h.2
theorem Qcm {c:Cl} (h:c.ok=true):c.tame:=⟨by have:=Cl.ok_len h; omega,fun y hy=>by have:=Tm.C5 (Cl.CZ h y hy); omega⟩
noncomputable def hasB (c:Cl) (i:Int):Bool:=dec (0≤i)&&dec (i≤(c.lits.length:Int)-1)
theorem Nw {c:Cl} {i:Int} (h:hasB c i=true):∃ p:Nat,i=p∧p<c.lits.length:=by
 unfold hasB at h
 rw [Bool.and_eq_true] at h
 have h1:=Au.1 h.1
 have h2:=Au.1 h.2
 exact ⟨i.toNat,by omega,by omega⟩
noncomputable def Sv (c:Cl) (i:Int):Lt:=(c.lits[i.toNat]?).getD ⟨false,.mk ⟨#[]⟩ []⟩
theorem P8 {c:Cl} {p:Nat} (h:p<c.lits.length):Sv c (p:Int)=c.lits[p]:=by
 unfold Sv
 rw [Int.toNat_natCast,List.getElem?_eq_getElem h]; rfl
noncomputable def IM (c:Cl) (i k:Int):Bool:=hasB c i&&(hasB c k&&(dec (i<k)&&((Sv c i).pos == (Sv c k).pos)))
noncomputable def UF (c:Cl) (i k:Int):Option Sb:=bif IM c i k then unR (Sv c i).atom (Sv c k).atom else none
noncomputable def OU (c:Cl) (i k:Int):Bool:=match UF c i k with
 | none=>false
 | some s=>FT s (c.lits.eraseIdx k.toNat)
noncomputable def RE (c:Cl) (i k:Int):Cl:=match UF c i k with
 | none=>⟨[]⟩
 | some s=>Su s (c.lits.eraseIdx k.toNat)
theorem Jq {c:Cl} {i k:Int} (h:UF c i k=none):OU c i k=false∧RE c i k=⟨[]⟩:=by
 unfold OU RE
 rw [h]
 exact ⟨rfl,rfl⟩
theorem WQ {c:Cl} {i k:Int} {s:Sb} (h:UF c i k=some s):OU c i k=FT s (c.lits.eraseIdx k.toNat)∧RE c i k=Su s (c.lits.eraseIdx k.toNat):=by
 unfold OU RE
 rw [h]
 exact ⟨rfl,rfl⟩
theorem Jr {c:Cl} {i k:Int} (h:IM c i k=false):UF c i k=none:=by unfold UF; rw [h]; rfl
theorem WR {c:Cl} {i k:Int} (h:IM c i k=true):UF c i k=unR (Sv c i).atom (Sv c k).atom:=by unfold UF; rw [h]; rfl
theorem OV {c:Cl} (hc:c.ok=true) (k:Nat):∀ x∈c.lits.eraseIdx k,x.atom.atom=true:=fun x hx=>Cl.CZ hc x (List.mem_of_mem_eraseIdx hx)
theorem T9 {c:Cl} (hc:c.ok=true) (k:Nat):(c.lits.eraseIdx k).length≤8:=by
 have h1:=List.length_eraseIdx_le c.lits k
 have h2:=Cl.ok_len hc
 omega
noncomputable def Y6 (c:Cl) (i k:Int):Bool:=(c.ok&&c.norm)&&OU c i k
noncomputable def Sw (c:Cl) (i k:Int):Cl:=bif c.ok&&c.norm then RE c i k else ⟨[]⟩
theorem Qdy {c:Cl} {i k:Int} (h:(c.ok&&c.norm)=false):Y6 c i k=false∧Sw c i k=⟨[]⟩:=by
 unfold Y6 Sw
 rw [h]
 exact ⟨rfl,rfl⟩
theorem Qcn {c:Cl} {i k:Int} (h:(c.ok&&c.norm)=true):Y6 c i k=OU c i k∧Sw c i k=RE c i k:=by
 unfold Y6 Sw
 rw [h]
 exact ⟨rfl,rfl⟩
def Nx:SC:=(.seq (.reg [⟨some 2,none,.boxv 71 2 (.t 0)⟩,⟨some 3,none,.boxv 71 2 (.t 1)⟩,⟨some 4,none,.alloc 76 [.nil]⟩,⟨some 5,none,.mv (.c (.bool false))⟩]) (.seq (.reg [⟨some 17,none,.build [.nil] []⟩,⟨some 6,none,.alloc 76 [.nil]⟩,⟨none,none,(.store 1 (.t 6) (.t 17))⟩]) (.seq (.reg [⟨some 18,none,.load true 2 (.t 2)⟩,⟨some 19,none,.load true 2 (.t 3)⟩,⟨(some 20),none,(.build [(.str ⟨#[]⟩),.nil,(.str ⟨#[]⟩),.nil] [(0,(2,(.t 18))),(2,(2,(.t 19)))])⟩,⟨(some 21),none,(.mkrow 107 4 [(.str ⟨#[]⟩),.nil,(.str ⟨#[]⟩),.nil] 1 [(0,(.t 20))])⟩,⟨some 7,none,.mv (.t 21)⟩]) (.seq (.block 0 (.loop [0,0,0,0,1,0,1,1,0,0,0,0,0,0,0,0,0,0,0,0,0,0,0,0,0,0,0,0,0,0,0,0,0,0,0,0,0,0,0,0,0,0,0,0,0,0,0,0,0,0,0,0,0,0,0,0,0,0,0,0,0,0,0,0,0,0,0,0,0,0,0,0,0,0,0,0,0,0,0,0,0,0,0,0,0,0,0,0,0,0,0,0,0,0,0,0,0,0,0,0,0,0,0,0,0,0,0,0,0,0,0,0,0,0,0,0,0,0,0,0,0,0,0] (.seq (.seq (.reg [⟨some 22,none,.mv (.t 7)⟩,⟨some 23,none,.len false (.t 22)⟩,⟨some 24,none,.bin .gtr false (.t 23) (.c (.int .i64 0))⟩]) (.cond (.t 24) .skip (.exit 0))) (.block 1 (.seq (.dreg [[],[],[1],[2,1],[3,2,1],[0,4,3,2,1],[5,0,4,3,2,1],[6,5,0,4,3,2,1],[6,5,0,4,3,2,1],[],[9,7,6,5,0,4,3,2,1],[8,6,5,0,4,3,2,1,10,9,7]] [⟨some 26,none,.load true 1 (.t 6)⟩,⟨some 27,none,.mv (.t 7)⟩,⟨some 28,none,.iaddr 4 (.t 27) (.c (.int .i64 0))⟩,⟨some 29,none,.faddr 0 (.t 28)⟩,⟨some 30,none,.load true 2 (.t 29)⟩,⟨some 31,none,.call 87 [(.t 26),(.t 30)]⟩,⟨some 25,none,.mv (.t 31)⟩,⟨some 32,none,.ext (.t 25) 0⟩,⟨some 33,none,.ext (.t 25) 1⟩,⟨(some 8),none,(.alloc 71 [(.str ⟨#[]⟩),.nil])⟩,⟨none,none,(.store 2 (.t 8) (.t 32))⟩,⟨some 9,none,.mv (.t 33)⟩]) (.seq (.dreg [[],[],[1],[2,1],[3,2,1],[0,4,3,2,1],[5,0,4,3,2,1],[6,5,0,4,3,2,1],[6,5,0,4,3,2,1],[],[9,7,6,5,0,4,3,2,1],[8,6,5,0,4,3,2,1,10,9,7]] [⟨some 35,none,.load true 1 (.t 6)⟩,⟨some 36,none,.mv (.t 7)⟩,⟨some 37,none,.iaddr 4 (.t 36) (.c (.int .i64 0))⟩,⟨some 38,none,.faddr 2 (.t 37)⟩,⟨some 39,none,.load true 2 (.t 38)⟩,⟨some 40,none,.call 87 [(.t 35),(.t 39)]⟩,⟨some 34,none,.mv (.t 40)⟩,⟨some 41,none,.ext (.t 34) 0⟩,⟨some 42,none,.ext (.t 34) 1⟩,⟨(some 10),none,(.alloc 71 [(.str ⟨#[]⟩),.nil])⟩,⟨none,none,(.store 2 (.t 10) (.t 41))⟩,⟨some 11,none,.mv (.t 42)⟩]) (.seq (.reg [⟨some 43,none,.mv (.t 7)⟩,⟨some 44,none,.slice false 4 (.t 43) (some (.c (.int .i64 1))) none⟩,⟨some 7,none,.mv (.t 44)⟩]) (.block 2 (.seq (.reg [⟨some 69,none,.mv (.t 9)⟩,⟨some 70,none,.un .not (.t 69)⟩,⟨some 71,none,.mv (.t 70)⟩,⟨(some 72),(some (71,false)),(.mv (.t 11))⟩,⟨(some 73),(some (71,false)),(.un .not (.t 72))⟩,⟨some 74,none,.pick (.t 71) (.c (.bool true)) (.t 73)⟩,⟨some 68,none,.mv (.t 74)⟩]) (.cond (.t 68) (.seq (.reg [⟨some 75,none,.build [.nil] []⟩,⟨none,none,(.store 1 (.t 4) (.t 75))⟩,⟨some 5,none,.mv (.c (.bool false))⟩]) .ret) (.seq (.reg [⟨some 77,none,.load true 2 (.t 8)⟩,⟨some 78,none,.load true 2 (.t 10)⟩,⟨some 79,none,.call 88 [(.t 77),(.t 78)]⟩,⟨some 76,none,.mv (.t 79)⟩]) (.cond (.t 76) .skip (.seq (.reg [⟨some 81,none,.load true 2 (.t 8)⟩,⟨some 82,none,.call 89 [(.t 81)]⟩,⟨some 83,none,.mv (.t 82)⟩,⟨(some 84),(some (83,false)),(.load true 2 (.t 10))⟩,⟨(some 85),(some (83,false)),(.call 89 [(.t 84)])⟩,⟨some 86,none,.pick (.t 83) (.c (.bool true)) (.t 85)⟩,⟨some 80,none,.mv (.t 86)⟩]) (.cond (.t 80) (.seq (.reg [⟨some 88,none,.load true 2 (.t 8)⟩,⟨some 89,none,.load true 2 (.t 10)⟩,⟨(some 90),none,(.build [(.str ⟨#[]⟩),.nil,(.str ⟨#[]⟩),.nil] [(0,(2,(.t 88))),(2,(2,(.t 89)))])⟩,⟨some 91,none,.call 90 [(.t 90)]⟩,⟨some 87,none,.mv (.t 91)⟩,⟨some 92,none,.ext (.t 87) 0⟩,⟨some 93,none,.ext (.t 87) 1⟩,⟨some 12,none,.alloc 76 [.nil]⟩,⟨none,none,(.store 1 (.t 12) (.t 92))⟩,⟨some 13,none,.mv (.t 93)⟩]) (.seq (.seq (.reg [⟨some 94,none,.mv (.t 13)⟩,⟨some 95,none,.un .not (.t 94)⟩]) (.cond (.t 95) (.seq (.reg [⟨some 96,none,.build [.nil] []⟩,⟨none,none,(.store 1 (.t 4) (.t 96))⟩,⟨some 5,none,.mv (.c (.bool false))⟩]) .ret) .skip)) (.seq (.reg [⟨some 98,none,.load true 1 (.t 6)⟩,⟨some 99,none,.load true 1 (.t 12)⟩,⟨some 100,none,.call 91 [(.t 98),(.t 99)]⟩,⟨some 97,none,.mv (.t 100)⟩,⟨some 101,none,.ext (.t 97) 0⟩,⟨some 102,none,.ext (.t 97) 1⟩,⟨none,none,(.store 1 (.t 6) (.t 101))⟩,⟨some 13,none,.mv (.t 102)⟩]) (.seq (.reg [⟨some 103,none,.mv (.t 13)⟩,⟨some 104,none,.un .not (.t 103)⟩]) (.cond (.t 104) (.seq (.reg [⟨some 105,none,.build [.nil] []⟩,⟨none,none,(.store 1 (.t 4) (.t 105))⟩,⟨some 5,none,.mv (.c (.bool false))⟩]) .ret) .skip))))) (.seq (.reg [⟨some 107,none,.faddr 0 (.t 8)⟩,⟨some 108,none,.load false 1 (.t 107)⟩,⟨some 109,none,.faddr 0 (.t 10)⟩,⟨some 110,none,.load false 1 (.t 109)⟩,⟨some 111,none,.bin .neq false (.t 108) (.t 110)⟩,⟨some 112,none,.mv (.t 111)⟩,⟨(some 113),(some (112,false)),(.faddr 1 (.t 8))⟩,⟨(some 114),(some (112,false)),(.load false 1 (.t 113))⟩,⟨(some 115),(some (112,false)),(.len false (.t 114))⟩,⟨(some 116),(some (112,false)),(.faddr 1 (.t 10))⟩,⟨(some 117),(some (112,false)),(.load false 1 (.t 116))⟩,⟨(some 118),(some (112,false)),(.len false (.t 117))⟩,⟨(some 119),(some (112,false)),(.bin .neq false (.t 115) (.t 118))⟩,⟨some 120,none,.pick (.t 112) (.c (.bool true)) (.t 119)⟩,⟨some 106,none,.mv (.t 120)⟩]) (.cond (.t 106) (.seq (.reg [⟨some 121,none,.build [.nil] []⟩,⟨none,none,(.store 1 (.t 4) (.t 121))⟩,⟨some 5,none,.mv (.c (.bool false))⟩]) .ret) (.seq (.reg [⟨(some 45),none,(.mkrow 107 4 [(.str ⟨#[]⟩),.nil,(.str ⟨#[]⟩),.nil] 0 [])⟩,⟨some 14,none,.mv (.t 45)⟩]) (.seq (.seq (.reg [⟨some 46,none,.faddr 1 (.t 8)⟩,⟨some 47,none,.load false 1 (.t 46)⟩,⟨some 48,none,.len false (.t 47)⟩,⟨some 49,none,.mv (.c (.int .i64 0))⟩]) (.block 3 (.loop [0,0,0,0,1,0,1,1,0,0,1,0,0,0,1,0,0,0,0,0,0,0,0,0,0,0,0,0,0,0,0,0,0,0,0,0,0,0,0,0,0,0,0,0,0,0,0,1,1,1,0,0,0,0,0,0,0,0,0,0,0,0,0,0,0,0,0,0,0,0,0,0,0,0,0,0,0,0,0,0,0,0,0,0,0,0,0,0,0,0,0,0,0,0,0,0,0,0,0,0,0,0,0,0,0,0,0,0,0,0,0,0,0,0,0,0,0,0,0,0,0,0,0] (.seq (.reg [⟨some 50,none,.bin .lss false (.t 49) (.t 48)⟩]) (.seq (.cond (.t 50) .skip (.exit 3)) (.seq (.block 4 (.seq (.reg [⟨some 51,none,.mv (.t 49)⟩,⟨some 52,none,.iaddr 2 (.t 47) (.t 49)⟩,⟨some 53,none,.load true 2 (.t 52)⟩,⟨(some 16),none,(.alloc 71 [(.str ⟨#[]⟩),.nil])⟩,⟨some 15,none,.mv (.t 51)⟩,⟨none,none,(.store 2 (.t 16) (.t 53))⟩]) (.dreg [[],[],[],[2],[],[3,2,4],[5,3,2,4],[1,6,5,3,2,4],[7,1,6,5,3,2,4],[0,8,7,1,6,5,3,2,4],[9,0,8,7,1,6,5,3,2,4]] [⟨some 54,none,.mv (.t 14)⟩,⟨some 55,none,.load true 2 (.t 16)⟩,⟨some 56,none,.faddr 1 (.t 10)⟩,⟨some 57,none,.load false 1 (.t 56)⟩,⟨some 58,none,.mv (.t 15)⟩,⟨some 59,none,.iaddr 2 (.t 57) (.t 58)⟩,⟨some 60,none,.load true 2 (.t 59)⟩,⟨(some 61),none,(.build [(.str ⟨#[]⟩),.nil,(.str ⟨#[]⟩),.nil] [(0,(2,(.t 55))),(2,(2,(.t 60)))])⟩,⟨(some 62),none,(.mkrow 107 4 [(.str ⟨#[]⟩),.nil,(.str ⟨#[]⟩),.nil] 1 [(0,(.t 61))])⟩,⟨(some 63),none,(.append 107 4 80 [(.str ⟨#[]⟩),.nil,(.str ⟨#[]⟩),.nil] (.t 54) (.t 62))⟩,⟨some 14,none,.mv (.t 63)⟩]))) (.reg [⟨some 64,none,.bin .add false (.t 49) (.c (.int .i64 1))⟩,⟨some 49,none,.mv (.t 64)⟩]))))))) (.reg [⟨some 65,none,.mv (.t 14)⟩,⟨some 66,none,.mv (.t 7)⟩,⟨(some 67),none,(.append 107 4 80 [(.str ⟨#[]⟩),.nil,(.str ⟨#[]⟩),.nil] (.t 65) (.t 66))⟩,⟨some 7,none,.mv (.t 67)⟩]))))))))))))))))))) (.seq (.reg [⟨some 122,none,.load true 1 (.t 6)⟩,⟨none,none,(.store 1 (.t 4) (.t 122))⟩,⟨some 5,none,.mv (.c (.bool true))⟩]) .ret)))))
theorem UG:codeOf Tryz.prog 57=some ⟨123,Nx,[(.cell 4 true 1),(.tmp 5)]⟩:=by kernel_rfl
theorem Js:modes 57=⟨[],.own [some (139,3),none],none,false⟩:=by unfold modes; rfl
abbrev u2b:SC:=(.seq (.seq (.reg [⟨(some 22),none,(.mv (.t 7))⟩,⟨(some 23),none,(.len false (.t 22))⟩,⟨(some 24),none,(.bin .gtr false (.t 23) (.c (.int .i64 0)))⟩]) (.cond (.t 24) .skip (.exit 0))) (.block 1 (.seq (.dreg [[],[],[1],[2,1],[3,2,1],[0,4,3,2,1],[5,0,4,3,2,1],[6,5,0,4,3,2,1],[6,5,0,4,3,2,1],[],[9,7,6,5,0,4,3,2,1],[8,6,5,0,4,3,2,1,10,9,7]] [⟨(some 26),none,(.load true 1 (.t 6))⟩,⟨(some 27),none,(.mv (.t 7))⟩,⟨(some 28),none,(.iaddr 4 (.t 27) (.c (.int .i64 0)))⟩,⟨(some 29),none,(.faddr 0 (.t 28))⟩,⟨(some 30),none,(.load true 2 (.t 29))⟩,⟨(some 31),none,(.call 87 [(.t 26),(.t 30)])⟩,⟨(some 25),none,(.mv (.t 31))⟩,⟨(some 32),none,(.ext (.t 25) 0)⟩,⟨(some 33),none,(.ext (.t 25) 1)⟩,⟨(some 8),none,(.alloc 71 [(.str ⟨#[]⟩),.nil])⟩,⟨none,none,(.store 2 (.t 8) (.t 32))⟩,⟨(some 9),none,(.mv (.t 33))⟩]) (.seq (.dreg [[],[],[1],[2,1],[3,2,1],[0,4,3,2,1],[5,0,4,3,2,1],[6,5,0,4,3,2,1],[6,5,0,4,3,2,1],[],[9,7,6,5,0,4,3,2,1],[8,6,5,0,4,3,2,1,10,9,7]] [⟨(some 35),none,(.load true 1 (.t 6))⟩,⟨(some 36),none,(.mv (.t 7))⟩,⟨(some 37),none,(.iaddr 4 (.t 36) (.c (.int .i64 0)))⟩,⟨(some 38),none,(.faddr 2 (.t 37))⟩,⟨(some 39),none,(.load true 2 (.t 38))⟩,⟨(some 40),none,(.call 87 [(.t 35),(.t 39)])⟩,⟨(some 34),none,(.mv (.t 40))⟩,⟨(some 41),none,(.ext (.t 34) 0)⟩,⟨(some 42),none,(.ext (.t 34) 1)⟩,⟨(some 10),none,(.alloc 71 [(.str ⟨#[]⟩),.nil])⟩,⟨none,none,(.store 2 (.t 10) (.t 41))⟩,⟨(some 11),none,(.mv (.t 42))⟩]) (.seq (.reg [⟨(some 43),none,(.mv (.t 7))⟩,⟨(some 44),none,(.slice false 4 (.t 43) (some (.c (.int .i64 1))) none)⟩,⟨(some 7),none,(.mv (.t 44))⟩]) (.block 2 (.seq (.reg [⟨(some 69),none,(.mv (.t 9))⟩,⟨(some 70),none,(.un .not (.t 69))⟩,⟨(some 71),none,(.mv (.t 70))⟩,⟨(some 72),(some (71,false)),(.mv (.t 11))⟩,⟨(some 73),(some (71,false)),(.un .not (.t 72))⟩,⟨(some 74),none,(.pick (.t 71) (.c (.bool true)) (.t 73))⟩,⟨(some 68),none,(.mv (.t 74))⟩]) (.cond (.t 68) (.seq (.reg [⟨(some 75),none,(.build [.nil] [])⟩,⟨none,none,(.store 1 (.t 4) (.t 75))⟩,⟨(some 5),none,(.mv (.c (.bool false)))⟩]) .ret) (.seq (.reg [⟨(some 77),none,(.load true 2 (.t 8))⟩,⟨(some 78),none,(.load true 2 (.t 10))⟩,⟨(some 79),none,(.call 88 [(.t 77),(.t 78)])⟩,⟨(some 76),none,(.mv (.t 79))⟩]) (.cond (.t 76) .skip (.seq (.reg [⟨(some 81),none,(.load true 2 (.t 8))⟩,⟨(some 82),none,(.call 89 [(.t 81)])⟩,⟨(some 83),none,(.mv (.t 82))⟩,⟨(some 84),(some (83,false)),(.load true 2 (.t 10))⟩,⟨(some 85),(some (83,false)),(.call 89 [(.t 84)])⟩,⟨(some 86),none,(.pick (.t 83) (.c (.bool true)) (.t 85))⟩,⟨(some 80),none,(.mv (.t 86))⟩]) (.cond (.t 80) (.seq (.reg [⟨(some 88),none,(.load true 2 (.t 8))⟩,⟨(some 89),none,(.load true 2 (.t 10))⟩,⟨(some 90),none,(.build [(.str ⟨#[]⟩),.nil,(.str ⟨#[]⟩),.nil] [(0,(2,(.t 88))),(2,(2,(.t 89)))])⟩,⟨(some 91),none,(.call 90 [(.t 90)])⟩,⟨(some 87),none,(.mv (.t 91))⟩,⟨(some 92),none,(.ext (.t 87) 0)⟩,⟨(some 93),none,(.ext (.t 87) 1)⟩,⟨(some 12),none,(.alloc 76 [.nil])⟩,⟨none,none,(.store 1 (.t 12) (.t 92))⟩,⟨(some 13),none,(.mv (.t 93))⟩]) (.seq (.seq (.reg [⟨(some 94),none,(.mv (.t 13))⟩,⟨(some 95),none,(.un .not (.t 94))⟩]) (.cond (.t 95) (.seq (.reg [⟨(some 96),none,(.build [.nil] [])⟩,⟨none,none,(.store 1 (.t 4) (.t 96))⟩,⟨(some 5),none,(.mv (.c (.bool false)))⟩]) .ret) .skip)) (.seq (.reg [⟨(some 98),none,(.load true 1 (.t 6))⟩,⟨(some 99),none,(.load true 1 (.t 12))⟩,⟨(some 100),none,(.call 91 [(.t 98),(.t 99)])⟩,⟨(some 97),none,(.mv (.t 100))⟩,⟨(some 101),none,(.ext (.t 97) 0)⟩,⟨(some 102),none,(.ext (.t 97) 1)⟩,⟨none,none,(.store 1 (.t 6) (.t 101))⟩,⟨(some 13),none,(.mv (.t 102))⟩]) (.seq (.reg [⟨(some 103),none,(.mv (.t 13))⟩,⟨(some 104),none,(.un .not (.t 103))⟩]) (.cond (.t 104) (.seq (.reg [⟨(some 105),none,(.build [.nil] [])⟩,⟨none,none,(.store 1 (.t 4) (.t 105))⟩,⟨(some 5),none,(.mv (.c (.bool false)))⟩]) .ret) .skip))))) (.seq (.reg [⟨(some 107),none,(.faddr 0 (.t 8))⟩,⟨(some 108),none,(.load false 1 (.t 107))⟩,⟨(some 109),none,(.faddr 0 (.t 10))⟩,⟨(some 110),none,(.load false 1 (.t 109))⟩,⟨(some 111),none,(.bin .neq false (.t 108) (.t 110))⟩,⟨(some 112),none,(.mv (.t 111))⟩,⟨(some 113),(some (112,false)),(.faddr 1 (.t 8))⟩,⟨(some 114),(some (112,false)),(.load false 1 (.t 113))⟩,⟨(some 115),(some (112,false)),(.len false (.t 114))⟩,⟨(some 116),(some (112,false)),(.faddr 1 (.t 10))⟩,⟨(some 117),(some (112,false)),(.load false 1 (.t 116))⟩,⟨(some 118),(some (112,false)),(.len false (.t 117))⟩,⟨(some 119),(some (112,false)),(.bin .neq false (.t 115) (.t 118))⟩,⟨(some 120),none,(.pick (.t 112) (.c (.bool true)) (.t 119))⟩,⟨(some 106),none,(.mv (.t 120))⟩]) (.cond (.t 106) (.seq (.reg [⟨(some 121),none,(.build [.nil] [])⟩,⟨none,none,(.store 1 (.t 4) (.t 121))⟩,⟨(some 5),none,(.mv (.c (.bool false)))⟩]) .ret) (.seq (.reg [⟨(some 45),none,(.mkrow 107 4 [(.str ⟨#[]⟩),.nil,(.str ⟨#[]⟩),.nil] 0 [])⟩,⟨(some 14),none,(.mv (.t 45))⟩]) (.seq (.seq (.reg [⟨(some 46),none,(.faddr 1 (.t 8))⟩,⟨(some 47),none,(.load false 1 (.t 46))⟩,⟨(some 48),none,(.len false (.t 47))⟩,⟨(some 49),none,(.mv (.c (.int .i64 0)))⟩]) (.block 3 (.loop [0,0,0,0,1,0,1,1,0,0,1,0,0,0,1,0,0,0,0,0,0,0,0,0,0,0,0,0,0,0,0,0,0,0,0,0,0,0,0,0,0,0,0,0,0,0,0,1,1,1,0,0,0,0,0,0,0,0,0,0,0,0,0,0,0,0,0,0,0,0,0,0,0,0,0,0,0,0,0,0,0,0,0,0,0,0,0,0,0,0,0,0,0,0,0,0,0,0,0,0,0,0,0,0,0,0,0,0,0,0,0,0,0,0,0,0,0,0,0,0,0,0,0] (.seq (.reg [⟨(some 50),none,(.bin .lss false (.t 49) (.t 48))⟩]) (.seq (.cond (.t 50) .skip (.exit 3)) (.seq (.block 4 (.seq (.reg [⟨(some 51),none,(.mv (.t 49))⟩,⟨(some 52),none,(.iaddr 2 (.t 47) (.t 49))⟩,⟨(some 53),none,(.load true 2 (.t 52))⟩,⟨(some 16),none,(.alloc 71 [(.str ⟨#[]⟩),.nil])⟩,⟨(some 15),none,(.mv (.t 51))⟩,⟨none,none,(.store 2 (.t 16) (.t 53))⟩]) (.dreg [[],[],[],[2],[],[3,2,4],[5,3,2,4],[1,6,5,3,2,4],[7,1,6,5,3,2,4],[0,8,7,1,6,5,3,2,4],[9,0,8,7,1,6,5,3,2,4]] [⟨(some 54),none,(.mv (.t 14))⟩,⟨(some 55),none,(.load true 2 (.t 16))⟩,⟨(some 56),none,(.faddr 1 (.t 10))⟩,⟨(some 57),none,(.load false 1 (.t 56))⟩,⟨(some 58),none,(.mv (.t 15))⟩,⟨(some 59),none,(.iaddr 2 (.t 57) (.t 58))⟩,⟨(some 60),none,(.load true 2 (.t 59))⟩,⟨(some 61),none,(.build [(.str ⟨#[]⟩),.nil,(.str ⟨#[]⟩),.nil] [(0,(2,(.t 55))),(2,(2,(.t 60)))])⟩,⟨(some 62),none,(.mkrow 107 4 [(.str ⟨#[]⟩),.nil,(.str ⟨#[]⟩),.nil] 1 [(0,(.t 61))])⟩,⟨(some 63),none,(.append 107 4 80 [(.str ⟨#[]⟩),.nil,(.str ⟨#[]⟩),.nil] (.t 54) (.t 62))⟩,⟨(some 14),none,(.mv (.t 63))⟩]))) (.reg [⟨(some 64),none,(.bin .add false (.t 49) (.c (.int .i64 1)))⟩,⟨(some 49),none,(.mv (.t 64))⟩]))))))) (.reg [⟨(some 65),none,(.mv (.t 14))⟩,⟨(some 66),none,(.mv (.t 7))⟩,⟨(some 67),none,(.append 107 4 80 [(.str ⟨#[]⟩),.nil,(.str ⟨#[]⟩),.nil] (.t 65) (.t 66))⟩,⟨(some 7),none,(.mv (.t 67))⟩])))))))))))))))))
abbrev u2H:Nat × Bool × Bool × Sb × List (Tm × Tm)→St:=fun a=>⟨slots 123 0 [(4,.ptr 0 0),(6,.ptr 1 0),(7,(bif a.2.2.1 then .ref 2 else .arr (a.2.2.2.2.map eqD)))],([.box 76 [.nil],.box 76 [bif a.2.1 then .nil else .ref (bif a.2.2.1 then 3 else 2)]]++((bif a.2.2.1 then [.row 107 4 (a.2.2.2.2.map eqO)] else [])++(bif a.2.1 then [] else [.row 139 3 (a.2.2.2.1.binds.map Bd.o)])))⟩
abbrev u2R (total:Option Sb):Nat × Bool × Bool × Sb × List (Tm × Tm)→Prop:=fun a=>uInv a.2.2.2.1 a.2.2.2.2∧BB a.1 a.2.2.2.1 a.2.2.2.2=some total∧(a.2.1=true→a.2.2.2.1.binds=[])
abbrev u2K (total:Option Sb):X→St→Prop:=blk 0 (Q3 0 (.seq (.reg [⟨(some 122),none,(.load true 1 (.t 6))⟩,⟨none,none,(.store 1 (.t 4) (.t 122))⟩,⟨(some 5),none,(.mv (.c (.bool true)))⟩]) .ret) (RV (.own [some (139,3),none]) 0 [(.cell 4 true 1),(.tmp 5)] (.tup [(uTo total).osv,.bool (uOk total)],(uTo total).obs)))
abbrev KG:List Nat:=[0,0,0,0,1,0,1,1,0,0,0,0,0,0,0,0,0,0,0,0,0,0,0,0,0,0,0,0,0,0,0,0,0,0,0,0,0,0,0,0,0,0,0,0,0,0,0,0,0,0,0,0,0,0,0,0,0,0,0,0,0,0,0,0,0,0,0,0,0,0,0,0,0,0,0,0,0,0,0,0,0,0,0,0,0,0,0,0,0,0,0,0,0,0,0,0,0,0,0,0,0,0,0,0,0,0,0,0,0,0,0,0,0,0,0,0,0,0,0,0,0,0,0]
end Go.Proofs.YtibdknkacmimgaaGreatDoor
