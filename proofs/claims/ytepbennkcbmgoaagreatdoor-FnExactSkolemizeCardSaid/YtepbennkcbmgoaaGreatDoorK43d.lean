/-
  This text holds, one behind the other: This text tells what the functions of terms answer in both packages: valid terms and atoms. No condition.
  This text holds plain laws of expressions and of the sizes of terms. No condition.
  This text holds plain laws of formulas: sizes, forms, validity. No condition.
  This text holds plain laws of atoms. No condition.
  This text holds plain laws of formulas: what their forms say. No condition.
  This text holds plain laws of the negation normal form. No condition.
  This text tells what the order of terms answers in both packages. No condition.
  This text holds a plain law of atoms. No condition.
  This text tells what the variables of a term answer in both packages. No condition.
  This text gives the steps of runs once more, of a kind where no draw is taken back: no function is told apart there. No condition.
  This text tells what the variables of a term answer in the reference. No condition.
  This text holds plain laws of the order of names. No condition.
  This text holds plain laws of sorted names: putting one after the other at its place sorts. No condition.
  This text holds plain laws of formulas: free variables, substituting a variable. No condition.
  This text holds plain laws of giving quantifiers variables of their own. No condition.
  This text tells what the validity of substitutions answers in both packages, and the place of a binding. No condition.
  This text tells what copies of terms answer in both packages. No condition.
  This text holds a rule for runs of which a part of the answer is left open. No condition.
  This text tells what the reference's copies of terms answer. No condition.
  This text tells what the search for a binding answers. No condition.
  This text tells what applying a substitution answers in both packages. No condition.
  This text tells what ApplySubstitution answers in both packages. No condition.
  This text holds the plain laws of composing substitutions. No condition.
  This text tells what the laws' marks answer. No condition.
  This text tells what the laws read of the marks. No condition.
  This text tells what the laws' marks of a record answer. No condition.
  This text tells what the laws' measuring functions answer. No condition.
  This text tells what the laws' copying functions answer. No condition.
  This text tells what the laws' comparing functions answer. No condition.
  This text tells what composing substitutions answers in the program. No condition.
  This text tells what composing substitutions answers in both packages. No condition.
  This text holds the plain laws of unification: what the steps do, and that they end. No condition.
  This text tells that no name is a variable and a symbol. No condition.
  This text holds plain laws of removing existential quantifiers: maps from variables to terms, the walk over formulas. No condition.
  This text tells what replacing variables by a map, numbered names and variables as terms answer in the program. No condition.
  This text tells what the sizes of formulas answer in both packages. No condition.
-/
import Derived.Test.YtepbennkcbmgoaaGreatDoorK43c
set_option maxHeartbeats 16000000
open Bool renaming and_eq_true → zA, or_eq_true → yC, false_eq_true → yE, or_eq_false_iff → yN, and_false → yR, eq_false_iff → yS, false_and → yY, true_and → y4
open Nat renaming lt_or_ge → zB, zero_le → zI, eq_zero_or_pos → zL, le_refl → zS, zero_add → yQ, not_lt → yU
open List renaming drop_eq_getElem_cons → zC, getElem_mem → zD, length_map → zE, drop_eq_nil_of_le → zF, length_cons → zG, drop_zero → zH, eq_nil_of_length_eq_zero → zJ, map_nil → zK, map_cons → zN, pairwise_cons → zO, length_nil → zP, length_append → zR, all_eq_true → zT, foldl_cons → zU, mem_cons → zV, length_take → zX, getElem_map → zY, getElem?_eq_getElem → zZ, getElem_cons_succ → z6, nil_append → z7, take_zero → z8, getElem?_append_right → yA, map_map → yB, map_append → yD, getElem_cons_zero → yF, getElem?_map → yH, take_of_length_le → yI, take_succ_eq_append_getElem → yJ, getElem?_set_self → yK, getElem?_eq_none → yL, take_length → yM, append_nil → yO, getElem_of_mem → yP, all_map → yV, length_set → yX, map → yZ, any_cons → y5
open Int renaming toNat_zero → zM, toNat_natCast → yG
open Option.some renaming injEq → zQ, inj → yW
open Prod.mk renaming injEq → zW
open List.cons renaming inj → yT
set_option maxRecDepth 100000
set_option linter.unusedSimpArgs false
set_option linter.unusedVariables false
set_option linter.unusedSectionVars false
namespace Go.Proofs.YtepbennkcbmgoaaGreatDoor
open Go.RowKit
def FZ:SC:=(.seq (.reg [⟨some 1,none,.boxv 33 2 (.t 0)⟩,⟨some 2,none,.mv (.c (.bool false))⟩]) (.seq (.reg [⟨some 3,none,.load true 2 (.t 1)⟩,⟨some 4,none,.call 296 [(.t 3)]⟩,⟨some 5,none,.bin .leq false (.t 4) (.c (.int .i64 30))⟩,⟨some 6,none,.mv (.t 5)⟩,⟨(some 7),(some (6,true)),(.load true 2 (.t 1))⟩,⟨(some 8),(some (6,true)),(.call 297 [(.t 7)])⟩,⟨(some 9),(some (6,true)),(.bin .leq false (.t 8) (.c (.int .i64 8)))⟩,⟨some 10,none,.pick (.t 6) (.t 9) (.c (.bool false))⟩,⟨some 2,none,.mv (.t 10)⟩]) .ret))
theorem Ji:codeOf Tryz.prog 244=some ⟨11,FZ,[(.tmp 2)]⟩:=by kernel_rfl
theorem Bj:modes 244=⟨[],.asis,none,false⟩:=by unfold modes; rfl
def Hd:SC:=(.seq (.reg [⟨some 1,none,.boxv 33 2 (.t 0)⟩,⟨some 2,none,.mv (.c (.bool false))⟩]) (.seq (.reg [⟨some 3,none,.load true 2 (.t 1)⟩,⟨some 4,none,.call 307 [(.t 3),(.c (.int .i64 30))]⟩,⟨some 5,none,.bin .leq false (.t 4) (.c (.int .i64 30))⟩,⟨some 6,none,.mv (.t 5)⟩,⟨(some 7),(some (6,true)),(.load true 2 (.t 1))⟩,⟨(some 8),(some (6,true)),(.call 308 [(.t 7)])⟩,⟨(some 9),(some (6,true)),(.bin .leq false (.t 8) (.c (.int .i64 8)))⟩,⟨some 10,none,.pick (.t 6) (.t 9) (.c (.bool false))⟩,⟨some 2,none,.mv (.t 10)⟩]) .ret))
theorem Kn:codeOf Tryz.prog 263=some ⟨11,Hd,[(.tmp 2)]⟩:=by kernel_rfl
theorem By:modes 263=⟨[],.asis,none,false⟩:=by unfold modes; rfl
def Eb:SC:=(.seq (.reg [⟨some 1,none,.boxv 33 2 (.t 0)⟩,⟨some 2,none,.mv (.c (.bool false))⟩]) (.seq (.reg [⟨some 3,none,.load true 2 (.t 1)⟩,⟨some 4,none,.call 244 [(.t 3)]⟩,⟨some 5,none,.mv (.t 4)⟩,⟨(some 6),(some (5,true)),(.load true 2 (.t 1))⟩,⟨(some 7),(some (5,true)),(.call 245 [(.t 6)])⟩,⟨some 8,none,.pick (.t 5) (.t 7) (.c (.bool false))⟩,⟨some 2,none,.mv (.t 8)⟩]) .ret))
theorem Ga:codeOf Tryz.prog 246=some ⟨9,Eb,[(.tmp 2)]⟩:=by kernel_rfl
theorem Bb:modes 246=⟨[],.asis,none,false⟩:=by unfold modes; rfl
def He:SC:=(.seq (.reg [⟨some 1,none,.boxv 33 2 (.t 0)⟩,⟨some 2,none,.mv (.c (.bool false))⟩]) (.seq (.reg [⟨some 3,none,.load true 2 (.t 1)⟩,⟨some 4,none,.call 263 [(.t 3)]⟩,⟨some 5,none,.mv (.t 4)⟩,⟨(some 6),(some (5,true)),(.load true 2 (.t 1))⟩,⟨(some 7),(some (5,true)),(.call 264 [(.t 6)])⟩,⟨some 8,none,.pick (.t 5) (.t 7) (.c (.bool false))⟩,⟨some 2,none,.mv (.t 8)⟩]) .ret))
theorem Ko:codeOf Tryz.prog 266=some ⟨9,He,[(.tmp 2)]⟩:=by kernel_rfl
theorem BW:modes 266=⟨[],.asis,none,false⟩:=by unfold modes; rfl
def GC:SC:=(.seq (.reg [⟨some 1,none,.boxv 33 2 (.t 0)⟩,⟨some 2,none,.mv (.c (.bool false))⟩]) (.seq (.reg [⟨some 3,none,.faddr 0 (.t 1)⟩,⟨some 4,none,.load false 1 (.t 3)⟩,⟨(some 5),none,(.bin .eql false (.t 4) (.c (.str ⟨#[61]⟩)))⟩,⟨some 2,none,.mv (.t 5)⟩]) .ret))
theorem LG:codeOf Tryz.prog 243=some ⟨6,GC,[(.tmp 2)]⟩:=by kernel_rfl
theorem B3:modes 243=⟨[],.asis,none,false⟩:=by unfold modes; rfl
def Bl:SC:=(.seq (.reg [⟨some 1,none,.boxv 33 2 (.t 0)⟩,⟨some 2,none,.mv (.c (.bool false))⟩]) (.seq (.seq (.reg [⟨some 3,none,.load true 2 (.t 1)⟩,⟨some 4,none,.call 243 [(.t 3)]⟩]) (.cond (.t 4) (.seq (.reg [⟨some 5,none,.faddr 1 (.t 1)⟩,⟨some 6,none,.load false 1 (.t 5)⟩,⟨some 7,none,.len false (.t 6)⟩,⟨some 8,none,.bin .eql false (.t 7) (.c (.int .i64 2))⟩,⟨some 9,none,.mv (.t 8)⟩,⟨(some 10),(some (9,true)),(.load true 2 (.t 1))⟩,⟨(some 11),(some (9,true)),(.call 244 [(.t 10)])⟩,⟨some 12,none,.pick (.t 9) (.t 11) (.c (.bool false))⟩,⟨some 13,none,.mv (.t 12)⟩,⟨(some 14),(some (13,true)),(.faddr 1 (.t 1))⟩,⟨(some 15),(some (13,true)),(.load false 1 (.t 14))⟩,⟨(some 16),(some (13,true)),(.iaddr 2 (.t 15) (.c (.int .i64 0)))⟩,⟨(some 17),(some (13,true)),(.load true 2 (.t 16))⟩,⟨(some 18),(some (13,true)),(.call 245 [(.t 17)])⟩,⟨some 19,none,.pick (.t 13) (.t 18) (.c (.bool false))⟩,⟨some 20,none,.mv (.t 19)⟩,⟨(some 21),(some (20,true)),(.faddr 1 (.t 1))⟩,⟨(some 22),(some (20,true)),(.load false 1 (.t 21))⟩,⟨(some 23),(some (20,true)),(.iaddr 2 (.t 22) (.c (.int .i64 1)))⟩,⟨(some 24),(some (20,true)),(.load true 2 (.t 23))⟩,⟨(some 25),(some (20,true)),(.call 245 [(.t 24)])⟩,⟨some 26,none,.pick (.t 20) (.t 25) (.c (.bool false))⟩,⟨some 2,none,.mv (.t 26)⟩]) .ret) .skip)) (.seq (.reg [⟨some 27,none,.faddr 0 (.t 1)⟩,⟨some 28,none,.load false 1 (.t 27)⟩,⟨some 29,none,.call 184 [(.t 28)]⟩,⟨some 30,none,.mv (.t 29)⟩,⟨(some 31),(some (30,true)),(.load true 2 (.t 1))⟩,⟨(some 32),(some (30,true)),(.call 246 [(.t 31)])⟩,⟨some 33,none,.pick (.t 30) (.t 32) (.c (.bool false))⟩,⟨some 2,none,.mv (.t 33)⟩]) .ret)))
theorem B9:codeOf Tryz.prog 178=some ⟨34,Bl,[(.tmp 2)]⟩:=by kernel_rfl
theorem Ad:modes 178=⟨[],.asis,none,false⟩:=by unfold modes; rfl
def Cx:SC:=(.seq (.reg [⟨some 1,none,.boxv 33 2 (.t 0)⟩,⟨some 2,none,.mv (.c (.bool false))⟩]) (.seq (.seq (.reg [⟨some 3,none,.faddr 0 (.t 1)⟩,⟨some 4,none,.load false 1 (.t 3)⟩,⟨(some 5),none,(.bin .eql false (.t 4) (.c (.str ⟨#[61]⟩)))⟩]) (.cond (.t 5) (.seq (.reg [⟨some 6,none,.faddr 1 (.t 1)⟩,⟨some 7,none,.load false 1 (.t 6)⟩,⟨some 8,none,.len false (.t 7)⟩,⟨some 9,none,.bin .eql false (.t 8) (.c (.int .i64 2))⟩,⟨some 10,none,.mv (.t 9)⟩,⟨(some 11),(some (10,true)),(.load true 2 (.t 1))⟩,⟨(some 12),(some (10,true)),(.call 263 [(.t 11)])⟩,⟨some 13,none,.pick (.t 10) (.t 12) (.c (.bool false))⟩,⟨some 14,none,.mv (.t 13)⟩,⟨(some 15),(some (14,true)),(.faddr 1 (.t 1))⟩,⟨(some 16),(some (14,true)),(.load false 1 (.t 15))⟩,⟨(some 17),(some (14,true)),(.iaddr 2 (.t 16) (.c (.int .i64 0)))⟩,⟨(some 18),(some (14,true)),(.load true 2 (.t 17))⟩,⟨(some 19),(some (14,true)),(.call 264 [(.t 18)])⟩,⟨some 20,none,.pick (.t 14) (.t 19) (.c (.bool false))⟩,⟨some 21,none,.mv (.t 20)⟩,⟨(some 22),(some (21,true)),(.faddr 1 (.t 1))⟩,⟨(some 23),(some (21,true)),(.load false 1 (.t 22))⟩,⟨(some 24),(some (21,true)),(.iaddr 2 (.t 23) (.c (.int .i64 1)))⟩,⟨(some 25),(some (21,true)),(.load true 2 (.t 24))⟩,⟨(some 26),(some (21,true)),(.call 264 [(.t 25)])⟩,⟨some 27,none,.pick (.t 21) (.t 26) (.c (.bool false))⟩,⟨some 2,none,.mv (.t 27)⟩]) .ret) .skip)) (.seq (.reg [⟨some 28,none,.faddr 0 (.t 1)⟩,⟨some 29,none,.load false 1 (.t 28)⟩,⟨some 30,none,.call 265 [(.t 29)]⟩,⟨some 31,none,.mv (.t 30)⟩,⟨(some 32),(some (31,true)),(.load true 2 (.t 1))⟩,⟨(some 33),(some (31,true)),(.call 266 [(.t 32)])⟩,⟨some 34,none,.pick (.t 31) (.t 33) (.c (.bool false))⟩,⟨some 2,none,.mv (.t 34)⟩]) .ret)))
theorem Da:codeOf Tryz.prog 194=some ⟨35,Cx,[(.tmp 2)]⟩:=by kernel_rfl
theorem Al:modes 194=⟨[],.asis,none,false⟩:=by unfold modes; rfl
theorem Rk (x:Tm) (hn:x.nodes≤1099511627776):E 244 [x.sv] []=some (.bool x.small,[]):=by
 have h1:=ZD x hn
 have h2:=X9 x hn
 have h3:=Tm.cap_spec x
 have h4:=Tm.many_spec x 30
 unfold Tm.small
 rcases zB 30 x.nodes with h5 | h5
 ·rw [decide_eq_false (by omega),yY]
  refine Ai Ji Bj (of_decide_eq_true rfl) ?_
  simp (disch:=omega) only [FZ,go_sem,Ab,h1,h2,Fn,FA]
 ·rw [decide_eq_true h5,y4]
  refine Ai Ji Bj (of_decide_eq_true rfl) ?_
  simp (disch:=omega) only [FZ,go_sem,Ab,h1,h2,Fn,FA]
  rcases zB 8 x.deep with h6 | h6
  ·rw [decide_eq_false (by omega),Aj (by omega)]
  ·rw [decide_eq_true h6,An (by omega)]
theorem Ue (x:Tm) (hn:x.nodes≤1099511627776):E 263 [x.sv] []=some (.bool x.small,[]):=by
 have h1:=ZE x 30 (by omega) (by omega) hn
 have h2:=Rj x hn
 have h3:=Tm.cap_spec x
 have h4:=Tm.many_spec x 30
 unfold Tm.small
 rcases zB 30 x.nodes with h5 | h5
 ·rw [decide_eq_false (by omega),yY]
  refine Ai Kn By (of_decide_eq_true rfl) ?_
  simp (disch:=omega) only [Hd,go_sem,Ab,h1,h2,DI,Ek]
 ·rw [decide_eq_true h5,y4]
  refine Ai Kn By (of_decide_eq_true rfl) ?_
  simp (disch:=omega) only [Hd,go_sem,Ab,h1,h2,DI,Ek]
  rcases zB 8 x.deep with h6 | h6
  ·rw [decide_eq_false (by omega),Aj (by omega)]
  ·rw [decide_eq_true h6,An (by omega)]
theorem Qh (x:Tm) (hn:x.nodes≤1099511627776):E 246 [x.sv] []=some (.bool x.valid,[]):=by
 have h1:=Rk x hn
 have h2:=Ik x hn
 unfold Tm.valid
 cases h3:x.small <;> rw [h3] at h1
 ·refine Ai Ga Bb (of_decide_eq_true rfl) ?_
  simp (disch:=omega) only [Eb,go_sem,Ab,h1,h2,Bj,AH]
 ·refine Ai Ga Bb (of_decide_eq_true rfl) ?_
  simp (disch:=omega) only [Eb,go_sem,Ab,h1,h2,Bj,AH]
theorem ZH (x:Tm) (hn:x.nodes≤1099511627776):E 266 [x.sv] []=some (.bool x.valid,[]):=by
 have h1:=Ue x hn
 have h2:=JP x hn
 unfold Tm.valid
 cases h3:x.small <;> rw [h3] at h1
 ·refine Ai Ko BW (of_decide_eq_true rfl) ?_
  simp (disch:=omega) only [He,go_sem,Ab,h1,h2,By,AI]
 ·refine Ai Ko BW (of_decide_eq_true rfl) ?_
  simp (disch:=omega) only [He,go_sem,Ab,h1,h2,By,AI]
theorem LH (x:Tm):E 243 [x.sv] []=some (.bool x.eqn,[]):=by
 unfold Tm.eqn
 refine Ai LG B3 (of_decide_eq_true rfl) ?_
 simp (disch:=omega) only [GC,go_sem,Ab]
theorem Qi (x:Tm) (hn:x.nodes≤1099511627776):E 178 [x.sv] []=some (.bool x.atom,[]):=by
  have hl:=Tm.length_le x.args
  have hx:=Tm.nodes_eq x
  have h0:=LH x
  have h1:=Rk x hn
  have h2:=FW x.name
  have h3:=Qh x hn
  have hE:dec (x.name=⟨#[61]⟩)=x.eqn:=rfl
  unfold Tm.atom
  cases he:x.eqn <;> rw [he] at h0 hE
  · rw [if_neg (by simp)]
    cases hs:Dd x.name <;> rw [hs] at h2
    · refine Ai B9 Ad (of_decide_eq_true rfl) ?_
      simp (disch:=omega) only [Bl,go_sem,Ab,h0,h1,h2,h3,hE,Bj,AH,AG,Bb,B3]
    · refine Ai B9 Ad (of_decide_eq_true rfl) ?_
      simp (disch:=omega) only [Bl,go_sem,Ab,h0,h1,h2,h3,hE,Bj,AH,AG,Bb,B3]
  · rw [if_pos rfl]
    by_cases hc:x.args.length=2
    · have hlt0:0<x.args.length:=by omega
      have hlt1:1<x.args.length:=by omega
      have hg0:=get_at Tm.d hlt0
      have hg1:=get_at Tm.d hlt1
      rw [Tm.d_eq] at hg0 hg1
      have hb0:=Tm.nodes_le x.args 0 hlt0
      have hb1:=Tm.nodes_le x.args 1 hlt1
      have hn0:=Ik x.args[0] (by omega)
      have hn1:=Ik x.args[1] (by omega)
      rw [Rg hc,show (x.args.length == 2)=true by simpa using hc]
      cases hs:x.small <;> rw [hs] at h1
      · refine Ai B9 Ad (of_decide_eq_true rfl) ?_
        simp (disch:=omega) only [Bl,go_sem,Ab,h0,h1,h2,h3,hE,hg0,hg1,hn0,hn1,hc,Bj,AH,AG,Bb,B3]
        try simp
      · cases hq:(x.args[0]'hlt0).names <;> rw [hq] at hn0
        · refine Ai B9 Ad (of_decide_eq_true rfl) ?_
          simp (disch:=omega) only [Bl,go_sem,Ab,h0,h1,h2,h3,hE,hg0,hg1,hn0,hn1,hc,Bj,AH,AG,Bb,B3]
          try simp
        · refine Ai B9 Ad (of_decide_eq_true rfl) ?_
          simp (disch:=omega) only [Bl,go_sem,Ab,h0,h1,h2,h3,hE,hg0,hg1,hn0,hn1,hc,Bj,AH,AG,Bb,B3]
          try simp
    · refine Ai B9 Ad (of_decide_eq_true rfl) ?_
      simp (disch:=omega) only [Bl,go_sem,Ab,h0,h1,h2,h3,hE,Bj,AH,AG,Bb,B3]
      rw [show (x.args.length == 2)=false by simpa using hc]
      try simp
theorem ZI (x:Tm) (hn:x.nodes≤1099511627776):E 194 [x.sv] []=some (.bool x.atom,[]):=by
  have hl:=Tm.length_le x.args
  have hx:=Tm.nodes_eq x
  have h0:=LH x
  have h1:=Ue x hn
  have h2:=Ps x.name
  have h3:=ZH x hn
  have hE:dec (x.name=⟨#[61]⟩)=x.eqn:=rfl
  unfold Tm.atom
  cases he:x.eqn <;> rw [he] at h0 hE
  · rw [if_neg (by simp)]
    cases hs:Dd x.name <;> rw [hs] at h2
    · refine Ai Da Al (of_decide_eq_true rfl) ?_
      simp (disch:=omega) only [Cx,go_sem,Ab,h0,h1,h2,h3,hE,By,AI,Bh,BW]
    · refine Ai Da Al (of_decide_eq_true rfl) ?_
      simp (disch:=omega) only [Cx,go_sem,Ab,h0,h1,h2,h3,hE,By,AI,Bh,BW]
  · rw [if_pos rfl]
    by_cases hc:x.args.length=2
    · have hlt0:0<x.args.length:=by omega
      have hlt1:1<x.args.length:=by omega
      have hg0:=get_at Tm.d hlt0
      have hg1:=get_at Tm.d hlt1
      rw [Tm.d_eq] at hg0 hg1
      have hb0:=Tm.nodes_le x.args 0 hlt0
      have hb1:=Tm.nodes_le x.args 1 hlt1
      have hn0:=JP x.args[0] (by omega)
      have hn1:=JP x.args[1] (by omega)
      rw [Rg hc,show (x.args.length == 2)=true by simpa using hc]
      cases hs:x.small <;> rw [hs] at h1
      · refine Ai Da Al (of_decide_eq_true rfl) ?_
        simp (disch:=omega) only [Cx,go_sem,Ab,h0,h1,h2,h3,hE,hg0,hg1,hn0,hn1,hc,By,AI,Bh,BW]
        try simp
      · cases hq:(x.args[0]'hlt0).names <;> rw [hq] at hn0
        · refine Ai Da Al (of_decide_eq_true rfl) ?_
          simp (disch:=omega) only [Cx,go_sem,Ab,h0,h1,h2,h3,hE,hg0,hg1,hn0,hn1,hc,By,AI,Bh,BW]
          try simp
        · refine Ai Da Al (of_decide_eq_true rfl) ?_
          simp (disch:=omega) only [Cx,go_sem,Ab,h0,h1,h2,h3,hE,hg0,hg1,hn0,hn1,hc,By,AI,Bh,BW]
          try simp
    · refine Ai Da Al (of_decide_eq_true rfl) ?_
      simp (disch:=omega) only [Cx,go_sem,Ab,h0,h1,h2,h3,hE,By,AI,Bh,BW]
      rw [show (x.args.length == 2)=false by simpa using hc]
      try simp
noncomputable def Tm.expr (x:Tm):Bool:=x.valid || x.atom
theorem Tm.Wx {x:Tm} (h:x.expr=true):x.small=true:=by
 unfold Tm.expr Tm.atom Tm.valid at h
 cases hs:x.small with
 | true=>rfl
 | false =>
  rw [hs] at h
  split at h <;> simp at h
theorem Tm.Wy {x:Tm} (h:x.expr=true):x.nodes≤30:=by
 have:=Tm.Wx h
 unfold Tm.small at this
 rw [zA,decide_eq_true_eq] at this
 exact this.1
theorem Tm.Wz {x:Tm} (h:x.expr=true):x.names=true∨(x.eqn=true∧Tm.F1 x.args=true):=by
 unfold Tm.expr Tm.valid at h
 cases hn:x.names with
 | true=>exact .inl rfl
 | false =>
  rw [hn,yR,Bool.false_or] at h
  unfold Tm.atom at h
  split at h
  ·rename_i he
   rw [zA] at h
   exact .inr ⟨he,h.2⟩
  ·unfold Tm.valid at h; rw [hn,yR,yR] at h; cases h
theorem Tm.Uf {x:Tm} (h:x.expr=true) {y:Tm} (hy:y∈x.args):y.names=true:=by
 rcases Tm.Wz h with h1 | ⟨h1,h2⟩
 ·exact Tm.EI h1 hy
 ·rw [Tm.HF,zT] at h2; exact h2 y hy
theorem Tm.Pw:∀ xs:List Tm,(∀ x∈xs,x.nodes≤1+x.bulk)→Tm.nodeS xs≤xs.length+Tm.sumB xs
 | [],_=>by simp [Tm.nodeS]
 | x :: xs,h=>by
  have h1:=h x (by simp)
  have h2:=Tm.Pw xs fun y hy=>h y (by simp [hy])
  rw [Tm.nodeS,Tm.sumB]; simp only [zG]; omega
theorem Tm.Px (x:Tm):x.nodes≤1+x.bulk:=by
 rw [Tm.nodes_eq,Tm.bulk_eq]
 have:=Tm.Pw x.args fun y hy=>Tm.Px y
 omega
termination_by SizeOf.sizeOf x
decreasing_by exact Tm.lt_of_mem hy
theorem Rl {s:ByteArray} (h:AO s=true):s.size≤6:=by
 unfold AO inB at h
 simp at h
 omega
theorem Rm {s:ByteArray} (h:Dd s=true):s.size≤6:=by
 unfold Dd inB at h
 simp at h
 omega
theorem Tm.KT:∀ xs:List Tm,(∀ x∈xs,x.bulk+1≤8*x.nodes)→xs.length+Tm.sumB xs≤8*Tm.nodeS xs
 | [],_=>by simp [Tm.nodeS,Tm.sumB]
 | x :: xs,h=>by
  have h1:=h x (by simp)
  have h2:=Tm.KT xs fun y hy=>h y (by simp [hy])
  rw [Tm.nodeS,Tm.sumB]; simp only [zG]; omega
theorem Tm.Py (x:Tm) (h:x.names=true):x.bulk+1≤8*x.nodes:=by
 have h1:=Tm.KT x.args fun y hy=>Tm.Py y (Tm.EI h hy)
 have h2:x.name.size≤6:=by
  rw [Tm.HD] at h
  split at h
  ·rename_i hv; exact Rl hv
  ·rw [zA,zA] at h; exact Rm h.1.1
 rw [Tm.nodes_eq,Tm.bulk_eq]
 omega
termination_by SizeOf.sizeOf x
decreasing_by exact Tm.lt_of_mem hy
mutual
def Fm.nodes:Fm→Nat
 | .mk _ _ _ args=>1+Fm.nodeS args
def Fm.nodeS:List Fm→Nat
 | []=>0
 | x :: xs=>Fm.nodes x+Fm.nodeS xs
end
theorem Fm.nodes_eq (x:Fm):x.nodes=1+Fm.nodeS x.parts:=by
 obtain ⟨op,atom,var,parts⟩:=x
 rw [Fm.nodes]; rfl
theorem Fm.nodes_pos (x:Fm):1≤x.nodes:=by rw [Fm.nodes_eq]; omega
theorem Fm.nodes_le:∀ (xs:List Fm) (k:Nat) (h:k<xs.length),xs[k].nodes≤Fm.nodeS xs
 | [],k,h=>absurd h (by simp)
 | x :: xs,0,_=>by rw [Fm.nodeS]; simp
 | x :: xs,k+1,h=>by
  have:=Fm.nodes_le xs k (by simpa using h)
  rw [Fm.nodeS]; simp only [z6]; omega
theorem Fm.nodes_mem {xs:List Fm} {y:Fm} (h:y∈xs):y.nodes≤Fm.nodeS xs:=by
 obtain ⟨k,hk,rfl⟩:=yP h
 exact Fm.nodes_le xs k hk
mutual
def Fm.cap:Fm→Int
 | .mk _ _ _ xs=>Fm.capL xs 1
def Fm.capL:List Fm→Int→Int
 | [],n=>n
 | x :: xs,n=>if 40 < n then n else Fm.capL xs (n+Fm.cap x)
end
theorem Fm.cap_eq (x:Fm):x.cap=Fm.capL x.parts 1:=by
 obtain ⟨op,atom,var,xs⟩:=x
 rw [Fm.cap]; rfl
theorem Fm.capL_spec:∀ (xs:List Fm) (n:Int),(∀ x∈xs,1≤x.cap∧x.cap≤x.nodes∧(x.cap≤40→x.cap=x.nodes))→1≤n→n≤Fm.capL xs n∧Fm.capL xs n≤n+Fm.nodeS xs∧(Fm.capL xs n≤40→Fm.capL xs n=n+Fm.nodeS xs)
  | [],n,_,h=>by simp [Fm.capL,Fm.nodeS]
  | x :: xs,n,hx,h=>by
    rw [Fm.capL,Fm.nodeS]
    have h1:=hx x (by simp)
    split
    · omega
    · have:=Fm.capL_spec xs (n+x.cap) (fun y hy=>hx y (by simp [hy])) (by omega)
      omega
theorem Fm.cap_spec (x:Fm):1≤x.cap∧x.cap≤x.nodes∧(x.cap≤40→x.cap=x.nodes):=by
 rw [Fm.cap_eq,Fm.nodes_eq]
 have:=Fm.capL_spec x.parts 1 (fun y hy=>Fm.cap_spec y) (by omega)
 omega
termination_by SizeOf.sizeOf x
decreasing_by exact Fm.lt_of_mem hy
mutual
def Fm.many:Fm→Int→Int
 | .mk _ _ _ xs,m=>Fm.manyL xs m 1
def Fm.manyL:List Fm→Int→Int→Int
 | [],_,n=>n
 | x :: xs,m,n=>if n≤m then Fm.manyL xs m (n+Fm.many x (m-n)) else n
end
theorem Fm.many_eq (x:Fm) (m:Int):x.many m=Fm.manyL x.parts m 1:=by
 obtain ⟨op,atom,var,xs⟩:=x
 rw [Fm.many]; rfl
theorem Fm.manyL_spec (m:Int):∀ (xs:List Fm) (n:Int),(∀ x∈xs,∀ m,0≤m→1≤x.many m∧x.many m≤x.nodes∧(x.many m≤m→x.many m=x.nodes))→1≤n→n≤Fm.manyL xs m n∧Fm.manyL xs m n≤n+Fm.nodeS xs∧(Fm.manyL xs m n≤m→Fm.manyL xs m n=n+Fm.nodeS xs)
  | [],n,_,h=>by simp [Fm.manyL,Fm.nodeS]
  | x :: xs,n,hx,h=>by
    rw [Fm.manyL,Fm.nodeS]
    split
    · have h1:=hx x (by simp) (m-n) (by omega)
      have:=Fm.manyL_spec m xs (n+x.many (m-n)) (fun y hy=>hx y (by simp [hy])) (by omega)
      omega
    · omega
theorem Fm.many_spec (x:Fm) (m:Int):1≤x.many m∧x.many m≤x.nodes∧(x.many m≤m→x.many m=x.nodes):=by
 rw [Fm.many_eq,Fm.nodes_eq]
 have:=Fm.manyL_spec m x.parts 1 (fun y hy m _=>Fm.many_spec y m) (by omega)
 omega
termination_by SizeOf.sizeOf x
decreasing_by exact Fm.lt_of_mem hy
noncomputable def Tm.isZ (x:Tm):Bool:=dec (x.name=⟨#[]⟩)&&x.args.length == 0
noncomputable def Fm.form (x:Fm):Bool :=
 if x.op=1∨x.op=2 then x.parts.length == 0&&x.atom.isZ&&dec (x.var=⟨#[]⟩)
 else if x.op=3 then x.parts.length == 0&&x.atom.atom&&dec (x.var=⟨#[]⟩)
 else if x.op=4 then x.parts.length == 1&&x.atom.isZ&&dec (x.var=⟨#[]⟩)
 else if x.op=5∨x.op=6∨x.op=7 then x.parts.length == 2&&x.atom.isZ&&dec (x.var=⟨#[]⟩)
 else if x.op=8∨x.op=9 then x.parts.length == 1&&x.atom.isZ&&AO x.var
 else false
theorem Ug (n:Int):n=1∨n=2∨n=3∨n=4∨n=5∨n=6∨n=7∨n=8∨n=9∨(n≠1∧n≠2∧n≠3∧n≠4∧n≠5∧n≠6∧n≠7∧n≠8∧n≠9):=by omega
mutual
noncomputable def Fm.forms:Fm→Bool
 | .mk op atom var parts=>Fm.form (.mk op atom var parts)&&Fm.Kp parts
noncomputable def Fm.Kp:List Fm→Bool
 | []=>true
 | x :: xs=>Fm.forms x&&Fm.Kp xs
end
theorem Fm.Em (x:Fm):x.forms=(x.form&&Fm.Kp x.parts):=by
 obtain ⟨op,atom,var,parts⟩:=x
 rw [Fm.forms]; rfl
theorem Fm.MG:∀ xs:List Fm,Fm.Kp xs=xs.all Fm.forms
 | []=>rfl
 | x :: xs=>by rw [Fm.Kp,Fm.MG xs]; rfl
theorem Fm.any_not (xs:List Fm):(!xs.any fun y=>!y.forms)=Fm.Kp xs:=by
 rw [Fm.MG]
 induction xs with
 | nil=>rfl
 | cons x xs ih=>simp only [y5,List.all_cons,Bool.not_or,Bool.not_not,ih]
noncomputable def Fm.valid (x:Fm):Bool:=decide (x.nodes≤40)&&x.forms
theorem Fm.length_le:∀ xs:List Fm,xs.length≤Fm.nodeS xs
 | []=>by simp
 | x :: xs=>by
  have h:=Fm.length_le xs
  have h1:=Fm.nodes_pos x
  rw [Fm.nodeS,zG]; omega
mutual
def Fm.tame:Fm→Prop
 | .mk _ atom _ parts=>atom.nodes≤1099511627776∧Fm.Gb parts
def Fm.Gb:List Fm→Prop
 | []=>True
 | x :: xs=>Fm.tame x∧Fm.Gb xs
end
theorem Fm.Oj (x:Fm):x.tame=(x.atom.nodes≤1099511627776∧Fm.Gb x.parts):=by
 obtain ⟨op,atom,var,parts⟩:=x
 rw [Fm.tame]; rfl
theorem Fm.Rn:∀ {xs:List Fm},Fm.Gb xs→∀ y∈xs,y.tame
 | [],_,y,hy=>by cases hy
 | x :: xs,h,y,hy=>by
  rw [Fm.Gb] at h
  rcases zV.1 hy with rfl | hy
  ·exact h.1
  ·exact Fm.Rn h.2 y hy
theorem Fm.tame_at {x:Fm} (h:x.tame):x.atom.nodes≤1099511627776:=by rw [Fm.Oj] at h; exact h.1
theorem Fm.Ro {x y:Fm} (h:x.tame) (hy:y∈x.parts):y.tame:=by rw [Fm.Oj] at h; exact Fm.Rn h.2 y hy
theorem Tm.MH {x:Tm} (h:x.atom=true):x.expr=true:=by unfold Tm.expr; rw [h,Bool.or_true]
theorem Tm.KU {x:Tm} (h:x.atom=true):x.nodes≤30:=Tm.Wy (Tm.MH h)
noncomputable def qB (op:Int):Bool:=dec (op=8) || dec (op=9)
theorem Fm.Qbp (a:Int) (b:Tm) (c:ByteArray) (d:List Fm):(Fm.mk a b c d).op=a∧(Fm.mk a b c d).atom=b∧(Fm.mk a b c d).var=c∧(Fm.mk a b c d).parts=d:=⟨rfl,rfl,rfl,rfl⟩
theorem Tm.Sv {x:Tm} (h:x.isZ=true):x=.mk ⟨#[]⟩ []:=by
 obtain ⟨n,a⟩:=x
 unfold Tm.isZ at h
 rw [zA] at h
 have h1:n=⟨#[]⟩:=Ao.1 h.1
 have h3:(a.length == 0)=true:=h.2
 have h2:a=[]:=zJ (by simpa using h3)
 rw [h1,h2]
theorem Fm.EJ {x:Fm} (h:x.form=true) (ho:x.op=3):x.parts=[]∧x.atom.atom=true∧x.var=⟨#[]⟩:=by
 unfold Fm.form at h
 simp only [ho] at h
 simp at h
 exact ⟨h.1.1,h.1.2,Ao.1 h.2⟩
theorem Fm.Gc {x:Fm} (h:x.form=true) (ho:¬ x.op=3):x.atom=.mk ⟨#[]⟩ []:=by
  unfold Fm.form at h
  split at h
  · rw [zA,zA] at h; exact Tm.Sv h.1.2
  · try rw [if_neg ho] at h
    split at h
    · rw [zA,zA] at h; exact Tm.Sv h.1.2
    · split at h
      · rw [zA,zA] at h; exact Tm.Sv h.1.2
      · split at h
        · rw [zA,zA] at h; exact Tm.Sv h.1.2
        · cases h
theorem Fm.BA {x:Fm} (h:x.form=true) (ho:qB x.op=true):AO x.var=true∧∃ p,x.parts=[p]:=by
 unfold qB at ho
 rw [yC,Ao,Ao] at ho
 unfold Fm.form at h
 rw [if_neg (by omega),if_neg (by omega),if_neg (by omega),if_neg (by omega),if_pos (by omega),zA,zA] at h
 refine ⟨h.2,?_⟩
 have hl:x.parts.length=1:=by simpa using h.1.1
 match hq:x.parts,hl with
 | [p],_=>exact ⟨p,rfl⟩
theorem Fm.Be {x y:Fm} (h:x.forms=true) (hy:y∈x.parts):y.forms=true:=by
 rw [Fm.Em,zA,Fm.MG,zT] at h
 exact h.2 y hy
theorem Fm.BB {x:Fm} (h:x.forms=true):x.form=true:=by
 rw [Fm.Em,zA] at h
 exact h.1
theorem Fm.Il {x:Fm} (h:x.form=true):x.atom.nodes≤30:=by
 by_cases ho:x.op=3
 ·exact Tm.KU (Fm.EJ h ho).2.1
 ·rw [Fm.Gc h ho,Tm.nodes_eq]
  simp [Tm.args,Tm.nodeS]
theorem Fm.Uh {x:Fm} (h:x.form=true) (ho:x.op=4):∃ p,x=.mk 4 Tm.zero ⟨#[]⟩ [p]:=by
 have ha:=Fm.Gc h (by omega)
 unfold Fm.form at h
 rw [if_neg (by omega),if_neg (by omega),if_pos ho,zA,zA] at h
 have hl:x.parts.length=1:=by simpa using h.1.1
 have hv:x.var=⟨#[]⟩:=Ao.1 h.2
 obtain ⟨op,atom,var,parts⟩:=x
 change atom=_ at ha
 change parts.length=_ at hl
 change var=_ at hv
 change op=_ at ho
 subst ha hv ho
 match parts,hl with
 | [p],_=>exact ⟨p,rfl⟩
theorem Tm.Pz:Tm.zero.nodes=1:=by rw [Tm.nodes_eq]; show 1+Tm.nodeS []=1; rw [Tm.nodeS]
theorem Fm.Sw {op:Int} {t:Tm} {v:ByteArray} {ps:List Fm}:(Fm.mk op t v ps).tame=(t.nodes≤1099511627776∧Fm.Gb ps):=Fm.Oj _
theorem Fm.P0 {op:Int} {t:Tm} {v:ByteArray} {ps:List Fm}:(Fm.mk op t v ps).nodes=1+Fm.nodeS ps:=Fm.nodes_eq _
theorem Gd {p:Nat→Int→Bool} {s:ByteArray} (h:Ei p s s.size=true) (hs:0<s.size):p 0 (FT s 0)=true:=by
 unfold Ei at h
 rw [zT] at h
 exact h 0 (List.mem_range.2 hs)
theorem Yq {s:ByteArray} (h:AO s=true):Kj s=true:=by
 have h0:=h
 unfold AO inB at h
 rw [zA,zA,decide_eq_true_eq,decide_eq_true_eq] at h
 have hs:0<s.size:=by omega
 have h1:=Gd h.1 hs
 unfold H3 at h1
 unfold Kj
 rw [h0]
 simp at h1
 simp [hs,h1]
theorem Rp {s:ByteArray} (hs:0<s.size) (h:NH (FT s 0)=false):Kj s=true:=by
 have hv:AO s=false:=by
  rw [yS]
  intro hv
  unfold AO at hv
  rw [zA] at hv
  have h1:=Gd hv.1 hs
  unfold H3 at h1
  rw [h] at h1
  simp at h1
 unfold Kj
 rw [hv,h]
 simp [hs]
theorem Yr {s:ByteArray} (h:Dd s=true):Kj s=true:=by
 unfold Dd inB at h
 rw [zA,zA,zA,decide_eq_true_eq,decide_eq_true_eq] at h
 have hs:0<s.size:=by omega
 refine Rp hs ?_
 have h1:=Gd h.1.1 hs
 unfold Iz at h1
 simp at h1
 have h2:=h1.1
 unfold Qb at h2
 unfold NH
 simp at h2 ⊢
 omega
theorem Ys {s:ByteArray} (h:s.toList=[61]):Kj s=true:=by
 have hs:s.size=1:=by
  have:=congrArg List.length h
  rw [ByteArray.toList_eq] at this
  simpa using this
 refine Rp (by omega) ?_
 unfold FT
 rw [h]
 rfl
mutual
theorem Tm.MJ:∀ x:Tm,x.names=true→x.cok=true
  | .mk n xs,h=>by
    rw [Tm.names] at h
    rw [Tm.cok,zA]
    split at h
    · rename_i hv
      have:xs=[]:=by
        rw [beq_iff_eq] at h
        exact zJ h
      subst this
      exact ⟨Yq hv,rfl⟩
    · rw [zA,zA] at h
      exact ⟨Yr h.1.1,Tm.KV xs h.2⟩
theorem Tm.KV:∀ xs:List Tm,Tm.F1 xs=true→Tm.V7 xs=true
  | [],_=>rfl
  | x :: xs,h=>by
    rw [Tm.F1,zA] at h
    rw [Tm.V7,zA]
    exact ⟨Tm.MJ x h.1,Tm.KV xs h.2⟩
end
theorem Tm.ZJ {x:Tm} (h:x.atom=true):x.cok=true:=by
 unfold Tm.atom at h
 rcases he:x.eqn with _ | _
 ·rw [he,if_neg (by simp),zA] at h
  unfold Tm.valid at h
  rw [zA] at h
  exact Tm.MJ x h.2.2
 ·rw [he,if_pos rfl,zA,zA] at h
  unfold Tm.eqn at he
  rw [Ao] at he
  rw [Tm.V8,zA]
  exact ⟨Ys (by rw [he,ByteArray.toList_eq]),Tm.KV _ h.2⟩
theorem Yt {s:ByteArray} {k:Nat} (h:k<s.size):IM s k=FT s k:=by
 rw [←EF h]
 unfold IM
 rw [show s[k]?=some s[k] from getElem?_pos s k h]; rfl
theorem Yu {s:ByteArray} (h:Kj s=true):0<s.size∧(dec (65≤IM s 0)&&dec (IM s 0≤90))=AO s:=by
 unfold Kj at h
 rw [zA,decide_eq_true_eq,beq_iff_eq] at h
 refine ⟨h.1,?_⟩
 rw [←h.2,Yt h.1,KG,KG]
 unfold NH
 rfl
theorem Im (a:ByteArray):strLt a a=false:=by
 unfold strLt
 have key:∀ l:List UInt8,Op.bytesLess l l=false:=by
  intro l
  induction l with
  | nil=>rfl
  | cons x l ih=>simp [Op.bytesLess,ih]
 exact key _
def Ge:SC:=(.seq (.reg [⟨some 2,none,.mv (.c (.bool false))⟩]) (.seq (.reg [⟨some 3,none,.mv (.t 0)⟩,⟨some 4,none,.mv (.t 0)⟩,⟨some 5,none,.bin .neq false (.t 3) (.t 4)⟩,⟨some 2,none,.mv (.t 5)⟩]) .ret))
theorem KW:codeOf Tryz.prog 305=some ⟨6,Ge,[(.tmp 2)]⟩:=by kernel_rfl
theorem CL:modes 305=⟨[],.asis,none,false⟩:=by unfold modes; rfl
def Cr:SC:=(.seq (.reg [⟨some 4,none,.mv (.c (.int .i64 0))⟩]) (.seq (.reg [⟨some 7,none,.mv (.t 0)⟩,⟨some 8,none,.call 305 [(.t 7)]⟩,⟨some 5,none,.mv (.t 8)⟩]) (.seq (.reg [⟨some 9,none,.mv (.t 1)⟩,⟨some 10,none,.call 305 [(.t 9)]⟩,⟨some 6,none,.mv (.t 10)⟩]) (.seq (.seq (.reg [⟨some 11,none,.mv (.t 5)⟩]) (.cond (.t 11) (.seq (.seq (.reg [⟨some 12,none,.mv (.t 6)⟩]) (.cond (.t 12) (.seq (.reg [⟨some 4,none,.mv (.c (.int .i64 0))⟩]) .ret) .skip)) (.seq (.reg [⟨some 4,none,.mv (.c (.int .i64 (-(0+1))))⟩]) .ret)) .skip)) (.seq (.seq (.reg [⟨some 13,none,.mv (.t 6)⟩]) (.cond (.t 13) (.seq (.reg [⟨some 4,none,.mv (.c (.int .i64 1))⟩]) .ret) .skip)) (.seq (.seq (.reg [⟨some 14,none,.mv (.t 0)⟩,⟨some 15,none,.mv (.t 1)⟩,⟨some 16,none,.bin .lss false (.t 14) (.t 15)⟩]) (.cond (.t 16) (.seq (.reg [⟨some 4,none,.mv (.c (.int .i64 (-(0+1))))⟩]) .ret) .skip)) (.seq (.seq (.reg [⟨some 17,none,.mv (.t 0)⟩,⟨some 18,none,.mv (.t 1)⟩,⟨some 19,none,.bin .gtr false (.t 17) (.t 18)⟩]) (.cond (.t 19) (.seq (.reg [⟨some 4,none,.mv (.c (.int .i64 1))⟩]) .ret) .skip)) (.seq (.reg [⟨some 4,none,.mv (.c (.int .i64 0))⟩]) .ret))))))))
theorem Do:codeOf Tryz.prog 283=some ⟨20,Cr,[(.tmp 4)]⟩:=by kernel_rfl
theorem Cs:modes 283=⟨[],.asis,none,false⟩:=by unfold modes; rfl
theorem Ui (a:ByteArray):E 305 [.str a] []=some (.bool false,[]):=by
 refine Ai KW CL (of_decide_eq_true rfl) ?_
 simp (disch:=omega) only [Ge,go_sem,Ab]
theorem W2 (a b:ByteArray):E 283 [.str a,.str b] []=some (.int .i64 (JY a b),[]):=by
 have h1:=Ui a
 have h2:=Ui b
 unfold JY
 cases h3:strLt a b
 ·cases h4:dec (a=b)
  ·refine Ai Do Cs (of_decide_eq_true rfl) ?_
   simp (disch:=omega) only [Cr,go_sem,Ab,h1,h2,h3,h4,CL]
  ·refine Ai Do Cs (of_decide_eq_true rfl) ?_
   simp (disch:=omega) only [Cr,go_sem,Ab,h1,h2,h3,h4,CL]
 ·refine Ai Do Cs (of_decide_eq_true rfl) ?_
  simp (disch:=omega) only [Cr,go_sem,Ab,h1,h2,h3,CL]
def Gf:SC:=(.seq (.reg [⟨some 2,none,.mv (.c (.bool false))⟩]) (.seq (.reg [⟨some 3,none,.mv (.t 0)⟩,⟨some 4,none,.bin .geq false (.t 3) (.c (.int .u8 65))⟩,⟨some 5,none,.mv (.t 4)⟩,⟨(some 6),(some (5,true)),(.mv (.t 0))⟩,⟨(some 7),(some (5,true)),(.bin .leq false (.t 6) (.c (.int .u8 90)))⟩,⟨some 8,none,.pick (.t 5) (.t 7) (.c (.bool false))⟩,⟨some 2,none,.mv (.t 8)⟩]) .ret))
theorem Jj:codeOf Tryz.prog 240=some ⟨9,Gf,[(.tmp 2)]⟩:=by kernel_rfl
theorem Gg:modes 240=⟨[],.asis,none,false⟩:=by unfold modes; rfl
def LI:SC:=(.seq (.reg [⟨some 1,none,.boxv 33 2 (.t 0)⟩,⟨some 2,none,.mv (.c (.bool false))⟩]) (.seq (.reg [⟨some 3,none,.faddr 0 (.t 1)⟩,⟨some 4,none,.load false 1 (.t 3)⟩,⟨some 5,none,.idx (.t 4) (.c (.int .i64 0))⟩,⟨some 6,none,.call 240 [(.t 5)]⟩,⟨some 2,none,.mv (.t 6)⟩]) .ret))
theorem Sx:codeOf Tryz.prog 209=some ⟨7,LI,[(.tmp 2)]⟩:=by kernel_rfl
theorem FB:modes 209=⟨[],.asis,none,false⟩:=by unfold modes; rfl
theorem Yv (n:Int):E 240 [.int .u8 n] []=some (.bool (dec (65≤n)&&dec (n≤90)),[]):=by
 cases h1:dec (65≤n)
 ·refine Ai Jj Gg (of_decide_eq_true rfl) ?_
  simp (disch:=omega) only [Gf,go_sem,Ab,h1]
 ·refine Ai Jj Gg (of_decide_eq_true rfl) ?_
  simp (disch:=omega) only [Gf,go_sem,Ab,h1]
theorem QaW (x:Tm) (h:x.cok=true):E 209 [x.sv] []=some (.bool (AO x.name),[]):=by
 rw [Tm.V8,zA] at h
 obtain ⟨h1,h2⟩:=Yu h.1
 have h3:=Yv (IM x.name 0)
 rw [h2] at h3
 refine Ai Sx FB (of_decide_eq_true rfl) ?_
 simp (disch:=omega) only [LI,go_sem,Ab,h3,Gg]
theorem Tm.JQ {x:Tm} (h:x.atom=true):(AO x.name=true→x.args=[])∧∀ y∈x.args,y.names=true:=by
 unfold Tm.atom at h
 cases he:x.eqn with
 | true =>
  rw [he,if_pos rfl,zA,zA] at h
  have h2:=h.2
  rw [Tm.HF,zT] at h2
  refine ⟨fun hv=>?_,h2⟩
  have hn:=Ao.1 he
  have hnv0:AO ⟨#[61]⟩=false:=by kernel_rfl
  rw [hn,hnv0] at hv
  cases hv
 | false =>
  rw [he,if_neg (by simp),zA] at h
  have hnm:x.names=true:=by have h3:=h.2; unfold Tm.valid at h3; rw [zA] at h3; exact h3.2
  exact ⟨fun hv=>Tm.JN hnm hv,fun y hy=>Tm.EI hnm hy⟩
mutual
noncomputable def Tm.vs:Tm→List ByteArray
 | .mk name args=>bif AO name then [name] else Tm.vsL args
noncomputable def Tm.vsL:List Tm→List ByteArray
 | []=>[]
 | x :: xs=>Tm.vs x++Tm.vsL xs
end
theorem Tm.ZK (x:Tm):x.vs=bif AO x.name then [x.name] else Tm.vsL x.args:=by
 obtain ⟨n,a⟩:=x
 rw [Tm.vs]; rfl
theorem Tm.XA:∀ xs:List Tm,(∀ x∈xs,x.vs.length≤x.nodes)→(Tm.vsL xs).length≤Tm.nodeS xs
 | [],_=>by simp [Tm.vsL]
 | x :: xs,h=>by
  have h1:=h x (by simp)
  have h2:=Tm.XA xs fun y hy=>h y (by simp [hy])
  rw [Tm.vsL,Tm.nodeS,zR]; omega
theorem Tm.KX (x:Tm):x.vs.length≤x.nodes:=by
 have h:=Tm.XA x.args fun y hy=>Tm.KX y
 rw [Tm.ZK,Tm.nodes_eq]
 cases AO x.name with
 | true=>simp
 | false=>simp only [cond_false]; omega
termination_by SizeOf.sizeOf x
decreasing_by exact Tm.lt_of_mem hy
noncomputable def FD (l:List ByteArray) (n:ByteArray):List ByteArray:=bif dec (n∈l) then l else l++[n]
theorem ZL (l:List ByteArray) (n:ByteArray):(FD l n).length≤l.length+1:=by
 unfold FD
 cases dec (n∈l) <;> simp
theorem ZM {l:List ByteArray} {n m:ByteArray}:m∈FD l n ↔ m∈l∨m=n:=by
 unfold FD
 by_cases h:n∈l
 ·rw [An h,cond_true]
  exact ⟨.inl,fun h'=>h'.elim id fun e=>e▸h⟩
 ·rw [Aj h,cond_false]
  simp
theorem W3 {l:List ByteArray} {n:ByteArray} (h:l.Nodup):(FD l n).Nodup:=by
 unfold FD
 by_cases k:n∈l
 ·rw [An k]; exact h
 ·rw [Aj k,cond_false,List.nodup_append]
  exact ⟨h,by simp,fun a ha b hb e=>by simp at hb; subst hb; subst e; exact k ha⟩
noncomputable def AZ (l ns:List ByteArray):List ByteArray:=ns.foldl FD l
theorem Dp:∀ (ns l:List ByteArray),(AZ l ns).length≤l.length+ns.length
 | [],l=>by simp [AZ]
 | n :: ns,l=>by
  have h:=Dp ns (FD l n)
  have h2:=ZL l n
  simp only [AZ,zU,zG] at h ⊢
  omega
theorem P1:∀ {ns l:List ByteArray} {m:ByteArray},m∈AZ l ns ↔ m∈l∨m∈ns
 | [],l,m=>by simp [AZ]
 | n :: ns,l,m=>by
  have h:=P1 (ns:=ns) (l:=FD l n) (m:=m)
  simp only [AZ,zU] at h ⊢
  rw [h,ZM]
  simp only [zV]
  exact or_assoc
theorem KY:∀ {ns l:List ByteArray},l.Nodup→(AZ l ns).Nodup
 | [],l,h=>h
 | n :: ns,l,h=>KY (ns:=ns) (W3 h)
theorem Gh (l a b:List ByteArray):AZ l (a++b)=AZ (AZ l a) b:=List.foldl_append
def CV:SC:=(.seq (.reg [⟨some 4,none,.mv (.c (.int .i64 0))⟩]) (.seq (.seq (.reg [⟨some 6,none,.mv (.t 0)⟩,⟨some 7,none,.len false (.t 6)⟩,⟨some 8,none,.mv (.c (.int .i64 0))⟩]) (.block 0 (.loop [1,1,0,0,0,0,0,1,1,0,0,0,0,0,0,0,0,0,0] (.seq (.reg [⟨some 9,none,.bin .lss false (.t 8) (.t 7)⟩]) (.seq (.cond (.t 9) .skip (.exit 0)) (.seq (.block 1 (.seq (.reg [⟨some 10,none,.mv (.t 8)⟩,⟨some 5,none,.mv (.t 10)⟩]) (.seq (.reg [⟨some 11,none,.mv (.t 1)⟩,⟨some 12,none,.mv (.t 0)⟩,⟨some 13,none,.mv (.t 5)⟩,⟨some 14,none,.iaddr 1 (.t 12) (.t 13)⟩,⟨some 15,none,.load false 1 (.t 14)⟩,⟨some 16,none,.bin .eql false (.t 11) (.t 15)⟩]) (.cond (.t 16) (.seq (.reg [⟨some 17,none,.mv (.t 5)⟩,⟨some 4,none,.mv (.t 17)⟩]) .ret) .skip)))) (.reg [⟨some 18,none,.bin .add false (.t 8) (.c (.int .i64 1))⟩,⟨some 8,none,.mv (.t 18)⟩]))))))) (.seq (.reg [⟨some 4,none,.mv (.c (.int .i64 (-(0+1))))⟩]) .ret)))
theorem Fy:codeOf Tryz.prog 259=some ⟨19,CV,[(.tmp 4)]⟩:=by kernel_rfl
theorem CW:modes 259=⟨[],.asis,none,false⟩:=by unfold modes; rfl
def C2:SC:=(.seq (.reg [⟨some 4,none,.mv (.c (.bool false))⟩]) (.seq (.reg [⟨some 5,none,.mv (.t 0)⟩,⟨some 6,none,.mv (.t 1)⟩,⟨some 7,none,.call 259 [(.t 5),(.t 6)]⟩,⟨some 8,none,.bin .geq false (.t 7) (.c (.int .i64 0))⟩,⟨some 4,none,.mv (.t 8)⟩]) .ret))
theorem E3:codeOf Tryz.prog 185=some ⟨9,C2,[(.tmp 4)]⟩:=by kernel_rfl
theorem As:modes 185=⟨[],.asis,none,false⟩:=by unfold modes; rfl
theorem ZN (xs:List ByteArray) (n:ByteArray) (hl:xs.length≤1099511627776):E 259 [.arr (xs.map fun s=>[D.str s]),.str n] []=some (.int .i64 (D8 (fun s=>dec (n=s)) xs 0),[]):=by
 refine Ai Fy CW (of_decide_eq_true rfl) ?_
 simp (disch:=omega) only [CV,go_sem,Ab]
 refine go_loop (α:=Int) (fun a=>⟨slots 19 0 [(0,.arr (xs.map fun s=>[D.str s])),(1,.str n),(7,.int .i64 xs.length),(8,.int .i64 a)],[]⟩) (fun a=>∃ k:Nat,a=k∧k≤(xs).length∧D8 (fun s=>dec (n=s)) (xs.drop k) a=D8 (fun s=>dec (n=s)) xs 0) (fun a=>(xs).length-(a).toNat) 0 ⟨0,rfl,zI _,by rw [zH]⟩ (by simp (disch:=omega) only [go_sem,Ab]) ?_
 rintro i ⟨k,hi,hk,hR⟩
 have hni:i.toNat=k:=by omega
 have hni1:(i+1).toNat=k+1:=by omega
 rcases zB k (xs).length with hlt | hge
 ·have hg:=get_at (fun s=>[D.str s]) hlt
  rw [zC hlt,D8] at hR
  cases hp:dec (n=xs[k]) with
  | true =>
   rw [hp] at hR
   simp (disch:=omega) only [go_sem,Ab,hni,hg,hp]
   simpa using hR
  | false =>
   rw [hp] at hR
   simp (disch:=omega) only [go_sem,Ab,hni,hg,hp]
   exact ⟨i+1,⟨k+1,by omega,hlt,by simpa using hR⟩,by omega,by first | trivial | rfl⟩
 ·rw [zF hge,D8] at hR
  simp (disch:=omega) only [go_sem,Ab,hni]
  exact hR
theorem Fo (xs:List ByteArray) (n:ByteArray) (hl:xs.length≤1099511627776):E 185 [.arr (xs.map fun s=>[D.str s]),.str n] []=some (.bool (dec (n∈xs)),[]):=by
 have h:=ZN xs n hl
 have e:dec (n∈xs)=dec (0≤D8 (fun s=>dec (n=s)) xs 0):=by
  rw [L9]
  by_cases hm:n∈xs
  ·rw [An hm]
   exact (List.any_eq_true.2 ⟨n,hm,An rfl⟩).symm
  ·rw [Aj hm]
   refine Eq.symm (yS.2 fun h=>?_)
   obtain ⟨x,h1,h2⟩:=List.any_eq_true.1 h
   have e:=Ao.1 h2
   subst e
   exact hm h1
 rw [e]
 refine Ai E3 As (of_decide_eq_true rfl) ?_
 simp (disch:=omega) only [C2,go_sem,Ab,h,CW]
theorem Ee:∀ (ns l:List ByteArray),l.length≤(AZ l ns).length
 | [],l=>by simp [AZ]
 | n :: ns,l=>by
  have h:=Ee ns (FD l n)
  have h2:l.length≤(FD l n).length:=by unfold FD; cases dec (n∈l) <;> simp
  simp only [AZ,zU] at h ⊢
  omega
def Dq:SC:=(.seq (.reg [⟨some 3,none,.boxv 33 2 (.t 1)⟩,⟨some 4,none,.mv (.c .nil)⟩]) (.seq (.seq (.reg [⟨some 7,none,.faddr 1 (.t 3)⟩,⟨some 8,none,.load false 1 (.t 7)⟩,⟨some 9,none,.len false (.t 8)⟩,⟨some 10,none,.bin .eql false (.t 9) (.c (.int .i64 0))⟩,⟨some 11,none,.mv (.t 10)⟩,⟨(some 12),(some (11,true)),(.load true 2 (.t 3))⟩,⟨(some 13),(some (11,true)),(.call 209 [(.t 12)])⟩,⟨some 14,none,.pick (.t 11) (.t 13) (.c (.bool false))⟩]) (.cond (.t 14) (.seq (.seq (.reg [⟨some 15,none,.mv (.t 0)⟩,⟨some 16,none,.faddr 0 (.t 3)⟩,⟨some 17,none,.load false 1 (.t 16)⟩,⟨some 18,none,.call 185 [(.t 15),(.t 17)]⟩,⟨some 19,none,.un .not (.t 18)⟩]) (.cond (.t 19) (.reg [⟨some 20,none,.mv (.t 0)⟩,⟨some 21,none,.faddr 0 (.t 3)⟩,⟨some 22,none,.load false 1 (.t 21)⟩,⟨(some 23),none,(.mkrow 9 1 [(.str ⟨#[]⟩)] 1 [(0,(.t 22))])⟩,⟨(some 24),none,(.append 9 1 16 [(.str ⟨#[]⟩)] (.t 20) (.t 23))⟩,⟨some 0,none,.mv (.t 24)⟩]) .skip)) (.seq (.reg [⟨some 25,none,.mv (.t 0)⟩,⟨some 4,none,.mv (.t 25)⟩]) .ret)) .skip)) (.seq (.seq (.reg [⟨some 26,none,.faddr 1 (.t 3)⟩,⟨some 27,none,.load false 1 (.t 26)⟩,⟨some 28,none,.len false (.t 27)⟩,⟨some 29,none,.mv (.c (.int .i64 0))⟩]) (.block 0 (.loop [1,0,0,0,0,0,0,0,0,0,0,0,0,0,0,0,0,0,0,0,0,0,0,0,0,0,0,1,1,1,0,0,0,0,0,0,0,0] (.seq (.reg [⟨some 30,none,.bin .lss false (.t 29) (.t 28)⟩]) (.seq (.cond (.t 30) .skip (.exit 0)) (.seq (.block 1 (.seq (.reg [⟨some 31,none,.iaddr 2 (.t 27) (.t 29)⟩,⟨some 32,none,.load true 2 (.t 31)⟩,⟨(some 6),none,(.alloc 33 [(.str ⟨#[]⟩),.nil])⟩,⟨none,none,(.store 2 (.t 6) (.t 32))⟩]) (.reg [⟨some 33,none,.mv (.t 0)⟩,⟨some 34,none,.load true 2 (.t 6)⟩,⟨some 35,none,.call 193 [(.t 33),(.t 34)]⟩,⟨some 0,none,.mv (.t 35)⟩]))) (.reg [⟨some 36,none,.bin .add false (.t 29) (.c (.int .i64 1))⟩,⟨some 29,none,.mv (.t 36)⟩]))))))) (.seq (.reg [⟨some 37,none,.mv (.t 0)⟩,⟨some 4,none,.mv (.t 37)⟩]) .ret))))
theorem En:codeOf Tryz.prog 193=some ⟨38,Dq,[(.tmp 4)]⟩:=by kernel_rfl
theorem Cd:modes 193=⟨[true],.asis,none,false⟩:=by unfold modes; rfl
abbrev ZO (x:Tm):Prop:=∀ l:List ByteArray,l.length+x.nodes≤1048576→E 193 [.ref 0,x.sv] [.row 9 1 (l.map fun s=>[OT.str s])]=some ((bif dec (l.length<(AZ l x.vs).length) then .ref 1 else .ref 0),(bif dec (l.length<(AZ l x.vs).length) then [.gone,.row 9 1 ((AZ l x.vs).map fun s=>[OT.str s])] else [.row 9 1 ((AZ l x.vs).map fun s=>[OT.str s])]))
theorem P2 (x:Tm) (hva:AO x.name=true→x.args=[]) (hc:x.cok=true) (ih:∀ y∈x.args,ZO y):ZO x:=by
  intro l hn
  have hl:=Tm.length_le x.args
  have hne:=Tm.nodes_eq x
  have hv:=QaW x hc
  have hvs:=Tm.ZK x
  rcases zL x.args.length with h0 | h0
  · have hx0:x.args=[]:=zJ h0
    have hz:((x.args.length:Int)=0)=True:=by rw [hx0]; simp
    cases hvv:AO x.name with
    | true =>
      rw [hvv] at hv hvs
      have h1:=Fo l x.name (by omega)
      rw [hvs]
      cases hm:dec (x.name∈l) with
      | true =>
        have e:AZ l [x.name]=l:=by simp only [AZ,zU,List.foldl_nil,FD,hm,cond_true]
        rw [hm] at h1
        simp only [cond_true,e]
        refine Ai En Cd (of_decide_eq_true rfl) ?_
        simp (disch:=omega) only [Dq,go_sem,Ab,hz,hv,h1,FB,As]
      | false =>
        have e:AZ l [x.name]=l++[x.name]:=by simp only [AZ,zU,List.foldl_nil,FD,hm,cond_false]
        have hg:l.length<(l++[x.name]).length:=by simp
        rw [hm] at h1
        simp only [cond_true,e,An hg]
        refine Ai En Cd (of_decide_eq_true rfl) ?_
        simp (disch:=omega) only [Dq,go_sem,Ab,hz,hv,h1,FB,As]
        simp only [yD,zN,zK]
    | false =>
      rw [hvv] at hv hvs
      have e:AZ l x.vs=l:=by rw [hvs,hx0]; simp only [cond_false,Tm.vsL]; rfl
      rw [e]
      refine Ai En Cd (of_decide_eq_true rfl) ?_
      simp (disch:=omega) only [Dq,go_sem,Ab,hz,hv,FB]
      refine go_loop (α:=Int) (fun a=>⟨slots 38 0 [(0,.ref 0),(27,.arr (x.args.map Tm.d)),(28,.int .i64 x.args.length),(29,.int .i64 a)],[.row 9 1 (l.map fun s=>[OT.str s])]⟩) (fun a=>∃ k:Nat,a=k∧k≤(x.args).length) (fun a=>(x.args).length-(a).toNat) 0 ⟨0,rfl,zI _⟩ (by simp (disch:=omega) only [go_sem,Ab]) ?_
      rintro i ⟨k,hi,hk⟩
      have hni:i.toNat=k:=by omega
      have hni1:(i+1).toNat=k+1:=by omega
      rcases zB k (x.args).length with hlt | hge
      · omega
      · simp (disch:=omega) only [go_sem,Ab,hni]
  · have hz:((x.args.length:Int)=0)=False:=eq_false (by omega)
    have hvv:AO x.name=false:=by
      cases h:AO x.name with
      | false=>rfl
      | true=>rw [hva h] at h0; simp at h0
    rw [hvv] at hvs
    simp only [cond_false] at hvs
    rw [hvs]
    refine Ai En Cd (of_decide_eq_true rfl) ?_
    simp (disch:=omega) only [Dq,go_sem,Ab,hz]
    refine go_loop (α:=Int × (List ByteArray)) (fun a=>⟨slots 38 0 [(0,(bif dec (l.length<(a.2).length) then .ref 1 else .ref 0)),(27,.arr (x.args.map Tm.d)),(28,.int .i64 x.args.length),(29,.int .i64 (a.1))],(bif dec (l.length<(a.2).length) then [.gone,.row 9 1 ((a.2).map fun s=>[OT.str s])] else [.row 9 1 ((a.2).map fun s=>[OT.str s])])⟩) (fun a=>∃ k:Nat,a.1=k∧k≤(x.args).length∧AZ (a.2) (Tm.vsL (x.args.drop k))=AZ l (Tm.vsL x.args)∧(a.2).length+Tm.nodeS (x.args.drop k)≤1048576∧l.length≤(a.2).length) (fun a=>(x.args).length-(a.1).toNat) (0,l) ⟨0,rfl,zI _,by rw [zH],by rw [zH]; dsimp only; omega,zS _⟩ (by simp (disch:=omega) only [go_sem,Ab]) ?_
    rintro ⟨i,acc⟩ ⟨k,hi,hk,hR⟩
    dsimp only at hi hR
    have hni:i.toNat=k:=by omega
    have hni1:(i+1).toNat=k+1:=by omega
    rcases zB k (x.args).length with hlt | hge
    · have hg:=get_at Tm.d hlt
      rw [Tm.d_eq] at hg
      obtain ⟨hR1,hR2,hR3⟩:=hR
      rw [zC hlt,Tm.vsL,Gh] at hR1
      rw [zC hlt,Tm.nodeS] at hR2
      have hc:=ih x.args[k] (zD hlt) acc (by omega)
      have hlen:=Dp x.args[k].vs acc
      have hgr:=Ee x.args[k].vs acc
      have hvl:=Tm.KX x.args[k]
      obtain ⟨acc2,ha2⟩:∃ a,a=AZ acc x.args[k].vs:=⟨_,rfl⟩
      rw [←ha2] at hc hlen hgr hR1
      rcases zB l.length acc.length with q1 | q1 <;> rcases zB acc.length acc2.length with q2 | q2
      all_goals
        first
          | rw [An q2] at hc
          | rw [Aj (yU.2 q2)] at hc
        simp only [cond_true,cond_false] at hc
        simp (disch:=omega) only [go_sem,Ab,hni,hg,hc,Cd]
        refine ⟨(i+1,acc2),⟨k+1,by dsimp only; omega,hlt,hR1,by dsimp only; omega,by dsimp only; omega⟩,by dsimp only; omega,?_⟩
        first | done | simp (disch:=omega) only [go_sem,Ab]
    · rw [zF hge,Tm.vsL] at hR
      obtain ⟨hR1,hR2,hR3⟩:=hR
      have hR1:acc=AZ l (Tm.vsL x.args):=hR1
      rw [←hR1]
      rcases zB l.length acc.length with q1 | q1
      · simp (disch:=omega) only [go_sem,Ab,hni]
      · simp (disch:=omega) only [go_sem,Ab,hni]
theorem Rq (x:Tm) (hx:x.names=true) (hc:x.cok=true):ZO x :=
 P2 x (fun h=>Tm.JN hx h) hc fun y hy=>Rq y (Tm.EI hx hy) (by rw [Tm.V8,zA] at hc; exact Tm.Zq hc.2 hy)
termination_by SizeOf.sizeOf x
decreasing_by exact Tm.lt_of_mem hy
noncomputable def Io (l:List ByteArray):List ByteArray:=(srt (l.map (·.toList))).map fun x=>⟨x.toArray⟩
theorem ML (l:List ByteArray):(Io l).Perm l:=by
 unfold Io
 have h:(srt (l.map (·.toList))).Perm (l.map (·.toList)):=List.mergeSort_perm _ _
 have h2:=h.map fun x:List UInt8=>(⟨x.toArray⟩:ByteArray)
 rw [yB] at h2
 have e:((fun x:List UInt8=>(⟨x.toArray⟩:ByteArray)) ∘ fun x:ByteArray=>x.toList)=id:=by
  funext x
  exact DY x
 rw [e,List.map_id] at h2
 exact h2
theorem AL:modes 119=⟨[true],.asis,some sortStr,false⟩:=by unfold modes; rfl
theorem Sy (l:List ByteArray) (hl:l.length≤1099511627776):E 119 [.ref 0] [.row 9 1 (l.map fun s=>[OT.str s])]=some (.tup [],[.row 9 1 ((Io l).map fun s=>[OT.str s])]):=by
 rw [KR (g:=sortStr) (congrArg FM.ext AL)]
 unfold sortStr
 simp only
 rw [An ⟨by first | trivial | rfl,fun e he=>by obtain ⟨s,_,rfl⟩:=List.mem_map.1 he; exact ⟨s,rfl⟩,by simpa using hl⟩,cond_true]
 have e1:(l.map fun s=>[OT.str s]).map (fun e=>(GY e).toList)=l.map (·.toList):=by rw [yB]; rfl
 rw [e1]
 unfold Io
 rw [yB]
 rfl
noncomputable def Tm.vars (x:Tm):List ByteArray:=Io (AZ [] x.vs)
def EK:SC:=(.seq (.reg [⟨some 1,none,.boxv 33 2 (.t 0)⟩,⟨some 2,none,.mv (.c .nil)⟩]) (.seq (.reg [⟨(some 4),none,(.mkrow 9 1 [(.str ⟨#[]⟩)] 0 [])⟩,⟨some 5,none,.load true 2 (.t 1)⟩,⟨some 6,none,.call 193 [(.t 4),(.t 5)]⟩,⟨some 3,none,.mv (.t 6)⟩]) (.seq (.reg [⟨some 7,none,.mv (.t 3)⟩,⟨some 8,none,.call 119 [(.t 7)]⟩]) (.seq (.reg [⟨some 9,none,.mv (.t 3)⟩,⟨some 2,none,.mv (.t 9)⟩]) .ret))))
theorem HG:codeOf Tryz.prog 186=some ⟨10,EK,[(.tmp 2)]⟩:=by kernel_rfl
theorem EM:modes 186=⟨[],.asis,none,false⟩:=by unfold modes; rfl
theorem Sz (x:Tm) (hcol:ZO x) (hn:x.nodes≤1048576):E 186 [x.sv] []=some (.ref 0,[.row 9 1 (x.vars.map fun s=>[OT.str s])]):=by
 have h1:=hcol [] (by simpa using hn)
 have hl:=Dp x.vs []
 have hv:=Tm.KX x
 rw [zP,yQ] at hl
 have h2:=Sy (AZ [] x.vs) (by omega)
 rw [zK,zP] at h1
 unfold Tm.vars
 rcases zB 0 (AZ [] x.vs).length with q | q
 ·rw [An q] at h1
  simp only [cond_true] at h1
  refine Ai HG EM (of_decide_eq_true rfl) ?_
  simp (disch:=omega) only [EK,go_sem,Ab,h1,h2,Cd,AL]
 ·rw [Aj (by omega)] at h1
  simp only [cond_false] at h1
  refine Ai HG EM (of_decide_eq_true rfl) ?_
  simp (disch:=omega) only [EK,go_sem,Ab,h1,h2,Cd,AL]
theorem W4 (x:Tm) (h:x.atom=true):ZO x :=
 P2 x (Tm.JQ h).1 (Tm.ZJ h) fun y hy=>Rq y ((Tm.JQ h).2 y hy) (Tm.MJ y ((Tm.JQ h).2 y hy))
namespace Wd
def modes:FuncId→FM:=fun _=>⟨[],.asis,none,false⟩
theorem mode (f:FuncId):modes f=⟨[],.asis,none,false⟩:=rfl
theorem KN:@Lz Oe Tryz.prog modes:=fun _ _ _ _ _ _ hg _=>by cases hg
noncomputable def E:FEnv:=ev Tryz.prog modes
noncomputable def calls:CallF:=C1 modes E
theorem E_told {f:FuncId} {xs:List SV} {ob:List Ob} {r:SV} {ob':List Ob} (h:E f xs ob=some (r,ob')):FunD Tryz.prog f xs ob r ob':=@Xt Oe _ _ Zb KN f xs ob r ob' h
noncomputable def run (n0:Nat):SC→St→Option (X × St):=fr Tryz.prog calls (If n0)
def go (n0:Nat) (sc:SC) (st:St) (K:X→St→Prop):Prop:=∃ x st',run n0 sc st=some (x,st')∧K x st'
def Sd (n0:Nat) (b:SC) (K:X→St→Prop):X→St→Prop
 | .normal,st=>go n0 b st K
 | .exit i,st=>K (.exit i) st
 | .ret,st=>K .ret st
def blk (id:Nat) (K:X→St→Prop):X→St→Prop
 | .normal,st=>K .normal st
 | .exit i,st=>if i=id then K .normal st else K (.exit i) st
 | .ret,st=>K .ret st
def Pi (r:Option St) (k:X→St→Prop):Prop :=
 match r with
 | some st=>k .normal st
 | none=>False
def Pj (anc:List (List Nat)) (r:Option (List Ent × St)) (k:X→St→Prop):Prop :=
 match r with
 | some (es,st)=>obB anc [] (F8 es) 0=true∧k .normal st
 | none=>False
def G6 (v:SV) (a b:Unit→Prop):Prop :=
 match v with
 | .bool true=>a ()
 | .bool false=>b ()
 | _=>False
noncomputable def KO (ops:List SOper) (st:St):Option St:=NG Tryz.prog calls ops st
noncomputable def KP (ops:List SOper) (acc:List Ent) (st:St):Option (List Ent × St):=GW Tryz.prog calls ops acc st
section
variable {n0:Nat} {st:St} {K:X→St→Prop}
theorem go_skip:go n0 .skip st K=K .normal st:=by
 refine propext ⟨fun ⟨x,st',h,k⟩=>?_,fun k=>⟨_,_,rfl,k⟩⟩
 obtain ⟨rfl,rfl⟩:X.normal=x∧st=st':=by simpa [run,fr] using h
 exact k
theorem Se {i:Nat}:go n0 (.exit i) st K=K (.exit i) st:=by
 refine propext ⟨fun ⟨x,st',h,k⟩=>?_,fun k=>⟨_,_,rfl,k⟩⟩
 obtain ⟨rfl,rfl⟩:X.exit i=x∧st=st':=by simpa [run,fr] using h
 exact k
theorem go_ret:go n0 .ret st K=K .ret st:=by
 refine propext ⟨fun ⟨x,st',h,k⟩=>?_,fun k=>⟨_,_,rfl,k⟩⟩
 obtain ⟨rfl,rfl⟩:X.ret=x∧st=st':=by simpa [run,fr] using h
 exact k
theorem VQ {ops:List SOper}:go n0 (.reg ops) st K=Pi (KO ops st) K:=by
 unfold Pi KO
 refine propext ⟨fun ⟨x,st',h,k⟩=>?_,fun k=>?_⟩
 ·simp only [run,fr] at h
  split at h
  ·rename_i s hs
   simp only [zQ,zW] at h
   obtain ⟨rfl,rfl⟩:=h
   first | exact k | (simp only [hs]; exact k)
  ·cases h
 ·split at k
  ·rename_i s hs
   exact ⟨.normal,s,by simp only [run,fr,hs],k⟩
  ·exact k.elim
theorem Sf {anc:List (List Nat)} {ops:List SOper}:go n0 (.dreg anc ops) st K=Pj anc (KP ops [] st) K:=by
 unfold Pj KP
 refine propext ⟨fun ⟨x,st',h,k⟩=>?_,fun k=>?_⟩
 ·simp only [run,fr] at h
  split at h
  ·rename_i es s hs
   obtain ⟨h1,h2⟩:=Ap h
   simp only [zQ,zW] at h2
   obtain ⟨rfl,rfl⟩:=h2
   first | exact ⟨h1,k⟩ | (simp only [hs]; exact ⟨h1,k⟩)
  ·cases h
 ·split at k
  ·rename_i es s hs
   exact ⟨.normal,s,by simp only [run,fr,hs,k.1,cond_true],k.2⟩
  ·exact k.elim
theorem VR {a b:SC}:go n0 (.seq a b) st K=go n0 a st (Sd n0 b K):=by
 refine propext ⟨fun ⟨x,st',h,k⟩=>?_,fun ⟨x,st',h,k⟩=>?_⟩
 ·simp only [run,fr,BV] at h
  split at h
  ·rename_i s hs
   exact ⟨.normal,s,hs,x,st',h,k⟩
  ·rename_i i s hs
   simp only [zQ,zW] at h
   obtain ⟨rfl,rfl⟩:=h
   exact ⟨_,_,hs,k⟩
  ·rename_i s hs
   simp only [zQ,zW] at h
   obtain ⟨rfl,rfl⟩:=h
   exact ⟨_,_,hs,k⟩
  ·cases h
 ·simp only [run] at h
  cases x with
  | normal =>
   obtain ⟨x2,st2,h2,k2⟩:=k
   exact ⟨x2,st2,by simp only [run,fr,BV,h]; exact h2,k2⟩
  | exit i=>exact ⟨_,st',by simp only [run,fr,BV,h],k⟩
  | ret=>exact ⟨_,st',by simp only [run,fr,BV,h],k⟩
theorem Pk {id:Nat} {b:SC}:go n0 (.block id b) st K=go n0 b st (blk id K):=by
  refine propext ⟨fun ⟨x,st',h,k⟩=>?_,fun ⟨x,st',h,k⟩=>?_⟩
  · simp only [run,fr,Eg] at h
    split at h
    · rename_i s hs
      simp only [zQ,zW] at h
      obtain ⟨rfl,rfl⟩:=h
      exact ⟨.normal,s,hs,k⟩
    · rename_i i s hs
      refine ⟨.exit i,s,hs,?_⟩
      simp only [blk]
      by_cases hi:i=id
      · simp only [if_pos hi,zQ,zW] at h ⊢
        obtain ⟨rfl,rfl⟩:=h
        exact k
      · simp only [if_neg hi,zQ,zW] at h ⊢
        obtain ⟨rfl,rfl⟩:=h
        exact k
    · rename_i s hs
      simp only [zQ,zW] at h
      obtain ⟨rfl,rfl⟩:=h
      exact ⟨_,s,hs,k⟩
    · cases h
  · simp only [run] at h
    cases x with
    | normal=>exact ⟨_,st',by simp only [run,fr,Eg,h],k⟩
    | exit i =>
      simp only [blk] at k
      by_cases hi:i=id
      · simp only [if_pos hi] at k
        exact ⟨.normal,st',by simp only [run,fr,Eg,h,if_pos hi],k⟩
      · simp only [if_neg hi] at k
        exact ⟨.exit i,st',by simp only [run,fr,Eg,h,if_neg hi],k⟩
    | ret=>exact ⟨_,st',by simp only [run,fr,Eg,h],k⟩
theorem Ab {q:SX} {a b:SC}:go n0 (.cond q a b) st K=G6 (Av (gets st.sl) q) (fun _=>go n0 a st K) (fun _=>go n0 b st K):=by
 unfold G6
 refine propext ⟨fun ⟨x,st',h,k⟩=>?_,fun k=>?_⟩
 ·simp only [run,fr] at h
  split at h
  ·rename_i t ht
   simp only [ht]
   cases t with
   | true=>exact ⟨x,st',h,k⟩
   | false=>exact ⟨x,st',h,k⟩
  ·cases h
 ·split at k
  ·rename_i ht
   obtain ⟨x,st',h,k⟩:=k
   exact ⟨x,st',by simp only [run,fr,ht,cond_true]; exact h,k⟩
  ·rename_i ht
   obtain ⟨x,st',h,k⟩:=k
   exact ⟨x,st',by simp only [run,fr,ht,cond_false]; exact h,k⟩
  ·exact k.elim
theorem Sg {a b:Unit→Prop}:G6 (.bool true) a b=a ():=rfl
theorem Sh {a b:Unit→Prop}:G6 (.bool false) a b=b ():=rfl
theorem Si {t:Bool} {a b:Unit→Prop}:G6 (.bool (!t)) a b=G6 (.bool t) b a:=by cases t <;> rfl
theorem VS {b:SC}:Sd n0 b K .normal st=go n0 b st K:=rfl
theorem VT {b:SC} {i:Nat}:Sd n0 b K (.exit i) st=K (.exit i) st:=rfl
theorem VU {b:SC}:Sd n0 b K .ret st=K .ret st:=rfl
theorem Z3 {id:Nat}:blk id K .normal st=K .normal st:=rfl
theorem Z4 {id i:Nat}:blk id K (.exit i) st=if i=id then K .normal st else K (.exit i) st:=rfl
theorem Z5 {id:Nat}:blk id K .ret st=K .ret st:=rfl
theorem Sj:Pi (some st) K=K .normal st:=rfl
def quiet:List Ent→Bool
 | []=>true
 | ⟨_,_,[],_⟩ :: r=>quiet r
 | ⟨_,_,_ :: _,_⟩ :: _=>false
theorem FV {anc:List (List Nat)} {rd:List Nat} {j:Nat}:∀ {l:List Ent} {i:Nat},quiet l=true→PV anc rd [] j (F8 l) i=true
 | [],i,_=>rfl
 | ⟨_,_,[],rdi⟩ :: r,i,h=>by
  have:=FV (anc:=anc) (rd:=rd) (j:=j) (l:=r) (i:=i+1) h
  simp only [F8,zN,zK] at this ⊢
  simp only [PV,this,Bool.and_true]
  have e1:meets [] (rd++[])=false:=rfl
  have e2:meets rdi []=false:=by cases rdi <;> simp [meets]
  rw [e1,e2]; rfl
theorem M6 {l l':List Ent} (h:quiet l=true) (h':quiet l'=true):quiet (l++l')=true:=by
 induction l with
 | nil=>exact h'
 | cons x r ih =>
  obtain ⟨a,b,c,d⟩:=x
  cases c with
  | nil=>exact ih h
  | cons _ _=>cases h
theorem H5 {anc:List (List Nat)}:∀ {l pre:List Ent} {j:Nat},quiet pre=true→quiet l=true→obB anc (F8 pre) (F8 l) j=true
 | [],pre,j,_,_=>rfl
 | ⟨a,b,[],rd⟩ :: r,pre,j,hp,h=>by
  have e:=H5 (anc:=anc) (l:=r) (pre:=pre++[⟨a,b,[],rd⟩]) (j:=j+1) (M6 hp rfl) h
  have e2:=FV (anc:=anc) (rd:=rd) (j:=j) (i:=0) hp
  simp only [F8,yD,zN,zK] at e e2 ⊢
  simp only [obB,e2,e,Bool.and_self]
theorem Sk {anc:List (List Nat)} {es:List Ent}:Pj anc (some (es,st)) K=match quiet es with
  | true=>K .normal st
  | false=>obB anc [] (F8 es) 0=true∧K .normal st:=by
 show (obB anc [] (F8 es) 0=true∧K .normal st)=_
 cases h:quiet es with
 | true=>exact propext ⟨fun h=>h.2,fun h'=>⟨H5 (pre:=[]) rfl h,h'⟩⟩
 | false=>rfl
noncomputable def VV (r:List SOper) (e:Option (Ent × St)):Option St :=
 match e with
 | some (_,st)=>KO r st
 | none=>none
noncomputable def VW (r:List SOper) (acc:List Ent) (e:Option (Ent × St)):Option (List Ent × St) :=
 match e with
 | some (x,st)=>KP r (acc++[x]) st
 | none=>none
noncomputable def opF (so:SOp) (sl:List SV) (ob:List Ob):Option R3:=fOp Tryz.prog calls so sl ob
theorem Pl:KO [] st=some st:=rfl
theorem M7 {d:Option Tmp} {so:SOp} {r:List SOper} {sl:List SV} {ob:List Ob}:KO (⟨d,none,so⟩ :: r) ⟨sl,ob⟩=VV r (FO d ⟨sl,ob⟩ (opF so sl ob)):=rfl
noncomputable def gdF (d:Option Tmp) (so:SOp) (want:Bool) (sl:List SV) (ob:List Ob) (v:SV):Option (Ent × St) :=
 match v with
 | .bool b=>bif T5 b want then FO d ⟨sl,ob⟩ (opF so sl ob) else some (⟨false,.tup [],[],[]⟩,⟨DV sl d (.tup []),ob⟩)
 | .tup []=>some (⟨false,.tup [],[],[]⟩,⟨DV sl d (.tup []),ob⟩)
 | _=>none
theorem Sl {d:Option Tmp} {k:Nat} {want:Bool} {so:SOp} {r:List SOper} {sl:List SV} {ob:List Ob}:KO (⟨d,some (k,want),so⟩ :: r) ⟨sl,ob⟩=VV r (gdF d so want sl ob (gets sl k)):=rfl
theorem Pm {acc:List Ent}:KP [] acc st=some (acc,st):=rfl
theorem M8 {d:Option Tmp} {so:SOp} {r:List SOper} {acc:List Ent} {sl:List SV} {ob:List Ob}:KP (⟨d,none,so⟩ :: r) acc ⟨sl,ob⟩=VW r acc (FO d ⟨sl,ob⟩ (opF so sl ob)):=rfl
theorem Sm {d:Option Tmp} {k:Nat} {want:Bool} {so:SOp} {r:List SOper} {acc:List Ent} {sl:List SV} {ob:List Ob}:KP (⟨d,some (k,want),so⟩ :: r) acc ⟨sl,ob⟩=VW r acc (gdF d so want sl ob (gets sl k)):=rfl
theorem VX {r:List SOper} {e:Ent}:VV r (some (e,st))=KO r st:=rfl
theorem VY {r:List SOper} {acc:List Ent} {e:Ent}:VW r acc (some (e,st))=KP r (acc++[e]) st:=rfl
theorem Z6 {d:Option Tmp} {so:SOp} {sl:List SV} {ob:List Ob}:gdF d so true sl ob (.bool true)=FO d ⟨sl,ob⟩ (opF so sl ob):=rfl
theorem VZ {d:Option Tmp} {so:SOp} {sl:List SV} {ob:List Ob}:gdF d so false sl ob (.bool false)=FO d ⟨sl,ob⟩ (opF so sl ob):=rfl
theorem Wa {d:Option Tmp} {so:SOp} {sl:List SV} {ob:List Ob}:gdF d so true sl ob (.bool false)=some (⟨false,.tup [],[],[]⟩,⟨DV sl d (.tup []),ob⟩):=rfl
theorem Wb {d:Option Tmp} {so:SOp} {sl:List SV} {ob:List Ob}:gdF d so false sl ob (.bool true)=some (⟨false,.tup [],[],[]⟩,⟨DV sl d (.tup []),ob⟩):=rfl
theorem Z7 {d:Option Tmp} {so:SOp} {want:Bool} {sl:List SV} {ob:List Ob}:gdF d so want sl ob (.tup [])=some (⟨false,.tup [],[],[]⟩,⟨DV sl d (.tup []),ob⟩):=rfl
theorem Wc {d:Option Tmp} {x:SV} {rd:List Nat}:FO d st (some (x,[],rd))=some (⟨true,x,[],rd⟩,⟨DV st.sl d x,st.ob⟩):=rfl
theorem We {d:Option Tmp} {x:SV} {q:Nat × Ob} {u:List (Nat × Ob)} {rd:List Nat}:FO d st (some (x,q :: u,rd))=bif T3 (CD st.ob (q :: u)).length (q :: u) then some (⟨true,x,q :: u,rd⟩,⟨DV st.sl d x,CD st.ob (q :: u)⟩) else none:=rfl
def Je (ob:List Ob) (xs:List SV) (sel:List Nat) (r:Option (SV × List Ob)) (n:Nat):Option R3 :=
 match r with
 | some (r,fob')=>bif decide (n≤fob'.length) then some (Dw sel (AQ sel xs) ob.length r fob') else none
 | none=>none
def Wg (hd:List Bool) (f:FuncId) (xs:List SV) (ob:List Ob) (sel:List Nat) (e:List SV→List Ob→Option (SV × List Ob)) (b:Option (List Ob)):Option R3 :=
 match b with
 | some fob=>bif nodupB sel&&GX ob.length sel&&EX fob.length fob then Je ob xs sel (e (E4 hd (Aq ob) sel xs) fob) fob.length else none
 | none=>none
def Pn (hd:List Bool) (f:FuncId) (xs:List SV) (ob:List Ob) (sel:List Nat) (e:List SV→List Ob→Option (SV × List Ob)):Option R3:=Wg hd f xs ob sel e (DQ sel ob sel)
theorem Po {f:FuncId} {xs:List SV} {ob:List Ob}:calls f xs ob=D5 (modes f).res (Pn (modes f).hand f xs ob (reach ob 64 (Fj (modes f).hand xs) []) (E f)):=rfl
theorem Wh {r:Option R3}:D5 .asis r=r:=rfl
theorem Wi {r:Option R3}:D5 .frz r=r:=rfl
theorem Wj {l:List (Option (Nat × Nat))} {r:Option R3}:D5 (.own l) r=r:=rfl
theorem Wk {l:List (Option (Nat × Nat))} {r:Option R3}:D5 (.tr l) r=r:=rfl
theorem Wl {l:List Nat} {r:Option R3}:D5 (.frl l) r=r:=rfl
theorem Wm {r:R3}:D5 .late (some r)=OD r:=rfl
theorem DZ:∀ u:List (Nat × Ob),Cv [] u=u
 | []=>rfl
 | (g,o) :: u=>by rw [Cv,DZ u]; rfl
theorem Wn {m:RM} {b:Bool} {u:List (Nat × Ob)} {rd:List Nat}:D5 m (some (.bool b,u,rd))=some (.bool b,u,rd):=by
 cases m <;> first | rfl | (show some (SV.bool b,Cv [] u,rd)=_; rw [DZ])
theorem Wo {m:RM} {k:IntKind} {n:Int} {u:List (Nat × Ob)} {rd:List Nat}:D5 m (some (.int k n,u,rd))=some (.int k n,u,rd):=by
 cases m <;> first | rfl | (show some (SV.int k n,Cv [] u,rd)=_; rw [DZ])
theorem M9 {hd:List Bool} {f:FuncId} {xs:List SV} {ob:List Ob} {e:List SV→List Ob→Option (SV × List Ob)}:Pn hd f xs ob [] e=Je ob xs [] (e (E4 hd (Aq ob) [] xs) []) 0:=rfl
theorem KQ {hd:List Bool} {f:FuncId} {xs:List SV} {ob:List Ob} {g:Nat} {r:List Nat} {e:List SV→List Ob→Option (SV × List Ob)}:Pn hd f xs ob (g :: r) e=Wg hd f xs ob (g :: r) e (DQ (g :: r) ob (g :: r)):=rfl
theorem Sn {ob:List Ob} {xs:List SV} {r:SV} {fob':List Ob}:Je ob xs [] (some (r,fob')) 0=some (Dw [] (AQ [] xs) ob.length r fob'):=rfl
theorem So {ob:List Ob} {xs:List SV} {sel:List Nat} {r:SV} {fob':List Ob} {n:Nat}:Je ob xs sel (some (r,fob')) n=bif decide (n≤fob'.length) then some (Dw sel (AQ sel xs) ob.length r fob') else none:=rfl
theorem Wp {hd:List Bool} {f:FuncId} {xs:List SV} {ob:List Ob} {sel:List Nat} {fob:List Ob} {e:List SV→List Ob→Option (SV × List Ob)}:Wg hd f xs ob sel e (some fob)=bif nodupB sel&&GX ob.length sel&&EX fob.length fob then Je ob xs sel (e (E4 hd (Aq ob) sel xs) fob) fob.length else none:=rfl
theorem MA {p:Nat} {r:SV}:Dw [] [] p r []=(r.ren (sgp [] p),[],[]):=rfl
def Ij {α:Type} (n0:Nat) (keep:List Nat) (H:α→St) (R:α→Prop) (μ:α→Nat) (a:α) (K:X→St→Prop):X→St→Prop
 | .normal,st'=>∃ y,R y∧μ y < μ a∧canon n0 keep st'=H y
 | .exit i,st'=>K (.exit i) st'
 | .ret,st'=>K .ret st'
theorem Pp {α:Type} {keep:List Nat} {H:α→St} {R:α→Prop} {μ:α→Nat} {a:α} {st':St}:Ij n0 keep H R μ a K .normal st'=∃ y,R y∧μ y < μ a∧canon n0 keep st'=H y:=rfl
theorem Pq {α:Type} {keep:List Nat} {H:α→St} {R:α→Prop} {μ:α→Nat} {a:α} {i:Nat} {st':St}:Ij n0 keep H R μ a K (.exit i) st'=K (.exit i) st':=rfl
theorem Pr {α:Type} {keep:List Nat} {H:α→St} {R:α→Prop} {μ:α→Nat} {a:α} {st':St}:Ij n0 keep H R μ a K .ret st'=K .ret st':=rfl
theorem go_loop {α:Type} {keep:List Nat} {b:SC} (H:α→St) (R:α→Prop) (μ:α→Nat) (a0:α) (hR:R a0) (h0:canon n0 keep st=H a0) (round:∀ a,R a→go n0 b (H a) (Ij n0 keep H R μ a K)):go n0 (.loop keep b) st K:=by
  have key:∀ (n:Nat) (a:α) (st:St),μ a≤n→R a→canon n0 keep st=H a→∃ x st',OP n0 keep (run n0 b) st=some (x,st')∧K x st':=by
    intro n
    induction n with
    | zero =>
      intro a st hn hR hc
      obtain ⟨x,st',h,k⟩:=round a hR
      cases x with
      | normal =>
        obtain ⟨y,_,h2,_⟩:=k
        omega
      | exit i=>exact ⟨_,st',by rw [DE,hc,h]; rfl,k⟩
      | ret=>exact ⟨_,st',by rw [DE,hc,h]; rfl,k⟩
    | succ n ih =>
      intro a st hn hR hc
      obtain ⟨x,st',h,k⟩:=round a hR
      cases x with
      | normal =>
        obtain ⟨y,h1,h2,h3⟩:=k
        obtain ⟨x2,st2,h4,k2⟩:=ih y st' (by omega) h1 h3
        exact ⟨x2,st2,by rw [DE,hc,h]; exact h4,k2⟩
      | exit i=>exact ⟨_,st',by rw [DE,hc,h]; rfl,k⟩
      | ret=>exact ⟨_,st',by rw [DE,hc,h]; rfl,k⟩
  exact key (μ a0) a0 st (zS _) hR h0
def G7 (n0:Nat) (keep keepO:List Nat) (H:EL→St) (F:X × St) (p:EL):X→St→Prop
 | .normal,st'=>canon n0 keep st'=H p
 | .exit i,st'=>F=(.exit i,canon n0 keepO st')
 | .ret,st'=>F=(.ret,canon n0 keepO st')
def Re (n0:Nat) (keepO:List Nat) (F:X × St):X→St→Prop
 | .normal,_=>False
 | .exit i,st'=>F=(.exit i,canon n0 keepO st')
 | .ret,st'=>F=(.ret,canon n0 keepO st')
theorem MB {keep keepO:List Nat} {H:EL→St} {F:X × St} {p:EL} {st':St}:G7 n0 keep keepO H F p .normal st'=(canon n0 keep st'=H p):=rfl
theorem MC {keep keepO:List Nat} {H:EL→St} {F:X × St} {p:EL} {i:Nat} {st':St}:G7 n0 keep keepO H F p (.exit i) st'=(F=(.exit i,canon n0 keepO st')):=rfl
theorem MD {keep keepO:List Nat} {H:EL→St} {F:X × St} {p:EL} {st':St}:G7 n0 keep keepO H F p .ret st'=(F=(.ret,canon n0 keepO st')):=rfl
theorem Sp {keepO:List Nat} {F:X × St} {i:Nat} {st':St}:Re n0 keepO F (.exit i) st'=(F=(.exit i,canon n0 keepO st')):=rfl
theorem Sq {keepO:List Nat} {F:X × St} {st':St}:Re n0 keepO F .ret st'=(F=(.ret,canon n0 keepO st')):=rfl
end
def slots:Nat→Nat→List (Nat × SV)→List SV
 | 0,_,_=>[]
 | n+1,k,[]=>.any :: slots n (k+1) []
 | n+1,k,(j,x) :: r=>bif j == k then x :: slots n (k+1) r else .any :: slots n (k+1) ((j,x) :: r)
def TY (res:RM) (n0:Nat) (rs:List RX) (out:SV × List Ob) (x:X) (st:St):Prop:=fin res n0 rs x st=some out
def Wq (res:RM) (n0:Nat) (r:Option (SV × List Ob)):Option (SV × List Ob) :=
 match r with
 | some (r,ob)=>order res n0 r ob
 | none=>none
def L7 (res:RM) (n0:Nat) (ob:List Ob) (r:Option SV):Option (SV × List Ob) :=
 match r with
 | some r0=>Wq res n0 (gc n0 r0 ob)
 | none=>none
theorem Wr {res:RM} {n0:Nat} {rs:List RX} {out:SV × List Ob} {sl:List SV} {ob:List Ob}:TY res n0 rs out .ret ⟨sl,ob⟩=(L7 res n0 ob (Mq ⟨sl,ob⟩ rs)=some out):=rfl
theorem Ws {res:RM} {n0:Nat} {rs:List RX} {out:SV × List Ob} {sl:List SV} {ob:List Ob}:TY res n0 rs out .normal ⟨sl,ob⟩=(L7 res n0 ob (Mq ⟨sl,ob⟩ rs)=some out):=rfl
theorem Sr {res:RM} {n0:Nat} {ob:List Ob} {r:SV}:L7 res n0 ob (some r)=Wq res n0 (gc n0 r ob):=rfl
theorem Wt {n0:Nat} {r:SV} {ob:List Ob} {res:RM}:Wq res n0 (some (r,ob))=order res n0 r ob:=rfl
theorem Ai {f:FuncId} {fc:FC} {hand:List Bool} {res:RM} {tr:Bool} {xs:List SV} {ob:List Ob} {out:SV × List Ob} (hc:codeOf Tryz.prog f=some fc) (hr:modes f=⟨hand,res,none,tr⟩) (hn:xs.length≤fc.nt) (h:go ob.length (G5 res fc.sc) ⟨xs++JW (fc.nt-xs.length),entry tr ob⟩ (TY res ob.length fc.rs out)):E f xs ob=some out:=by
 obtain ⟨x,st',h1,h2⟩:=h
 unfold E
 rw [Zm]
 unfold FQ
 rw [hc,hr]
 simp only
 rw [decide_eq_true hn,cond_true]
 have h1:fr Tryz.prog (C1 modes (ev Tryz.prog modes)) (If ob.length) (G5 res fc.sc) ⟨xs++JW (fc.nt-xs.length),entry tr ob⟩=some (x,st'):=h1
 rw [h1]
 exact h2
end Wd
theorem P3:∀ {xs:List ByteArray} {n m:ByteArray},m∈Cw xs n ↔ m∈xs∨m=n
  | [],n,m=>by simp [Cw]
  | x :: xs,n,m=>by
    rw [Cw]
    cases strLt x n with
    | true=>rw [cond_true,zV,P3,zV,or_assoc]
    | false =>
      rw [cond_false]
      by_cases h:x=n
      · rw [An h,cond_true]
        exact ⟨.inl,fun h'=>h'.elim id fun e=>by subst e; subst h; simp⟩
      · rw [Aj h,cond_false,zV]
        exact or_comm
theorem P4:∀ (xs:List ByteArray) (n:ByteArray),(Cw xs n).length≤xs.length+1
  | [],n=>by simp [Cw]
  | x :: xs,n=>by
    have h:=P4 xs n
    rw [Cw]
    cases strLt x n with
    | true=>simp only [cond_true,zG]; omega
    | false =>
      rw [cond_false]
      cases dec (x=n) with
      | true=>simp only [cond_true,zG]; omega
      | false=>simp only [cond_false,zG]; omega
theorem XB:∀ (xs:List ByteArray) (n:ByteArray),Cc xs n≤xs.length
 | [],n=>by simp [Cc]
 | x :: xs,n=>by
  have h:=XB xs n
  rw [Cc]
  cases strLt x n with
  | true=>simp only [cond_true,zG]; omega
  | false=>simp only [cond_false,zG]; omega
theorem Ip:∀ {xs:List ByteArray} {n:ByteArray} (h:Cc xs n<xs.length),xs[Cc xs n]=n→Cw xs n=xs
  | [],n,h,_=>by simp at h
  | x :: xs,n,h,e=>by
    rw [Cw]
    cases hq:strLt x n with
    | true =>
      simp only [Cc,hq,cond_true,zG,z6] at h e
      rw [cond_true,Ip (by omega) e]
    | false =>
      simp only [Cc,hq,cond_false,yF] at e
      rw [cond_false,An e]; rfl
theorem Eo:∀ {xs:List ByteArray} {n:ByteArray},(∀ h:Cc xs n<xs.length,¬ xs[Cc xs n]=n)→Cw xs n=xs.take (Cc xs n)++n :: xs.drop (Cc xs n)
  | [],n,_=>by simp [Cw,Cc]
  | x :: xs,n,h=>by
    rw [Cw]
    cases hq:strLt x n with
    | true =>
      simp only [Cc,hq,cond_true,zG,z6] at h ⊢
      rw [Eo fun h'=>h (by omega)]
      simp
    | false =>
      simp only [Cc,hq,cond_false,yF] at h ⊢
      rw [Aj (h (by simp))]
      simp
theorem Rr {xs:List ByteArray} {n:ByteArray} {k:Nat} (h:k+Cc (xs.drop k) n=Cc xs n) (hk:k<xs.length):(strLt xs[k] n=true∧k+1+Cc (xs.drop (k+1)) n=Cc xs n)∨(strLt xs[k] n=false∧k=Cc xs n):=by
 rw [zC hk,Cc] at h
 cases hq:strLt xs[k] n with
 | true=>rw [hq,cond_true] at h; exact .inl ⟨rfl,by omega⟩
 | false=>rw [hq,cond_false] at h; exact .inr ⟨rfl,by omega⟩
theorem ot_take (xs:List ByteArray) (k:Nat):((xs.map fun s=>[D.str s]).take k).map (fun x=>x.map D.ot)=(xs.take k).map fun s=>[OT.str s]:=by
 rw [←List.map_take,yB]; rfl
theorem ot_drop (xs:List ByteArray) (k:Nat):((xs.map fun s=>[D.str s]).drop k).map (fun x=>x.map D.ot)=(xs.drop k).map fun s=>[OT.str s]:=by
 rw [←List.map_drop,yB]; rfl
theorem Di (xs:List ByteArray):((xs.map fun s=>[OT.str s]).all fun l=>l.length == 1)=true:=by
 rw [yV,zT]
 intro x _; rfl
theorem Ep (xs:List ByteArray):((xs.map fun s=>[D.str s]).all fun l=>l.length == 1)=true:=by
 rw [yV,zT]
 intro x _; rfl
namespace Wd
attribute [local go_sem] E4 QE SV.isNil Ob.idsB SV.idsB SV.Ls List.getElem?_cons_zero List.getElem?_cons_succ OT.AA OT.BU OT.full entry toTree TC QL TA Fw FI Ef Xf Oq Vn OT.erss OT.ers OT.er OT.B0 OT.CP OT.noSh quiet obB PV F8 meets HZ go_skip Se go_ret VQ Sf VR Pk Sg Sh Si VS VT VU Z3 Z4 Z5 Sj Sk Pl M7 Sl Pm M8 Sm VX VY Z6 VZ Wa Wb Z7 Wc We Po Wh Wi Wj Wk Wl Wm Wn Wo OD QI Cv seen M9 KQ Sn So Wp MA Dw Pp Pq Pr Wr Ws Sr Wt order opF fOp E8 Tz Zc Tx Ty Xe Ic eqK Av gets Aq O2 DV CD KB NF AD T3 SV.cellsN SV.one IL splice D4 RF IK Kg Dl Bp BI Bk IN IO Td eOp.mkEs eOp.addS D.sv OT.sv D.ot GV nodupB reach SV.refs SV.OB SV.ptrs SV.OC Ob.refs Ob.liveB Fj DQ SV.back SV.Lv Ob.back GU Hu Ck AQ Ba GX EX SV.ren SV.KD Ob.ren mkU sgp gc Lw names KI Xj Xk Xl Mt XZ Xn Xo Xp Xq Xr Xs SC.mark OI Fk slots Mq Tt rxV JW QH SV.noSh SV.Lr Ob.noSh SV.own SV.PX Fv cond_true cond_false zG zP zN zK List.drop_succ_cons zH List.drop_nil List.take_succ_cons z8 List.take_nil yO z7 List.cons_append List.all_cons List.all_nil List.getD_cons_zero List.getD_cons_succ y5 List.any_nil List.contains_cons List.contains_nil List.isEmpty_nil List.isEmpty_cons List.flatten_cons List.flatten_nil List.replicate_succ List.replicate_zero List.set_cons_zero List.set_cons_succ Nat.add_zero yQ zS zI Bool.and_true y4 Bool.and_self Bool.or_false Bool.false_or Bool.true_or Bool.or_true Bool.not_true Bool.not_false yY yR decide_true decide_false beq_self_eq_true if_true if_false Option.map_some Option.map_none zQ Option.getD_some Option.getD_none yG true_and and_true and_self eq_self_iff_true zE yE Bool.true_eq_false zW SV.int.injEq SV.bool.injEq SV.str.injEq SV.agg.injEq SV.tup.injEq SV.arr.injEq List.cons.injEq St.mk.injEq Int.zero_add Z8 Z9 X4 An Aj Qb7 svK svD XN svM MV.sv Tc T1 OA T2 E7 St.app PY MK.sv MB MC MD Sp Sq mode
def Iq:SC:=(.seq (.reg [⟨some 4,none,.mv (.c .nil)⟩]) (.seq (.reg [⟨some 5,none,.mv (.c (.int .i64 0))⟩]) (.seq (.block 0 (.loop [1,1,0,0,0,1,0,0,0,0,0,0,0,0,0,0,0,0,0,0,0,0,0,0,0,0,0,0,0,0,0,0,0,0,0,0,0,0,0,0,0,0,0,0,0] (.seq (.seq (.reg [⟨some 6,none,.mv (.t 5)⟩,⟨some 7,none,.mv (.t 0)⟩,⟨some 8,none,.len false (.t 7)⟩,⟨some 9,none,.bin .lss false (.t 6) (.t 8)⟩,⟨some 10,none,.mv (.t 9)⟩,⟨(some 11),(some (10,true)),(.mv (.t 0))⟩,⟨(some 12),(some (10,true)),(.mv (.t 5))⟩,⟨(some 13),(some (10,true)),(.iaddr 1 (.t 11) (.t 12))⟩,⟨(some 14),(some (10,true)),(.load false 1 (.t 13))⟩,⟨(some 15),(some (10,true)),(.mv (.t 1))⟩,⟨(some 16),(some (10,true)),(.bin .lss false (.t 14) (.t 15))⟩,⟨some 17,none,.pick (.t 10) (.t 16) (.c (.bool false))⟩]) (.cond (.t 17) .skip (.exit 0))) (.block 1 (.reg [⟨some 18,none,.mv (.t 5)⟩,⟨some 19,none,.bin .add false (.t 18) (.c (.int .i64 1))⟩,⟨some 5,none,.mv (.t 19)⟩]))))) (.seq (.seq (.reg [⟨some 20,none,.mv (.t 5)⟩,⟨some 21,none,.mv (.t 0)⟩,⟨some 22,none,.len false (.t 21)⟩,⟨some 23,none,.bin .lss false (.t 20) (.t 22)⟩,⟨some 24,none,.mv (.t 23)⟩,⟨(some 25),(some (24,true)),(.mv (.t 0))⟩,⟨(some 26),(some (24,true)),(.mv (.t 5))⟩,⟨(some 27),(some (24,true)),(.iaddr 1 (.t 25) (.t 26))⟩,⟨(some 28),(some (24,true)),(.load false 1 (.t 27))⟩,⟨(some 29),(some (24,true)),(.mv (.t 1))⟩,⟨(some 30),(some (24,true)),(.bin .eql false (.t 28) (.t 29))⟩,⟨some 31,none,.pick (.t 24) (.t 30) (.c (.bool false))⟩]) (.cond (.t 31) (.seq (.reg [⟨some 32,none,.mv (.t 0)⟩,⟨some 4,none,.mv (.t 32)⟩]) .ret) .skip)) (.seq (.dreg [[],[],[],[1,2],[0,3,1,2],[],[5],[4,0,3,1,2,6,5],[],[],[8,9],[7,4,0,3,1,2,6,5,10,8,9],[11,7,4,0,3,1,2,6,5,10,8,9]] [⟨(some 33),none,(.mkrow 9 1 [(.str ⟨#[]⟩)] 0 [])⟩,⟨some 34,none,.mv (.t 0)⟩,⟨some 35,none,.mv (.t 5)⟩,⟨some 36,none,.slice false 1 (.t 34) none (some (.t 35))⟩,⟨(some 37),none,(.append 9 1 16 [(.str ⟨#[]⟩)] (.t 33) (.t 36))⟩,⟨some 38,none,.mv (.t 1)⟩,⟨(some 39),none,(.mkrow 9 1 [(.str ⟨#[]⟩)] 1 [(0,(.t 38))])⟩,⟨(some 40),none,(.append 9 1 16 [(.str ⟨#[]⟩)] (.t 37) (.t 39))⟩,⟨some 41,none,.mv (.t 0)⟩,⟨some 42,none,.mv (.t 5)⟩,⟨some 43,none,.slice false 1 (.t 41) (some (.t 42)) none⟩,⟨(some 44),none,(.append 9 1 16 [(.str ⟨#[]⟩)] (.t 40) (.t 43))⟩,⟨some 4,none,.mv (.t 44)⟩]) .ret)))))
theorem LJ:codeOf Tryz.prog 238=some ⟨45,Iq,[(.tmp 4)]⟩:=by kernel_rfl
theorem CM:modes 238=⟨[],.asis,none,false⟩:=rfl
theorem QaX {xs:List ByteArray} {k:Nat} (h:k<xs.length):(xs.map fun s=>[OT.str s])[k]?=some [OT.str xs[k]]:=by rw [yH,zZ h]; rfl
theorem l2PutN_E (xs:List ByteArray) (n:ByteArray) (hl:xs.length≤1048576) (hg:xs.length<(Cw xs n).length):E 238 [.arr (xs.map fun s=>[D.str s]),.str n] []=some (.ref 0,[.row 9 1 ((Cw xs n).map fun s=>[OT.str s])]):=by
  have e1:=ot_take xs (Cc xs n)
  have e2:=ot_drop xs (Cc xs n)
  have e3:=Di (xs.take (Cc xs n))
  have e4:=Di (xs.drop (Cc xs n))
  have e5:=Ep xs
  have l1:=XB xs n
  have e6:(xs.map fun s=>[D.str s]).take xs.length=xs.map fun s=>[D.str s]:=yI (by simp)
  have e7:(xs.take (Cc xs n)).length=Cc xs n:=by rw [zX]; omega
  have e8:(xs.drop (Cc xs n)).length=xs.length-Cc xs n:=List.length_drop
  refine Ai LJ CM (of_decide_eq_true rfl) ?_
  simp (disch:=omega) only [Iq,go_sem,Ab]
  refine go_loop (α:=Int) (fun a=>⟨slots 45 0 [(0,.arr (xs.map fun s=>[D.str s])),(1,.str n),(5,.int .i64 a)],[]⟩) (fun a=>∃ k:Nat,a=k∧k≤(xs).length∧k+Cc (xs.drop k) n=Cc xs n) (fun a=>(xs).length-(a).toNat) 0 ⟨0,rfl,zI _,by rw [zH,yQ]⟩ (by simp (disch:=omega) only [go_sem,Ab]) ?_
  rintro i ⟨k,hi,hk,hR⟩
  have hni:i.toNat=k:=by omega
  have hni1:(i+1).toNat=k+1:=by omega
  rcases zB k (xs).length with hlt | hge
  · have hg':=get_at (fun s=>[D.str s]) hlt
    rcases Rr hR hlt with ⟨q,hR'⟩ | ⟨q,hk'⟩
    · simp (disch:=omega) only [go_sem,Ab,hni,hg',q]
      exact ⟨i+1,⟨k+1,by omega,hlt,hR'⟩,by omega,by first | trivial | rfl⟩
    · subst hk'
      by_cases h0:xs[Cc xs n]=n
      · have hi0:=Ip hlt h0
        rw [hi0] at hg
        exact absurd hg (Nat.lt_irrefl _)
      · have hi0:=Eo (fun _=>h0)
        have hx2:(xs.take (Cc xs n)).map (fun s=>[OT.str s])++[[OT.str n]]++(xs.drop (Cc xs n)).map (fun s=>[OT.str s])=(Cw xs n).map fun s=>[OT.str s]:=by rw [hi0]; simp
        simp (disch:=omega) only [go_sem,Ab,hni,hg',q,h0,e1,e2,e3,e4,e5,e6,e7,e8,hx2,zR,zM]
  · obtain rfl:k=xs.length:=by omega
    have hk':xs.length=Cc xs n:=by rw [←hR,zF (zS _)]; simp [Cc]
    have hi0:=Eo (xs:=xs) (n:=n) (fun h=>by omega)
    have hx2:(xs.take (Cc xs n)).map (fun s=>[OT.str s])++[[OT.str n]]++(xs.drop (Cc xs n)).map (fun s=>[OT.str s])=(Cw xs n).map fun s=>[OT.str s]:=by rw [hi0]; simp
    rw [hk'] at hni
    simp (disch:=omega) only [go_sem,Ab,hni,e1,e2,e3,e4,e5,e6,e7,e8,hx2,zR,zM]
theorem l2PutT_E (xs:List ByteArray) (n:ByteArray) (hl:xs.length≤1048576) (hg:¬ xs.length<(Cw xs n).length):E 238 [.ref 0,.str n] [.row 9 1 (xs.map fun s=>[OT.str s])]=some (.ref 0,[.row 9 1 (xs.map fun s=>[OT.str s])]):=by
  refine Ai LJ CM (of_decide_eq_true rfl) ?_
  simp (disch:=omega) only [Iq,go_sem,Ab]
  refine go_loop (α:=Int) (fun a=>⟨slots 45 0 [(0,.ref 0),(1,.str n),(5,.int .i64 a)],[.row 9 1 (xs.map fun s=>[OT.str s])]⟩) (fun a=>∃ k:Nat,a=k∧k≤(xs).length∧k+Cc (xs.drop k) n=Cc xs n) (fun a=>(xs).length-(a).toNat) 0 ⟨0,rfl,zI _,by rw [zH,yQ]⟩ (by simp (disch:=omega) only [go_sem,Ab]) ?_
  rintro i ⟨k,hi,hk,hR⟩
  have hni:i.toNat=k:=by omega
  have hni1:(i+1).toNat=k+1:=by omega
  rcases zB k (xs).length with hlt | hge
  · have hg':=QaX hlt
    rcases Rr hR hlt with ⟨q,hR'⟩ | ⟨q,hk'⟩
    · simp (disch:=omega) only [go_sem,Ab,hni,hg',q]
      exact ⟨i+1,⟨k+1,by omega,hlt,hR'⟩,by omega,by first | trivial | rfl⟩
    · subst hk'
      by_cases h0:xs[Cc xs n]=n
      · simp (disch:=omega) only [go_sem,Ab,hni,hg',q,h0,Im,DH]
      · have hi0:=Eo (fun _=>h0)
        refine absurd ?_ hg
        rw [hi0]; simp; omega
  · obtain rfl:k=xs.length:=by omega
    have hk':xs.length=Cc xs n:=by rw [←hR,zF (zS _)]; simp [Cc]
    have hi0:=Eo (xs:=xs) (n:=n) (fun h=>by omega)
    refine absurd ?_ hg
    rw [hi0]; simp; omega
end Wd
theorem CM:modes 238=⟨[true],.asis,some M5,false⟩:=by unfold modes; rfl
theorem Uj (xs:List ByteArray) (n:ByteArray) (hl:xs.length≤1048576):E 238 [.ref 0,.str n] [.row 9 1 (xs.map fun s=>[OT.str s])]=some (bif dec (xs.length<(Cw xs n).length) then .ref 1 else .ref 0,bif dec (xs.length<(Cw xs n).length) then [.gone,.row 9 1 ((Cw xs n).map fun s=>[OT.str s])] else [.row 9 1 (xs.map fun s=>[OT.str s])]):=by
 rw [KR (g:=M5) (congrArg FM.ext CM)]
 unfold M5
 simp only [Zx]
 rw [An ⟨trivial,fun h=>(FunD.toFun (Wd.E_told (Wd.l2PutT_E xs n hl h))),fun h=>FunD.toFun (Wd.E_told (Wd.l2PutN_E xs n hl h))⟩,cond_true]
 cases dec (xs.length<(Cw xs n).length) <;> rfl
theorem Rs (xs:List ByteArray) (n:ByteArray):xs.length≤(Cw xs n).length:=by
 rcases zB (Cc xs n) xs.length with h | h
 ·by_cases h0:xs[Cc xs n]=n
  ·rw [Ip h h0]; exact zS _
  ·rw [Eo (fun _=>h0)]; simp; omega
 ·rw [Eo (fun h'=>by omega)]; simp; omega
theorem Rt {xs:List ByteArray} {n:ByteArray} (h:(Cw xs n).length≤xs.length):Cw xs n=xs:=by
 rcases zB (Cc xs n) xs.length with h1 | h1
 ·by_cases h0:xs[Cc xs n]=n
  ·exact Ip h1 h0
  ·rw [Eo (fun _=>h0)] at h
   simp at h
   omega
 ·rw [Eo (fun h'=>by omega)] at h
  simp at h
  omega
noncomputable def BT (l ns:List ByteArray):List ByteArray:=ns.foldl Cw l
theorem DJ:∀ (ns l:List ByteArray),(BT l ns).length≤l.length+ns.length
 | [],l=>by simp [BT]
 | n :: ns,l=>by
  have h:=DJ ns (Cw l n)
  have h2:=P4 l n
  simp only [BT,zU,zG] at h ⊢
  omega
theorem Uk:∀ {ns l:List ByteArray} {m:ByteArray},m∈BT l ns ↔ m∈l∨m∈ns
 | [],l,m=>by simp [BT]
 | n :: ns,l,m=>by
  have h:=Uk (ns:=ns) (l:=Cw l n) (m:=m)
  simp only [BT,zU] at h ⊢
  rw [h,P3]
  simp only [zV]
  exact or_assoc
theorem P5 (l a b:List ByteArray):BT l (a++b)=BT (BT l a) b:=List.foldl_append
def EY:SC:=(.seq (.reg [⟨some 3,none,.boxv 33 2 (.t 1)⟩,⟨some 4,none,.mv (.c .nil)⟩]) (.seq (.seq (.reg [⟨some 6,none,.faddr 0 (.t 3)⟩,⟨some 7,none,.load false 1 (.t 6)⟩,⟨some 8,none,.call 191 [(.t 7)]⟩]) (.cond (.t 8) (.seq (.reg [⟨some 9,none,.mv (.t 0)⟩,⟨some 10,none,.faddr 0 (.t 3)⟩,⟨some 11,none,.load false 1 (.t 10)⟩,⟨some 12,none,.call 238 [(.t 9),(.t 11)]⟩,⟨some 4,none,.mv (.t 12)⟩]) .ret) .skip)) (.seq (.seq (.reg [⟨some 5,none,.mv (.c (.int .i64 0))⟩]) (.block 0 (.loop [1,0,0,1,0,1,0,0,0,0,0,0,0,0,0,0,0,0,0,0,0,0,0,0,0,0,0,0] (.seq (.seq (.reg [⟨some 13,none,.mv (.t 5)⟩,⟨some 14,none,.faddr 1 (.t 3)⟩,⟨some 15,none,.load false 1 (.t 14)⟩,⟨some 16,none,.len false (.t 15)⟩,⟨some 17,none,.bin .lss false (.t 13) (.t 16)⟩]) (.cond (.t 17) .skip (.exit 0))) (.seq (.block 1 (.reg [⟨some 20,none,.mv (.t 0)⟩,⟨some 21,none,.faddr 1 (.t 3)⟩,⟨some 22,none,.load false 1 (.t 21)⟩,⟨some 23,none,.mv (.t 5)⟩,⟨some 24,none,.iaddr 2 (.t 22) (.t 23)⟩,⟨some 25,none,.load true 2 (.t 24)⟩,⟨some 26,none,.call 295 [(.t 20),(.t 25)]⟩,⟨some 0,none,.mv (.t 26)⟩])) (.reg [⟨some 18,none,.mv (.t 5)⟩,⟨some 19,none,.bin .add false (.t 18) (.c (.int .i64 1))⟩,⟨some 5,none,.mv (.t 19)⟩])))))) (.seq (.reg [⟨some 27,none,.mv (.t 0)⟩,⟨some 4,none,.mv (.t 27)⟩]) .ret))))
theorem Hf:codeOf Tryz.prog 295=some ⟨28,EY,[(.tmp 4)]⟩:=by kernel_rfl
theorem Db:modes 295=⟨[true],.asis,none,false⟩:=by unfold modes; rfl
def Hg:SC:=(.seq (.reg [⟨some 1,none,.boxv 33 2 (.t 0)⟩,⟨some 2,none,.mv (.c .nil)⟩]) (.seq (.reg [⟨(some 3),none,(.mkrow 9 1 [(.str ⟨#[]⟩)] 0 [])⟩,⟨some 4,none,.load true 2 (.t 1)⟩,⟨some 5,none,.call 295 [(.t 3),(.t 4)]⟩,⟨some 2,none,.mv (.t 5)⟩]) .ret))
theorem Kq:codeOf Tryz.prog 237=some ⟨6,Hg,[(.tmp 2)]⟩:=by kernel_rfl
theorem Hh:modes 237=⟨[],.frz,none,false⟩:=by unfold modes; rfl
theorem JR:∀ (ns l:List ByteArray),l.length≤(BT l ns).length
 | [],l=>zS _
 | n :: ns,l=>by
  have h:=JR ns (Cw l n)
  have h2:=Rs l n
  simp only [BT,zU] at h ⊢
  omega
abbrev ZP (x:Tm):Prop:=∀ l:List ByteArray,l.length+x.nodes≤1048576→E 295 [.ref 0,x.sv] [.row 9 1 (l.map fun s=>[OT.str s])]=some ((bif dec (l.length<(BT l x.vs).length) then .ref 1 else .ref 0),(bif dec (l.length<(BT l x.vs).length) then [.gone,.row 9 1 ((BT l x.vs).map fun s=>[OT.str s])] else [.row 9 1 ((BT l x.vs).map fun s=>[OT.str s])]))
theorem Yw (x:Tm) (ih:∀ y∈x.args,ZP y):ZP x:=by
  intro l hn
  have hl:=Tm.length_le x.args
  have hne:=Tm.nodes_eq x
  have hvs:=Tm.ZK x
  have hp:=Uj l x.name (by omega)
  have hxs:x.sv=.agg [.str x.name,.arr (x.args.map Tm.d)]:=rfl
  cases hvv:AO x.name with
  | true =>
    rw [hvv] at hvs
    have e:BT l x.vs=Cw l x.name:=by rw [hvs]; rfl
    rw [e]
    rcases zB l.length (Cw l x.name).length with q | q
    all_goals
      first
        | rw [An q] at hp ⊢
        | rw [Aj (yU.2 q)] at hp ⊢
      simp only [cond_true,cond_false] at hp ⊢
    · refine Ai Hf Db (of_decide_eq_true rfl) ?_
      simp (disch:=omega) only [EY,go_sem,Ab,hvv,hp,Ak,Dx,CM]
    · have e2:Cw l x.name=l:=Rt q
      rw [e2]
      refine Ai Hf Db (of_decide_eq_true rfl) ?_
      simp (disch:=omega) only [EY,go_sem,Ab,hvv,hp,Ak,Dx,CM]
  | false =>
    rw [hvv] at hvs
    simp only [cond_false] at hvs
    rw [hvs]
    have hgl:dec (l.length < l.length)=false:=Aj (by omega)
    refine Ai Hf Db (of_decide_eq_true rfl) ?_
    simp (disch:=omega) only [EY,go_sem,Ab,hvv,Ak,Dx]
    refine go_loop (α:=Int × (List ByteArray)) (fun a=>⟨slots 28 0 [(0,(bif dec (l.length < (a.2).length) then .ref 1 else .ref 0)),(3,(bif dec (l.length < (a.2).length) then .ptr 2 0 else .ptr 1 0)),(5,.int .i64 (a.1))],(bif dec (l.length < (a.2).length) then [.gone,.row 9 1 ((a.2).map fun s=>[OT.str s]),.box 33 [.str x.name,.arr (x.args.map Tm.d)]] else [.row 9 1 ((a.2).map fun s=>[OT.str s]),.box 33 [.str x.name,.arr (x.args.map Tm.d)]])⟩) (fun a=>∃ k:Nat,a.1=k∧k≤(x.args).length∧BT (a.2) (Tm.vsL (x.args.drop k))=BT l (Tm.vsL x.args)∧(a.2).length+Tm.nodeS (x.args.drop k)≤1048576∧l.length≤(a.2).length) (fun a=>(x.args).length - (a.1).toNat) (0,l) ⟨0,rfl,zI _,by rw [zH],by rw [zH]; dsimp only; omega,zS _⟩ (by simp (disch:=omega) only [go_sem,Ab,hgl]) ?_
    rintro ⟨i,acc⟩ ⟨k,hi,hk,hR⟩
    dsimp only at hi hR
    have hni:i.toNat=k:=by omega
    have hni1:(i+1).toNat=k+1:=by omega
    rcases zB k (x.args).length with hlt | hge
    · have hg:=get_at Tm.d hlt
      rw [Tm.d_eq] at hg
      obtain ⟨hR1,hR2,hR3⟩:=hR
      rw [zC hlt,Tm.vsL,P5] at hR1
      rw [zC hlt,Tm.nodeS] at hR2
      have hc:=ih x.args[k] (zD hlt) acc (by omega)
      have hlen:=DJ x.args[k].vs acc
      have hgr:=JR x.args[k].vs acc
      have hvl:=Tm.KX x.args[k]
      obtain ⟨acc2,ha2⟩:∃ a,a=BT acc x.args[k].vs:=⟨_,rfl⟩
      rw [←ha2] at hc hlen hgr hR1
      rcases zB l.length acc.length with q1 | q1 <;> rcases zB acc.length acc2.length with q2 | q2
      all_goals
        first
          | rw [An q2] at hc
          | rw [Aj (yU.2 q2)] at hc
        simp only [cond_true,cond_false] at hc
        first
          | have d1:=An q1
          | have d1:=Aj (yU.2 q1)
        first
          | have d2:dec (l.length < acc2.length)=true:=An (by omega)
          | have d2:dec (l.length < acc2.length)=false:=Aj (by omega)
        simp (disch:=omega) only [go_sem,Ab,hni,hg,hc,d1,Db]
        refine ⟨(i+1,acc2),⟨k+1,by dsimp only; omega,hlt,hR1,by dsimp only; omega,by dsimp only; omega⟩,by dsimp only; omega,?_⟩
        first | done | simp (disch:=omega) only [go_sem,Ab,d2]
    · rw [zF hge,Tm.vsL] at hR
      obtain ⟨hR1,hR2,hR3⟩:=hR
      have hR1:acc=BT l (Tm.vsL x.args):=hR1
      rw [←hR1]
      rcases zB l.length acc.length with q1 | q1
      · have d1:=An q1
        simp (disch:=omega) only [go_sem,Ab,hni,d1]
      · have d1:=Aj (yU.2 q1)
        simp (disch:=omega) only [go_sem,Ab,hni,d1]
theorem Ul (x:Tm):ZP x:=Yw x fun y hy=>Ul y
termination_by SizeOf.sizeOf x
decreasing_by exact Tm.lt_of_mem hy
theorem ZQ (x:Tm) (hn:x.nodes≤1048576):E 237 [x.sv] []=some (.arr ((BT [] x.vs).map fun s=>[D.str s]),[]):=by
 have h:=Ul x [] (by simpa using hn)
 rw [zK,zP] at h
 obtain ⟨ns,hns⟩:∃ ns,ns=BT [] x.vs:=⟨_,rfl⟩
 rw [←hns] at h ⊢
 rcases zB 0 ns.length with q | q
 ·rw [An q] at h
  simp only [cond_true] at h
  refine Ai Kq Hh (of_decide_eq_true rfl) ?_
  simp (disch:=omega) only [Hg,go_sem,Ab,h,Db]
 ·have e:ns=[]:=zJ (by omega)
  subst e
  rw [Aj (by simp)] at h
  simp only [cond_false,zK] at h
  refine Ai Kq Hh (of_decide_eq_true rfl) ?_
  simp (disch:=omega) only [Hg,go_sem,Ab,h,Db]
theorem P6:∀ x y:List UInt8,Op.bytesLess x y=true→Op.bytesLess y x=false
  | [],[],h=>by simp [Op.bytesLess] at h
  | [],_ :: _,_=>rfl
  | _ :: _,[],h=>by simp [Op.bytesLess] at h
  | a :: x,b :: y,h=>by
    simp only [Op.bytesLess,yC,decide_eq_true_eq,zA,beq_iff_eq] at h
    simp only [Op.bytesLess,yN,decide_eq_false_iff_not]
    rcases h with h | ⟨rfl,h⟩
    · have h2:¬ b<a:=by intro h3; exact absurd (UInt8.lt_trans h h3) (UInt8.lt_irrefl _)
      have h3:(b == a)=false:=by
        rw [beq_eq_false_iff_ne]; rintro rfl; exact UInt8.lt_irrefl _ h
      exact ⟨h2,by rw [h3]; rfl⟩
    · exact ⟨UInt8.lt_irrefl _,by rw [P6 x y h]; simp⟩
theorem P7:∀ x y:List UInt8,Op.bytesLess x y=false→Op.bytesLess y x=false→x=y
  | [],[],_,_=>rfl
  | [],_ :: _,h,_=>by simp [Op.bytesLess] at h
  | _ :: _,[],_,h=>by simp [Op.bytesLess] at h
  | a :: x,b :: y,h,k=>by
    simp only [Op.bytesLess,yN,decide_eq_false_iff_not] at h k
    have hab:a=b:=by
      have h1:=h.1; have h2:=k.1
      rw [UInt8.lt_iff_toNat_lt] at h1 h2
      exact UInt8.toNat_inj.1 (by omega)
    subst hab
    have h1:Op.bytesLess x y=false:=by simpa using h.2
    have h2:Op.bytesLess y x=false:=by simpa using k.2
    rw [P7 x y h1 h2]
theorem Jk {a b:ByteArray} (h:strLt a b=true):strLt b a=false:=P6 _ _ h
theorem GD {a b:ByteArray} (h:strLt a b=false) (h':strLt b a=false):a=b:=JH (P7 _ _ h h')
theorem P8:∀ x y z:List UInt8,Op.bytesLess x y=true→Op.bytesLess y z=true→Op.bytesLess x z=true
  | _,_,[],_,h=>by simp [Op.bytesLess] at h
  | [],[],_ :: _,h,_=>by simp [Op.bytesLess] at h
  | [],_ :: _,_ :: _,_,_=>rfl
  | _ :: _,[],_ :: _,h,_=>by simp [Op.bytesLess] at h
  | a :: x,b :: y,c :: z,h,k=>by
    simp only [Op.bytesLess,yC,decide_eq_true_eq,zA,beq_iff_eq] at h k ⊢
    rcases h with h | ⟨rfl,h⟩
    · rcases k with k | ⟨rfl,k⟩
      · exact .inl (UInt8.lt_trans h k)
      · exact .inl h
    · rcases k with k | ⟨rfl,k⟩
      · exact .inl k
      · exact .inr ⟨rfl,P8 x y z h k⟩
theorem Jl {a b c:ByteArray} (h:strLt a b=true) (k:strLt b c=true):strLt a c=true:=P8 _ _ _ h k
theorem Um {a b:ByteArray} (h:strLt a b=true):¬ a=b:=by rintro rfl; rw [Im] at h; cases h
theorem Un (a b:ByteArray):dec (JY a b<0)=strLt a b:=by
 unfold JY
 cases strLt a b
 ·cases dec (a=b)
  ·exact Aj (by simp)
  ·exact Aj (by simp)
 ·exact An (by simp)
theorem Yx (a b:ByteArray):dec (JY a b=0)=dec (a=b):=by
 unfold JY
 cases h:strLt a b
 ·cases h2:dec (a=b)
  ·exact Aj (by simp)
  ·exact An (by simp)
 ·rw [Aj (Um h)]
  exact Aj (by simp)
theorem wrap_u64 {n:Int} (h0:0≤n) (h1:n≤18446744073709551615):IntKind.u64.wrap n=n:=Tf (by
 have e1:IntKind.u64.min=0:=by decide
 have e2:IntKind.u64.max=18446744073709551615:=by decide
 unfold inK
 rw [e1,e2]
 exact ⟨h0,h1⟩)
theorem XC:∀ x y:List UInt8,Op.bytesLess x y=true ↔ x<y
 | [],[]=>by simp [Op.bytesLess]
 | [],b :: y=>by simp [Op.bytesLess]
 | a :: x,[]=>by simp [Op.bytesLess]
 | a :: x,b :: y=>by
  have h:=XC x y
  rw [List.cons_lt_cons_iff,← h]
  simp only [Op.bytesLess,yC,decide_eq_true_eq,zA,beq_iff_eq]
theorem ZR (a b:ByteArray):strLt a b=true ↔ a.toList<b.toList:=XC _ _
theorem Ru (n:ByteArray):∀ xs:List ByteArray,xs.Pairwise (fun x y=>strLt x y=true)→(Cw xs n).Pairwise fun x y=>strLt x y=true
  | [],_=>by simp [Cw]
  | x :: xs,h=>by
    rw [Cw]
    rw [zO] at h
    cases hq:strLt x n with
    | true =>
      rw [cond_true,zO]
      refine ⟨fun y hy=>?_,Ru n xs h.2⟩
      rcases P3.1 hy with hy | rfl
      · exact h.1 y hy
      · exact hq
    | false =>
      rw [cond_false]
      by_cases he:x=n
      · rw [An he,cond_true,zO]; exact h
      · rw [Aj he,cond_false,zO,zO]
        have hn:strLt n x=true:=by
          cases hh:strLt n x with
          | true=>rfl
          | false=>exact absurd (GD hq hh) he
        refine ⟨fun y hy=>?_,h⟩
        rcases zV.1 hy with rfl | hy
        · exact hn
        · exact Jl hn (h.1 y hy)
theorem Rv:∀ (ns xs:List ByteArray),xs.Pairwise (fun x y=>strLt x y=true)→(BT xs ns).Pairwise fun x y=>strLt x y=true
 | [],xs,h=>h
 | n :: ns,xs,h=>Rv ns (Cw xs n) (Ru n xs h)
theorem W5 {xs:List ByteArray} (h:xs.Pairwise fun x y=>strLt x y=true):xs.Nodup :=
 h.imp fun {a b} hab e=>by rw [e,Im] at hab; cases hab
theorem Yy (l:List ByteArray):(Io l).Pairwise fun x y=>strLt y x=false:=by
 unfold Io srt
 rw [List.pairwise_map]
 have h:=List.pairwise_mergeSort (le:=fun x y:List UInt8=>decide (x≤y)) (fun a b c h k=>by
  rw [decide_eq_true_eq] at h k ⊢; exact List.le_trans h k) (fun a b=>by
  rw [yC,decide_eq_true_eq,decide_eq_true_eq]; exact List.le_total a b) (l.map (·.toList))
 refine h.imp fun {a b} hab=>?_
 rw [decide_eq_true_eq] at hab
 rw [yS]
 intro hh
 have:=(ZR _ _).1 hh
 rw [ByteArray.toList_eq,ByteArray.toList_eq] at this
 exact absurd this (List.not_lt.2 hab)
theorem MM (ns:List ByteArray):Io (AZ [] ns)=BT [] ns:=by
 have h1:=Rv ns [] List.Pairwise.nil
 have n1:=W5 h1
 have n2:(AZ [] ns).Nodup:=KY List.nodup_nil
 have hp:(Io (AZ [] ns)).Perm (BT [] ns):=(ML _).trans ((List.perm_ext_iff_of_nodup n2 n1).2 fun a=>by rw [P1,Uk])
 refine List.Perm.eq_of_pairwise (le:=fun x y=>strLt y x=false) (fun a b _ _ h k=>GD k h) (Yy _) (h1.imp fun h=>Jk h) hp
mutual
noncomputable def Fm.fv:Fm→List ByteArray→List ByteArray
 | .mk op atom var parts,b=>bif dec (op=3) then (BT [] atom.vs).filter (fun n=>!dec (n∈b)) else Fm.fvL parts (bif qB op then b++[var] else b)
noncomputable def Fm.fvL:List Fm→List ByteArray→List ByteArray
 | [],_=>[]
 | x :: xs,b=>Fm.fv x b++Fm.fvL xs b
end
theorem Fm.ZS (x:Fm) (b:List ByteArray):x.fv b=bif dec (x.op=3) then (BT [] x.atom.vs).filter (fun n=>!dec (n∈b)) else Fm.fvL x.parts (bif qB x.op then b++[x.var] else b):=by
 obtain ⟨op,atom,var,parts⟩:=x
 rw [Fm.fv]; rfl
mutual
def Fm.vn:Fm→Nat
 | .mk _ atom _ parts=>atom.nodes+Fm.vnS parts
def Fm.vnS:List Fm→Nat
 | []=>0
 | x :: xs=>Fm.vn x+Fm.vnS xs
end
theorem Fm.Kr (x:Fm):x.vn=x.atom.nodes+Fm.vnS x.parts:=by
 obtain ⟨op,atom,var,parts⟩:=x
 rw [Fm.vn]; rfl
theorem Fm.XD (b:List ByteArray):∀ xs:List Fm,(∀ x∈xs,(x.fv b).length≤x.vn)→(Fm.fvL xs b).length≤Fm.vnS xs
 | [],_=>by simp [Fm.fvL]
 | x :: xs,h=>by
  have h1:=h x (by simp)
  have h2:=Fm.XD b xs fun y hy=>h y (by simp [hy])
  rw [Fm.fvL,Fm.vnS,zR]; omega
theorem Fm.Ir (x:Fm):∀ b:List ByteArray,(x.fv b).length≤x.vn:=by
 intro b
 rw [Fm.ZS,Fm.Kr]
 cases dec (x.op=3) with
 | true =>
  simp only [cond_true]
  have h1:=List.length_filter_le (fun n=>!dec (n∈b)) (BT [] x.atom.vs)
  have h2:=DJ x.atom.vs []
  have h3:=Tm.KX x.atom
  simp only [zP] at h2
  omega
 | false =>
  simp only [cond_false]
  have h:=Fm.XD (bif qB x.op then b++[x.var] else b) x.parts fun y hy=>Fm.Ir y _
  omega
termination_by SizeOf.sizeOf x
decreasing_by exact Fm.lt_of_mem hy
theorem Fm.ZT:∀ xs:List Fm,(∀ x∈xs,x.vn≤30*x.nodes)→Fm.vnS xs≤30*Fm.nodeS xs
 | [],_=>by simp [Fm.vnS]
 | x :: xs,h=>by
  have h1:=h x (by simp)
  have h2:=Fm.ZT xs fun y hy=>h y (by simp [hy])
  rw [Fm.vnS,Fm.nodeS]; omega
theorem Fm.Qbq (x:Fm) (h:x.forms=true):x.vn≤30*x.nodes:=by
 have h1:=Fm.ZT x.parts fun y hy=>Fm.Qbq y (Fm.Be h hy)
 have h2:=Fm.Il (Fm.BB h)
 rw [Fm.Kr,Fm.nodes_eq]; omega
termination_by SizeOf.sizeOf x
decreasing_by exact Fm.lt_of_mem hy
noncomputable def Fm.free (x:Fm):List ByteArray:=BT [] (x.fv [])
def AE {α β S:Type} (f:α→S→β × S):List α→S→List β × S
 | [],s=>([],s)
 | x :: xs,s=>((f x s).1 :: (AE f xs (f x s).2).1,(AE f xs (f x s).2).2)
noncomputable def Qc0 (x:Bd):Bool:=AO x.var&&(x.term.valid&&!dec (x.term.name=x.var))
noncomputable def Qc1 (xs:List Bd) (k:Nat):Bool:=match xs[k]? with
 | none=>true
 | some x=>Qc0 x&&(match k with
  | 0=>true
  | j+1=>match xs[j]? with
   | none=>true
   | some y=>strLt y.var x.var)
noncomputable def Qci (xs:List Bd):Nat→Bool
 | 0=>true
 | k+1=>Qci xs k&&Qc1 xs k
noncomputable def Sb.ok (x:Sb):Bool:=decide (x.binds.length≤12)&&Qci x.binds x.binds.length
def Sb.tame (x:Sb):Prop:=x.binds.length≤1099511627776∧∀ y∈x.binds,y.term.nodes≤1099511627776
theorem Sb.tame_at {x:Sb} (h:x.tame) {k:Nat} (hk:k<x.binds.length):x.binds[k].term.nodes≤1099511627776:=h.2 _ (zD hk)
def Ks:SC:=(.seq (.reg [⟨some 2,none,.boxv 142 1 (.t 0)⟩,⟨some 4,none,.mv (.c (.int .i64 0))⟩]) (.seq (.seq (.reg [⟨some 5,none,.mv (.c (.int .i64 0))⟩]) (.block 0 (.loop [0,1,1,0,0,1,0,0,0,0,0,0,0,0,0,0,0,0,0,0,0,0] (.seq (.seq (.reg [⟨some 6,none,.mv (.t 5)⟩,⟨some 7,none,.faddr 0 (.t 2)⟩,⟨some 8,none,.load false 1 (.t 7)⟩,⟨some 9,none,.len false (.t 8)⟩,⟨some 10,none,.bin .lss false (.t 6) (.t 9)⟩]) (.cond (.t 10) .skip (.exit 0))) (.seq (.block 1 (.seq (.reg [⟨some 13,none,.faddr 0 (.t 2)⟩,⟨some 14,none,.load false 1 (.t 13)⟩,⟨some 15,none,.mv (.t 5)⟩,⟨some 16,none,.iaddr 3 (.t 14) (.t 15)⟩,⟨some 17,none,.faddr 0 (.t 16)⟩,⟨some 18,none,.load false 1 (.t 17)⟩,⟨some 19,none,.mv (.t 1)⟩,⟨some 20,none,.bin .eql false (.t 18) (.t 19)⟩]) (.cond (.t 20) (.seq (.reg [⟨some 21,none,.mv (.t 5)⟩,⟨some 4,none,.mv (.t 21)⟩]) .ret) .skip))) (.reg [⟨some 11,none,.mv (.t 5)⟩,⟨some 12,none,.bin .add false (.t 11) (.c (.int .i64 1))⟩,⟨some 5,none,.mv (.t 12)⟩])))))) (.seq (.reg [⟨some 4,none,.mv (.c (.int .i64 (-(0+1))))⟩]) .ret)))
theorem Qj:codeOf Tryz.prog 239=some ⟨22,Ks,[(.tmp 4)]⟩:=by kernel_rfl
theorem EZ:modes 239=⟨[],.asis,none,false⟩:=by unfold modes; rfl
theorem ZU (x:Sb) (n:ByteArray) (hl:x.binds.length≤1099511627776):E 239 [x.sv,.str n] []=some (.int .i64 (D8 (fun b=>dec (b.var=n)) x.binds 0),[]):=by
 refine Ai Qj EZ (of_decide_eq_true rfl) ?_
 simp (disch:=omega) only [Ks,go_sem,Ab]
 refine go_loop (α:=Int) (fun a=>⟨slots 22 0 [(1,.str n),(2,.ptr 0 0),(5,.int .i64 a)],[.box 142 [.arr (x.binds.map Bd.d)]]⟩) (fun a=>∃ k:Nat,a=k∧k≤(x.binds).length∧D8 (fun b=>dec (b.var=n)) (x.binds.drop k) a=D8 (fun b=>dec (b.var=n)) x.binds 0) (fun a=>(x.binds).length-(a).toNat) 0 ⟨0,rfl,zI _,by rw [zH]⟩ (by simp (disch:=omega) only [go_sem,Ab]) ?_
 rintro i ⟨k,hi,hk,hR⟩
 have hni:i.toNat=k:=by omega
 have hni1:(i+1).toNat=k+1:=by omega
 rcases zB k (x.binds).length with hlt | hge
 ·have hg:=get_at Bd.d hlt
  rw [Bd.d_eq] at hg
  rw [zC hlt,D8] at hR
  cases hp:dec (x.binds[k].var=n) with
  | true =>
   rw [hp] at hR
   simp (disch:=omega) only [go_sem,Ab,hni,hg,hp]
   simpa using hR
  | false =>
   rw [hp] at hR
   simp (disch:=omega) only [go_sem,Ab,hni,hg,hp]
   exact ⟨i+1,⟨k+1,by omega,hlt,by simpa using hR⟩,by omega,by first | trivial | rfl⟩
 ·rw [zF hge,D8] at hR
  simp (disch:=omega) only [go_sem,Ab,hni]
  exact hR
def EN:SC:=(.seq (.reg [⟨some 2,none,.mv (.c .nil)⟩]) (.seq (.seq (.reg [⟨some 6,none,.mv (.t 0)⟩,⟨some 7,none,.len false (.t 6)⟩,⟨some 8,none,.bin .eql false (.t 7) (.c (.int .i64 0))⟩]) (.cond (.t 8) (.seq (.reg [⟨some 2,none,.mv (.c .nil)⟩]) .ret) .skip)) (.seq (.reg [⟨some 9,none,.mv (.t 0)⟩,⟨some 10,none,.len false (.t 9)⟩,⟨(some 11),none,(.mkslice 33 2 40 [(.str ⟨#[]⟩),.nil] (.t 10))⟩,⟨some 3,none,.mv (.t 11)⟩]) (.seq (.seq (.reg [⟨some 12,none,.mv (.t 0)⟩,⟨some 13,none,.len false (.t 12)⟩,⟨some 14,none,.mv (.c (.int .i64 0))⟩]) (.block 0 (.loop [0,0,0,1,0,0,0,0,0,0,0,0,1,1,1,0,0,0,0,0,0,0,0,0,0,0] (.seq (.reg [⟨some 15,none,.bin .lss false (.t 14) (.t 13)⟩]) (.seq (.cond (.t 15) .skip (.exit 0)) (.seq (.block 1 (.seq (.reg [⟨some 16,none,.mv (.t 14)⟩,⟨some 17,none,.iaddr 2 (.t 12) (.t 14)⟩,⟨some 18,none,.load true 2 (.t 17)⟩,⟨(some 5),none,(.alloc 33 [(.str ⟨#[]⟩),.nil])⟩,⟨some 4,none,.mv (.t 16)⟩,⟨none,none,(.store 2 (.t 5) (.t 18))⟩]) (.reg [⟨some 19,none,.mv (.t 3)⟩,⟨some 20,none,.mv (.t 4)⟩,⟨some 21,none,.load true 2 (.t 5)⟩,⟨some 22,none,.call 187 [(.t 21)]⟩,⟨some 23,none,.iaddr 2 (.t 19) (.t 20)⟩,⟨none,none,(.store 2 (.t 23) (.t 22))⟩]))) (.reg [⟨some 24,none,.bin .add false (.t 14) (.c (.int .i64 1))⟩,⟨some 14,none,.mv (.t 24)⟩]))))))) (.seq (.reg [⟨some 25,none,.mv (.t 3)⟩,⟨some 2,none,.mv (.t 25)⟩]) .ret)))))
theorem HH:codeOf Tryz.prog 260=some ⟨26,EN,[(.tmp 2)]⟩:=by kernel_rfl
theorem EO:modes 260=⟨[],.own [some (33,2)],none,false⟩:=by unfold modes; rfl
def I4:SC:=(.seq (.reg [⟨some 1,none,.boxv 33 2 (.t 0)⟩,⟨(some 2),none,(.alloc 33 [(.str ⟨#[]⟩),.nil])⟩]) (.seq (.dreg [[],[0],[],[2],[3,2],[1,0,4,3,2],[5,1,0,4,3,2]] [⟨some 3,none,.faddr 0 (.t 1)⟩,⟨some 4,none,.load false 1 (.t 3)⟩,⟨some 5,none,.faddr 1 (.t 1)⟩,⟨some 6,none,.load false 1 (.t 5)⟩,⟨some 7,none,.call 260 [(.t 6)]⟩,⟨(some 8),none,(.build [(.str ⟨#[]⟩),.nil] [(0,(1,(.t 4))),(1,(1,(.t 7)))])⟩,⟨none,none,(.store 2 (.t 2) (.t 8))⟩]) .ret))
theorem NM:codeOf Tryz.prog 187=some ⟨9,I4,[(.cell 2 true 2)]⟩:=by kernel_rfl
theorem CX:modes 187=⟨[],.asis,none,false⟩:=by unfold modes; rfl
def LK:SC:=(.seq (.reg [⟨some 1,none,.boxv 33 2 (.t 0)⟩,⟨(some 2),none,(.alloc 33 [(.str ⟨#[]⟩),.nil])⟩]) (.seq (.reg [⟨some 5,none,.faddr 0 (.t 1)⟩,⟨some 6,none,.load false 1 (.t 5)⟩,⟨(some 7),none,(.build [(.str ⟨#[]⟩),.nil] [(0,(1,(.t 6)))])⟩,⟨(some 3),none,(.alloc 33 [(.str ⟨#[]⟩),.nil])⟩,⟨none,none,(.store 2 (.t 3) (.t 7))⟩]) (.seq (.seq (.reg [⟨some 4,none,.mv (.c (.int .i64 0))⟩]) (.block 0 (.loop [0,1,1,1,1,0,0,0,0,0,0,0,0,0,0,0,0,0,0,0,0,0,0,0,0,0,0] (.seq (.seq (.reg [⟨some 8,none,.mv (.t 4)⟩,⟨some 9,none,.faddr 1 (.t 1)⟩,⟨some 10,none,.load false 1 (.t 9)⟩,⟨some 11,none,.len false (.t 10)⟩,⟨some 12,none,.bin .lss false (.t 8) (.t 11)⟩]) (.cond (.t 12) .skip (.exit 0))) (.seq (.block 1 (.dreg [[],[0],[],[2],[],[3,2,4],[5,3,2,4],[6,5,3,2,4],[7,6,5,3,2,4],[1,0,8,7,6,5,3,2,4],[0,1,2,3,4,5,6,7,8,9],[10,0,1,2,3,4,5,6,7,8,9]] [⟨some 15,none,.faddr 1 (.t 3)⟩,⟨some 16,none,.load false 1 (.t 15)⟩,⟨some 17,none,.faddr 1 (.t 1)⟩,⟨some 18,none,.load false 1 (.t 17)⟩,⟨some 19,none,.mv (.t 4)⟩,⟨some 20,none,.iaddr 2 (.t 18) (.t 19)⟩,⟨some 21,none,.load true 2 (.t 20)⟩,⟨some 22,none,.call 135 [(.t 21)]⟩,⟨(some 23),none,(.mkrow 33 2 [(.str ⟨#[]⟩),.nil] 1 [(0,(.t 22))])⟩,⟨(some 24),none,(.append 33 2 40 [(.str ⟨#[]⟩),.nil] (.t 16) (.t 23))⟩,⟨some 25,none,.faddr 1 (.t 3)⟩,⟨none,none,(.store 1 (.t 25) (.t 24))⟩])) (.reg [⟨some 13,none,.mv (.t 4)⟩,⟨some 14,none,.bin .add false (.t 13) (.c (.int .i64 1))⟩,⟨some 4,none,.mv (.t 14)⟩])))))) (.seq (.reg [⟨some 26,none,.load true 2 (.t 3)⟩,⟨none,none,(.store 2 (.t 2) (.t 26))⟩]) .ret))))
theorem S1:codeOf Tryz.prog 135=some ⟨27,LK,[(.cell 2 true 2)]⟩:=by kernel_rfl
theorem Dy:modes 135=⟨[],.frz,none,false⟩:=by unfold modes; rfl
theorem S2 (xs:List Tm) (hl:xs.length≤1099511627776) (h:∀ x∈xs,E 187 [x.sv] []=some (x.osv,x.obs)):E 260 [.arr (xs.map Tm.d)] []=some (.ref 0,[.row 33 2 (xs.map Tm.o)]):=by
 cases xs with
 | nil =>
  refine Ai HH EO (of_decide_eq_true rfl) ?_
  simp (disch:=omega) only [EN,go_sem,Ab]
 | cons x0 xs0 =>
 generalize hxs:x0 :: xs0=xs at *
 have hpos:0<xs.length:=by rw [←hxs]; simp
 refine Ai HH EO (of_decide_eq_true rfl) ?_
 simp (disch:=omega) only [EN,go_sem,Ab]
 refine go_loop (α:=Int) (fun a=>⟨slots 26 0 [(3,.ref 0),(12,.arr (xs.map Tm.d)),(13,.int .i64 xs.length),(14,.int .i64 a)],[.row 33 2 (E5 Tm.o [.str ⟨#[]⟩,.ow []] xs a.toNat)]⟩) (fun a=>∃ k:Nat,a=k∧k≤(xs).length) (fun a=>(xs).length-(a).toNat) 0 ⟨0,rfl,zI _⟩ (by simp (disch:=omega) only [go_sem,Ab,FX,zM]) ?_
 rintro i ⟨k,hi,hk⟩
 have hni:i.toNat=k:=by omega
 have hni1:(i+1).toNat=k+1:=by omega
 rcases zB k (xs).length with hlt | hge
 ·have hg:=get_at Tm.d hlt
  rw [Tm.d_eq] at hg
  have hz:=H8 Tm.o [.str ⟨#[]⟩,.ow []] hlt
  have hc:=h xs[k] (zD hlt)
  have hs:=H9 Tm.o [.str ⟨#[]⟩,.ow []] hlt
  rw [Tm.o_eq] at hs
  simp (disch:=omega) only [go_sem,Ab,hni,hg,hc,hz,H6,CX,Tm.osv,Tm.obs]
  refine ⟨i+1,⟨k+1,by omega,hlt⟩,by omega,?_⟩
  simp (disch:=omega) only [go_sem,Ab,hni1,hs]
 ·obtain rfl:k=xs.length:=by omega
  simp (disch:=omega) only [go_sem,Ab,hni,H7]
theorem Uo (x:Tm) (h:E 260 [.arr (x.args.map Tm.d)] []=some (.ref 0,[.row 33 2 (x.args.map Tm.o)])):E 187 [x.sv] []=some (x.osv,x.obs):=by
 refine Ai NM CX (of_decide_eq_true rfl) ?_
 simp (disch:=omega) only [I4,go_sem,Ab,h,EO]
theorem Is (x:Tm) (hn:x.nodes≤1099511627776):E 187 [x.sv] []=some (x.osv,x.obs) :=
 Uo x (S2 x.args (by have:=Tm.nodes_eq x; have:=Tm.length_le x.args; omega) fun y hy=>Is y (by have:=Tm.nodes_mem hy; have:=Tm.nodes_eq x; omega))
termination_by SizeOf.sizeOf x
decreasing_by exact Tm.lt_of_mem hy
def Qcj (res:RM) (n0:Nat) (rs:List RX) (Q:SV × List Ob→Prop) (x:X) (st:St):Prop:=∃ out,TY res n0 rs out x st∧Q out
theorem exq {α:Type} {a:α} {Q:α→Prop}:(∃ out,some a=some out∧Q out)=Q a:=propext ⟨fun ⟨o,h,q⟩=>by obtain rfl:=yW h; exact q,fun q=>⟨a,rfl,q⟩⟩
theorem QbH {res:RM} {n0:Nat} {rs:List RX} {Q:SV × List Ob→Prop} {sl:List SV} {ob:List Ob}:Qcj res n0 rs Q .ret ⟨sl,ob⟩=∃ out,L7 res n0 ob (Mq ⟨sl,ob⟩ rs)=some out∧Q out:=rfl
theorem QbI {res:RM} {n0:Nat} {rs:List RX} {Q:SV × List Ob→Prop} {sl:List SV} {ob:List Ob}:Qcj res n0 rs Q .normal ⟨sl,ob⟩=∃ out,L7 res n0 ob (Mq ⟨sl,ob⟩ rs)=some out∧Q out:=rfl
attribute [go_sem] QbH QbI exq
def Tm.osh (x:Tm):List OT:=[.str x.name,.sh (x.args.map Tm.d)]
theorem Tm.osh_eq (x:Tm):x.osh=[.str x.name,.sh (x.args.map Tm.d)]:=rfl
theorem Tm.osh_full:∀ xs:List Tm,OT.AA (xs.map Tm.osh)=true
 | []=>rfl
 | x :: xs=>by rw [zN,Tm.osh_eq]; simp [OT.AA,OT.BU,OT.full,Tm.osh_full xs]
theorem Tm.osh_er:∀ xs:List Tm,OT.erss (xs.map Tm.osh)=xs.map Tm.d
 | []=>rfl
 | x :: xs=>by rw [zN,zN,Tm.osh_eq,Tm.d_eq]; simp [OT.erss,OT.ers,OT.er,Tm.osh_er xs]
theorem LL {α β:Type} (f:α→β) {xs:List α} {k:Nat} (h:k<xs.length):(xs.take k).map f++[f xs[k]]=(xs.take (k+1)).map f:=by
 rw [yJ h,yD]; rfl
theorem ZV (x:Tm) (hn:x.nodes≤1099511627776) (ih:∀ y∈x.args,E 135 [y.sv] []=some (y.sv,[])):E 135 [x.sv] []=some (x.sv,[]):=by
 have hl:=Tm.length_le x.args
 have hne:=Tm.nodes_eq x
 have h10:((1:Int)=0)=False:=by simp
 have hfu:=Tm.osh_full x.args
 have her:=Tm.osh_er x.args
 refine Ai S1 Dy (of_decide_eq_true rfl) ?_
 simp (disch:=omega) only [LK,go_sem,Ab]
 refine go_loop (α:=Int) (fun a=>⟨slots 27 0 [(1,.ptr 0 0),(2,.ptr 1 0),(3,.ptr 2 0),(4,.int .i64 a)],(if a=0 then [.box 33 [.str x.name,.arr (x.args.map Tm.d)],.box 33 [.str ⟨#[]⟩,.nil],.box 33 [.str x.name,.nil]] else [.box 33 [.str x.name,.arr (x.args.map Tm.d)],.box 33 [.str ⟨#[]⟩,.nil],.box 33 [.str x.name,.ref 3],.row 33 2 ((x.args.take a.toNat).map Tm.osh)])⟩) (fun a=>∃ k:Nat,a=k∧k≤(x.args).length) (fun a=>(x.args).length-(a).toNat) 0 ⟨0,rfl,zI _⟩ (by simp (disch:=omega) only [go_sem,Ab,eq_self,if_true]) ?_
 rintro i ⟨k,hi,hk⟩
 have hni:i.toNat=k:=by omega
 have hni1:(i+1).toNat=k+1:=by omega
 rcases zB k (x.args).length with hlt | hge
 ·have hg:=get_at Tm.d hlt
  rw [Tm.d_eq] at hg
  have hc:=ih x.args[k] (zD hlt)
  have hs:=LL Tm.osh hlt
  rw [Tm.osh_eq] at hs
  rcases zL k with h0 | h0
  ·subst h0
   obtain rfl:i=0:=hi
   rw [z8,zK,z7] at hs
   simp (disch:=omega) only [go_sem,Ab,hni,hg,hc,Dy,eq_self,if_true]
   refine ⟨1,⟨1,rfl,hlt⟩,by omega,?_⟩
   simp (disch:=omega) only [go_sem,Ab,h10,if_false,hs]
  ·have hi0:(i=0)=False:=by simp; omega
   have hi1:(i+1=0)=False:=by simp; omega
   have htl:(x.args.take k).length=k:=by rw [zX]; omega
   simp (disch:=omega) only [go_sem,Ab,hni,hg,hc,Dy,hi0,if_false,htl]
   refine ⟨i+1,⟨k+1,by omega,hlt⟩,by omega,?_⟩
   simp (disch:=omega) only [go_sem,Ab,hni1,hi1,if_false,hs]
 ·obtain rfl:k=x.args.length:=by omega
  have ht:x.args.take x.args.length=x.args:=yM
  rcases zL x.args.length with h0 | h0
  ·have hx:x.args=[]:=zJ h0
   obtain rfl:i=0:=by omega
   simp (disch:=omega) only [go_sem,Ab,hni,hx,eq_self,if_true,zK,zP]
  ·have hi0:(i=0)=False:=by simp; omega
   simp (disch:=omega) only [go_sem,Ab,hni,hi0,if_false,ht,hfu,her]
theorem S3 (x:Tm) (hn:x.nodes≤1099511627776):E 135 [x.sv] []=some (x.sv,[]) :=
 ZV x hn fun y hy=>S3 y (by have:=Tm.nodes_mem hy; have:=Tm.nodes_eq x; omega)
termination_by SizeOf.sizeOf x
decreasing_by exact Tm.lt_of_mem hy
def KZ (xs:List Bd):Prop:=∀ j k (h:j<k) (hk:k<xs.length),strLt xs[j].var xs[k].var=true
def AX:List Bd→ByteArray→Nat
 | [],_=>0
 | x :: xs,n=>if strLt x.var n then AX xs n+1 else 0
theorem S4 (n:ByteArray):∀ xs:List Bd,AX xs n≤xs.length
 | []=>zS _
 | x :: xs=>by
  have:=S4 n xs
  rw [AX]; simp only [zG]; split <;> omega
theorem Jm (n:ByteArray):∀ (xs:List Bd) (j:Nat) (h:j<xs.length),j<AX xs n→strLt xs[j].var n=true
  | [],j,h,_=>absurd h (by simp)
  | x :: xs,j,h,hj=>by
    rw [AX] at hj
    split at hj
    · rename_i hx
      cases j with
      | zero=>exact hx
      | succ j=>exact Jm n xs j (by simpa using h) (by omega)
    · omega
theorem S5 (n:ByteArray):∀ (xs:List Bd) (h:AX xs n<xs.length),strLt (xs[AX xs n]).var n=false
  | [],h=>absurd h (by simp)
  | x :: xs,h=>by
    cases hx:strLt x.var n with
    | false =>
      have e:AX (x :: xs) n=0:=by rw [AX,if_neg (by rw [hx]; simp)]
      simp only [e,yF]; exact hx
    | true =>
      have e:AX (x :: xs) n=AX xs n+1:=by rw [AX,if_pos hx]
      have h2:AX xs n<xs.length:=by rw [e] at h; simpa using h
      simp only [e,z6]; exact S5 n xs h2
theorem ZW {xs:List Bd} (hs:KZ xs) (n:ByteArray) {m:Nat} (h:m<xs.length):strLt xs[m].var n=true ↔ m<AX xs n:=by
  constructor
  · intro h1
    rcases zB m (AX xs n) with h2 | h2
    · exact h2
    · have h3:=S5 n xs (by omega)
      rcases zB (AX xs n) m with h4 | h4
      · rw [Jl (hs _ _ h4 h) h1] at h3; cases h3
      · have e:AX xs n=m:=by omega
        simp only [e] at h3
        rw [h1] at h3; cases h3
  · exact Jm n xs m h
noncomputable def EP (xs:List Bd) (n:ByteArray):Bool:=match xs[AX xs n]? with
 | none=>false
 | some b=>dec (b.var=n)
def Dr:SC:=(.seq (.reg [⟨some 2,none,.boxv 227 3 (.t 0)⟩,⟨some 4,none,.mv (.c (.int .i64 0))⟩]) (.seq (.reg [⟨some 5,none,.faddr 0 (.t 2)⟩,⟨some 6,none,.load false 1 (.t 5)⟩,⟨some 7,none,.mv (.t 1)⟩,⟨some 8,none,.call 283 [(.t 6),(.t 7)]⟩,⟨some 4,none,.mv (.t 8)⟩]) .ret))
theorem Gi:codeOf Tryz.prog 317=some ⟨9,Dr,[(.tmp 4)]⟩:=by kernel_rfl
theorem B4:modes 317=⟨[],.asis,none,false⟩:=by unfold modes; rfl
theorem Ce:JV Tryz.prog 317=true:=by kernel_rfl
def AP:SC:=(.seq (.reg [⟨some 6,none,.mv (.c (.int .i64 0))⟩,⟨some 7,none,.mv (.c (.bool false))⟩]) (.seq (.reg [⟨some 12,none,.mv (.t 0)⟩,⟨some 13,none,.len false (.t 12)⟩,⟨some 8,none,.mv (.t 13)⟩]) (.seq (.reg [⟨some 14,none,.mv (.t 8)⟩,⟨some 9,none,.mv (.c (.int .i64 0))⟩,⟨some 10,none,.mv (.t 14)⟩]) (.seq (.block 0 (.loop [1,1,1,0,0,0,0,0,1,1,1,0,0,0,0,0,0,0,0,0,0,0,0,0,0,0,0,0,0,0,0,0,0,0,0,0,0,0,0,0,0,0,0,0,0,0,0,0,0] (.seq (.seq (.reg [⟨some 15,none,.mv (.t 9)⟩,⟨some 16,none,.mv (.t 10)⟩,⟨some 17,none,.bin .lss false (.t 15) (.t 16)⟩]) (.cond (.t 17) .skip (.exit 0))) (.block 1 (.seq (.reg [⟨some 18,none,.mv (.t 9)⟩,⟨some 19,none,.mv (.t 10)⟩,⟨some 20,none,.bin .add false (.t 18) (.t 19)⟩,⟨some 21,none,.conv .u64 (.t 20)⟩,⟨some 22,none,.bin .shr false (.t 21) (.c (.int .u64 1))⟩,⟨some 23,none,.conv .i64 (.t 22)⟩,⟨some 11,none,.mv (.t 23)⟩]) (.seq (.reg [⟨some 24,none,.mv (.t 2)⟩,⟨some 25,none,.mv (.t 0)⟩,⟨some 26,none,.mv (.t 11)⟩,⟨some 27,none,.iaddr 3 (.t 25) (.t 26)⟩,⟨some 28,none,.load true 3 (.t 27)⟩,⟨some 29,none,.mv (.t 1)⟩,⟨some 30,none,.callv (.t 24) [(.t 28),(.t 29)]⟩,⟨some 31,none,.bin .lss false (.t 30) (.c (.int .i64 0))⟩]) (.cond (.t 31) (.reg [⟨some 32,none,.mv (.t 11)⟩,⟨some 33,none,.bin .add false (.t 32) (.c (.int .i64 1))⟩,⟨some 9,none,.mv (.t 33)⟩]) (.reg [⟨some 34,none,.mv (.t 11)⟩,⟨some 10,none,.mv (.t 34)⟩])))))))) (.seq (.reg [⟨some 35,none,.mv (.t 9)⟩,⟨some 36,none,.mv (.t 9)⟩,⟨some 37,none,.mv (.t 8)⟩,⟨some 38,none,.bin .lss false (.t 36) (.t 37)⟩,⟨some 39,none,.mv (.t 38)⟩,⟨(some 40),(some (39,true)),(.mv (.t 2))⟩,⟨(some 41),(some (39,true)),(.mv (.t 0))⟩,⟨(some 42),(some (39,true)),(.mv (.t 9))⟩,⟨(some 43),(some (39,true)),(.iaddr 3 (.t 41) (.t 42))⟩,⟨(some 44),(some (39,true)),(.load true 3 (.t 43))⟩,⟨(some 45),(some (39,true)),(.mv (.t 1))⟩,⟨(some 46),(some (39,true)),(.callv (.t 40) [(.t 44),(.t 45)])⟩,⟨(some 47),(some (39,true)),(.bin .eql false (.t 46) (.c (.int .i64 0)))⟩,⟨some 48,none,.pick (.t 39) (.t 47) (.c (.bool false))⟩,⟨some 6,none,.mv (.t 35)⟩,⟨some 7,none,.mv (.t 48)⟩]) .ret)))))
theorem BC:codeOf Tryz.prog 316=some ⟨49,AP,[(.tmp 6),(.tmp 7)]⟩:=by kernel_rfl
theorem A7:modes 316=⟨[],.asis,none,false⟩:=by unfold modes; rfl
def Cy:SC:=(.seq (.reg [⟨some 2,none,.boxv 142 1 (.t 0)⟩,⟨(some 4),none,(.alloc 33 [(.str ⟨#[]⟩),.nil])⟩,⟨some 5,none,.mv (.c (.bool false))⟩]) (.seq (.reg [⟨some 9,none,.faddr 0 (.t 2)⟩,⟨some 10,none,.load false 1 (.t 9)⟩,⟨some 11,none,.mv (.t 1)⟩,⟨some 12,none,.call 316 [(.t 10),(.t 11),(.c (.fn 317 []))]⟩,⟨some 8,none,.mv (.t 12)⟩,⟨some 13,none,.ext (.t 8) 0⟩,⟨some 14,none,.ext (.t 8) 1⟩,⟨some 6,none,.mv (.t 13)⟩,⟨some 7,none,.mv (.t 14)⟩]) (.seq (.seq (.reg [⟨some 15,none,.mv (.t 7)⟩,⟨some 16,none,.un .not (.t 15)⟩]) (.cond (.t 16) (.seq (.reg [⟨(some 17),none,(.build [(.str ⟨#[]⟩),.nil] [])⟩,⟨none,none,(.store 2 (.t 4) (.t 17))⟩,⟨some 5,none,.mv (.c (.bool false))⟩]) .ret) .skip)) (.seq (.reg [⟨some 18,none,.faddr 0 (.t 2)⟩,⟨some 19,none,.load false 1 (.t 18)⟩,⟨some 20,none,.mv (.t 6)⟩,⟨some 21,none,.iaddr 3 (.t 19) (.t 20)⟩,⟨some 22,none,.faddr 1 (.t 21)⟩,⟨some 23,none,.load true 2 (.t 22)⟩,⟨none,none,(.store 2 (.t 4) (.t 23))⟩,⟨some 5,none,.mv (.c (.bool true))⟩]) .ret))))
theorem DK:codeOf Tryz.prog 280=some ⟨24,Cy,[(.cell 4 true 2),(.tmp 5)]⟩:=by kernel_rfl
theorem BJ:modes 280=⟨[],.frz,none,false⟩:=by unfold modes; rfl
theorem XE (b:Bd) (n:ByteArray):E 317 [b.sv,.str n] []=some (.int .i64 (JY b.var n),[]):=by
 have h:=W2 b.var n
 refine Ai Gi B4 (of_decide_eq_true rfl) ?_
 simp (disch:=omega) only [Dr,go_sem,Ab,h,Cs]
theorem Rw (xs:List Bd) (n:ByteArray) (hl:xs.length≤1099511627776) (hs:KZ xs):E 316 [.arr (xs.map Bd.d),.str n,.fn 317 []] []=some (.tup [.int .i64 (AX xs n:Nat),.bool (EP xs n)],[]):=by
 have hlow:=S4 n xs
 obtain ⟨L,hL⟩:∃ L:Int,L=(AX xs n:Nat):=⟨_,rfl⟩
 rw [←hL]
 refine Ai BC A7 (of_decide_eq_true rfl) ?_
 simp (disch:=omega) only [AP,go_sem,Ab]
 refine go_loop (α:=Int × Int) (fun a=>⟨slots 49 0 [(0,.arr (xs.map Bd.d)),(1,.str n),(2,.fn 317 []),(8,.int .i64 xs.length),(9,.int .i64 a.1),(10,.int .i64 a.2)],[]⟩) (fun a=>0≤a.1∧a.1≤L∧L≤a.2∧a.2≤xs.length) (fun a=>(a.2-a.1).toNat) (0,xs.length) ⟨by simp,by dsimp only; omega,by dsimp only; omega,by dsimp only; omega⟩ (by simp (disch:=omega) only [go_sem,Ab]) ?_
 rintro ⟨i,j⟩ ⟨h0,h1,h2,h3⟩
 dsimp only at h0 h1 h2 h3
 rcases Int.lt_or_le i j with hij | hij
 ·obtain ⟨m,hm⟩:∃ m:Nat,(i+j) / 2=(m:Int):=⟨((i+j) / 2).toNat,by omega⟩
  have hlt:m<xs.length:=by omega
  have hni:(m:Int).toNat=m:=yG m
  have hg:=get_at Bd.d hlt
  rw [Bd.d_eq] at hg
  have hc:=XE xs[m] n
  have hw:IntKind.u64.wrap (i+j)=i+j:=wrap_u64 (by omega) (by omega)
  have hi:=ZW hs n hlt
  obtain ⟨M,hM⟩:∃ M:Int,(i+j) / 2=M:=⟨_,rfl⟩
  have hni:M.toNat=m:=by omega
  cases hq:strLt xs[m].var n with
  | true =>
   have hi2:=hi.1 hq
   simp (disch:=omega) only [go_sem,Ab,hw,hni,hg,hc,Ce,B4,Un,hq,hM]
   exact ⟨(M+1,j),⟨by dsimp only; omega,by dsimp only; omega,by dsimp only; omega,by dsimp only; omega⟩,by dsimp only; omega,by first | trivial | rfl⟩
  | false =>
   have hi2:¬ m<AX xs n:=by rw [←hi,hq]; simp
   simp (disch:=omega) only [go_sem,Ab,hw,hni,hg,hc,Ce,B4,Un,hq,hM]
   exact ⟨(i,M),⟨by dsimp only; omega,by dsimp only; omega,by dsimp only; omega,by dsimp only; omega⟩,by dsimp only; omega,by first | trivial | rfl⟩
 ·obtain rfl:i=L:=by omega
  rcases zB (AX xs n) xs.length with hlt | hge
  ·have hg:=get_at Bd.d hlt
   rw [Bd.d_eq] at hg
   have hni:i.toNat=AX xs n:=by omega
   have hc:=XE xs[AX xs n] n
   have hh:EP xs n=dec (xs[AX xs n].var=n):=by unfold EP; rw [zZ hlt]
   rw [hh]
   simp (disch:=omega) only [go_sem,Ab,hni,hg,hc,Ce,B4,Yx]
  ·have hh:EP xs n=false:=by unfold EP; rw [yL hge]
   rw [hh]
   simp (disch:=omega) only [go_sem,Ab]
theorem Up {α:Type} (p:α→Bool):∀ (xs:List α) (k:Nat) (i:Int) (h:k<xs.length),(∀ j (hj:j<k),p xs[j]=false)→p xs[k]=true→D8 p xs i=i+k
 | [],k,i,h,_,_=>absurd h (by simp)
 | x :: xs,0,i,h,_,hp=>by rw [D8,if_pos (show p x=true from hp)]; simp
 | x :: xs,k+1,i,h,hb,hp=>by
  have h0:p x=false:=hb 0 (by omega)
  have:=Up p xs k (i+1) (by simpa using h) (fun j hj=>hb (j+1) (by omega)) hp
  rw [D8,if_neg (by rw [h0]; simp),this]; omega
theorem S6 {α:Type} (p:α→Bool):∀ (xs:List α) (i:Int),(∀ j (hj:j<xs.length),p xs[j]=false)→D8 p xs i=-1
 | [],i,_=>by rw [D8]
 | x :: xs,i,h=>by
  have h0:p x=false:=h 0 (by simp)
  rw [D8,if_neg (by rw [h0]; simp)]
  exact S6 p xs (i+1) fun j hj=>h (j+1) (by simpa using hj)
theorem Uq {xs:List Bd} (hs:KZ xs) (n:ByteArray):D8 (fun b=>dec (b.var=n)) xs 0=if EP xs n then ((AX xs n:Nat):Int) else -1:=by
  have before:∀ j (hj:j<xs.length),j<AX xs n→dec (xs[j].var=n)=false:=fun j hj hL=>Aj (Um (Jm n xs j hj hL))
  rcases zB (AX xs n) xs.length with hlt | hge
  · have hh:EP xs n=dec (xs[AX xs n].var=n):=by unfold EP; rw [zZ hlt]
    cases hq:dec (xs[AX xs n].var=n) with
    | true =>
      rw [hh,hq,if_pos rfl,Up _ xs (AX xs n) 0 hlt (fun j hj=>before j (by omega) hj) hq]; omega
    | false =>
      rw [hh,hq,if_neg (by simp)]
      refine S6 _ xs 0 fun j hj=>?_
      rcases Nat.lt_trichotomy j (AX xs n) with h | h | h
      · exact before j hj h
      · subst h; exact hq
      · refine Aj fun e=>?_
        have h1:=hs _ _ h hj
        rw [e,S5 n xs hlt] at h1
        cases h1
  · have hh:EP xs n=false:=by unfold EP; rw [yL hge]
    rw [hh,if_neg (by simp)]
    exact S6 _ xs 0 fun j hj=>before j hj (by omega)
theorem LM {xs:List Bd} {n:ByteArray} (h:EP xs n=true):AX xs n<xs.length:=by
 rcases zB (AX xs n) xs.length with h1 | h1
 ·exact h1
 ·unfold EP at h; rw [yL h1] at h; cases h
noncomputable def Sb.look (x:Sb) (n:ByteArray):Option Tm:=if h:EP x.binds n=true then some (x.binds[AX x.binds n]'(LM h)).term else none
theorem W6 (x:Sb) (hx:KZ x.binds) (n:ByteArray) (hl:x.binds.length≤1099511627776) (hh:EP x.binds n=true) (hlt:AX x.binds n<x.binds.length):E 280 [x.sv,.str n] []=some (.tup [(x.binds[AX x.binds n]).term.sv,.bool true],[]):=by
 have hb:=Rw x.binds n hl hx
 have hg:=get_at Bd.d hlt
 rw [Bd.d_eq] at hg
 have hni:((AX x.binds n:Nat):Int).toNat=AX x.binds n:=yG _
 refine Ai DK BJ (of_decide_eq_true rfl) ?_
 simp (disch:=omega) only [Cy,go_sem,Ab,hb,hni,hg,hh,A7]
theorem Yz (x:Sb) (hx:KZ x.binds) (n:ByteArray) (hl:x.binds.length≤1099511627776) (hh:EP x.binds n=false):E 280 [x.sv,.str n] []=some (.tup [.agg [.str ⟨#[]⟩,.arr []],.bool false],[]):=by
 have hb:=Rw x.binds n hl hx
 refine Ai DK BJ (of_decide_eq_true rfl) ?_
 simp (disch:=omega) only [Cy,go_sem,Ab,hb,hh,A7]
theorem S7 {xs:List Bd} {n:ByteArray} (h:EP xs n=true) (hlt:AX xs n<xs.length):(xs[AX xs n]).var=n:=by
 have hh:EP xs n=dec (xs[AX xs n].var=n):=by unfold EP; rw [zZ hlt]
 rw [hh] at h
 exact Ao.1 h
theorem Sb.LN {x:Sb} {n:ByteArray} (h:EP x.binds n=true) (hlt:AX x.binds n<x.binds.length):x.look n=some (x.binds[AX x.binds n]).term:=by
 unfold Sb.look; rw [dif_pos h]
theorem Sb.LO {x:Sb} {n:ByteArray} (h:EP x.binds n=false):x.look n=none:=by
 unfold Sb.look; rw [dif_neg (by rw [h]; simp)]
def Sb.fine (s:Sb):Prop:=KZ s.binds∧∀ b∈s.binds,AO b.var=true
def B7:SC:=(.seq (.reg [⟨some 2,none,.boxv 142 1 (.t 0)⟩,⟨some 3,none,.boxv 33 2 (.t 1)⟩,⟨(some 4),none,(.alloc 33 [(.str ⟨#[]⟩),.nil])⟩]) (.seq (.seq (.reg [⟨some 10,none,.faddr 1 (.t 3)⟩,⟨some 11,none,.load false 1 (.t 10)⟩,⟨some 12,none,.len false (.t 11)⟩,⟨some 13,none,.bin .eql false (.t 12) (.c (.int .i64 0))⟩]) (.cond (.t 13) (.seq (.seq (.reg [⟨some 15,none,.load true 1 (.t 2)⟩,⟨some 16,none,.faddr 0 (.t 3)⟩,⟨some 17,none,.load false 1 (.t 16)⟩,⟨some 18,none,.call 280 [(.t 15),(.t 17)]⟩,⟨some 14,none,.mv (.t 18)⟩,⟨some 19,none,.ext (.t 14) 0⟩,⟨some 20,none,.ext (.t 14) 1⟩,⟨(some 5),none,(.alloc 33 [(.str ⟨#[]⟩),.nil])⟩,⟨none,none,(.store 2 (.t 5) (.t 19))⟩,⟨some 6,none,.mv (.t 20)⟩]) (.seq (.reg [⟨some 21,none,.mv (.t 6)⟩]) (.cond (.t 21) (.seq (.reg [⟨some 22,none,.load true 2 (.t 5)⟩,⟨some 23,none,.call 187 [(.t 22)]⟩,⟨none,none,(.store 2 (.t 4) (.t 23))⟩]) .ret) .skip))) (.seq (.reg [⟨some 24,none,.faddr 0 (.t 3)⟩,⟨some 25,none,.load false 1 (.t 24)⟩,⟨(some 26),none,(.build [(.str ⟨#[]⟩),.nil] [(0,(1,(.t 25)))])⟩,⟨none,none,(.store 2 (.t 4) (.t 26))⟩]) .ret)) .skip)) (.seq (.dreg [[],[0],[],[2],[3,2],[4,3,2],[1,0,5,4,3,2],[],[7,6,1,0,5,4,3,2]] [⟨some 27,none,.faddr 0 (.t 3)⟩,⟨some 28,none,.load false 1 (.t 27)⟩,⟨some 29,none,.faddr 1 (.t 3)⟩,⟨some 30,none,.load false 1 (.t 29)⟩,⟨some 31,none,.len false (.t 30)⟩,⟨(some 32),none,(.mkslice 33 2 40 [(.str ⟨#[]⟩),.nil] (.t 31))⟩,⟨(some 33),none,(.build [(.str ⟨#[]⟩),.nil] [(0,(1,(.t 28))),(1,(1,(.t 32)))])⟩,⟨(some 7),none,(.alloc 33 [(.str ⟨#[]⟩),.nil])⟩,⟨none,none,(.store 2 (.t 7) (.t 33))⟩]) (.seq (.seq (.reg [⟨some 34,none,.faddr 1 (.t 3)⟩,⟨some 35,none,.load false 1 (.t 34)⟩,⟨some 36,none,.len false (.t 35)⟩,⟨some 37,none,.mv (.c (.int .i64 0))⟩]) (.block 0 (.loop [0,0,1,0,1,0,0,1,0,0,0,0,0,0,0,0,0,0,0,0,0,0,0,0,0,0,0,0,0,0,0,0,0,0,0,1,1,1,0,0,0,0,0,0,0,0,0,0,0,0,0] (.seq (.reg [⟨some 38,none,.bin .lss false (.t 37) (.t 36)⟩]) (.seq (.cond (.t 38) .skip (.exit 0)) (.seq (.block 1 (.seq (.reg [⟨some 39,none,.mv (.t 37)⟩,⟨some 40,none,.iaddr 2 (.t 35) (.t 37)⟩,⟨some 41,none,.load true 2 (.t 40)⟩,⟨(some 9),none,(.alloc 33 [(.str ⟨#[]⟩),.nil])⟩,⟨some 8,none,.mv (.t 39)⟩,⟨none,none,(.store 2 (.t 9) (.t 41))⟩]) (.dreg [[],[0],[],[],[],[3,4],[1,0,2,3,4,5],[6,1,0,2,3,4,5]] [⟨some 42,none,.faddr 1 (.t 7)⟩,⟨some 43,none,.load false 1 (.t 42)⟩,⟨some 44,none,.mv (.t 8)⟩,⟨some 45,none,.load true 1 (.t 2)⟩,⟨some 46,none,.load true 2 (.t 9)⟩,⟨some 47,none,.call 276 [(.t 45),(.t 46)]⟩,⟨some 48,none,.iaddr 2 (.t 43) (.t 44)⟩,⟨none,none,(.store 2 (.t 48) (.t 47))⟩]))) (.reg [⟨some 49,none,.bin .add false (.t 37) (.c (.int .i64 1))⟩,⟨some 37,none,.mv (.t 49)⟩]))))))) (.seq (.reg [⟨some 50,none,.load true 2 (.t 7)⟩,⟨none,none,(.store 2 (.t 4) (.t 50))⟩]) .ret)))))
theorem Cn:codeOf Tryz.prog 276=some ⟨51,B7,[(.cell 4 true 2)]⟩:=by kernel_rfl
theorem B8:modes 276=⟨[],.own [none,some (33,2)],none,false⟩:=by unfold modes; rfl
def Er:SC:=(.seq (.reg [⟨some 2,none,.boxv 142 1 (.t 0)⟩,⟨some 3,none,.boxv 33 2 (.t 1)⟩,⟨(some 4),none,(.alloc 33 [(.str ⟨#[]⟩),.nil])⟩]) (.seq (.seq (.reg [⟨some 8,none,.faddr 0 (.t 3)⟩,⟨some 9,none,.load false 1 (.t 8)⟩,⟨some 10,none,.call 191 [(.t 9)]⟩]) (.cond (.t 10) (.seq (.seq (.reg [⟨some 11,none,.load true 1 (.t 2)⟩,⟨some 12,none,.faddr 0 (.t 3)⟩,⟨some 13,none,.load false 1 (.t 12)⟩,⟨some 14,none,.call 239 [(.t 11),(.t 13)]⟩,⟨some 5,none,.mv (.t 14)⟩]) (.seq (.reg [⟨some 15,none,.mv (.t 5)⟩,⟨some 16,none,.bin .geq false (.t 15) (.c (.int .i64 0))⟩]) (.cond (.t 16) (.seq (.reg [⟨some 17,none,.faddr 0 (.t 2)⟩,⟨some 18,none,.load false 1 (.t 17)⟩,⟨some 19,none,.mv (.t 5)⟩,⟨some 20,none,.iaddr 3 (.t 18) (.t 19)⟩,⟨some 21,none,.faddr 1 (.t 20)⟩,⟨some 22,none,.load true 2 (.t 21)⟩,⟨some 23,none,.call 135 [(.t 22)]⟩,⟨none,none,(.store 2 (.t 4) (.t 23))⟩]) .ret) .skip))) (.seq (.reg [⟨some 24,none,.faddr 0 (.t 3)⟩,⟨some 25,none,.load false 1 (.t 24)⟩,⟨(some 26),none,(.build [(.str ⟨#[]⟩),.nil] [(0,(1,(.t 25)))])⟩,⟨none,none,(.store 2 (.t 4) (.t 26))⟩]) .ret)) .skip)) (.seq (.reg [⟨some 27,none,.faddr 0 (.t 3)⟩,⟨some 28,none,.load false 1 (.t 27)⟩,⟨(some 29),none,(.build [(.str ⟨#[]⟩),.nil] [(0,(1,(.t 28)))])⟩,⟨(some 6),none,(.alloc 33 [(.str ⟨#[]⟩),.nil])⟩,⟨none,none,(.store 2 (.t 6) (.t 29))⟩]) (.seq (.seq (.reg [⟨some 7,none,.mv (.c (.int .i64 0))⟩]) (.block 0 (.loop [0,0,1,1,1,0,1,1,0,0,0,0,0,0,0,0,0,0,0,0,0,0,0,0,0,0,0,0,0,0,0,0,0,0,0,0,0,0,0,0,0,0,0,0,0,0,0,0,0,0] (.seq (.seq (.reg [⟨some 30,none,.mv (.t 7)⟩,⟨some 31,none,.faddr 1 (.t 3)⟩,⟨some 32,none,.load false 1 (.t 31)⟩,⟨some 33,none,.len false (.t 32)⟩,⟨some 34,none,.bin .lss false (.t 30) (.t 33)⟩]) (.cond (.t 34) .skip (.exit 0))) (.seq (.block 1 (.dreg [[],[0],[],[],[3],[],[4,3,5],[6,4,3,5],[2,7,6,4,3,5],[8,2,7,6,4,3,5],[1,0,9,8,2,7,6,4,3,5],[0,1,2,3,4,5,6,7,8,9,10],[11,0,1,2,3,4,5,6,7,8,9,10]] [⟨some 37,none,.faddr 1 (.t 6)⟩,⟨some 38,none,.load false 1 (.t 37)⟩,⟨some 39,none,.load true 1 (.t 2)⟩,⟨some 40,none,.faddr 1 (.t 3)⟩,⟨some 41,none,.load false 1 (.t 40)⟩,⟨some 42,none,.mv (.t 7)⟩,⟨some 43,none,.iaddr 2 (.t 41) (.t 42)⟩,⟨some 44,none,.load true 2 (.t 43)⟩,⟨some 45,none,.call 173 [(.t 39),(.t 44)]⟩,⟨(some 46),none,(.mkrow 33 2 [(.str ⟨#[]⟩),.nil] 1 [(0,(.t 45))])⟩,⟨(some 47),none,(.append 33 2 40 [(.str ⟨#[]⟩),.nil] (.t 38) (.t 46))⟩,⟨some 48,none,.faddr 1 (.t 6)⟩,⟨none,none,(.store 1 (.t 48) (.t 47))⟩])) (.reg [⟨some 35,none,.mv (.t 7)⟩,⟨some 36,none,.bin .add false (.t 35) (.c (.int .i64 1))⟩,⟨some 7,none,.mv (.t 36)⟩])))))) (.seq (.reg [⟨some 49,none,.load true 2 (.t 6)⟩,⟨none,none,(.store 2 (.t 4) (.t 49))⟩]) .ret)))))
theorem Gj:codeOf Tryz.prog 173=some ⟨50,Er,[(.cell 4 true 2)]⟩:=by kernel_rfl
theorem C5:modes 173=⟨[],.frz,none,false⟩:=by unfold modes; rfl
theorem ZX (s:Sb) (hs:s.fine) (ht:s.tame) (x:Tm) (hx:AO x.name=true→x.args=[]) (hn:x.nodes≤1099511627776) (ih:∀ y∈x.args,E 276 [s.sv,y.sv] []=some ((y.ap s.look).osv,(y.ap s.look).obs)):E 276 [s.sv,x.sv] []=some ((x.ap s.look).osv,(x.ap s.look).obs):=by
  have hsl:=ht.1
  have hl:=Tm.length_le x.args
  have hne:=Tm.nodes_eq x
  rcases zL x.args.length with h0 | h0
  · have hx0:x.args=[]:=zJ h0
    cases hh:EP s.binds x.name with
    | true =>
      have hlt:=LM hh
      have hc:=W6 s hs.1 x.name hsl hh hlt
      have hd:=Is (s.binds[AX s.binds x.name]).term (Sb.tame_at ht hlt)
      have hv:AO x.name=true:=by rw [←S7 hh hlt]; exact hs.2 _ (zD hlt)
      have e:x.ap s.look=(s.binds[AX s.binds x.name]).term:=by rw [Tm.N0,if_pos hv,Sb.LN hh hlt]; rfl
      rw [e]
      refine Ai Cn B8 (of_decide_eq_true rfl) ?_
      simp (disch:=omega) only [B7,go_sem,Ab,hx0,hc,hd,zK,zP,BJ,CX,Tm.osv,Tm.obs]
    | false =>
      have hc:=Yz s hs.1 x.name hsl hh
      have e:x.ap s.look=.mk x.name []:=by
        rw [Tm.N0,Sb.LO hh,hx0]
        split
        · rfl
        · rw [Tm.apL]
      rw [e]
      have e1:(Tm.mk x.name []).osv=.agg [.str x.name,.ref 0]:=rfl
      have e2:(Tm.mk x.name []).obs=[.row 33 2 []]:=rfl
      rw [e1,e2]
      refine Ai Cn B8 (of_decide_eq_true rfl) ?_
      simp (disch:=omega) only [B7,go_sem,Ab,hx0,hc,zK,zP,BJ]
  · have hv:¬ AO x.name=true:=fun h=>by rw [hx h] at h0; simp at h0
    have e:x.ap s.look=.mk x.name (x.args.map (Tm.ap s.look)):=by rw [Tm.N0,if_neg hv,Tm.LA]
    rw [e]
    have e1:(Tm.mk x.name (x.args.map (Tm.ap s.look))).osv=.agg [.str x.name,.ref 0]:=rfl
    have e2:(Tm.mk x.name (x.args.map (Tm.ap s.look))).obs=[.row 33 2 ((x.args.map (Tm.ap s.look)).map Tm.o)]:=rfl
    rw [e1,e2]
    have hrl:List.replicate x.args.length ([.str ⟨#[]⟩,.ow []]:List OT)=E5 Tm.o [.str ⟨#[]⟩,.ow []] (x.args.map (Tm.ap s.look)) 0:=by rw [FX,zE]
    refine Ai Cn B8 (of_decide_eq_true rfl) ?_
    simp (disch:=omega) only [B7,go_sem,Ab]
    refine go_loop (α:=Int) (fun a=>⟨slots 51 0 [(2,.ptr 0 0),(4,.ptr 1 0),(7,.ptr 2 0),(35,.arr (x.args.map Tm.d)),(36,.int .i64 x.args.length),(37,.int .i64 a)],[.box 142 [.arr (s.binds.map Bd.d)],.box 33 [.str ⟨#[]⟩,.nil],.box 33 [.str x.name,.ref 3],.row 33 2 (E5 Tm.o [.str ⟨#[]⟩,.ow []] (x.args.map (Tm.ap s.look)) a.toNat)]⟩) (fun a=>∃ k:Nat,a=k∧k≤(x.args).length) (fun a=>(x.args).length-(a).toNat) 0 ⟨0,rfl,zI _⟩ (by simp (disch:=omega) only [go_sem,Ab,hrl,zM]) ?_
    rintro i ⟨k,hi,hk⟩
    have hni:i.toNat=k:=by omega
    have hni1:(i+1).toNat=k+1:=by omega
    rcases zB k (x.args).length with hlt | hge
    · have hg:=get_at Tm.d hlt
      rw [Tm.d_eq] at hg
      have hltm:k<(x.args.map (Tm.ap s.look)).length:=by rw [zE]; exact hlt
      have hz:=H8 Tm.o [.str ⟨#[]⟩,.ow []] hltm
      have hc:=ih x.args[k] (zD hlt)
      have hse:=H9 Tm.o [.str ⟨#[]⟩,.ow []] hltm
      rw [Tm.o_eq,zY] at hse
      simp (disch:=omega) only [go_sem,Ab,hni,hg,hc,hz,H6,zE,B8,Tm.osv,Tm.obs]
      refine ⟨i+1,⟨k+1,by omega,hlt⟩,by omega,?_⟩
      simp (disch:=omega) only [go_sem,Ab,hni1,hse]
    · obtain rfl:k=x.args.length:=by omega
      have hend:E5 Tm.o [.str ⟨#[]⟩,.ow []] (x.args.map (Tm.ap s.look)) x.args.length=(x.args.map (Tm.ap s.look)).map Tm.o:=by
        have:=H7 Tm.o [.str ⟨#[]⟩,.ow []] (xs:=x.args.map (Tm.ap s.look))
        rwa [zE] at this
      simp (disch:=omega) only [go_sem,Ab,hni,hend]
theorem QaY (s:Sb) (hs:s.fine) (ht:s.tame) (x:Tm) (hx:x.names=true) (hn:x.nodes≤1099511627776):E 276 [s.sv,x.sv] []=some ((x.ap s.look).osv,(x.ap s.look).obs) :=
 ZX s hs ht x (Tm.JN hx) hn fun y hy=>QaY s hs ht y (Tm.EI hx hy) (by have:=Tm.nodes_mem hy; have:=Tm.nodes_eq x; omega)
termination_by SizeOf.sizeOf x
decreasing_by exact Tm.lt_of_mem hy
theorem W7 (s:Sb) (hs:s.fine) (ht:s.tame) (x:Tm) (hn:x.nodes≤1099511627776) (ih:∀ y∈x.args,E 173 [s.sv,y.sv] []=some ((y.ap s.look).sv,[])):E 173 [s.sv,x.sv] []=some ((x.ap s.look).sv,[]):=by
  have hsl:=ht.1
  have hl:=Tm.length_le x.args
  have hne:=Tm.nodes_eq x
  have hf:=ZU s x.name hsl
  rw [Uq hs.1] at hf
  cases hv:AO x.name with
  | true =>
    cases hh:EP s.binds x.name with
    | true =>
      have hlt:=LM hh
      have hg:=get_at Bd.d hlt
      rw [Bd.d_eq] at hg
      have hni:((AX s.binds x.name:Nat):Int).toNat=AX s.binds x.name:=yG _
      have hd:=S3 (s.binds[AX s.binds x.name]).term (Sb.tame_at ht hlt)
      have e:x.ap s.look=(s.binds[AX s.binds x.name]).term:=by rw [Tm.N0,if_pos hv,Sb.LN hh hlt]; rfl
      rw [hh,if_pos rfl] at hf
      rw [e]
      refine Ai Gj C5 (of_decide_eq_true rfl) ?_
      simp (disch:=omega) only [Er,go_sem,Ab,hv,hf,hg,hni,hd,EZ,Ak,Dx,Dy]
    | false =>
      have e:x.ap s.look=.mk x.name []:=by rw [Tm.N0,if_pos hv,Sb.LO hh]; rfl
      rw [hh,if_neg (by simp)] at hf
      rw [e]
      have e1:(Tm.mk x.name []).sv=.agg [.str x.name,.arr []]:=rfl
      rw [e1]
      refine Ai Gj C5 (of_decide_eq_true rfl) ?_
      simp (disch:=omega) only [Er,go_sem,Ab,hv,hf,EZ,Ak,Dx]
  | false =>
    have e:x.ap s.look=.mk x.name (x.args.map (Tm.ap s.look)):=by rw [Tm.N0,if_neg (by rw [hv]; simp),Tm.LA]
    rw [e]
    have e1:(Tm.mk x.name (x.args.map (Tm.ap s.look))).sv=.agg [.str x.name,.arr ((x.args.map (Tm.ap s.look)).map Tm.d)]:=rfl
    rw [e1]
    have h10:((1:Int)=0)=False:=by simp
    have hfu:=Tm.osh_full (x.args.map (Tm.ap s.look))
    have her:=Tm.osh_er (x.args.map (Tm.ap s.look))
    refine Ai Gj C5 (of_decide_eq_true rfl) ?_
    simp (disch:=omega) only [Er,go_sem,Ab,hv,EZ,Ak,Dx]
    refine go_loop (α:=Int) (fun a=>⟨slots 50 0 [(2,.ptr 0 0),(3,.ptr 1 0),(4,.ptr 2 0),(6,.ptr 3 0),(7,.int .i64 a)],(if a=0 then [.box 142 [.arr (s.binds.map Bd.d)],.box 33 [.str x.name,.arr (x.args.map Tm.d)],.box 33 [.str ⟨#[]⟩,.nil],.box 33 [.str x.name,.nil]] else [.box 142 [.arr (s.binds.map Bd.d)],.box 33 [.str x.name,.arr (x.args.map Tm.d)],.box 33 [.str ⟨#[]⟩,.nil],.box 33 [.str x.name,.ref 4],.row 33 2 (((x.args.map (Tm.ap s.look)).take a.toNat).map Tm.osh)])⟩) (fun a=>∃ k:Nat,a=k∧k≤(x.args).length) (fun a=>(x.args).length-(a).toNat) 0 ⟨0,rfl,zI _⟩ (by simp (disch:=omega) only [go_sem,Ab,eq_self,if_true]) ?_
    rintro i ⟨k,hi,hk⟩
    have hni:i.toNat=k:=by omega
    have hni1:(i+1).toNat=k+1:=by omega
    rcases zB k (x.args).length with hlt | hge
    · have hg:=get_at Tm.d hlt
      rw [Tm.d_eq] at hg
      have hltm:k<(x.args.map (Tm.ap s.look)).length:=by rw [zE]; exact hlt
      have hc:=ih x.args[k] (zD hlt)
      have hse:=LL Tm.osh hltm
      rw [Tm.osh_eq,zY] at hse
      rcases zL k with h0 | h0
      · subst h0
        obtain rfl:i=0:=hi
        rw [z8,zK,z7] at hse
        simp (disch:=omega) only [go_sem,Ab,hni,hg,hc,C5,eq_self,if_true]
        refine ⟨1,⟨1,rfl,hlt⟩,by omega,?_⟩
        simp (disch:=omega) only [go_sem,Ab,h10,if_false,hse]
      · have hi0:(i=0)=False:=by simp; omega
        have hi1:(i+1=0)=False:=by simp; omega
        have htl:((x.args.map (Tm.ap s.look)).take k).length=k:=by rw [zX]; omega
        simp (disch:=omega) only [go_sem,Ab,hni,hg,hc,C5,hi0,if_false,htl]
        refine ⟨i+1,⟨k+1,by omega,hlt⟩,by omega,?_⟩
        simp (disch:=omega) only [go_sem,Ab,hni1,hi1,if_false,hse]
    · obtain rfl:k=x.args.length:=by omega
      have hta:(x.args.map (Tm.ap s.look)).take x.args.length=x.args.map (Tm.ap s.look):=by
        have:=yM (l:=x.args.map (Tm.ap s.look))
        rwa [zE] at this
      rcases zL x.args.length with h0 | h0
      · have hx:x.args=[]:=zJ h0
        obtain rfl:i=0:=by omega
        simp (disch:=omega) only [go_sem,Ab,hni,hx,eq_self,if_true,zK,zP]
      · have hi0:(i=0)=False:=by simp; omega
        simp (disch:=omega) only [go_sem,Ab,hni,hi0,if_false,hta,hfu,her]
theorem Rx (s:Sb) (hs:s.fine) (ht:s.tame) (x:Tm) (hn:x.nodes≤1099511627776):E 173 [s.sv,x.sv] []=some ((x.ap s.look).sv,[]) :=
 W7 s hs ht x hn fun y hy=>Rx s hs ht y (by have:=Tm.nodes_mem hy; have:=Tm.nodes_eq x; omega)
termination_by SizeOf.sizeOf x
decreasing_by exact Tm.lt_of_mem hy
noncomputable def QbJ (s:Sb) (x:Tm):Bool:=s.ok&&(x.expr&&(x.ap s.look).small)
noncomputable def JZ (s:Sb) (x:Tm):Tm:=if QbJ s x then x.ap s.look else .mk ⟨#[]⟩ []
def MN (x y:Bd):Bool:=!strLt y.var x.var
def D9:List Bd→Bd→List Bd
 | [],b=>[b]
 | x :: xs,b=>bif strLt x.var b.var then x :: D9 xs b else b :: x :: xs
theorem HJ (b:Bd):∀ xs:List Bd,(D9 xs b).Perm (b :: xs)
 | []=>.refl _
 | x :: xs=>by
  rw [D9]
  cases strLt x.var b.var with
  | true=>exact ((HJ b xs).cons x).trans (.swap b x xs)
  | false=>exact .refl _
theorem W8 {a b c:Bd} (h:MN a b=true) (k:MN b c=true):MN a c=true:=by
  unfold MN at *
  cases hq:strLt c.var a.var with
  | false=>rfl
  | true =>
    cases hb:strLt b.var a.var with
    | true=>rw [hb] at h; cases h
    | false =>
      cases hc:strLt c.var b.var with
      | true=>rw [hc] at k; cases k
      | false =>
        cases hab:strLt a.var b.var with
        | true=>rw [Jl hq hab] at hc; cases hc
        | false =>
          have:=GD hab hb
          rw [this] at hq; rw [hq] at hc; cases hc
theorem N2 (b:Bd):∀ xs:List Bd,xs.Pairwise (fun x y=>MN x y=true)→(D9 xs b).Pairwise fun x y=>MN x y=true
  | [],_=>by simp [D9]
  | x :: xs,h=>by
    rw [D9]
    rw [zO] at h
    cases hq:strLt x.var b.var with
    | true =>
      rw [cond_true,zO]
      refine ⟨fun y hy=>?_,N2 b xs h.2⟩
      rcases zV.1 ((HJ b xs).mem_iff.1 hy) with rfl | hy
      · unfold MN; rw [Jk hq]; rfl
      · exact h.1 y hy
    | false =>
      have hb:MN b x=true:=by unfold MN; rw [hq]; rfl
      rw [cond_false,zO,zO]
      refine ⟨fun y hy=>?_,h⟩
      rcases zV.1 hy with rfl | hy
      · exact hb
      · exact W8 hb (h.1 y hy)
theorem Ur (b:Bd):∀ xs:List Bd,D9 xs b=xs.take (AX xs b.var)++b :: xs.drop (AX xs b.var)
 | []=>by simp [D9,AX]
 | x :: xs=>by
  rw [D9,AX]
  cases h:strLt x.var b.var with
  | true=>rw [cond_true,Ur b xs]; simp
  | false=>simp
noncomputable def QbK (u:Sb) (b:Bd):Option Bd:=bif dec ((b.term.ap u.look).name=b.var) then none else some ⟨b.var,b.term.ap u.look⟩
noncomputable def Qck (s u:Sb):List Bd:=s.binds.filterMap (QbK u)
noncomputable def Qcl (s u:Sb):List Bd:=u.binds.filter fun b=>!EP s.binds b.var
noncomputable def QbL (s u:Sb):List Bd:=Qck s u++Qcl s u
noncomputable def Qcm (s u:Sb):Sb:=⟨(QbL s u).mergeSort MN⟩
theorem P9:∀ {xs:List Bd},KZ xs→(xs.map Bd.var).Nodup:=by
 intro xs h
 unfold List.Nodup
 rw [List.pairwise_iff_getElem]
 intro i j hi hj hij e
 rw [zE] at hj
 have:=h i j hij hj
 simp only [zY] at e
 rw [e,Im] at this
 cases this
theorem ZY {xs:List Bd} (hs:KZ xs) (n:ByteArray):EP xs n=xs.any fun b=>dec (b.var=n):=by
 rw [←L9,Uq hs]
 cases EP xs n with
 | true=>rw [if_pos rfl]; exact (An (by omega)).symm
 | false=>rw [if_neg (by simp)]; exact (Aj (by omega)).symm
def St.wtS (xs:List ByteArray):Nat:=xs.length
noncomputable def St.mkS:List ByteArray→Int→List ByteArray × Int
 | [],k=>([],k)
 | _ :: xs,k=>(DG k :: (St.mkS xs (k+1)).1,(St.mkS xs (k+1)).2)
theorem St.mkS_end:∀ (xs:List ByteArray) (k:Int),(St.mkS xs k).2=k+St.wtS xs
 | [],k=>by simp [St.mkS,St.wtS]
 | x :: xs,k=>by
  have h:=St.mkS_end xs (k+1)
  unfold St.wtS at h ⊢
  rw [St.mkS]
  simp only [zG]
  omega
theorem St.wtS_bulk (xs:List ByteArray):St.wtS xs≤5*(xs.length+HY xs):=by
 unfold St.wtS
 omega
def Gk:SC:=(.seq (.reg [⟨some 4,none,.mv (.c (.int .i64 0))⟩]) (.seq (.seq (.reg [⟨some 5,none,.mv (.c (.int .i64 0))⟩]) (.block 0 (.loop [1,1,0,0,0,1,0,0,0,0,0,0,0,0,0,0,0,0,0,0] (.seq (.seq (.reg [⟨some 6,none,.mv (.t 5)⟩,⟨some 7,none,.mv (.t 0)⟩,⟨some 8,none,.len false (.t 7)⟩,⟨some 9,none,.bin .lss false (.t 6) (.t 8)⟩]) (.cond (.t 9) .skip (.exit 0))) (.seq (.block 1 (.seq (.reg [⟨some 12,none,.mv (.t 0)⟩,⟨some 13,none,.mv (.t 5)⟩,⟨some 14,none,.mv (.t 1)⟩,⟨some 15,none,.call 63 [(.t 14)]⟩,⟨some 16,none,.iaddr 1 (.t 12) (.t 13)⟩,⟨none,none,(.store 1 (.t 16) (.t 15))⟩]) (.reg [⟨some 17,none,.mv (.t 1)⟩,⟨some 18,none,.bin .add false (.t 17) (.c (.int .i64 1))⟩,⟨some 1,none,.mv (.t 18)⟩]))) (.reg [⟨some 10,none,.mv (.t 5)⟩,⟨some 11,none,.bin .add false (.t 10) (.c (.int .i64 1))⟩,⟨some 5,none,.mv (.t 11)⟩])))))) (.seq (.reg [⟨some 19,none,.mv (.t 1)⟩,⟨some 4,none,.mv (.t 19)⟩]) .ret)))
theorem La:codeOf Tryz.prog 18=some ⟨20,Gk,[(.tmp 4)]⟩:=by kernel_rfl
theorem Cf:modes 18=⟨[true],.asis,none,true⟩:=by unfold modes; rfl
abbrev Qk (xs:List ByteArray):Prop:=∀ (k:Int) (ob:List Ob),1≤k→k+St.wtS xs≤1099511627776→toTree ob=[.tree (xs.map (fun s=>[OT.str s])) []]→E 18 [.ref 0,.int .i64 k] ob=some (.int .i64 (St.mkS xs k).2,[.tree ((St.mkS xs k).1.map (fun s=>[OT.str s])) []])
theorem Ql (xs:List ByteArray):Qk xs:=by
 intro k0 ob h1 h2 hob
 have hlen:ob.length=1:=by rw [←FP,hob]; rfl
 have hwt:St.wtS xs=xs.length:=rfl
 refine Ai La Cf (of_decide_eq_true rfl) ?_
 simp (disch:=omega) only [Gk,go_sem,Ab,hob,hlen]
 refine go_loop (α:=Int × (Int) × (List ByteArray)) (fun a=>⟨slots 20 0 [(0,.ref 0),(1,.int .i64 (a.2.1)),(5,.int .i64 (a.1))],[.tree (((a.2.2)++xs.drop (a.1).toNat).map (fun s=>[OT.str s])) []]⟩) (fun a=>∃ k:Nat,a.1=k∧k≤(xs).length∧(a.2.2).length=k∧(a.2.1)=k0+k∧St.mkS xs k0=((a.2.2)++(St.mkS (xs.drop k) (a.2.1)).1,(St.mkS (xs.drop k) (a.2.1)).2)) (fun a=>(xs).length-(a.1).toNat) (0,k0,[]) ⟨0,rfl,zI _,rfl,by simp,by simp⟩ (by simp (disch:=omega) only [go_sem,Ab,zM]) ?_
 rintro ⟨i,kk,dn⟩ ⟨k,hi,hk,hR⟩
 dsimp only at hi hR
 have hni:i.toNat=k:=by omega
 have hni1:(i+1).toNat=k+1:=by omega
 rcases zB k (xs).length with hlt | hge
 ·obtain ⟨hd,hk1,hm⟩:=hR
  have hdr:xs.drop k=xs[k] :: xs.drop (k+1):=zC hlt
  have hel:(dn++xs.drop k).length=xs.length:=by simp; omega
  have hg:(yZ (fun s=>[OT.str s]) (dn++xs.drop k))[k]?=some [OT.str xs[k]]:=by
   rw [hdr,yH,yA (by omega),hd,Nat.sub_self]; rfl
  rw [hdr,St.mkS] at hm
  have tx:=Ea (k:=kk) (by omega) (by omega)
  have hs:=Jf (fun s=>[OT.str s]) dn (xs.drop (k+1)) xs[k] (DG kk) hd
  rw [←hdr] at hs
  have hgs:∀ a,((yZ (fun s=>[OT.str s]) (dn++xs.drop k)).set k a)[k]?=some a:=fun a=>yK (by rw [zE,hel]; exact hlt)
  simp (disch:=omega) only [go_sem,Ab,hni,hel,hg,hgs,yX,List.set_set,hs,tx,CS]
  refine ⟨(i+1,kk+1,dn++[DG kk]),⟨k+1,by dsimp only; omega,hlt,by dsimp only; simp [hd],by dsimp only; omega,by rw [hm]; simp⟩,by dsimp only; omega,?_⟩
  dsimp only
  rw [hni1]
  try first | rfl | simp only [and_self]
 ·obtain ⟨hd,hk1,hm⟩:=hR
  have hdr:xs.drop k=[]:=zF hge
  rw [hdr,St.mkS] at hm
  rw [hm]
  simp (disch:=omega) only [go_sem,Ab,hni,hdr,yO]
mutual
def Tm.wt:Tm→Nat
 | .mk name args=>1+Tm.wtS args
def Tm.wtS:List Tm→Nat
 | []=>0
 | x :: xs=>Tm.wt x+Tm.wtS xs
end
theorem Tm.wt_eq (x:Tm):x.wt=1+Tm.wtS x.args:=by
 obtain ⟨name,args⟩:=x
 rw [Tm.wt]; rfl
mutual
noncomputable def Tm.mk1:Tm→Int→Tm × Int
 | .mk name args,k=>((Tm.mk (DG k) ((Tm.mkS args (k+1)).1)),(Tm.mkS args (k+1)).2)
noncomputable def Tm.mkS:List Tm→Int→List Tm × Int
 | [],k=>([],k)
 | x :: xs,k=>((Tm.mk1 x k).1 :: (Tm.mkS xs (Tm.mk1 x k).2).1,(Tm.mkS xs (Tm.mk1 x k).2).2)
end
theorem Tm.mk1_eq (x:Tm) (k:Int):x.mk1 k=((Tm.mk (DG k) ((Tm.mkS x.args (k+1)).1)),(Tm.mkS x.args (k+1)).2):=by
 obtain ⟨name,args⟩:=x
 rw [Tm.mk1]; rfl
theorem Tm.mk1_d (x:Tm) (k:Int):Tm.d (x.mk1 k).1=[.str (DG k),.arr ((Tm.mkS x.args (k+1)).1.map Tm.d)]:=by
 rw [Tm.mk1_eq,Tm.d_eq]
 try rfl
theorem Tm.mk1_o (x:Tm) (k:Int):Tm.o (x.mk1 k).1=[.str (DG k),.ow ((Tm.mkS x.args (k+1)).1.map Tm.o)]:=by
 rw [Tm.mk1_eq,Tm.o_eq]
 try rfl
theorem Tm.mkS_end_of:∀ (xs:List Tm) (k:Int),(∀ x∈xs,∀ k,(x.mk1 k).2=k+x.wt)→(Tm.mkS xs k).2=k+Tm.wtS xs
 | [],k,_=>by simp [Tm.mkS,Tm.wtS]
 | x :: xs,k,h=>by
  rw [Tm.mkS,Tm.wtS]
  have h1:=h x (by simp) k
  have h2:=Tm.mkS_end_of xs (x.mk1 k).2 fun y hy=>h y (by simp [hy])
  dsimp only
  omega
theorem Tm.mk1_end (x:Tm) (k:Int):(x.mk1 k).2=k+x.wt:=by
 rw [Tm.mk1_eq,Tm.wt_eq]
 have h:=fun k=>Tm.mkS_end_of x.args k fun y hy k=>Tm.mk1_end y k
 simp only [h]
 omega
termination_by SizeOf.sizeOf x
decreasing_by exact Tm.lt_of_mem hy
theorem Tm.mkS_end (xs:List Tm) (k:Int):(Tm.mkS xs k).2=k+Tm.wtS xs:=Tm.mkS_end_of xs k fun x _ k=>Tm.mk1_end x k
theorem Tm.wtS_of:∀ xs:List Tm,(∀ x∈xs,x.wt≤5*(1+x.bulk))→Tm.wtS xs≤5*(xs.length+Tm.sumB xs)
 | [],_=>by simp [Tm.wtS]
 | x :: xs,h=>by
  have h1:=h x (by simp)
  have h2:=Tm.wtS_of xs fun y hy=>h y (by simp [hy])
  rw [Tm.wtS,Tm.sumB]; simp only [zG]; omega
theorem Tm.wt_bulk (x:Tm):x.wt≤5*(1+x.bulk):=by
 rw [Tm.wt_eq,Tm.bulk_eq]
 have h:=Tm.wtS_of x.args fun y hy=>Tm.wt_bulk y
 omega
termination_by SizeOf.sizeOf x
decreasing_by exact Tm.lt_of_mem hy
theorem Tm.wtS_bulk (xs:List Tm):Tm.wtS xs≤5*(xs.length+Tm.sumB xs):=Tm.wtS_of xs fun x _=>Tm.wt_bulk x
theorem Tm.length_wt:∀ xs:List Tm,xs.length≤Tm.wtS xs
 | []=>zS _
 | x :: xs=>by
  have:=Tm.length_wt xs
  have:=Tm.wt_eq x
  rw [Tm.wtS]; simp only [zG]; omega
def HK:SC:=(.seq (.reg [⟨some 4,none,.mv (.c (.int .i64 0))⟩]) (.seq (.seq (.reg [⟨some 5,none,.mv (.c (.int .i64 0))⟩]) (.block 0 (.loop [1,1,0,0,0,1,0,0,0,0,0,0,0,0,0,0,0,0,0,0,0,0,0,0,0,0,0,0] (.seq (.seq (.reg [⟨some 6,none,.mv (.t 5)⟩,⟨some 7,none,.mv (.t 0)⟩,⟨some 8,none,.len false (.t 7)⟩,⟨some 9,none,.bin .lss false (.t 6) (.t 8)⟩]) (.cond (.t 9) .skip (.exit 0))) (.seq (.block 1 (.seq (.reg [⟨some 12,none,.mv (.t 0)⟩,⟨some 13,none,.mv (.t 5)⟩,⟨some 14,none,.mv (.t 1)⟩,⟨some 15,none,.call 63 [(.t 14)]⟩,⟨some 16,none,.iaddr 2 (.t 12) (.t 13)⟩,⟨some 17,none,.faddr 0 (.t 16)⟩,⟨none,none,(.store 1 (.t 17) (.t 15))⟩]) (.seq (.reg [⟨some 18,none,.mv (.t 1)⟩,⟨some 19,none,.bin .add false (.t 18) (.c (.int .i64 1))⟩,⟨some 1,none,.mv (.t 19)⟩]) (.reg [⟨some 20,none,.mv (.t 0)⟩,⟨some 21,none,.mv (.t 5)⟩,⟨some 22,none,.iaddr 2 (.t 20) (.t 21)⟩,⟨some 23,none,.faddr 1 (.t 22)⟩,⟨some 24,none,.load false 1 (.t 23)⟩,⟨some 25,none,.mv (.t 1)⟩,⟨some 26,none,.call 72 [(.t 24),(.t 25)]⟩,⟨some 1,none,.mv (.t 26)⟩])))) (.reg [⟨some 10,none,.mv (.t 5)⟩,⟨some 11,none,.bin .add false (.t 10) (.c (.int .i64 1))⟩,⟨some 5,none,.mv (.t 11)⟩])))))) (.seq (.reg [⟨some 27,none,.mv (.t 1)⟩,⟨some 4,none,.mv (.t 27)⟩]) .ret)))
theorem MO:codeOf Tryz.prog 72=some ⟨28,HK,[(.tmp 4)]⟩:=by kernel_rfl
theorem Dz:modes 72=⟨[true],.asis,none,true⟩:=by unfold modes; rfl
abbrev GE (xs:List Tm):Prop:=∀ (k:Int) (ob:List Ob),1≤k→k+Tm.wtS xs≤1099511627776→toTree ob=[.tree (xs.map Tm.o) []]→E 72 [.ref 0,.int .i64 k] ob=some (.int .i64 (Tm.mkS xs k).2,[.tree ((Tm.mkS xs k).1.map Tm.o) []])
theorem Jn (xs:List Tm) (ih:∀ x∈xs,GE x.args):GE xs:=by
 intro k0 ob h1 h2 hob
 have hlen:ob.length=1:=by rw [←FP,hob]; rfl
 have hL:=Tm.length_wt xs
 refine Ai MO Dz (of_decide_eq_true rfl) ?_
 simp (disch:=omega) only [HK,go_sem,Ab,hob,hlen]
 refine go_loop (α:=Int × (Int) × (List Tm)) (fun a=>⟨slots 28 0 [(0,.ref 0),(1,.int .i64 (a.2.1)),(5,.int .i64 (a.1))],[.tree (((a.2.2)++xs.drop (a.1).toNat).map Tm.o) []]⟩) (fun a=>∃ k:Nat,a.1=k∧k≤(xs).length∧(a.2.2).length=k∧1≤(a.2.1)∧(a.2.1)+Tm.wtS (xs.drop k)=k0+Tm.wtS xs∧Tm.mkS xs k0=((a.2.2)++(Tm.mkS (xs.drop k) (a.2.1)).1,(Tm.mkS (xs.drop k) (a.2.1)).2)) (fun a=>(xs).length-(a.1).toNat) (0,k0,[]) ⟨0,rfl,zI _,rfl,h1,by rw [zH],by simp⟩ (by simp (disch:=omega) only [go_sem,Ab,zM]) ?_
 rintro ⟨i,kk,dn⟩ ⟨k,hi,hk,hR⟩
 dsimp only at hi hR
 have hni:i.toNat=k:=by omega
 have hni1:(i+1).toNat=k+1:=by omega
 rcases zB k (xs).length with hlt | hge
 ·obtain ⟨hd,hk1,hkn,hm⟩:=hR
  have hdr:xs.drop k=xs[k] :: xs.drop (k+1):=zC hlt
  have hel:(dn++xs.drop k).length=xs.length:=by simp; omega
  have hg:(yZ Tm.o (dn++xs.drop k))[k]?=some [.str xs[k].name,.ow (xs[k].args.map Tm.o)]:=by
   rw [←Tm.o_eq,hdr,yH,yA (by omega),hd,Nat.sub_self]; rfl
  rw [hdr,Tm.wtS] at hkn
  rw [hdr,Tm.mkS] at hm
  have hn1:=Tm.wt_eq xs[k]
  have e1:=Tm.mkS_end xs[k].args ((kk+1))
  have t0:=Ea (k:=kk) (by omega) (by omega)
  have c58:=ih xs[k] (zD hlt) ((kk+1)) [.tree (xs[k].args.map Tm.o) []] (by omega) (by omega) rfl
  have hs:=Jf Tm.o dn (xs.drop (k+1)) xs[k] (xs[k].mk1 kk).1 hd
  rw [Tm.mk1_o,← hdr] at hs
  have hgs:∀ a,((yZ Tm.o (dn++xs.drop k)).set k a)[k]?=some a:=fun a=>yK (by rw [zE,hel]; exact hlt)
  have he:=Tm.mk1_end xs[k] kk
  have three:∀ z:Int,dec ((3:Int)=0)=false:=fun _=>Aj (by omega)
  simp (disch:=omega) only [go_sem,Ab,hni,hel,hg,t0,c58,Dz,CS,hgs,yX,List.set_set,hs,three 0]
  refine ⟨(i+1,(xs[k].mk1 kk).2,dn++[(xs[k].mk1 kk).1]),⟨k+1,by dsimp only; omega,hlt,by dsimp only; simp [hd],by dsimp only; omega,by dsimp only; omega,by rw [hm]; simp⟩,by dsimp only; omega,?_⟩
  dsimp only
  rw [hni1,Tm.mk1_eq]
  refine ⟨⟨?_,rfl⟩,rfl⟩
  first | rfl | omega
 ·obtain ⟨hd,hk1,hkn,hm⟩:=hR
  have hdr:xs.drop k=[]:=zF hge
  rw [hdr,Tm.mkS] at hm
  rw [hm]
  simp (disch:=omega) only [go_sem,Ab,hni,hdr,yO]
theorem LP (x:Tm):GE x.args:=Jn x.args fun y hy=>LP y
termination_by SizeOf.sizeOf x
decreasing_by exact Tm.lt_of_mem hy
theorem N3 (xs:List Tm):GE xs:=Jn xs fun y _=>LP y
mutual
def Fm.wt:Fm→Nat
 | .mk op atom var parts=>3+Tm.wtS atom.args+Fm.wtS parts
def Fm.wtS:List Fm→Nat
 | []=>0
 | x :: xs=>Fm.wt x+Fm.wtS xs
end
theorem Fm.wt_eq (x:Fm):x.wt=3+Tm.wtS x.atom.args+Fm.wtS x.parts:=by
 obtain ⟨op,atom,var,parts⟩:=x
 rw [Fm.wt]; rfl
mutual
noncomputable def Fm.mk1:Fm→Int→Fm × Int
 | .mk op atom var parts,k=>((Fm.mk (k) (Tm.mk (DG (k+1)) ((Tm.mkS atom.args (k+1+1)).1)) (DG (Tm.mkS atom.args (k+1+1)).2) ((Fm.mkS parts ((Tm.mkS atom.args (k+1+1)).2+1)).1)),(Fm.mkS parts ((Tm.mkS atom.args (k+1+1)).2+1)).2)
noncomputable def Fm.mkS:List Fm→Int→List Fm × Int
 | [],k=>([],k)
 | x :: xs,k=>((Fm.mk1 x k).1 :: (Fm.mkS xs (Fm.mk1 x k).2).1,(Fm.mkS xs (Fm.mk1 x k).2).2)
end
theorem Fm.mk1_eq (x:Fm) (k:Int):x.mk1 k=((Fm.mk (k) (Tm.mk (DG (k+1)) ((Tm.mkS x.atom.args (k+1+1)).1)) (DG (Tm.mkS x.atom.args (k+1+1)).2) ((Fm.mkS x.parts ((Tm.mkS x.atom.args (k+1+1)).2+1)).1)),(Fm.mkS x.parts ((Tm.mkS x.atom.args (k+1+1)).2+1)).2):=by
 obtain ⟨op,atom,var,parts⟩:=x
 rw [Fm.mk1]; rfl
theorem Fm.mk1_d (x:Fm) (k:Int):Fm.d (x.mk1 k).1=[.int k,.str (DG (k+1)),.arr ((Tm.mkS x.atom.args (k+1+1)).1.map Tm.d),.str (DG (Tm.mkS x.atom.args (k+1+1)).2),.arr ((Fm.mkS x.parts ((Tm.mkS x.atom.args (k+1+1)).2+1)).1.map Fm.d)]:=by
 rw [Fm.mk1_eq,Fm.d_eq]
 try rfl
theorem Fm.mk1_o (x:Fm) (k:Int):Fm.o (x.mk1 k).1=[.int k,.str (DG (k+1)),.ow ((Tm.mkS x.atom.args (k+1+1)).1.map Tm.o),.str (DG (Tm.mkS x.atom.args (k+1+1)).2),.ow ((Fm.mkS x.parts ((Tm.mkS x.atom.args (k+1+1)).2+1)).1.map Fm.o)]:=by
 rw [Fm.mk1_eq,Fm.o_eq]
 try rfl
theorem Fm.mkS_end_of:∀ (xs:List Fm) (k:Int),(∀ x∈xs,∀ k,(x.mk1 k).2=k+x.wt)→(Fm.mkS xs k).2=k+Fm.wtS xs
 | [],k,_=>by simp [Fm.mkS,Fm.wtS]
 | x :: xs,k,h=>by
  rw [Fm.mkS,Fm.wtS]
  have h1:=h x (by simp) k
  have h2:=Fm.mkS_end_of xs (x.mk1 k).2 fun y hy=>h y (by simp [hy])
  dsimp only
  omega
theorem Fm.mk1_end (x:Fm) (k:Int):(x.mk1 k).2=k+x.wt:=by
 rw [Fm.mk1_eq,Fm.wt_eq]
 have h:=fun k=>Fm.mkS_end_of x.parts k fun y hy k=>Fm.mk1_end y k
 simp only [h,Tm.mkS_end]
 omega
termination_by SizeOf.sizeOf x
decreasing_by exact Fm.lt_of_mem hy
theorem Fm.mkS_end (xs:List Fm) (k:Int):(Fm.mkS xs k).2=k+Fm.wtS xs:=Fm.mkS_end_of xs k fun x _ k=>Fm.mk1_end x k
theorem Fm.wtS_of:∀ xs:List Fm,(∀ x∈xs,x.wt≤5*(1+x.bulk))→Fm.wtS xs≤5*(xs.length+Fm.sumB xs)
 | [],_=>by simp [Fm.wtS]
 | x :: xs,h=>by
  have h1:=h x (by simp)
  have h2:=Fm.wtS_of xs fun y hy=>h y (by simp [hy])
  rw [Fm.wtS,Fm.sumB]; simp only [zG]; omega
theorem Fm.wt_bulk (x:Fm):x.wt≤5*(1+x.bulk):=by
 rw [Fm.wt_eq,Fm.bulk_eq]
 have h:=Fm.wtS_of x.parts fun y hy=>Fm.wt_bulk y
 have h0:=Tm.wtS_bulk x.atom.args
 have q1:=Tm.bulk_eq x.atom
 omega
termination_by SizeOf.sizeOf x
decreasing_by exact Fm.lt_of_mem hy
theorem Fm.wtS_bulk (xs:List Fm):Fm.wtS xs≤5*(xs.length+Fm.sumB xs):=Fm.wtS_of xs fun x _=>Fm.wt_bulk x
theorem Fm.length_wt:∀ xs:List Fm,xs.length≤Fm.wtS xs
 | []=>zS _
 | x :: xs=>by
  have:=Fm.length_wt xs
  have:=Fm.wt_eq x
  rw [Fm.wtS]; simp only [zG]; omega
def F2:SC:=(.seq (.reg [⟨some 4,none,.mv (.c (.int .i64 0))⟩]) (.seq (.seq (.reg [⟨some 5,none,.mv (.c (.int .i64 0))⟩]) (.block 0 (.loop [1,1,0,0,0,1,0,0,0,0,0,0,0,0,0,0,0,0,0,0,0,0,0,0,0,0,0,0,0,0,0,0,0,0,0,0,0,0,0,0,0,0,0,0,0,0,0,0,0,0,0,0] (.seq (.seq (.reg [⟨some 6,none,.mv (.t 5)⟩,⟨some 7,none,.mv (.t 0)⟩,⟨some 8,none,.len false (.t 7)⟩,⟨some 9,none,.bin .lss false (.t 6) (.t 8)⟩]) (.cond (.t 9) .skip (.exit 0))) (.seq (.block 1 (.seq (.reg [⟨some 12,none,.mv (.t 0)⟩,⟨some 13,none,.mv (.t 5)⟩,⟨some 14,none,.mv (.t 1)⟩,⟨some 15,none,.iaddr 5 (.t 12) (.t 13)⟩,⟨some 16,none,.faddr 0 (.t 15)⟩,⟨none,none,(.store 1 (.t 16) (.t 14))⟩]) (.seq (.reg [⟨some 17,none,.mv (.t 1)⟩,⟨some 18,none,.bin .add false (.t 17) (.c (.int .i64 1))⟩,⟨some 1,none,.mv (.t 18)⟩]) (.seq (.reg [⟨some 19,none,.mv (.t 0)⟩,⟨some 20,none,.mv (.t 5)⟩,⟨some 21,none,.mv (.t 1)⟩,⟨some 22,none,.call 63 [(.t 21)]⟩,⟨some 23,none,.iaddr 5 (.t 19) (.t 20)⟩,⟨some 24,none,.faddr 1 (.t 23)⟩,⟨some 25,none,.faddr 0 (.t 24)⟩,⟨none,none,(.store 1 (.t 25) (.t 22))⟩]) (.seq (.reg [⟨some 26,none,.mv (.t 1)⟩,⟨some 27,none,.bin .add false (.t 26) (.c (.int .i64 1))⟩,⟨some 1,none,.mv (.t 27)⟩]) (.seq (.reg [⟨some 28,none,.mv (.t 0)⟩,⟨some 29,none,.mv (.t 5)⟩,⟨some 30,none,.iaddr 5 (.t 28) (.t 29)⟩,⟨some 31,none,.faddr 1 (.t 30)⟩,⟨some 32,none,.faddr 1 (.t 31)⟩,⟨some 33,none,.load false 1 (.t 32)⟩,⟨some 34,none,.mv (.t 1)⟩,⟨some 35,none,.call 72 [(.t 33),(.t 34)]⟩,⟨some 1,none,.mv (.t 35)⟩]) (.seq (.reg [⟨some 36,none,.mv (.t 0)⟩,⟨some 37,none,.mv (.t 5)⟩,⟨some 38,none,.mv (.t 1)⟩,⟨some 39,none,.call 63 [(.t 38)]⟩,⟨some 40,none,.iaddr 5 (.t 36) (.t 37)⟩,⟨some 41,none,.faddr 3 (.t 40)⟩,⟨none,none,(.store 1 (.t 41) (.t 39))⟩]) (.seq (.reg [⟨some 42,none,.mv (.t 1)⟩,⟨some 43,none,.bin .add false (.t 42) (.c (.int .i64 1))⟩,⟨some 1,none,.mv (.t 43)⟩]) (.reg [⟨some 44,none,.mv (.t 0)⟩,⟨some 45,none,.mv (.t 5)⟩,⟨some 46,none,.iaddr 5 (.t 44) (.t 45)⟩,⟨some 47,none,.faddr 4 (.t 46)⟩,⟨some 48,none,.load false 1 (.t 47)⟩,⟨some 49,none,.mv (.t 1)⟩,⟨some 50,none,.call 46 [(.t 48),(.t 49)]⟩,⟨some 1,none,.mv (.t 50)⟩]))))))))) (.reg [⟨some 10,none,.mv (.t 5)⟩,⟨some 11,none,.bin .add false (.t 10) (.c (.int .i64 1))⟩,⟨some 5,none,.mv (.t 11)⟩])))))) (.seq (.reg [⟨some 51,none,.mv (.t 1)⟩,⟨some 4,none,.mv (.t 51)⟩]) .ret)))
theorem Ka:codeOf Tryz.prog 46=some ⟨52,F2,[(.tmp 4)]⟩:=by kernel_rfl
theorem DA:modes 46=⟨[true],.asis,none,true⟩:=by unfold modes; rfl
abbrev Es (xs:List Fm):Prop:=∀ (k:Int) (ob:List Ob),1≤k→k+Fm.wtS xs≤1099511627776→toTree ob=[.tree (xs.map Fm.o) []]→E 46 [.ref 0,.int .i64 k] ob=some (.int .i64 (Fm.mkS xs k).2,[.tree ((Fm.mkS xs k).1.map Fm.o) []])
theorem GF (xs:List Fm) (ih:∀ x∈xs,Es x.parts):Es xs:=by
 intro k0 ob h1 h2 hob
 have hlen:ob.length=1:=by rw [←FP,hob]; rfl
 have hL:=Fm.length_wt xs
 refine Ai Ka DA (of_decide_eq_true rfl) ?_
 simp (disch:=omega) only [F2,go_sem,Ab,hob,hlen]
 refine go_loop (α:=Int × (Int) × (List Fm)) (fun a=>⟨slots 52 0 [(0,.ref 0),(1,.int .i64 (a.2.1)),(5,.int .i64 (a.1))],[.tree (((a.2.2)++xs.drop (a.1).toNat).map Fm.o) []]⟩) (fun a=>∃ k:Nat,a.1=k∧k≤(xs).length∧(a.2.2).length=k∧1≤(a.2.1)∧(a.2.1)+Fm.wtS (xs.drop k)=k0+Fm.wtS xs∧Fm.mkS xs k0=((a.2.2)++(Fm.mkS (xs.drop k) (a.2.1)).1,(Fm.mkS (xs.drop k) (a.2.1)).2)) (fun a=>(xs).length-(a.1).toNat) (0,k0,[]) ⟨0,rfl,zI _,rfl,h1,by rw [zH],by simp⟩ (by simp (disch:=omega) only [go_sem,Ab,zM]) ?_
 rintro ⟨i,kk,dn⟩ ⟨k,hi,hk,hR⟩
 dsimp only at hi hR
 have hni:i.toNat=k:=by omega
 have hni1:(i+1).toNat=k+1:=by omega
 rcases zB k (xs).length with hlt | hge
 ·obtain ⟨hd,hk1,hkn,hm⟩:=hR
  have hdr:xs.drop k=xs[k] :: xs.drop (k+1):=zC hlt
  have hel:(dn++xs.drop k).length=xs.length:=by simp; omega
  have hg:(yZ Fm.o (dn++xs.drop k))[k]?=some [.int xs[k].op,.str xs[k].atom.name,.ow (xs[k].atom.args.map Tm.o),.str xs[k].var,.ow (xs[k].parts.map Fm.o)]:=by
   rw [←Fm.o_eq,hdr,yH,yA (by omega),hd,Nat.sub_self]; rfl
  rw [hdr,Fm.wtS] at hkn
  rw [hdr,Fm.mkS] at hm
  have hn1:=Fm.wt_eq xs[k]
  have e2:=Tm.mkS_end xs[k].atom.args ((kk+1+1))
  have e4:=Fm.mkS_end xs[k].parts (((Tm.mkS xs[k].atom.args (kk+1+1)).2+1))
  have t0:=Ea (k:=(kk+1)) (by omega) (by omega)
  have c64:=N3 xs[k].atom.args ((kk+1+1)) [.tree (xs[k].atom.args.map Tm.o) []] (by omega) (by omega) rfl
  have t187:=Ea (k:=(Tm.mkS xs[k].atom.args (kk+1+1)).2) (by omega) (by omega)
  have c284:=ih xs[k] (zD hlt) (((Tm.mkS xs[k].atom.args (kk+1+1)).2+1)) [.tree (xs[k].parts.map Fm.o) []] (by omega) (by omega) rfl
  have hs:=Jf Fm.o dn (xs.drop (k+1)) xs[k] (xs[k].mk1 kk).1 hd
  rw [Fm.mk1_o,← hdr] at hs
  have hgs:∀ a,((yZ Fm.o (dn++xs.drop k)).set k a)[k]?=some a:=fun a=>yK (by rw [zE,hel]; exact hlt)
  have he:=Fm.mk1_end xs[k] kk
  have three:∀ z:Int,dec ((3:Int)=0)=false:=fun _=>Aj (by omega)
  simp (disch:=omega) only [go_sem,Ab,hni,hel,hg,t0,c64,Dz,t187,c284,DA,CS,hgs,yX,List.set_set,hs,three 0]
  refine ⟨(i+1,(xs[k].mk1 kk).2,dn++[(xs[k].mk1 kk).1]),⟨k+1,by dsimp only; omega,hlt,by dsimp only; simp [hd],by dsimp only; omega,by dsimp only; omega,by rw [hm]; simp⟩,by dsimp only; omega,?_⟩
  dsimp only
  rw [hni1,Fm.mk1_eq]
  refine ⟨⟨?_,rfl⟩,rfl⟩
  first | rfl | omega
 ·obtain ⟨hd,hk1,hkn,hm⟩:=hR
  have hdr:xs.drop k=[]:=zF hge
  rw [hdr,Fm.mkS] at hm
  rw [hm]
  simp (disch:=omega) only [go_sem,Ab,hni,hdr,yO]
theorem I5 (x:Fm):Es x.parts:=GF x.parts fun y hy=>I5 y
termination_by SizeOf.sizeOf x
decreasing_by exact Fm.lt_of_mem hy
theorem PA (xs:List Fm):Es xs:=GF xs fun y _=>I5 y
def HL:SC:=(.seq (.reg [⟨some 4,none,.mv (.c (.int .i64 0))⟩]) (.seq (.seq (.reg [⟨some 5,none,.mv (.c (.int .i64 0))⟩]) (.block 0 (.loop [1,1,0,0,0,1,0,0,0,0,0,0,0,0,0,0,0,0,0,0,0,0,0,0,0,0,0,0,0,0,0,0] (.seq (.seq (.reg [⟨some 6,none,.mv (.t 5)⟩,⟨some 7,none,.mv (.t 0)⟩,⟨some 8,none,.len false (.t 7)⟩,⟨some 9,none,.bin .lss false (.t 6) (.t 8)⟩]) (.cond (.t 9) .skip (.exit 0))) (.seq (.block 1 (.seq (.seq (.dreg [[],[],[0,1],[2,0,1],[3,2,0,1],[],[5],[4,3,2,0,1,6,5]] [⟨some 12,none,.mv (.t 0)⟩,⟨some 13,none,.mv (.t 5)⟩,⟨some 14,none,.iaddr 2 (.t 12) (.t 13)⟩,⟨some 15,none,.faddr 0 (.t 14)⟩,⟨some 16,none,.load false 1 (.t 15)⟩,⟨some 17,none,.mv (.t 1)⟩,⟨some 18,none,.call 63 [(.t 17)]⟩,⟨some 19,none,.bin .neq false (.t 16) (.t 18)⟩]) (.cond (.t 19) (.seq (.reg [⟨some 4,none,.mv (.c (.int .i64 (-(0+1))))⟩]) .ret) .skip)) (.seq (.reg [⟨some 20,none,.mv (.t 1)⟩,⟨some 21,none,.bin .add false (.t 20) (.c (.int .i64 1))⟩,⟨some 1,none,.mv (.t 21)⟩]) (.seq (.reg [⟨some 22,none,.mv (.t 0)⟩,⟨some 23,none,.mv (.t 5)⟩,⟨some 24,none,.iaddr 2 (.t 22) (.t 23)⟩,⟨some 25,none,.faddr 1 (.t 24)⟩,⟨some 26,none,.load false 1 (.t 25)⟩,⟨some 27,none,.mv (.t 1)⟩,⟨some 28,none,.call 74 [(.t 26),(.t 27)]⟩,⟨some 1,none,.mv (.t 28)⟩]) (.seq (.reg [⟨some 29,none,.mv (.t 1)⟩,⟨some 30,none,.bin .lss false (.t 29) (.c (.int .i64 0))⟩]) (.cond (.t 30) (.seq (.reg [⟨some 4,none,.mv (.c (.int .i64 (-(0+1))))⟩]) .ret) .skip)))))) (.reg [⟨some 10,none,.mv (.t 5)⟩,⟨some 11,none,.bin .add false (.t 10) (.c (.int .i64 1))⟩,⟨some 5,none,.mv (.t 11)⟩])))))) (.seq (.reg [⟨some 31,none,.mv (.t 1)⟩,⟨some 4,none,.mv (.t 31)⟩]) .ret)))
theorem MP:codeOf Tryz.prog 74=some ⟨32,HL,[(.tmp 4)]⟩:=by kernel_rfl
theorem D0:modes 74=⟨[],.asis,none,false⟩:=by unfold modes; rfl
theorem Tm.mkS_len:∀ (xs:List Tm) (k:Int),(Tm.mkS xs k).1.length=xs.length
 | [],k=>by rw [Tm.mkS]
 | x :: xs,k=>by rw [Tm.mkS]; simp only [zG]; rw [Tm.mkS_len xs]
abbrev GG (xs:List Tm):Prop:=∀ k:Int,1≤k→k+Tm.wtS xs≤1099511627776→E 74 [.arr ((Tm.mkS xs k).1.map Tm.d),.int .i64 k] []=some (.int .i64 (Tm.mkS xs k).2,[])
theorem Jo (xs:List Tm) (ih:∀ x∈xs,GG x.args):GG xs:=by
 intro k0 h1 h2
 obtain ⟨ys,hys⟩:∃ ys,ys=(Tm.mkS xs k0).1:=⟨_,rfl⟩
 have hyl:ys.length=xs.length:=by rw [hys,Tm.mkS_len]
 rw [←hys]
 have hL:=Tm.length_wt xs
 refine Ai MP D0 (of_decide_eq_true rfl) ?_
 simp (disch:=omega) only [HL,go_sem,Ab]
 refine go_loop (α:=Int × (Int)) (fun a=>⟨slots 32 0 [(0,.arr (ys.map Tm.d)),(1,.int .i64 (a.2)),(5,.int .i64 (a.1))],[]⟩) (fun a=>∃ k:Nat,a.1=k∧k≤(ys).length∧1≤(a.2)∧(a.2)+Tm.wtS (xs.drop k)=k0+Tm.wtS xs∧ys.drop k=(Tm.mkS (xs.drop k) (a.2)).1∧(Tm.mkS xs k0).2=(Tm.mkS (xs.drop k) (a.2)).2) (fun a=>(ys).length-(a.1).toNat) (0,k0) ⟨0,rfl,zI _,h1,by rw [zH],by rw [zH,zH,hys],by rw [zH]⟩ (by simp (disch:=omega) only [go_sem,Ab]) ?_
 rintro ⟨i,kk⟩ ⟨k,hi,hk,hR⟩
 dsimp only at hi hR
 have hni:i.toNat=k:=by omega
 have hni1:(i+1).toNat=k+1:=by omega
 rcases zB k (ys).length with hlt | hge
 ·obtain ⟨hk1,hkn,hy,hm⟩:=hR
  have hlx:k<xs.length:=by omega
  have hdr:xs.drop k=xs[k] :: xs.drop (k+1):=zC hlx
  have hdy:=zC hlt
  rw [hdr,Tm.wtS] at hkn
  rw [hdr,Tm.mkS] at hm
  rw [hdr,Tm.mkS,hdy] at hy
  dsimp only at hy hm
  obtain ⟨hy1,hy2⟩:=yT hy
  have hg:=get_at Tm.d hlt
  rw [hy1,Tm.mk1_d] at hg
  have hn1:=Tm.wt_eq xs[k]
  have e1:=Tm.mkS_end xs[k].args ((kk+1))
  have t0:=Ea (k:=kk) (by omega) (by omega)
  have c58:=ih xs[k] (zD hlx) ((kk+1)) (by omega) (by omega)
  have he:=Tm.mk1_end xs[k] kk
  simp (disch:=omega) only [go_sem,Ab,hni,hg,CS,DH,t0,c58,D0]
  refine ⟨(i+1,(xs[k].mk1 kk).2),⟨k+1,by dsimp only; omega,hlt,by dsimp only; omega,by dsimp only; omega,hy2,hm⟩,by dsimp only; omega,?_⟩
  dsimp only
  rw [Tm.mk1_eq]
  simp only [and_self,and_true,true_and]
  try omega
 ·obtain ⟨hk1,hkn,hy,hm⟩:=hR
  have hdr:xs.drop k=[]:=zF (by omega)
  rw [hdr,Tm.mkS] at hm
  rw [hm]
  simp (disch:=omega) only [go_sem,Ab,hni]
theorem LQ (x:Tm):GG x.args:=Jo x.args fun y hy=>LQ y
termination_by SizeOf.sizeOf x
decreasing_by exact Tm.lt_of_mem hy
theorem N4 (xs:List Tm):GG xs:=Jo xs fun y _=>LQ y
def F3:SC:=(.seq (.reg [⟨some 4,none,.mv (.c (.int .i64 0))⟩]) (.seq (.seq (.reg [⟨some 5,none,.mv (.c (.int .i64 0))⟩]) (.block 0 (.loop [1,1,0,0,0,1,0,0,0,0,0,0,0,0,0,0,0,0,0,0,0,0,0,0,0,0,0,0,0,0,0,0,0,0,0,0,0,0,0,0,0,0,0,0,0,0,0,0,0,0,0,0,0,0,0,0,0,0,0,0,0,0] (.seq (.seq (.reg [⟨some 6,none,.mv (.t 5)⟩,⟨some 7,none,.mv (.t 0)⟩,⟨some 8,none,.len false (.t 7)⟩,⟨some 9,none,.bin .lss false (.t 6) (.t 8)⟩]) (.cond (.t 9) .skip (.exit 0))) (.seq (.block 1 (.seq (.seq (.reg [⟨some 12,none,.mv (.t 0)⟩,⟨some 13,none,.mv (.t 5)⟩,⟨some 14,none,.iaddr 5 (.t 12) (.t 13)⟩,⟨some 15,none,.faddr 0 (.t 14)⟩,⟨some 16,none,.load false 1 (.t 15)⟩,⟨some 17,none,.mv (.t 1)⟩,⟨some 18,none,.bin .neq false (.t 16) (.t 17)⟩]) (.cond (.t 18) (.seq (.reg [⟨some 4,none,.mv (.c (.int .i64 (-(0+1))))⟩]) .ret) .skip)) (.seq (.reg [⟨some 19,none,.mv (.t 1)⟩,⟨some 20,none,.bin .add false (.t 19) (.c (.int .i64 1))⟩,⟨some 1,none,.mv (.t 20)⟩]) (.seq (.seq (.dreg [[],[],[0,1],[2,0,1],[3,2,0,1],[4,3,2,0,1],[],[6],[5,4,3,2,0,1,7,6]] [⟨some 21,none,.mv (.t 0)⟩,⟨some 22,none,.mv (.t 5)⟩,⟨some 23,none,.iaddr 5 (.t 21) (.t 22)⟩,⟨some 24,none,.faddr 1 (.t 23)⟩,⟨some 25,none,.faddr 0 (.t 24)⟩,⟨some 26,none,.load false 1 (.t 25)⟩,⟨some 27,none,.mv (.t 1)⟩,⟨some 28,none,.call 63 [(.t 27)]⟩,⟨some 29,none,.bin .neq false (.t 26) (.t 28)⟩]) (.cond (.t 29) (.seq (.reg [⟨some 4,none,.mv (.c (.int .i64 (-(0+1))))⟩]) .ret) .skip)) (.seq (.reg [⟨some 30,none,.mv (.t 1)⟩,⟨some 31,none,.bin .add false (.t 30) (.c (.int .i64 1))⟩,⟨some 1,none,.mv (.t 31)⟩]) (.seq (.reg [⟨some 32,none,.mv (.t 0)⟩,⟨some 33,none,.mv (.t 5)⟩,⟨some 34,none,.iaddr 5 (.t 32) (.t 33)⟩,⟨some 35,none,.faddr 1 (.t 34)⟩,⟨some 36,none,.faddr 1 (.t 35)⟩,⟨some 37,none,.load false 1 (.t 36)⟩,⟨some 38,none,.mv (.t 1)⟩,⟨some 39,none,.call 74 [(.t 37),(.t 38)]⟩,⟨some 1,none,.mv (.t 39)⟩]) (.seq (.seq (.reg [⟨some 40,none,.mv (.t 1)⟩,⟨some 41,none,.bin .lss false (.t 40) (.c (.int .i64 0))⟩]) (.cond (.t 41) (.seq (.reg [⟨some 4,none,.mv (.c (.int .i64 (-(0+1))))⟩]) .ret) .skip)) (.seq (.seq (.dreg [[],[],[0,1],[2,0,1],[3,2,0,1],[],[5],[4,3,2,0,1,6,5]] [⟨some 42,none,.mv (.t 0)⟩,⟨some 43,none,.mv (.t 5)⟩,⟨some 44,none,.iaddr 5 (.t 42) (.t 43)⟩,⟨some 45,none,.faddr 3 (.t 44)⟩,⟨some 46,none,.load false 1 (.t 45)⟩,⟨some 47,none,.mv (.t 1)⟩,⟨some 48,none,.call 63 [(.t 47)]⟩,⟨some 49,none,.bin .neq false (.t 46) (.t 48)⟩]) (.cond (.t 49) (.seq (.reg [⟨some 4,none,.mv (.c (.int .i64 (-(0+1))))⟩]) .ret) .skip)) (.seq (.reg [⟨some 50,none,.mv (.t 1)⟩,⟨some 51,none,.bin .add false (.t 50) (.c (.int .i64 1))⟩,⟨some 1,none,.mv (.t 51)⟩]) (.seq (.reg [⟨some 52,none,.mv (.t 0)⟩,⟨some 53,none,.mv (.t 5)⟩,⟨some 54,none,.iaddr 5 (.t 52) (.t 53)⟩,⟨some 55,none,.faddr 4 (.t 54)⟩,⟨some 56,none,.load false 1 (.t 55)⟩,⟨some 57,none,.mv (.t 1)⟩,⟨some 58,none,.call 65 [(.t 56),(.t 57)]⟩,⟨some 1,none,.mv (.t 58)⟩]) (.seq (.reg [⟨some 59,none,.mv (.t 1)⟩,⟨some 60,none,.bin .lss false (.t 59) (.c (.int .i64 0))⟩]) (.cond (.t 60) (.seq (.reg [⟨some 4,none,.mv (.c (.int .i64 (-(0+1))))⟩]) .ret) .skip)))))))))))) (.reg [⟨some 10,none,.mv (.t 5)⟩,⟨some 11,none,.bin .add false (.t 10) (.c (.int .i64 1))⟩,⟨some 5,none,.mv (.t 11)⟩])))))) (.seq (.reg [⟨some 61,none,.mv (.t 1)⟩,⟨some 4,none,.mv (.t 61)⟩]) .ret)))
theorem Kb:codeOf Tryz.prog 65=some ⟨62,F3,[(.tmp 4)]⟩:=by kernel_rfl
theorem DB:modes 65=⟨[],.asis,none,false⟩:=by unfold modes; rfl
theorem Fm.mkS_len:∀ (xs:List Fm) (k:Int),(Fm.mkS xs k).1.length=xs.length
 | [],k=>by rw [Fm.mkS]
 | x :: xs,k=>by rw [Fm.mkS]; simp only [zG]; rw [Fm.mkS_len xs]
abbrev Et (xs:List Fm):Prop:=∀ k:Int,1≤k→k+Fm.wtS xs≤1099511627776→E 65 [.arr ((Fm.mkS xs k).1.map Fm.d),.int .i64 k] []=some (.int .i64 (Fm.mkS xs k).2,[])
theorem GH (xs:List Fm) (ih:∀ x∈xs,Et x.parts):Et xs:=by
 intro k0 h1 h2
 obtain ⟨ys,hys⟩:∃ ys,ys=(Fm.mkS xs k0).1:=⟨_,rfl⟩
 have hyl:ys.length=xs.length:=by rw [hys,Fm.mkS_len]
 rw [←hys]
 have hL:=Fm.length_wt xs
 refine Ai Kb DB (of_decide_eq_true rfl) ?_
 simp (disch:=omega) only [F3,go_sem,Ab]
 refine go_loop (α:=Int × (Int)) (fun a=>⟨slots 62 0 [(0,.arr (ys.map Fm.d)),(1,.int .i64 (a.2)),(5,.int .i64 (a.1))],[]⟩) (fun a=>∃ k:Nat,a.1=k∧k≤(ys).length∧1≤(a.2)∧(a.2)+Fm.wtS (xs.drop k)=k0+Fm.wtS xs∧ys.drop k=(Fm.mkS (xs.drop k) (a.2)).1∧(Fm.mkS xs k0).2=(Fm.mkS (xs.drop k) (a.2)).2) (fun a=>(ys).length-(a.1).toNat) (0,k0) ⟨0,rfl,zI _,h1,by rw [zH],by rw [zH,zH,hys],by rw [zH]⟩ (by simp (disch:=omega) only [go_sem,Ab]) ?_
 rintro ⟨i,kk⟩ ⟨k,hi,hk,hR⟩
 dsimp only at hi hR
 have hni:i.toNat=k:=by omega
 have hni1:(i+1).toNat=k+1:=by omega
 rcases zB k (ys).length with hlt | hge
 ·obtain ⟨hk1,hkn,hy,hm⟩:=hR
  have hlx:k<xs.length:=by omega
  have hdr:xs.drop k=xs[k] :: xs.drop (k+1):=zC hlx
  have hdy:=zC hlt
  rw [hdr,Fm.wtS] at hkn
  rw [hdr,Fm.mkS] at hm
  rw [hdr,Fm.mkS,hdy] at hy
  dsimp only at hy hm
  obtain ⟨hy1,hy2⟩:=yT hy
  have hg:=get_at Fm.d hlt
  rw [hy1,Fm.mk1_d] at hg
  have hn1:=Fm.wt_eq xs[k]
  have e2:=Tm.mkS_end xs[k].atom.args ((kk+1+1))
  have e4:=Fm.mkS_end xs[k].parts (((Tm.mkS xs[k].atom.args (kk+1+1)).2+1))
  have t0:=Ea (k:=(kk+1)) (by omega) (by omega)
  have c64:=N4 xs[k].atom.args ((kk+1+1)) (by omega) (by omega)
  have t145:=Ea (k:=(Tm.mkS xs[k].atom.args (kk+1+1)).2) (by omega) (by omega)
  have c242:=ih xs[k] (zD hlx) (((Tm.mkS xs[k].atom.args (kk+1+1)).2+1)) (by omega) (by omega)
  have he:=Fm.mk1_end xs[k] kk
  simp (disch:=omega) only [go_sem,Ab,hni,hg,CS,DH,t0,c64,D0,t145,c242,DB]
  refine ⟨(i+1,(xs[k].mk1 kk).2),⟨k+1,by dsimp only; omega,hlt,by dsimp only; omega,by dsimp only; omega,hy2,hm⟩,by dsimp only; omega,?_⟩
  dsimp only
  rw [Fm.mk1_eq]
  simp only [and_self,and_true,true_and]
  try omega
 ·obtain ⟨hk1,hkn,hy,hm⟩:=hR
  have hdr:xs.drop k=[]:=zF (by omega)
  rw [hdr,Fm.mkS] at hm
  rw [hm]
  simp (disch:=omega) only [go_sem,Ab,hni]
theorem I6 (x:Fm):Et x.parts:=GH x.parts fun y hy=>I6 y
termination_by SizeOf.sizeOf x
decreasing_by exact Fm.lt_of_mem hy
theorem PB (xs:List Fm):Et xs:=GH xs fun y _=>I6 y
theorem S8 {o:Ob} {es:List (List OT)} (h:toTree [o]=[.tree es []]):(∃ a b,o=.row a b es)∨o=.tree es []:=by
 cases o with
 | row a b e=>obtain ⟨h1,h2⟩:=yT h; cases h1; exact .inl ⟨a,b,rfl⟩
 | tree e hs=>obtain ⟨h1,h2⟩:=yT h; cases h1; exact .inr rfl
 | _=>simp [toTree] at h
noncomputable def Tm.mkr (x:Tm) (k:Int):Tm × Int:=((Tm.mk (x.name) ((Tm.mkS x.args k).1)),(Tm.mkS x.args k).2)
def I7:SC:=(.seq (.reg [⟨some 2,none,.boxv 33 2 (.t 0)⟩,⟨some 4,none,.mv (.c (.int .i64 0))⟩]) (.seq (.reg [⟨some 5,none,.faddr 1 (.t 2)⟩,⟨some 6,none,.load false 1 (.t 5)⟩,⟨some 7,none,.mv (.t 1)⟩,⟨some 8,none,.call 72 [(.t 6),(.t 7)]⟩,⟨some 1,none,.mv (.t 8)⟩]) (.seq (.reg [⟨some 9,none,.mv (.t 1)⟩,⟨some 4,none,.mv (.t 9)⟩]) .ret)))
theorem NN:codeOf Tryz.prog 62=some ⟨10,I7,[(.tmp 4)]⟩:=by kernel_rfl
theorem I8:modes 62=⟨[true],.asis,none,false⟩:=by unfold modes; rfl
theorem W9 (x:Tm) (k:Int) (o0:Ob) (h1:1≤k) (h2:k+(Tm.wtS x.args:Nat)≤1099511627776) (t0:toTree [o0]=[.tree (x.args.map Tm.o) []]):E 62 [.agg [.str x.name,.ref 0],.int .i64 k] [o0]=some (.int .i64 (x.mkr k).2,[.tree ((Tm.mkS x.args k).1.map Tm.o) []]):=by
 have e0:=Tm.mkS_end x.args k
 rw [Tm.mkr]
 dsimp only
 have c0:=N3 x.args k [o0] (by omega) (by omega) t0
 rcases S8 t0 with ⟨a0,b0,rfl⟩ | rfl <;>
  (
  refine Ai NN I8 (of_decide_eq_true rfl) ?_
  simp (disch:=omega) only [I7,go_sem,Ab,c0,Dz])
def I9:SC:=(.seq (.reg [⟨some 2,none,.boxv 33 2 (.t 0)⟩,⟨some 4,none,.mv (.c (.int .i64 0))⟩]) (.seq (.reg [⟨some 5,none,.faddr 1 (.t 2)⟩,⟨some 6,none,.load false 1 (.t 5)⟩,⟨some 7,none,.mv (.t 1)⟩,⟨some 8,none,.call 74 [(.t 6),(.t 7)]⟩,⟨some 1,none,.mv (.t 8)⟩]) (.seq (.seq (.reg [⟨some 9,none,.mv (.t 1)⟩,⟨some 10,none,.bin .lss false (.t 9) (.c (.int .i64 0))⟩]) (.cond (.t 10) (.seq (.reg [⟨some 4,none,.mv (.c (.int .i64 (-(0+1))))⟩]) .ret) .skip)) (.seq (.reg [⟨some 11,none,.mv (.t 1)⟩,⟨some 4,none,.mv (.t 11)⟩]) .ret))))
theorem NO:codeOf Tryz.prog 64=some ⟨12,I9,[(.tmp 4)]⟩:=by kernel_rfl
theorem IA:modes 64=⟨[],.asis,none,false⟩:=by unfold modes; rfl
theorem WA (x:Tm) (k:Int) (h1:1≤k) (h2:k+(Tm.wtS x.args:Nat)≤1099511627776):E 64 [.agg [.str x.name,.arr ((Tm.mkS x.args k).1.map Tm.d)],.int .i64 k] []=some (.int .i64 (x.mkr k).2,[]):=by
 have e0:=Tm.mkS_end x.args k
 rw [Tm.mkr]
 dsimp only
 have p0:(Tm.mk (x.name) ((Tm.mkS x.args k).1)).name=x.name:=rfl
 have p1:(Tm.mk (x.name) ((Tm.mkS x.args k).1)).args=(Tm.mkS x.args k).1:=rfl
 have c0:=N4 x.args k (by omega) (by omega)
 refine Ai NO IA (of_decide_eq_true rfl) ?_
 simp (disch:=omega) only [I9,go_sem,Ab,c0,D0,p0,p1]
noncomputable def Fm.mkr (x:Fm) (k:Int):Fm × Int:=((Fm.mk (x.op) (Tm.mk (x.atom.name) ((Tm.mkS x.atom.args k).1)) (x.var) ((Fm.mkS x.parts (Tm.mkS x.atom.args k).2).1)),(Fm.mkS x.parts (Tm.mkS x.atom.args k).2).2)
def Gl:SC:=(.seq (.reg [⟨some 2,none,.boxv 36 5 (.t 0)⟩,⟨some 4,none,.mv (.c (.int .i64 0))⟩]) (.seq (.reg [⟨some 5,none,.faddr 1 (.t 2)⟩,⟨some 6,none,.load true 2 (.t 5)⟩,⟨some 7,none,.mv (.t 1)⟩,⟨some 8,none,.call 62 [(.t 6),(.t 7)]⟩,⟨some 1,none,.mv (.t 8)⟩]) (.seq (.reg [⟨some 9,none,.faddr 4 (.t 2)⟩,⟨some 10,none,.load false 1 (.t 9)⟩,⟨some 11,none,.mv (.t 1)⟩,⟨some 12,none,.call 46 [(.t 10),(.t 11)]⟩,⟨some 1,none,.mv (.t 12)⟩]) (.seq (.reg [⟨some 13,none,.mv (.t 1)⟩,⟨some 4,none,.mv (.t 13)⟩]) .ret))))
theorem Lb:codeOf Tryz.prog 17=some ⟨14,Gl,[(.tmp 4)]⟩:=by kernel_rfl
theorem Cg:modes 17=⟨[true],.asis,none,false⟩:=by unfold modes; rfl
theorem Kt (x:Fm) (k:Int) (o0 o1:Ob) (h1:1≤k) (h2:k+(Tm.wtS x.atom.args+Fm.wtS x.parts:Nat)≤1099511627776) (t0:toTree [o0]=[.tree (x.atom.args.map Tm.o) []]) (t1:toTree [o1]=[.tree (x.parts.map Fm.o) []]):E 17 [.agg [.int .i64 x.op,.str x.atom.name,.ref 0,.str x.var,.ref 1],.int .i64 k] [o0,o1]=some (.int .i64 (x.mkr k).2,[.tree ((Tm.mkS x.atom.args k).1.map Tm.o) [],.tree ((Fm.mkS x.parts (Tm.mkS x.atom.args k).2).1.map Fm.o) []]):=by
 have e0:=Tm.mkS_end x.atom.args k
 have e1:=Fm.mkS_end x.parts (Tm.mkS x.atom.args k).2
 rw [Fm.mkr]
 dsimp only
 have c0:=W9 x.atom k o0 (by omega) (by omega) t0
 rw [Tm.mkr] at c0
 dsimp only at c0
 have c1:=PA x.parts (Tm.mkS x.atom.args k).2 [o1] (by omega) (by omega) t1
 rcases S8 t0 with ⟨a0,b0,rfl⟩ | rfl <;>
 rcases S8 t1 with ⟨a1,b1,rfl⟩ | rfl <;>
  (
  refine Ai Lb Cg (of_decide_eq_true rfl) ?_
  simp (disch:=omega) only [Gl,go_sem,Ab,c0,I8,c1,DA])
def Gm:SC:=(.seq (.reg [⟨some 2,none,.boxv 36 5 (.t 0)⟩,⟨some 4,none,.mv (.c (.int .i64 0))⟩]) (.seq (.reg [⟨some 5,none,.faddr 1 (.t 2)⟩,⟨some 6,none,.load true 2 (.t 5)⟩,⟨some 7,none,.mv (.t 1)⟩,⟨some 8,none,.call 64 [(.t 6),(.t 7)]⟩,⟨some 1,none,.mv (.t 8)⟩]) (.seq (.seq (.reg [⟨some 9,none,.mv (.t 1)⟩,⟨some 10,none,.bin .lss false (.t 9) (.c (.int .i64 0))⟩]) (.cond (.t 10) (.seq (.reg [⟨some 4,none,.mv (.c (.int .i64 (-(0+1))))⟩]) .ret) .skip)) (.seq (.reg [⟨some 11,none,.faddr 4 (.t 2)⟩,⟨some 12,none,.load false 1 (.t 11)⟩,⟨some 13,none,.mv (.t 1)⟩,⟨some 14,none,.call 65 [(.t 12),(.t 13)]⟩,⟨some 1,none,.mv (.t 14)⟩]) (.seq (.seq (.reg [⟨some 15,none,.mv (.t 1)⟩,⟨some 16,none,.bin .lss false (.t 15) (.c (.int .i64 0))⟩]) (.cond (.t 16) (.seq (.reg [⟨some 4,none,.mv (.c (.int .i64 (-(0+1))))⟩]) .ret) .skip)) (.seq (.reg [⟨some 17,none,.mv (.t 1)⟩,⟨some 4,none,.mv (.t 17)⟩]) .ret))))))
theorem Lc:codeOf Tryz.prog 19=some ⟨18,Gm,[(.tmp 4)]⟩:=by kernel_rfl
theorem Ch:modes 19=⟨[],.asis,none,false⟩:=by unfold modes; rfl
theorem Qm (x:Fm) (k:Int) (h1:1≤k) (h2:k+(Tm.wtS x.atom.args+Fm.wtS x.parts:Nat)≤1099511627776):E 19 [.agg [.int .i64 x.op,.str x.atom.name,.arr ((Tm.mkS x.atom.args k).1.map Tm.d),.str x.var,.arr ((Fm.mkS x.parts (Tm.mkS x.atom.args k).2).1.map Fm.d)],.int .i64 k] []=some (.int .i64 (x.mkr k).2,[]):=by
 have e0:=Tm.mkS_end x.atom.args k
 have e1:=Fm.mkS_end x.parts (Tm.mkS x.atom.args k).2
 rw [Fm.mkr]
 dsimp only
 have p0:(Fm.mk (x.op) (Tm.mk (x.atom.name) ((Tm.mkS x.atom.args k).1)) (x.var) ((Fm.mkS x.parts (Tm.mkS x.atom.args k).2).1)).op=x.op:=rfl
 have p1:(Fm.mk (x.op) (Tm.mk (x.atom.name) ((Tm.mkS x.atom.args k).1)) (x.var) ((Fm.mkS x.parts (Tm.mkS x.atom.args k).2).1)).atom=(Tm.mk (x.atom.name) ((Tm.mkS x.atom.args k).1)):=rfl
 have p2:(Tm.mk (x.atom.name) ((Tm.mkS x.atom.args k).1)).name=x.atom.name:=rfl
 have p3:(Tm.mk (x.atom.name) ((Tm.mkS x.atom.args k).1)).args=(Tm.mkS x.atom.args k).1:=rfl
 have p4:(Fm.mk (x.op) (Tm.mk (x.atom.name) ((Tm.mkS x.atom.args k).1)) (x.var) ((Fm.mkS x.parts (Tm.mkS x.atom.args k).2).1)).var=x.var:=rfl
 have p5:(Fm.mk (x.op) (Tm.mk (x.atom.name) ((Tm.mkS x.atom.args k).1)) (x.var) ((Fm.mkS x.parts (Tm.mkS x.atom.args k).2).1)).parts=(Fm.mkS x.parts (Tm.mkS x.atom.args k).2).1:=rfl
 have c0:=WA x.atom k (by omega) (by omega)
 rw [Tm.mkr] at c0
 dsimp only at c0
 have c1:=PB x.parts (Tm.mkS x.atom.args k).2 (by omega) (by omega)
 refine Ai Lc Ch (of_decide_eq_true rfl) ?_
 simp (disch:=omega) only [Gm,go_sem,Ab,c0,IA,c1,DB,p0,p1,p2,p3,p4,p5]
def HM:SC:=(.seq (.reg [⟨some 4,none,.mv (.c (.int .i64 0))⟩]) (.seq (.reg [⟨some 6,none,.mv (.t 1)⟩,⟨some 7,none,.mv (.t 0)⟩,⟨some 8,none,.len false (.t 7)⟩,⟨some 9,none,.bin .sub false (.t 6) (.t 8)⟩,⟨some 1,none,.mv (.t 9)⟩]) (.seq (.seq (.reg [⟨some 10,none,.mv (.t 1)⟩,⟨some 11,none,.bin .lss false (.t 10) (.c (.int .i64 0))⟩]) (.cond (.t 11) (.seq (.reg [⟨some 4,none,.mv (.c (.int .i64 (-(0+1))))⟩]) .ret) .skip)) (.seq (.seq (.reg [⟨some 5,none,.mv (.c (.int .i64 0))⟩]) (.block 0 (.loop [1,1,0,0,0,1,0,0,0,0,0,0,0,0,0,0,0,0,0,0,0,0,0,0,0,0,0,0] (.seq (.seq (.reg [⟨some 12,none,.mv (.t 5)⟩,⟨some 13,none,.mv (.t 0)⟩,⟨some 14,none,.len false (.t 13)⟩,⟨some 15,none,.bin .lss false (.t 12) (.t 14)⟩]) (.cond (.t 15) .skip (.exit 0))) (.seq (.block 1 (.seq (.reg [⟨some 18,none,.mv (.t 1)⟩,⟨some 19,none,.mv (.t 0)⟩,⟨some 20,none,.mv (.t 5)⟩,⟨some 21,none,.iaddr 1 (.t 19) (.t 20)⟩,⟨some 22,none,.load false 1 (.t 21)⟩,⟨some 23,none,.len true (.t 22)⟩,⟨some 24,none,.bin .sub false (.t 18) (.t 23)⟩,⟨some 1,none,.mv (.t 24)⟩]) (.seq (.reg [⟨some 25,none,.mv (.t 1)⟩,⟨some 26,none,.bin .lss false (.t 25) (.c (.int .i64 0))⟩]) (.cond (.t 26) (.seq (.reg [⟨some 4,none,.mv (.c (.int .i64 (-(0+1))))⟩]) .ret) .skip)))) (.reg [⟨some 16,none,.mv (.t 5)⟩,⟨some 17,none,.bin .add false (.t 16) (.c (.int .i64 1))⟩,⟨some 5,none,.mv (.t 17)⟩])))))) (.seq (.reg [⟨some 27,none,.mv (.t 1)⟩,⟨some 4,none,.mv (.t 27)⟩]) .ret)))))
theorem MQ:codeOf Tryz.prog 10=some ⟨28,HM,[(.tmp 4)]⟩:=by kernel_rfl
theorem BX:modes 10=⟨[],.asis,none,false⟩:=by unfold modes; rfl
abbrev Us (xs:List ByteArray):Prop:=D.fit (.arr (xs.map (fun s=>[D.str s])))→∀ left:Int,0≤left→left≤1048576→E 10 [.arr (xs.map (fun s=>[D.str s])),.int .i64 left] []=some (.int .i64 (szR left ((xs.length+HY xs):Nat)),[])
theorem Ut (xs:List ByteArray):Us xs:=by
  intro hfit left h0 h1
  simp only [D.fit,zE] at hfit
  have q0:=AW left (xs.length+HY xs)
  refine Ai MQ BX (of_decide_eq_true rfl) ?_
  simp (disch:=omega) only [HM,go_sem,Ab]
  repeat' (refine Cq (fun hq=>?_) (fun hq=>?_) <;> (first | replace hq:=Ao.1 hq | replace hq:=Cj.1 hq) <;> (try simp (disch:=omega) only [go_sem,Ab]))
  · omega
  refine go_loop (α:=Int × Int) (fun a=>⟨slots 28 0 [(0,.arr (xs.map (fun s=>[D.str s]))),(1,.int .i64 a.2),(5,.int .i64 a.1)],[]⟩) (fun a=>∃ k:Nat,a.1=k∧k≤xs.length∧0≤a.2∧a.2≤1048576∧szR a.2 (HY (xs.drop k))=szR left (xs.length+HY xs:Nat)) (fun a=>xs.length-a.1.toNat) (0,left-xs.length) ⟨0,rfl,zI _,by omega,by omega,?_⟩ (by simp (disch:=omega) only [go_sem,Ab]) ?_
  · have q1:=AW (left-xs.length) (HY xs)
    rw [zH]
    dsimp only
    omega
  · rintro ⟨i,l⟩ ⟨k,hi,hk,hl0,hl1,hs⟩
    dsimp only at hi hl0 hl1 hs
    rcases zB k xs.length with hlt | hge
    · have hg:=get_at (fun s=>[D.str s]) hlt
      have hd:HY (xs.drop k)=xs[k].size+HY (xs.drop (k+1)):=by rw [zC hlt,HY]
      rw [hd] at hs
      have hfk:=D.JM hfit.2 _ (zD hlt)
      simp only [D.fits,D.fit,and_true] at hfk
      have q2:=AW l (xs[k].size+HY (xs.drop (k+1)))
      have q3:=AW (l-xs[k].size) (HY (xs.drop (k+1)))
      have hn:i.toNat=k:=by omega
      simp (disch:=omega) only [go_sem,Ab,hn,hg]
      repeat' (refine Cq (fun hq=>?_) (fun hq=>?_) <;> (first | replace hq:=Ao.1 hq | replace hq:=Cj.1 hq) <;> (try simp (disch:=omega) only [go_sem,Ab]))
      · omega
      · refine ⟨(i+1,l-xs[k].size),⟨k+1,by dsimp only; omega,hlt,by dsimp only; omega,by dsimp only; omega,by dsimp only; omega⟩,by dsimp only; omega,?_⟩
        simp only [and_self]
    · have hd:xs.drop k=[]:=zF hge
      rw [hd] at hs
      have q1:=AW l (HY [])
      simp only [HY] at hs q1
      simp (disch:=omega) only [go_sem,Ab]
      omega
def Ku:SC:=(.seq (.reg [⟨some 2,none,.boxv 24 2 (.t 0)⟩,⟨some 4,none,.mv (.c (.int .i64 0))⟩]) (.seq (.reg [⟨some 5,none,.mv (.t 1)⟩,⟨some 6,none,.faddr 0 (.t 2)⟩,⟨some 7,none,.load false 1 (.t 6)⟩,⟨some 8,none,.len true (.t 7)⟩,⟨some 9,none,.bin .sub false (.t 5) (.t 8)⟩,⟨some 1,none,.mv (.t 9)⟩]) (.seq (.seq (.reg [⟨some 10,none,.mv (.t 1)⟩,⟨some 11,none,.bin .lss false (.t 10) (.c (.int .i64 0))⟩]) (.cond (.t 11) (.seq (.reg [⟨some 4,none,.mv (.c (.int .i64 (-(0+1))))⟩]) .ret) .skip)) (.seq (.reg [⟨some 12,none,.faddr 1 (.t 2)⟩,⟨some 13,none,.load false 1 (.t 12)⟩,⟨some 14,none,.mv (.t 1)⟩,⟨some 15,none,.call 107 [(.t 13),(.t 14)]⟩,⟨some 1,none,.mv (.t 15)⟩]) (.seq (.seq (.reg [⟨some 16,none,.mv (.t 1)⟩,⟨some 17,none,.bin .lss false (.t 16) (.c (.int .i64 0))⟩]) (.cond (.t 17) (.seq (.reg [⟨some 4,none,.mv (.c (.int .i64 (-(0+1))))⟩]) .ret) .skip)) (.seq (.reg [⟨some 18,none,.mv (.t 1)⟩,⟨some 4,none,.mv (.t 18)⟩]) .ret))))))
theorem Qn:codeOf Tryz.prog 47=some ⟨19,Ku,[(.tmp 4)]⟩:=by kernel_rfl
theorem Fa:modes 47=⟨[],.asis,none,false⟩:=by unfold modes; rfl
def Jp:SC:=(.seq (.reg [⟨some 4,none,.mv (.c (.int .i64 0))⟩]) (.seq (.reg [⟨some 6,none,.mv (.t 1)⟩,⟨some 7,none,.mv (.t 0)⟩,⟨some 8,none,.len false (.t 7)⟩,⟨some 9,none,.bin .sub false (.t 6) (.t 8)⟩,⟨some 1,none,.mv (.t 9)⟩]) (.seq (.seq (.reg [⟨some 10,none,.mv (.t 1)⟩,⟨some 11,none,.bin .lss false (.t 10) (.c (.int .i64 0))⟩]) (.cond (.t 11) (.seq (.reg [⟨some 4,none,.mv (.c (.int .i64 (-(0+1))))⟩]) .ret) .skip)) (.seq (.seq (.reg [⟨some 5,none,.mv (.c (.int .i64 0))⟩]) (.block 0 (.loop [1,1,0,0,0,1,0,0,0,0,0,0,0,0,0,0,0,0,0,0,0,0,0,0,0,0,0] (.seq (.seq (.reg [⟨some 12,none,.mv (.t 5)⟩,⟨some 13,none,.mv (.t 0)⟩,⟨some 14,none,.len false (.t 13)⟩,⟨some 15,none,.bin .lss false (.t 12) (.t 14)⟩]) (.cond (.t 15) .skip (.exit 0))) (.seq (.block 1 (.seq (.reg [⟨some 18,none,.mv (.t 0)⟩,⟨some 19,none,.mv (.t 5)⟩,⟨some 20,none,.iaddr 2 (.t 18) (.t 19)⟩,⟨some 21,none,.load true 2 (.t 20)⟩,⟨some 22,none,.mv (.t 1)⟩,⟨some 23,none,.call 47 [(.t 21),(.t 22)]⟩,⟨some 1,none,.mv (.t 23)⟩]) (.seq (.reg [⟨some 24,none,.mv (.t 1)⟩,⟨some 25,none,.bin .lss false (.t 24) (.c (.int .i64 0))⟩]) (.cond (.t 25) (.seq (.reg [⟨some 4,none,.mv (.c (.int .i64 (-(0+1))))⟩]) .ret) .skip)))) (.reg [⟨some 16,none,.mv (.t 5)⟩,⟨some 17,none,.bin .add false (.t 16) (.c (.int .i64 1))⟩,⟨some 5,none,.mv (.t 17)⟩])))))) (.seq (.reg [⟨some 26,none,.mv (.t 1)⟩,⟨some 4,none,.mv (.t 26)⟩]) .ret)))))
theorem PC:codeOf Tryz.prog 107=some ⟨27,Jp,[(.tmp 4)]⟩:=by kernel_rfl
theorem Gn:modes 107=⟨[],.asis,none,false⟩:=by unfold modes; rfl
abbrev LR (x:Tm):Prop:=D.fits x.d→∀ left:Int,0≤left→left≤1048576→E 47 [x.sv,.int .i64 left] []=some (.int .i64 (szR left x.bulk),[])
abbrev Ry (xs:List Tm):Prop:=D.fit (.arr (xs.map Tm.d))→∀ left:Int,0≤left→left≤1048576→E 107 [.arr (xs.map Tm.d),.int .i64 left] []=some (.int .i64 (szR left (xs.length+Tm.sumB xs:Nat)),[])
theorem S9 (xs:List Tm) (h:∀ x∈xs,LR x):Ry xs:=by
  intro hfit left h0 h1
  simp only [D.fit,zE] at hfit
  have q0:=AW left (xs.length+Tm.sumB xs)
  refine Ai PC Gn (of_decide_eq_true rfl) ?_
  simp (disch:=omega) only [Jp,go_sem,Ab]
  repeat' (refine Cq (fun hq=>?_) (fun hq=>?_) <;> (first | replace hq:=Ao.1 hq | replace hq:=Cj.1 hq) <;> (try simp (disch:=omega) only [go_sem,Ab]))
  · omega
  refine go_loop (α:=Int × Int) (fun a=>⟨slots 27 0 [(0,.arr (xs.map Tm.d)),(1,.int .i64 a.2),(5,.int .i64 a.1)],[]⟩) (fun a=>∃ k:Nat,a.1=k∧k≤xs.length∧0≤a.2∧a.2≤1048576∧szR a.2 (Tm.sumB (xs.drop k))=szR left (xs.length+Tm.sumB xs:Nat)) (fun a=>xs.length-a.1.toNat) (0,left-xs.length) ⟨0,rfl,zI _,by omega,by omega,?_⟩ (by simp (disch:=omega) only [go_sem,Ab]) ?_
  · have q1:=AW (left-xs.length) (Tm.sumB xs)
    rw [zH]
    dsimp only
    omega
  · rintro ⟨i,l⟩ ⟨k,hi,hk,hl0,hl1,hs⟩
    dsimp only at hi hl0 hl1 hs
    rcases zB k xs.length with hlt | hge
    · have hg:=get_at Tm.d hlt
      rw [Tm.d_eq] at hg
      have hd:Tm.sumB (xs.drop k)=xs[k].bulk+Tm.sumB (xs.drop (k+1)):=by rw [zC hlt,Tm.sumB]
      rw [hd] at hs
      have hc:=h xs[k] (zD hlt) (D.JM hfit.2 _ (zD hlt)) l hl0 hl1
      have q1:=AW l xs[k].bulk
      have q2:=AW l (xs[k].bulk+Tm.sumB (xs.drop (k+1)))
      have q3:=AW (l-xs[k].bulk) (Tm.sumB (xs.drop (k+1)))
      have hn:i.toNat=k:=by omega
      simp (disch:=omega) only [go_sem,Ab,hn,hg,hc,Fa]
      repeat' (refine Cq (fun hq=>?_) (fun hq=>?_) <;> (first | replace hq:=Ao.1 hq | replace hq:=Cj.1 hq) <;> (try simp (disch:=omega) only [go_sem,Ab]))
      · omega
      · refine ⟨(i+1,l-xs[k].bulk),⟨k+1,by dsimp only; omega,hlt,by dsimp only; omega,by dsimp only; omega,by dsimp only; omega⟩,by dsimp only; omega,?_⟩
        have e:szR l xs[k].bulk=l-xs[k].bulk:=by omega
        simp only [e,and_self]
    · have hd:xs.drop k=[]:=zF hge
      rw [hd] at hs
      have q1:=AW l (Tm.sumB [])
      simp only [Tm.sumB] at hs q1
      simp (disch:=omega) only [go_sem,Ab]
      omega
theorem Uu (x:Tm) (h_args:Ry x.args):LR x:=by
 intro hfit left h0 h1
 rw [Tm.d_eq] at hfit
 simp only [D.fits,D.fit] at hfit
 replace h_args:=h_args (by simp only [D.fit,zE]; simp only [zE] at hfit; simp only [hfit,and_self])
 have q:=AW left x.bulk
 have qb:=Tm.bulk_eq x
 have q0:=AW (left-(x.name.size:Int)) ((x.args.length+Tm.sumB x.args))
 refine Ai Qn Fa (of_decide_eq_true rfl) ?_
 simp (disch:=omega) only [Ku,go_sem,Ab,h_args,Gn]
 repeat' (refine Cq (fun hq=>?_) (fun hq=>?_) <;> (first | replace hq:=Ao.1 hq | replace hq:=Cj.1 hq) <;> (try simp (disch:=omega) only [go_sem,Ab,h_args,Gn]))
 all_goals omega
theorem Uv (x:Tm):LR x:=Uu x (S9 x.args fun y hy=>Uv y)
termination_by SizeOf.sizeOf x
decreasing_by exact Tm.lt_of_mem hy
def HN:SC:=(.seq (.reg [⟨some 2,none,.boxv 27 5 (.t 0)⟩,⟨some 4,none,.mv (.c (.int .i64 0))⟩]) (.seq (.reg [⟨some 5,none,.faddr 1 (.t 2)⟩,⟨some 6,none,.load true 2 (.t 5)⟩,⟨some 7,none,.mv (.t 1)⟩,⟨some 8,none,.call 47 [(.t 6),(.t 7)]⟩,⟨some 1,none,.mv (.t 8)⟩]) (.seq (.seq (.reg [⟨some 9,none,.mv (.t 1)⟩,⟨some 10,none,.bin .lss false (.t 9) (.c (.int .i64 0))⟩]) (.cond (.t 10) (.seq (.reg [⟨some 4,none,.mv (.c (.int .i64 (-(0+1))))⟩]) .ret) .skip)) (.seq (.reg [⟨some 11,none,.mv (.t 1)⟩,⟨some 12,none,.faddr 3 (.t 2)⟩,⟨some 13,none,.load false 1 (.t 12)⟩,⟨some 14,none,.len true (.t 13)⟩,⟨some 15,none,.bin .sub false (.t 11) (.t 14)⟩,⟨some 1,none,.mv (.t 15)⟩]) (.seq (.seq (.reg [⟨some 16,none,.mv (.t 1)⟩,⟨some 17,none,.bin .lss false (.t 16) (.c (.int .i64 0))⟩]) (.cond (.t 17) (.seq (.reg [⟨some 4,none,.mv (.c (.int .i64 (-(0+1))))⟩]) .ret) .skip)) (.seq (.reg [⟨some 18,none,.faddr 4 (.t 2)⟩,⟨some 19,none,.load false 1 (.t 18)⟩,⟨some 20,none,.mv (.t 1)⟩,⟨some 21,none,.call 41 [(.t 19),(.t 20)]⟩,⟨some 1,none,.mv (.t 21)⟩]) (.seq (.seq (.reg [⟨some 22,none,.mv (.t 1)⟩,⟨some 23,none,.bin .lss false (.t 22) (.c (.int .i64 0))⟩]) (.cond (.t 23) (.seq (.reg [⟨some 4,none,.mv (.c (.int .i64 (-(0+1))))⟩]) .ret) .skip)) (.seq (.reg [⟨some 24,none,.mv (.t 1)⟩,⟨some 4,none,.mv (.t 24)⟩]) .ret))))))))
theorem MR:codeOf Tryz.prog 9=some ⟨25,HN,[(.tmp 4)]⟩:=by kernel_rfl
theorem Bs:modes 9=⟨[],.asis,none,false⟩:=by unfold modes; rfl
def GI:SC:=(.seq (.reg [⟨some 4,none,.mv (.c (.int .i64 0))⟩]) (.seq (.reg [⟨some 6,none,.mv (.t 1)⟩,⟨some 7,none,.mv (.t 0)⟩,⟨some 8,none,.len false (.t 7)⟩,⟨some 9,none,.bin .sub false (.t 6) (.t 8)⟩,⟨some 1,none,.mv (.t 9)⟩]) (.seq (.seq (.reg [⟨some 10,none,.mv (.t 1)⟩,⟨some 11,none,.bin .lss false (.t 10) (.c (.int .i64 0))⟩]) (.cond (.t 11) (.seq (.reg [⟨some 4,none,.mv (.c (.int .i64 (-(0+1))))⟩]) .ret) .skip)) (.seq (.seq (.reg [⟨some 5,none,.mv (.c (.int .i64 0))⟩]) (.block 0 (.loop [1,1,0,0,0,1,0,0,0,0,0,0,0,0,0,0,0,0,0,0,0,0,0,0,0,0,0] (.seq (.seq (.reg [⟨some 12,none,.mv (.t 5)⟩,⟨some 13,none,.mv (.t 0)⟩,⟨some 14,none,.len false (.t 13)⟩,⟨some 15,none,.bin .lss false (.t 12) (.t 14)⟩]) (.cond (.t 15) .skip (.exit 0))) (.seq (.block 1 (.seq (.reg [⟨some 18,none,.mv (.t 0)⟩,⟨some 19,none,.mv (.t 5)⟩,⟨some 20,none,.iaddr 5 (.t 18) (.t 19)⟩,⟨some 21,none,.load true 5 (.t 20)⟩,⟨some 22,none,.mv (.t 1)⟩,⟨some 23,none,.call 9 [(.t 21),(.t 22)]⟩,⟨some 1,none,.mv (.t 23)⟩]) (.seq (.reg [⟨some 24,none,.mv (.t 1)⟩,⟨some 25,none,.bin .lss false (.t 24) (.c (.int .i64 0))⟩]) (.cond (.t 25) (.seq (.reg [⟨some 4,none,.mv (.c (.int .i64 (-(0+1))))⟩]) .ret) .skip)))) (.reg [⟨some 16,none,.mv (.t 5)⟩,⟨some 17,none,.bin .add false (.t 16) (.c (.int .i64 1))⟩,⟨some 5,none,.mv (.t 17)⟩])))))) (.seq (.reg [⟨some 26,none,.mv (.t 1)⟩,⟨some 4,none,.mv (.t 26)⟩]) .ret)))))
theorem LS:codeOf Tryz.prog 41=some ⟨27,GI,[(.tmp 4)]⟩:=by kernel_rfl
theorem Eu:modes 41=⟨[],.asis,none,false⟩:=by unfold modes; rfl
abbrev Jq (x:Fm):Prop:=D.fits x.d→∀ left:Int,0≤left→left≤1048576→E 9 [x.sv,.int .i64 left] []=some (.int .i64 (szR left x.bulk),[])
abbrev LT (xs:List Fm):Prop:=D.fit (.arr (xs.map Fm.d))→∀ left:Int,0≤left→left≤1048576→E 41 [.arr (xs.map Fm.d),.int .i64 left] []=some (.int .i64 (szR left (xs.length+Fm.sumB xs:Nat)),[])
theorem NP (xs:List Fm) (h:∀ x∈xs,Jq x):LT xs:=by
  intro hfit left h0 h1
  simp only [D.fit,zE] at hfit
  have q0:=AW left (xs.length+Fm.sumB xs)
  refine Ai LS Eu (of_decide_eq_true rfl) ?_
  simp (disch:=omega) only [GI,go_sem,Ab]
  repeat' (refine Cq (fun hq=>?_) (fun hq=>?_) <;> (first | replace hq:=Ao.1 hq | replace hq:=Cj.1 hq) <;> (try simp (disch:=omega) only [go_sem,Ab]))
  · omega
  refine go_loop (α:=Int × Int) (fun a=>⟨slots 27 0 [(0,.arr (xs.map Fm.d)),(1,.int .i64 a.2),(5,.int .i64 a.1)],[]⟩) (fun a=>∃ k:Nat,a.1=k∧k≤xs.length∧0≤a.2∧a.2≤1048576∧szR a.2 (Fm.sumB (xs.drop k))=szR left (xs.length+Fm.sumB xs:Nat)) (fun a=>xs.length-a.1.toNat) (0,left-xs.length) ⟨0,rfl,zI _,by omega,by omega,?_⟩ (by simp (disch:=omega) only [go_sem,Ab]) ?_
  · have q1:=AW (left-xs.length) (Fm.sumB xs)
    rw [zH]
    dsimp only
    omega
  · rintro ⟨i,l⟩ ⟨k,hi,hk,hl0,hl1,hs⟩
    dsimp only at hi hl0 hl1 hs
    rcases zB k xs.length with hlt | hge
    · have hg:=get_at Fm.d hlt
      rw [Fm.d_eq] at hg
      have hd:Fm.sumB (xs.drop k)=xs[k].bulk+Fm.sumB (xs.drop (k+1)):=by rw [zC hlt,Fm.sumB]
      rw [hd] at hs
      have hc:=h xs[k] (zD hlt) (D.JM hfit.2 _ (zD hlt)) l hl0 hl1
      have q1:=AW l xs[k].bulk
      have q2:=AW l (xs[k].bulk+Fm.sumB (xs.drop (k+1)))
      have q3:=AW (l-xs[k].bulk) (Fm.sumB (xs.drop (k+1)))
      have hn:i.toNat=k:=by omega
      simp (disch:=omega) only [go_sem,Ab,hn,hg,hc,Bs]
      repeat' (refine Cq (fun hq=>?_) (fun hq=>?_) <;> (first | replace hq:=Ao.1 hq | replace hq:=Cj.1 hq) <;> (try simp (disch:=omega) only [go_sem,Ab]))
      · omega
      · refine ⟨(i+1,l-xs[k].bulk),⟨k+1,by dsimp only; omega,hlt,by dsimp only; omega,by dsimp only; omega,by dsimp only; omega⟩,by dsimp only; omega,?_⟩
        have e:szR l xs[k].bulk=l-xs[k].bulk:=by omega
        simp only [e,and_self]
    · have hd:xs.drop k=[]:=zF hge
      rw [hd] at hs
      have q1:=AW l (Fm.sumB [])
      simp only [Fm.sumB] at hs q1
      simp (disch:=omega) only [go_sem,Ab]
      omega
theorem PD (x:Fm) (h_atom:LR x.atom) (h_parts:LT x.parts):Jq x:=by
 intro hfit left h0 h1
 rw [Fm.d_eq] at hfit
 simp only [D.fits,D.fit] at hfit
 replace h_atom:=h_atom (by rw [Tm.d_eq]; simp only [D.fits,D.fit,hfit,and_self])
 replace h_parts:=h_parts (by simp only [D.fit,zE]; simp only [zE] at hfit; simp only [hfit,and_self])
 have q:=AW left x.bulk
 have qb:=Fm.bulk_eq x
 have q0:=AW left (x.atom.bulk)
 have q41:=AW ((szR left (x.atom.bulk:Nat))-(x.var.size:Int)) ((x.parts.length+Fm.sumB x.parts))
 refine Ai MR Bs (of_decide_eq_true rfl) ?_
 simp (disch:=omega) only [HN,go_sem,Ab,h_atom,Fa,h_parts,Eu]
 repeat' (refine Cq (fun hq=>?_) (fun hq=>?_) <;> (first | replace hq:=Ao.1 hq | replace hq:=Cj.1 hq) <;> (try simp (disch:=omega) only [go_sem,Ab,h_atom,Fa,h_parts,Eu]))
 all_goals omega
theorem N5 (x:Fm):Jq x:=PD x (Uv x.atom) (NP x.parts fun y hy=>N5 y)
termination_by SizeOf.sizeOf x
decreasing_by exact Fm.lt_of_mem hy
def HO:SC:=(.seq (.reg [⟨some 2,none,.mv (.c .nil)⟩]) (.seq (.reg [⟨some 5,none,.mv (.t 0)⟩,⟨some 6,none,.len false (.t 5)⟩,⟨(some 7),none,(.mkslice 9 1 16 [(.str ⟨#[]⟩)] (.t 6))⟩,⟨some 3,none,.mv (.t 7)⟩]) (.seq (.seq (.reg [⟨some 4,none,.mv (.c (.int .i64 0))⟩]) (.block 0 (.loop [1,0,0,1,1,0,0,0,0,0,0,0,0,0,0,0,0,0,0,0,0,0] (.seq (.seq (.reg [⟨some 8,none,.mv (.t 4)⟩,⟨some 9,none,.mv (.t 0)⟩,⟨some 10,none,.len false (.t 9)⟩,⟨some 11,none,.bin .lss false (.t 8) (.t 10)⟩]) (.cond (.t 11) .skip (.exit 0))) (.seq (.block 1 (.reg [⟨some 14,none,.mv (.t 3)⟩,⟨some 15,none,.mv (.t 4)⟩,⟨some 16,none,.mv (.t 0)⟩,⟨some 17,none,.mv (.t 4)⟩,⟨some 18,none,.iaddr 1 (.t 16) (.t 17)⟩,⟨some 19,none,.load false 1 (.t 18)⟩,⟨some 20,none,.iaddr 1 (.t 14) (.t 15)⟩,⟨none,none,(.store 1 (.t 20) (.t 19))⟩])) (.reg [⟨some 12,none,.mv (.t 4)⟩,⟨some 13,none,.bin .add false (.t 12) (.c (.int .i64 1))⟩,⟨some 4,none,.mv (.t 13)⟩])))))) (.seq (.reg [⟨some 21,none,.mv (.t 3)⟩,⟨some 2,none,.mv (.t 21)⟩]) .ret))))
theorem MS:codeOf Tryz.prog 13=some ⟨22,HO,[(.tmp 2)]⟩:=by kernel_rfl
theorem C6:modes 13=⟨[],.asis,none,false⟩:=by unfold modes; rfl
abbrev Uw (xs:List ByteArray):Prop:=xs.length+HY xs≤1048576→E 13 [.arr (xs.map (fun s=>[D.str s]))] []=some (.ref 0,[.row 9 1 (xs.map (fun s=>[OT.str s]))])
theorem Ux (xs:List ByteArray):Uw xs:=by
 intro hb
 refine Ai MS C6 (of_decide_eq_true rfl) ?_
 simp (disch:=omega) only [HO,go_sem,Ab]
 refine go_loop (α:=Int) (fun i=>⟨slots 22 0 [(0,.arr (xs.map (fun s=>[D.str s]))),(3,.ref 0),(4,.int .i64 i)],[.row 9 1 (E5 (fun s=>[OT.str s]) [.str ⟨#[]⟩] xs i.toNat)]⟩) (fun i=>∃ k:Nat,i=k∧k≤xs.length) (fun i=>xs.length-i.toNat) 0 ⟨0,rfl,zI _⟩ (by simp (disch:=omega) only [go_sem,Ab,FX,zM]) ?_
 ·rintro i ⟨k,rfl,hk⟩
  obtain ⟨i,hi⟩:∃ i:Int,i=(k:Int):=⟨_,rfl⟩
  rw [←hi]
  have hn:i.toNat=k:=by omega
  have hn1:(i+1).toNat=k+1:=by omega
  rcases zB k xs.length with hlt | hge
  ·have hg:=get_at (fun s=>[D.str s]) hlt
   have hz:=H8 (fun s=>[OT.str s]) [.str ⟨#[]⟩] hlt
   have hs:=H9 (fun s=>[OT.str s]) [.str ⟨#[]⟩] hlt
   simp (disch:=omega) only [go_sem,Ab,hn,hg,hz,H6]
   refine ⟨i+1,⟨k+1,by omega,hlt⟩,by omega,?_⟩
   simp (disch:=omega) only [go_sem,Ab,hn1,hs]
  ·obtain rfl:k=xs.length:=by omega
   simp (disch:=omega) only [go_sem,Ab,hn,H7]
def Kv:SC:=(.seq (.reg [⟨some 1,none,.boxv 24 2 (.t 0)⟩,⟨(some 2),none,(.alloc 33 [(.str ⟨#[]⟩),.nil])⟩]) (.seq (.reg [⟨(some 3),none,(.alloc 33 [(.str ⟨#[]⟩),.nil])⟩]) (.seq (.reg [⟨some 4,none,.faddr 0 (.t 1)⟩,⟨some 5,none,.load false 1 (.t 4)⟩,⟨some 6,none,.faddr 0 (.t 3)⟩,⟨none,none,(.store 1 (.t 6) (.t 5))⟩]) (.seq (.reg [⟨some 7,none,.faddr 1 (.t 1)⟩,⟨some 8,none,.load false 1 (.t 7)⟩,⟨some 9,none,.call 115 [(.t 8)]⟩,⟨some 10,none,.faddr 1 (.t 3)⟩,⟨none,none,(.store 1 (.t 10) (.t 9))⟩]) (.seq (.reg [⟨some 11,none,.load true 2 (.t 3)⟩,⟨none,none,(.store 2 (.t 2) (.t 11))⟩]) .ret)))))
theorem Qo:codeOf Tryz.prog 52=some ⟨12,Kv,[(.cell 2 true 2)]⟩:=by kernel_rfl
theorem Hi:modes 52=⟨[],.asis,none,false⟩:=by unfold modes; rfl
def Jr:SC:=(.seq (.reg [⟨some 2,none,.mv (.c .nil)⟩]) (.seq (.reg [⟨some 5,none,.mv (.t 0)⟩,⟨some 6,none,.len false (.t 5)⟩,⟨(some 7),none,(.mkslice 33 2 40 [(.str ⟨#[]⟩),.nil] (.t 6))⟩,⟨some 3,none,.mv (.t 7)⟩]) (.seq (.seq (.reg [⟨some 4,none,.mv (.c (.int .i64 0))⟩]) (.block 0 (.loop [1,0,0,1,1,0,0,0,0,0,0,0,0,0,0,0,0,0,0,0,0,0,0] (.seq (.seq (.reg [⟨some 8,none,.mv (.t 4)⟩,⟨some 9,none,.mv (.t 0)⟩,⟨some 10,none,.len false (.t 9)⟩,⟨some 11,none,.bin .lss false (.t 8) (.t 10)⟩]) (.cond (.t 11) .skip (.exit 0))) (.seq (.block 1 (.reg [⟨some 14,none,.mv (.t 3)⟩,⟨some 15,none,.mv (.t 4)⟩,⟨some 16,none,.mv (.t 0)⟩,⟨some 17,none,.mv (.t 4)⟩,⟨some 18,none,.iaddr 2 (.t 16) (.t 17)⟩,⟨some 19,none,.load true 2 (.t 18)⟩,⟨some 20,none,.call 52 [(.t 19)]⟩,⟨some 21,none,.iaddr 2 (.t 14) (.t 15)⟩,⟨none,none,(.store 2 (.t 21) (.t 20))⟩])) (.reg [⟨some 12,none,.mv (.t 4)⟩,⟨some 13,none,.bin .add false (.t 12) (.c (.int .i64 1))⟩,⟨some 4,none,.mv (.t 13)⟩])))))) (.seq (.reg [⟨some 22,none,.mv (.t 3)⟩,⟨some 2,none,.mv (.t 22)⟩]) .ret))))
theorem PE:codeOf Tryz.prog 115=some ⟨23,Jr,[(.tmp 2)]⟩:=by kernel_rfl
theorem Js:modes 115=⟨[],.asis,none,false⟩:=by unfold modes; rfl
abbrev LU (x:Tm):Prop:=x.bulk≤1048576→E 52 [x.sv] []=some (x.osv,x.obs)
abbrev Rz (xs:List Tm):Prop:=xs.length+Tm.sumB xs≤1048576→E 115 [.arr (xs.map Tm.d)] []=some (.ref 0,[.row 33 2 (xs.map Tm.o)])
theorem SA (xs:List Tm) (h:∀ x∈xs,LU x):Rz xs:=by
 intro hb
 refine Ai PE Js (of_decide_eq_true rfl) ?_
 simp (disch:=omega) only [Jr,go_sem,Ab]
 refine go_loop (α:=Int) (fun i=>⟨slots 23 0 [(0,.arr (xs.map Tm.d)),(3,.ref 0),(4,.int .i64 i)],[.row 33 2 (E5 Tm.o [.str ⟨#[]⟩,.ow []] xs i.toNat)]⟩) (fun i=>∃ k:Nat,i=k∧k≤xs.length) (fun i=>xs.length-i.toNat) 0 ⟨0,rfl,zI _⟩ (by simp (disch:=omega) only [go_sem,Ab,FX,zM]) ?_
 ·rintro i ⟨k,rfl,hk⟩
  obtain ⟨i,hi⟩:∃ i:Int,i=(k:Int):=⟨_,rfl⟩
  rw [←hi]
  have hn:i.toNat=k:=by omega
  have hn1:(i+1).toNat=k+1:=by omega
  rcases zB k xs.length with hlt | hge
  ·have hg:=get_at Tm.d hlt
   rw [Tm.d_eq] at hg
   have hz:=H8 Tm.o [.str ⟨#[]⟩,.ow []] hlt
   have hle:=Tm.bulk_le xs k hlt
   have hc:=h xs[k] (zD hlt) (by omega)
   have hs:=H9 Tm.o [.str ⟨#[]⟩,.ow []] hlt
   rw [Tm.o_eq] at hs
   simp (disch:=omega) only [go_sem,Ab,hn,hg,hc,hz,H6,Hi,Tm.osv,Tm.obs]
   refine ⟨i+1,⟨k+1,by omega,hlt⟩,by omega,?_⟩
   simp (disch:=omega) only [go_sem,Ab,hn1,hs]
  ·obtain rfl:k=xs.length:=by omega
   simp (disch:=omega) only [go_sem,Ab,hn,H7]
theorem Uy (x:Tm) (h_args:Rz x.args):LU x:=by
 intro hb
 have qb:=Tm.bulk_eq x
 replace h_args:=h_args (by omega)
 refine Ai Qo Hi (of_decide_eq_true rfl) ?_
 simp (disch:=omega) only [Kv,go_sem,Ab,h_args,Js]
theorem Uz (x:Tm):LU x:=Uy x (SA x.args fun y hy=>Uz y)
termination_by SizeOf.sizeOf x
decreasing_by exact Tm.lt_of_mem hy
def HP:SC:=(.seq (.reg [⟨some 1,none,.boxv 27 5 (.t 0)⟩,⟨(some 2),none,(.alloc 36 [(.int .i64 0),(.str ⟨#[]⟩),.nil,(.str ⟨#[]⟩),.nil])⟩]) (.seq (.reg [⟨(some 3),none,(.alloc 36 [(.int .i64 0),(.str ⟨#[]⟩),.nil,(.str ⟨#[]⟩),.nil])⟩]) (.seq (.reg [⟨some 4,none,.faddr 0 (.t 1)⟩,⟨some 5,none,.load false 1 (.t 4)⟩,⟨some 6,none,.faddr 0 (.t 3)⟩,⟨none,none,(.store 1 (.t 6) (.t 5))⟩]) (.seq (.reg [⟨some 7,none,.faddr 1 (.t 1)⟩,⟨some 8,none,.load true 2 (.t 7)⟩,⟨some 9,none,.call 52 [(.t 8)]⟩,⟨some 10,none,.faddr 1 (.t 3)⟩,⟨none,none,(.store 2 (.t 10) (.t 9))⟩]) (.seq (.reg [⟨some 11,none,.faddr 3 (.t 1)⟩,⟨some 12,none,.load false 1 (.t 11)⟩,⟨some 13,none,.faddr 3 (.t 3)⟩,⟨none,none,(.store 1 (.t 13) (.t 12))⟩]) (.seq (.reg [⟨some 14,none,.faddr 4 (.t 1)⟩,⟨some 15,none,.load false 1 (.t 14)⟩,⟨some 16,none,.call 43 [(.t 15)]⟩,⟨some 17,none,.faddr 4 (.t 3)⟩,⟨none,none,(.store 1 (.t 17) (.t 16))⟩]) (.seq (.reg [⟨some 18,none,.load true 5 (.t 3)⟩,⟨none,none,(.store 5 (.t 2) (.t 18))⟩]) .ret)))))))
theorem MT:codeOf Tryz.prog 12=some ⟨19,HP,[(.cell 2 true 5)]⟩:=by kernel_rfl
theorem BY:modes 12=⟨[],.asis,none,false⟩:=by unfold modes; rfl
def GJ:SC:=(.seq (.reg [⟨some 2,none,.mv (.c .nil)⟩]) (.seq (.reg [⟨some 5,none,.mv (.t 0)⟩,⟨some 6,none,.len false (.t 5)⟩,⟨(some 7),none,(.mkslice 36 5 88 [(.int .i64 0),(.str ⟨#[]⟩),.nil,(.str ⟨#[]⟩),.nil] (.t 6))⟩,⟨some 3,none,.mv (.t 7)⟩]) (.seq (.seq (.reg [⟨some 4,none,.mv (.c (.int .i64 0))⟩]) (.block 0 (.loop [1,0,0,1,1,0,0,0,0,0,0,0,0,0,0,0,0,0,0,0,0,0,0] (.seq (.seq (.reg [⟨some 8,none,.mv (.t 4)⟩,⟨some 9,none,.mv (.t 0)⟩,⟨some 10,none,.len false (.t 9)⟩,⟨some 11,none,.bin .lss false (.t 8) (.t 10)⟩]) (.cond (.t 11) .skip (.exit 0))) (.seq (.block 1 (.reg [⟨some 14,none,.mv (.t 3)⟩,⟨some 15,none,.mv (.t 4)⟩,⟨some 16,none,.mv (.t 0)⟩,⟨some 17,none,.mv (.t 4)⟩,⟨some 18,none,.iaddr 5 (.t 16) (.t 17)⟩,⟨some 19,none,.load true 5 (.t 18)⟩,⟨some 20,none,.call 12 [(.t 19)]⟩,⟨some 21,none,.iaddr 5 (.t 14) (.t 15)⟩,⟨none,none,(.store 5 (.t 21) (.t 20))⟩])) (.reg [⟨some 12,none,.mv (.t 4)⟩,⟨some 13,none,.bin .add false (.t 12) (.c (.int .i64 1))⟩,⟨some 4,none,.mv (.t 13)⟩])))))) (.seq (.reg [⟨some 22,none,.mv (.t 3)⟩,⟨some 2,none,.mv (.t 22)⟩]) .ret))))
theorem LV:codeOf Tryz.prog 43=some ⟨23,GJ,[(.tmp 2)]⟩:=by kernel_rfl
theorem GK:modes 43=⟨[],.asis,none,false⟩:=by unfold modes; rfl
abbrev Jt (x:Fm):Prop:=x.bulk≤1048576→E 12 [x.sv] []=some (x.osv,x.obs)
abbrev LW (xs:List Fm):Prop:=xs.length+Fm.sumB xs≤1048576→E 43 [.arr (xs.map Fm.d)] []=some (.ref 0,[.row 36 5 (xs.map Fm.o)])
theorem NQ (xs:List Fm) (h:∀ x∈xs,Jt x):LW xs:=by
 intro hb
 refine Ai LV GK (of_decide_eq_true rfl) ?_
 simp (disch:=omega) only [GJ,go_sem,Ab]
 refine go_loop (α:=Int) (fun i=>⟨slots 23 0 [(0,.arr (xs.map Fm.d)),(3,.ref 0),(4,.int .i64 i)],[.row 36 5 (E5 Fm.o [.int 0,.str ⟨#[]⟩,.ow [],.str ⟨#[]⟩,.ow []] xs i.toNat)]⟩) (fun i=>∃ k:Nat,i=k∧k≤xs.length) (fun i=>xs.length-i.toNat) 0 ⟨0,rfl,zI _⟩ (by simp (disch:=omega) only [go_sem,Ab,FX,zM]) ?_
 ·rintro i ⟨k,rfl,hk⟩
  obtain ⟨i,hi⟩:∃ i:Int,i=(k:Int):=⟨_,rfl⟩
  rw [←hi]
  have hn:i.toNat=k:=by omega
  have hn1:(i+1).toNat=k+1:=by omega
  rcases zB k xs.length with hlt | hge
  ·have hg:=get_at Fm.d hlt
   rw [Fm.d_eq] at hg
   have hz:=H8 Fm.o [.int 0,.str ⟨#[]⟩,.ow [],.str ⟨#[]⟩,.ow []] hlt
   have hle:=Fm.bulk_le xs k hlt
   have hc:=h xs[k] (zD hlt) (by omega)
   have hs:=H9 Fm.o [.int 0,.str ⟨#[]⟩,.ow [],.str ⟨#[]⟩,.ow []] hlt
   rw [Fm.o_eq] at hs
   simp (disch:=omega) only [go_sem,Ab,hn,hg,hc,hz,H6,BY,Fm.osv,Fm.obs]
   refine ⟨i+1,⟨k+1,by omega,hlt⟩,by omega,?_⟩
   simp (disch:=omega) only [go_sem,Ab,hn1,hs]
  ·obtain rfl:k=xs.length:=by omega
   simp (disch:=omega) only [go_sem,Ab,hn,H7]
theorem PF (x:Fm) (h_atom:LU x.atom) (h_parts:LW x.parts):Jt x:=by
 intro hb
 have qb:=Fm.bulk_eq x
 replace h_atom:=h_atom (by omega)
 replace h_parts:=h_parts (by omega)
 refine Ai MT BY (of_decide_eq_true rfl) ?_
 simp (disch:=omega) only [HP,go_sem,Ab,h_atom,Hi,h_parts,GK]
theorem N6 (x:Fm):Jt x:=PF x (Uz x.atom) (NQ x.parts fun y hy=>N6 y)
termination_by SizeOf.sizeOf x
decreasing_by exact Fm.lt_of_mem hy
def HQ:SC:=(.seq (.reg [⟨some 4,none,.mv (.c (.bool false))⟩]) (.seq (.seq (.reg [⟨some 6,none,.mv (.t 0)⟩,⟨some 7,none,.len false (.t 6)⟩,⟨some 8,none,.mv (.t 1)⟩,⟨some 9,none,.len false (.t 8)⟩,⟨some 10,none,.bin .neq false (.t 7) (.t 9)⟩]) (.cond (.t 10) (.seq (.reg [⟨some 4,none,.mv (.c (.bool false))⟩]) .ret) .skip)) (.seq (.seq (.reg [⟨some 5,none,.mv (.c (.int .i64 0))⟩]) (.block 0 (.loop [1,1,0,0,0,1,0,0,0,0,0,0,0,0,0,0,0,0,0,0,0,0,0,0,0,0] (.seq (.seq (.reg [⟨some 11,none,.mv (.t 5)⟩,⟨some 12,none,.mv (.t 0)⟩,⟨some 13,none,.len false (.t 12)⟩,⟨some 14,none,.bin .lss false (.t 11) (.t 13)⟩]) (.cond (.t 14) .skip (.exit 0))) (.seq (.block 1 (.seq (.dreg [[],[],[0,1],[2,0,1],[],[],[4,5],[6,4,5],[3,2,0,1,7,6,4,5]] [⟨some 17,none,.mv (.t 0)⟩,⟨some 18,none,.mv (.t 5)⟩,⟨some 19,none,.iaddr 1 (.t 17) (.t 18)⟩,⟨some 20,none,.load false 1 (.t 19)⟩,⟨some 21,none,.mv (.t 1)⟩,⟨some 22,none,.mv (.t 5)⟩,⟨some 23,none,.iaddr 1 (.t 21) (.t 22)⟩,⟨some 24,none,.load false 1 (.t 23)⟩,⟨some 25,none,.bin .neq false (.t 20) (.t 24)⟩]) (.cond (.t 25) (.seq (.reg [⟨some 4,none,.mv (.c (.bool false))⟩]) .ret) .skip))) (.reg [⟨some 15,none,.mv (.t 5)⟩,⟨some 16,none,.bin .add false (.t 15) (.c (.int .i64 1))⟩,⟨some 5,none,.mv (.t 16)⟩])))))) (.seq (.reg [⟨some 4,none,.mv (.c (.bool true))⟩]) .ret))))
theorem MU:codeOf Tryz.prog 16=some ⟨26,HQ,[(.tmp 4)]⟩:=by kernel_rfl
theorem C7:modes 16=⟨[],.asis,none,false⟩:=by unfold modes; rfl
abbrev U0 (xs:List ByteArray):Prop:=xs.length+HY xs≤1048576→E 16 [.arr (xs.map (fun s=>[D.str s])),.arr (xs.map (fun s=>[D.str s]))] []=some (.bool true,[])
theorem U1 (xs:List ByteArray):U0 xs:=by
 intro hb
 refine Ai MU C7 (of_decide_eq_true rfl) ?_
 simp (disch:=omega) only [HQ,go_sem,Ab]
 refine go_loop (α:=Int) (fun i=>⟨slots 26 0 [(0,.arr (xs.map (fun s=>[D.str s]))),(1,.arr (xs.map (fun s=>[D.str s]))),(5,.int .i64 i)],[]⟩) (fun i=>∃ k:Nat,i=k∧k≤xs.length) (fun i=>xs.length-i.toNat) 0 ⟨0,rfl,zI _⟩ (by simp (disch:=omega) only [go_sem,Ab]) ?_
 ·rintro i ⟨k,rfl,hk⟩
  obtain ⟨i,hi⟩:∃ i:Int,i=(k:Int):=⟨_,rfl⟩
  rw [←hi]
  have hn:i.toNat=k:=by omega
  rcases zB k xs.length with hlt | hge
  ·have hg:=get_at (fun s=>[D.str s]) hlt
   simp (disch:=omega) only [go_sem,Ab,hn,hg,DH]
   refine ⟨i+1,⟨k+1,by omega,hlt⟩,by omega,?_⟩
   trivial
  ·obtain rfl:k=xs.length:=by omega
   simp (disch:=omega) only [go_sem,Ab,hn]
def Kw:SC:=(.seq (.reg [⟨some 2,none,.boxv 33 2 (.t 0)⟩,⟨some 3,none,.boxv 33 2 (.t 1)⟩,⟨some 4,none,.mv (.c (.bool false))⟩]) (.seq (.seq (.reg [⟨some 5,none,.faddr 0 (.t 2)⟩,⟨some 6,none,.load false 1 (.t 5)⟩,⟨some 7,none,.faddr 0 (.t 3)⟩,⟨some 8,none,.load false 1 (.t 7)⟩,⟨some 9,none,.bin .neq false (.t 6) (.t 8)⟩]) (.cond (.t 9) (.seq (.reg [⟨some 4,none,.mv (.c (.bool false))⟩]) .ret) .skip)) (.seq (.seq (.reg [⟨some 10,none,.faddr 1 (.t 2)⟩,⟨some 11,none,.load false 1 (.t 10)⟩,⟨some 12,none,.faddr 1 (.t 3)⟩,⟨some 13,none,.load false 1 (.t 12)⟩,⟨some 14,none,.call 134 [(.t 11),(.t 13)]⟩,⟨some 15,none,.un .not (.t 14)⟩]) (.cond (.t 15) (.seq (.reg [⟨some 4,none,.mv (.c (.bool false))⟩]) .ret) .skip)) (.seq (.reg [⟨some 4,none,.mv (.c (.bool true))⟩]) .ret))))
theorem Qp:codeOf Tryz.prog 61=some ⟨16,Kw,[(.tmp 4)]⟩:=by kernel_rfl
theorem Hj:modes 61=⟨[],.asis,none,false⟩:=by unfold modes; rfl
def Ju:SC:=(.seq (.reg [⟨some 4,none,.mv (.c (.bool false))⟩]) (.seq (.seq (.reg [⟨some 6,none,.mv (.t 0)⟩,⟨some 7,none,.len false (.t 6)⟩,⟨some 8,none,.mv (.t 1)⟩,⟨some 9,none,.len false (.t 8)⟩,⟨some 10,none,.bin .neq false (.t 7) (.t 9)⟩]) (.cond (.t 10) (.seq (.reg [⟨some 4,none,.mv (.c (.bool false))⟩]) .ret) .skip)) (.seq (.seq (.reg [⟨some 5,none,.mv (.c (.int .i64 0))⟩]) (.block 0 (.loop [1,1,0,0,0,1,0,0,0,0,0,0,0,0,0,0,0,0,0,0,0,0,0,0,0,0,0] (.seq (.seq (.reg [⟨some 11,none,.mv (.t 5)⟩,⟨some 12,none,.mv (.t 0)⟩,⟨some 13,none,.len false (.t 12)⟩,⟨some 14,none,.bin .lss false (.t 11) (.t 13)⟩]) (.cond (.t 14) .skip (.exit 0))) (.seq (.block 1 (.seq (.dreg [[],[],[0,1],[2,0,1],[],[],[4,5],[6,4,5],[3,2,0,1,7,6,4,5],[8,3,2,0,1,7,6,4,5]] [⟨some 17,none,.mv (.t 0)⟩,⟨some 18,none,.mv (.t 5)⟩,⟨some 19,none,.iaddr 2 (.t 17) (.t 18)⟩,⟨some 20,none,.load true 2 (.t 19)⟩,⟨some 21,none,.mv (.t 1)⟩,⟨some 22,none,.mv (.t 5)⟩,⟨some 23,none,.iaddr 2 (.t 21) (.t 22)⟩,⟨some 24,none,.load true 2 (.t 23)⟩,⟨some 25,none,.call 61 [(.t 20),(.t 24)]⟩,⟨some 26,none,.un .not (.t 25)⟩]) (.cond (.t 26) (.seq (.reg [⟨some 4,none,.mv (.c (.bool false))⟩]) .ret) .skip))) (.reg [⟨some 15,none,.mv (.t 5)⟩,⟨some 16,none,.bin .add false (.t 15) (.c (.int .i64 1))⟩,⟨some 5,none,.mv (.t 16)⟩])))))) (.seq (.reg [⟨some 4,none,.mv (.c (.bool true))⟩]) .ret))))
theorem PG:codeOf Tryz.prog 134=some ⟨27,Ju,[(.tmp 4)]⟩:=by kernel_rfl
theorem Jv:modes 134=⟨[],.asis,none,false⟩:=by unfold modes; rfl
abbrev LX (x:Tm):Prop:=x.bulk≤1048576→E 61 [x.sv,x.sv] []=some (.bool true,[])
abbrev R0 (xs:List Tm):Prop:=xs.length+Tm.sumB xs≤1048576→E 134 [.arr (xs.map Tm.d),.arr (xs.map Tm.d)] []=some (.bool true,[])
theorem SB (xs:List Tm) (h:∀ x∈xs,LX x):R0 xs:=by
 intro hb
 refine Ai PG Jv (of_decide_eq_true rfl) ?_
 simp (disch:=omega) only [Ju,go_sem,Ab]
 refine go_loop (α:=Int) (fun i=>⟨slots 27 0 [(0,.arr (xs.map Tm.d)),(1,.arr (xs.map Tm.d)),(5,.int .i64 i)],[]⟩) (fun i=>∃ k:Nat,i=k∧k≤xs.length) (fun i=>xs.length-i.toNat) 0 ⟨0,rfl,zI _⟩ (by simp (disch:=omega) only [go_sem,Ab]) ?_
 ·rintro i ⟨k,rfl,hk⟩
  obtain ⟨i,hi⟩:∃ i:Int,i=(k:Int):=⟨_,rfl⟩
  rw [←hi]
  have hn:i.toNat=k:=by omega
  rcases zB k xs.length with hlt | hge
  ·have hg:=get_at Tm.d hlt
   rw [Tm.d_eq] at hg
   have hle:=Tm.bulk_le xs k hlt
   have hc:=h xs[k] (zD hlt) (by omega)
   simp (disch:=omega) only [go_sem,Ab,hn,hg,hc,Hj]
   refine ⟨i+1,⟨k+1,by omega,hlt⟩,by omega,?_⟩
   trivial
  ·obtain rfl:k=xs.length:=by omega
   simp (disch:=omega) only [go_sem,Ab,hn]
theorem U2 (x:Tm) (h_args:R0 x.args):LX x:=by
 intro hb
 have qb:=Tm.bulk_eq x
 replace h_args:=h_args (by omega)
 refine Ai Qp Hj (of_decide_eq_true rfl) ?_
 simp (disch:=omega) only [Kw,go_sem,Ab,h_args,Jv,DH]
theorem U3 (x:Tm):LX x:=U2 x (SB x.args fun y hy=>U3 y)
termination_by SizeOf.sizeOf x
decreasing_by exact Tm.lt_of_mem hy
def HS:SC:=(.seq (.reg [⟨some 2,none,.boxv 36 5 (.t 0)⟩,⟨some 3,none,.boxv 36 5 (.t 1)⟩,⟨some 4,none,.mv (.c (.bool false))⟩]) (.seq (.seq (.reg [⟨some 5,none,.faddr 0 (.t 2)⟩,⟨some 6,none,.load false 1 (.t 5)⟩,⟨some 7,none,.faddr 0 (.t 3)⟩,⟨some 8,none,.load false 1 (.t 7)⟩,⟨some 9,none,.bin .neq false (.t 6) (.t 8)⟩]) (.cond (.t 9) (.seq (.reg [⟨some 4,none,.mv (.c (.bool false))⟩]) .ret) .skip)) (.seq (.seq (.reg [⟨some 10,none,.faddr 1 (.t 2)⟩,⟨some 11,none,.load true 2 (.t 10)⟩,⟨some 12,none,.faddr 1 (.t 3)⟩,⟨some 13,none,.load true 2 (.t 12)⟩,⟨some 14,none,.call 61 [(.t 11),(.t 13)]⟩,⟨some 15,none,.un .not (.t 14)⟩]) (.cond (.t 15) (.seq (.reg [⟨some 4,none,.mv (.c (.bool false))⟩]) .ret) .skip)) (.seq (.seq (.reg [⟨some 16,none,.faddr 3 (.t 2)⟩,⟨some 17,none,.load false 1 (.t 16)⟩,⟨some 18,none,.faddr 3 (.t 3)⟩,⟨some 19,none,.load false 1 (.t 18)⟩,⟨some 20,none,.bin .neq false (.t 17) (.t 19)⟩]) (.cond (.t 20) (.seq (.reg [⟨some 4,none,.mv (.c (.bool false))⟩]) .ret) .skip)) (.seq (.seq (.reg [⟨some 21,none,.faddr 4 (.t 2)⟩,⟨some 22,none,.load false 1 (.t 21)⟩,⟨some 23,none,.faddr 4 (.t 3)⟩,⟨some 24,none,.load false 1 (.t 23)⟩,⟨some 25,none,.call 45 [(.t 22),(.t 24)]⟩,⟨some 26,none,.un .not (.t 25)⟩]) (.cond (.t 26) (.seq (.reg [⟨some 4,none,.mv (.c (.bool false))⟩]) .ret) .skip)) (.seq (.reg [⟨some 4,none,.mv (.c (.bool true))⟩]) .ret))))))
theorem MW:codeOf Tryz.prog 15=some ⟨27,HS,[(.tmp 4)]⟩:=by kernel_rfl
theorem BZ:modes 15=⟨[],.asis,none,false⟩:=by unfold modes; rfl
def GM:SC:=(.seq (.reg [⟨some 4,none,.mv (.c (.bool false))⟩]) (.seq (.seq (.reg [⟨some 6,none,.mv (.t 0)⟩,⟨some 7,none,.len false (.t 6)⟩,⟨some 8,none,.mv (.t 1)⟩,⟨some 9,none,.len false (.t 8)⟩,⟨some 10,none,.bin .neq false (.t 7) (.t 9)⟩]) (.cond (.t 10) (.seq (.reg [⟨some 4,none,.mv (.c (.bool false))⟩]) .ret) .skip)) (.seq (.seq (.reg [⟨some 5,none,.mv (.c (.int .i64 0))⟩]) (.block 0 (.loop [1,1,0,0,0,1,0,0,0,0,0,0,0,0,0,0,0,0,0,0,0,0,0,0,0,0,0] (.seq (.seq (.reg [⟨some 11,none,.mv (.t 5)⟩,⟨some 12,none,.mv (.t 0)⟩,⟨some 13,none,.len false (.t 12)⟩,⟨some 14,none,.bin .lss false (.t 11) (.t 13)⟩]) (.cond (.t 14) .skip (.exit 0))) (.seq (.block 1 (.seq (.dreg [[],[],[0,1],[2,0,1],[],[],[4,5],[6,4,5],[3,2,0,1,7,6,4,5],[8,3,2,0,1,7,6,4,5]] [⟨some 17,none,.mv (.t 0)⟩,⟨some 18,none,.mv (.t 5)⟩,⟨some 19,none,.iaddr 5 (.t 17) (.t 18)⟩,⟨some 20,none,.load true 5 (.t 19)⟩,⟨some 21,none,.mv (.t 1)⟩,⟨some 22,none,.mv (.t 5)⟩,⟨some 23,none,.iaddr 5 (.t 21) (.t 22)⟩,⟨some 24,none,.load true 5 (.t 23)⟩,⟨some 25,none,.call 15 [(.t 20),(.t 24)]⟩,⟨some 26,none,.un .not (.t 25)⟩]) (.cond (.t 26) (.seq (.reg [⟨some 4,none,.mv (.c (.bool false))⟩]) .ret) .skip))) (.reg [⟨some 15,none,.mv (.t 5)⟩,⟨some 16,none,.bin .add false (.t 15) (.c (.int .i64 1))⟩,⟨some 5,none,.mv (.t 16)⟩])))))) (.seq (.reg [⟨some 4,none,.mv (.c (.bool true))⟩]) .ret))))
theorem LY:codeOf Tryz.prog 45=some ⟨27,GM,[(.tmp 4)]⟩:=by kernel_rfl
theorem GN:modes 45=⟨[],.asis,none,false⟩:=by unfold modes; rfl
abbrev Jw (x:Fm):Prop:=x.bulk≤1048576→E 15 [x.sv,x.sv] []=some (.bool true,[])
abbrev LZ (xs:List Fm):Prop:=xs.length+Fm.sumB xs≤1048576→E 45 [.arr (xs.map Fm.d),.arr (xs.map Fm.d)] []=some (.bool true,[])
theorem NR (xs:List Fm) (h:∀ x∈xs,Jw x):LZ xs:=by
 intro hb
 refine Ai LY GN (of_decide_eq_true rfl) ?_
 simp (disch:=omega) only [GM,go_sem,Ab]
 refine go_loop (α:=Int) (fun i=>⟨slots 27 0 [(0,.arr (xs.map Fm.d)),(1,.arr (xs.map Fm.d)),(5,.int .i64 i)],[]⟩) (fun i=>∃ k:Nat,i=k∧k≤xs.length) (fun i=>xs.length-i.toNat) 0 ⟨0,rfl,zI _⟩ (by simp (disch:=omega) only [go_sem,Ab]) ?_
 ·rintro i ⟨k,rfl,hk⟩
  obtain ⟨i,hi⟩:∃ i:Int,i=(k:Int):=⟨_,rfl⟩
  rw [←hi]
  have hn:i.toNat=k:=by omega
  rcases zB k xs.length with hlt | hge
  ·have hg:=get_at Fm.d hlt
   rw [Fm.d_eq] at hg
   have hle:=Fm.bulk_le xs k hlt
   have hc:=h xs[k] (zD hlt) (by omega)
   simp (disch:=omega) only [go_sem,Ab,hn,hg,hc,BZ]
   refine ⟨i+1,⟨k+1,by omega,hlt⟩,by omega,?_⟩
   trivial
  ·obtain rfl:k=xs.length:=by omega
   simp (disch:=omega) only [go_sem,Ab,hn]
theorem PH (x:Fm) (h_atom:LX x.atom) (h_parts:LZ x.parts):Jw x:=by
 intro hb
 have qb:=Fm.bulk_eq x
 replace h_atom:=h_atom (by omega)
 replace h_parts:=h_parts (by omega)
 refine Ai MW BZ (of_decide_eq_true rfl) ?_
 simp (disch:=omega) only [HS,go_sem,Ab,h_atom,Hj,h_parts,GN,DH]
theorem Jx (x:Fm):Jw x:=PH x (U3 x.atom) (NR x.parts fun y hy=>Jx y)
termination_by SizeOf.sizeOf x
decreasing_by exact Fm.lt_of_mem hy
noncomputable def Qcn (s u:Sb):Bool:=(Qcm s u).ok
def It:SC:=(.seq (.reg [⟨some 3,none,.boxv 142 1 (.t 0)⟩,⟨some 5,none,.boxv 33 2 (.t 2)⟩,⟨some 6,none,.alloc 142 [.nil]⟩]) (.seq (.seq (.reg [⟨some 9,none,.faddr 0 (.t 5)⟩,⟨some 10,none,.load false 1 (.t 9)⟩,⟨some 11,none,.mv (.t 1)⟩,⟨some 12,none,.bin .eql false (.t 10) (.t 11)⟩]) (.cond (.t 12) (.seq (.reg [⟨some 13,none,.load true 1 (.t 3)⟩,⟨none,none,(.store 1 (.t 6) (.t 13))⟩]) .ret) .skip)) (.seq (.reg [⟨some 7,none,.mv (.c (.int .i64 0))⟩]) (.seq (.block 0 (.loop [0,1,0,1,0,1,1,1,0,0,0,0,0,0,0,0,0,0,0,0,0,0,0,0,0,0,0,0,0,0,0,0,0,0,0,0,0,0,0,0,0,0,0,0,0,0,0,0,0,0,0] (.seq (.seq (.reg [⟨some 14,none,.mv (.t 7)⟩,⟨some 15,none,.faddr 0 (.t 3)⟩,⟨some 16,none,.load false 1 (.t 15)⟩,⟨some 17,none,.len false (.t 16)⟩,⟨some 18,none,.bin .lss false (.t 14) (.t 17)⟩,⟨some 19,none,.mv (.t 18)⟩,⟨(some 20),(some (19,true)),(.faddr 0 (.t 3))⟩,⟨(some 21),(some (19,true)),(.load false 1 (.t 20))⟩,⟨(some 22),(some (19,true)),(.mv (.t 7))⟩,⟨(some 23),(some (19,true)),(.iaddr 3 (.t 21) (.t 22))⟩,⟨(some 24),(some (19,true)),(.faddr 0 (.t 23))⟩,⟨(some 25),(some (19,true)),(.load false 1 (.t 24))⟩,⟨(some 26),(some (19,true)),(.mv (.t 1))⟩,⟨(some 27),(some (19,true)),(.bin .lss false (.t 25) (.t 26))⟩,⟨some 28,none,.pick (.t 19) (.t 27) (.c (.bool false))⟩]) (.cond (.t 28) .skip (.exit 0))) (.block 1 (.reg [⟨some 29,none,.mv (.t 7)⟩,⟨some 30,none,.bin .add false (.t 29) (.c (.int .i64 1))⟩,⟨some 7,none,.mv (.t 30)⟩]))))) (.seq (.reg [⟨(some 31),none,(.mkrow 227 3 [(.str ⟨#[]⟩),(.str ⟨#[]⟩),.nil] 0 [])⟩,⟨some 32,none,.faddr 0 (.t 3)⟩,⟨some 33,none,.load false 1 (.t 32)⟩,⟨some 34,none,.mv (.t 7)⟩,⟨some 35,none,.slice false 3 (.t 33) none (some (.t 34))⟩,⟨(some 36),none,(.append 227 3 56 [(.str ⟨#[]⟩),(.str ⟨#[]⟩),.nil] (.t 31) (.t 35))⟩,⟨some 8,none,.mv (.t 36)⟩]) (.seq (.reg [⟨some 37,none,.mv (.t 8)⟩,⟨some 38,none,.mv (.t 1)⟩,⟨some 39,none,.load true 2 (.t 5)⟩,⟨some 40,none,.call 135 [(.t 39)]⟩,⟨(some 41),none,(.build [(.str ⟨#[]⟩),(.str ⟨#[]⟩),.nil] [(0,(1,(.t 38))),(1,(2,(.t 40)))])⟩,⟨(some 42),none,(.mkrow 227 3 [(.str ⟨#[]⟩),(.str ⟨#[]⟩),.nil] 1 [(0,(.t 41))])⟩,⟨(some 43),none,(.append 227 3 56 [(.str ⟨#[]⟩),(.str ⟨#[]⟩),.nil] (.t 37) (.t 42))⟩,⟨some 8,none,.mv (.t 43)⟩]) (.seq (.reg [⟨some 44,none,.mv (.t 8)⟩,⟨some 45,none,.faddr 0 (.t 3)⟩,⟨some 46,none,.load false 1 (.t 45)⟩,⟨some 47,none,.mv (.t 7)⟩,⟨some 48,none,.slice false 3 (.t 46) (some (.t 47)) none⟩,⟨(some 49),none,(.append 227 3 56 [(.str ⟨#[]⟩),(.str ⟨#[]⟩),.nil] (.t 44) (.t 48))⟩,⟨some 50,none,.build [.nil] [(0,(1,(.t 49)))]⟩,⟨none,none,(.store 1 (.t 6) (.t 50))⟩]) .ret)))))))
theorem Ma:codeOf Tryz.prog 174=some ⟨51,It,[(.cell 6 true 1)]⟩:=by kernel_rfl
theorem FE:modes 174=⟨[],.frz,none,false⟩:=by unfold modes; rfl
noncomputable def Sb.put (x:Sb) (b:Bd):Sb:=bif dec (b.term.name=b.var) then x else ⟨D9 x.binds b⟩
theorem Bd.ot_take (xs:List Bd) (k:Nat):((xs.map Bd.d).take k).map (fun x=>x.map D.ot)=(xs.take k).map fun b=>b.d.map D.ot:=by
 rw [←List.map_take,yB]; rfl
theorem Bd.ot_drop (xs:List Bd) (k:Nat):((xs.map Bd.d).drop k).map (fun x=>x.map D.ot)=(xs.drop k).map fun b=>b.d.map D.ot:=by
 rw [←List.map_drop,yB]; rfl
theorem Bd.al3 (xs:List Bd):((xs.map fun b=>b.d.map D.ot).all fun l=>l.length == 3)=true:=by
 rw [yV,zT]
 intro x _
 show ((x.d.map D.ot).length == 3)=true
 rw [Bd.d_eq]; rfl
theorem Bd.Qc2 (xs:List Bd):((xs.map Bd.d).all fun l=>l.length == 3)=true:=by
 rw [yV,zT]
 intro x _
 show (x.d.length == 3)=true
 rw [Bd.d_eq]; rfl
theorem Bd.dfu:∀ xs:List Bd,OT.AA (xs.map fun b=>b.d.map D.ot)=true
 | []=>rfl
 | x :: xs=>by rw [zN,Bd.d_eq]; simp [OT.AA,OT.BU,OT.full,D.ot,Bd.dfu xs]
theorem Bd.der:∀ xs:List Bd,OT.erss (xs.map fun b=>b.d.map D.ot)=xs.map Bd.d
 | []=>rfl
 | x :: xs=>by rw [zN,zN,Bd.d_eq]; simp [OT.erss,OT.ers,OT.er,D.ot,Bd.der xs]
theorem Y0 {xs:List Bd} {n:ByteArray} {k:Nat} (h:k+AX (xs.drop k) n=AX xs n) (hk:k<xs.length):(strLt xs[k].var n=true∧k+1+AX (xs.drop (k+1)) n=AX xs n)∨(strLt xs[k].var n=false∧k=AX xs n):=by
 rw [zC hk,AX] at h
 cases hq:strLt xs[k].var n with
 | true=>rw [hq] at h; simp only [cond_true,if_true] at h; exact .inl ⟨rfl,by omega⟩
 | false=>rw [hq] at h; simp only [cond_false,yE,if_false] at h; exact .inr ⟨rfl,by omega⟩
theorem QaZ (x:Sb) (n:ByteArray) (t:Tm) (hl:x.binds.length≤1048576) (ht:t.nodes≤1099511627776):E 174 [x.sv,.str n,t.sv] []=some ((x.put ⟨n,t⟩).sv,[]):=by
  have ho:=S3 t ht
  have e1:=Bd.ot_take x.binds (AX x.binds n)
  have e2:=Bd.ot_drop x.binds (AX x.binds n)
  have e3:=Bd.al3 (x.binds.take (AX x.binds n))
  have e4:=Bd.al3 (x.binds.drop (AX x.binds n))
  have e5:=Bd.Qc2 x.binds
  have l1:=S4 n x.binds
  have e6:(x.binds.map Bd.d).take x.binds.length=x.binds.map Bd.d:=yI (by simp)
  have e7:(x.binds.take (AX x.binds n)).length=AX x.binds n:=by rw [zX]; omega
  have e8:(x.binds.drop (AX x.binds n)).length=x.binds.length-AX x.binds n:=List.length_drop
  have hin:=Ur ⟨n,t⟩ x.binds
  have hx2:(x.binds.take (AX x.binds n)).map (fun b=>b.d.map D.ot)++[[OT.str n,.str t.name,.sh (t.args.map Tm.d)]]++(x.binds.drop (AX x.binds n)).map (fun b=>b.d.map D.ot)=(D9 x.binds ⟨n,t⟩).map fun b=>b.d.map D.ot:=by
    rw [hin]
    simp only [yD,zN,List.append_assoc,List.cons_append,z7]
    rw [Bd.d_eq]; rfl
  have hfu:=Bd.dfu (D9 x.binds ⟨n,t⟩)
  have her:=Bd.der (D9 x.binds ⟨n,t⟩)
  have hsv:(Sb.mk (D9 x.binds ⟨n,t⟩)).sv=.agg [.arr ((D9 x.binds ⟨n,t⟩).map Bd.d)]:=rfl
  unfold Sb.put
  cases hq:dec (t.name=n) with
  | true =>
    simp only [hq,cond_true]
    refine Ai Ma FE (of_decide_eq_true rfl) ?_
    simp (disch:=omega) only [It,go_sem,Ab,hq]
    try rfl
  | false =>
    simp only [hq,cond_false]
    rw [hsv]
    refine Ai Ma FE (of_decide_eq_true rfl) ?_
    simp (disch:=omega) only [It,go_sem,Ab,hq]
    refine go_loop (α:=Int) (fun a=>⟨slots 51 0 [(1,.str n),(3,.ptr 0 0),(5,.ptr 1 0),(6,.ptr 2 0),(7,.int .i64 a)],[.box 142 [.arr (x.binds.map Bd.d)],.box 33 [.str t.name,.arr (t.args.map Tm.d)],.box 142 [.nil]]⟩) (fun a=>∃ k:Nat,a=k∧k≤(x.binds).length∧k+AX (x.binds.drop k) n=AX x.binds n) (fun a=>(x.binds).length-(a).toNat) 0 ⟨0,rfl,zI _,by rw [zH,yQ]⟩ (by simp (disch:=omega) only [go_sem,Ab]) ?_
    rintro i ⟨k,hi,hk,hR⟩
    have hni:i.toNat=k:=by omega
    have hni1:(i+1).toNat=k+1:=by omega
    rcases zB k (x.binds).length with hlt | hge
    · have hg:=get_at Bd.d hlt
      rw [Bd.d_eq] at hg
      rcases Y0 hR hlt with ⟨q,hR'⟩ | ⟨q,hk'⟩
      · simp (disch:=omega) only [go_sem,Ab,hni,hg,q]
        exact ⟨i+1,⟨k+1,by omega,hlt,hR'⟩,by omega,by first | trivial | rfl⟩
      · subst hk'
        simp (disch:=omega) only [go_sem,Ab,hni,hg,q,ho,e1,e2,e3,e4,e5,e6,e7,e8,hx2,hfu,her,zR,zM,Dy]
    · obtain rfl:k=x.binds.length:=by omega
      have hk':x.binds.length=AX x.binds n:=by rw [←hR,zF (zS _)]; simp [AX]
      rw [hk'] at hni
      simp (disch:=omega) only [go_sem,Ab,hni,ho,e1,e2,e3,e4,e5,e6,e7,e8,hx2,hfu,her,zR,zM,Dy]
theorem Sb.U4 {s:Sb} {n:ByteArray} {t:Tm} (h:s.look n=some t):(⟨n,t⟩:Bd)∈s.binds:=by
 cases hh:EP s.binds n with
 | false=>rw [Sb.LO hh] at h; cases h
 | true =>
  have hlt:=LM hh
  rw [Sb.LN hh hlt] at h
  obtain rfl:=yW h
  have e:=S7 hh hlt
  have h1:=zD hlt
  have h2:∀ c:Bd,c.var=n→(⟨n,c.term⟩:Bd)=c:=fun c e=>by rw [←e]
  rw [h2 _ e]; exact h1
theorem Sb.HT {s:Sb} (hs:KZ s.binds) {n:ByteArray}:s.look n=none ↔ ∀ b∈s.binds,b.var≠n:=by
 cases hh:EP s.binds n with
 | false =>
  rw [Sb.LO hh]
  refine ⟨fun _ b hb e=>?_,fun _=>rfl⟩
  rw [ZY hs] at hh
  exact List.any_eq_false.1 hh b hb (An e)
 | true =>
  have hlt:=LM hh
  rw [Sb.LN hh hlt]
  exact ⟨fun h=>(by cases h),fun h=>absurd (S7 hh hlt) (h _ (zD hlt))⟩
theorem Sb.Jy {s:Sb} (hs:KZ s.binds) {b:Bd} (h:b∈s.binds):s.look b.var=some b.term:=by
 cases hq:s.look b.var with
 | none=>exact absurd rfl ((Sb.HT hs).1 hq b h)
 | some t =>
  have h2:=Sb.U4 hq
  obtain ⟨i,hi,e1⟩:=yP h
  obtain ⟨j,hj,e2⟩:=yP h2
  have hij:i=j:=(List.getElem_inj (h₀:=by simpa using hi) (h₁:=by simpa using hj) (P9 hs)).1 (by simp only [zY,e1,e2])
  subst hij
  rw [e1] at e2
  rw [e2]
def Sb.idem (s:Sb):Prop:=∀ w t,s.look w=some t→∀ v∈t.vs,s.look v=none
noncomputable def ZZ (x y:Tm):Bd:=bif AO x.name&&!(AO y.name&&strLt x.name y.name) then ⟨x.name,y⟩ else ⟨y.name,x⟩
noncomputable def Qco (b:Bd):Bool:=!dec (b.var∈b.term.vs)&&(Sb.mk [b]).ok
noncomputable def QbM:Nat→Sb→List (Tm × Tm)→Option (Option Sb)
  | 0,_,_=>none
  | n + 1,s,l=>match l with
    | []=>some (some s)
    | p :: l=>bif QbJ s p.1&&QbJ s p.2 then
        (bif dec (JZ s p.1=JZ s p.2) then QbM n s l
        else bif AO (JZ s p.1).name || AO (JZ s p.2).name then
          (bif Qco (ZZ (JZ s p.1) (JZ s p.2))&&Qcn s ⟨[ZZ (JZ s p.1) (JZ s p.2)]⟩ then QbM n (Qcm s ⟨[ZZ (JZ s p.1) (JZ s p.2)]⟩) l else some none)
        else bif dec ((JZ s p.1).name=(JZ s p.2).name)&&dec ((JZ s p.1).args.length=(JZ s p.2).args.length) then QbM n s ((JZ s p.1).args.zip (JZ s p.2).args++l)
        else some none)
      else some none
def Qcp:List (Tm × Tm)→Nat
 | []=>0
 | p :: l=>p.1.nodes+Qcp l
structure uInv (s:Sb) (l:List (Tm × Tm)):Prop where
 ok:s.ok=true
 idem:s.idem
 ex:∀ p∈l,p.1.expr=true∧p.2.expr=true
 pq:∃ P Q,l=P++Q∧(∀ p∈P,p.1.ap s.look=p.1)∧Qcp P≤30∧Q.length≤1+30*s.binds.length
theorem R1 {s:ByteArray} (h:AO s=true):Dd s=false:=by
 unfold AO at h
 rw [zA] at h
 have hsz:0<s.size:=by
  have h2:=h.2
  unfold inB at h2
  rw [zA,decide_eq_true_eq,decide_eq_true_eq] at h2
  omega
 have h0:=Gd h.1 hsz
 unfold Dd
 have h1:Ei Iz s s.size=false:=DX (k:=0) hsz (by
  unfold H3 at h0
  unfold Iz
  rw [zA] at h0
  have hu:NH (FT s 0)=true:=by simpa using h0.1
  have hlo:Qb (FT s 0)=false:=by
   unfold NH at hu
   unfold Qb
   rw [zA,decide_eq_true_eq,decide_eq_true_eq] at hu
   rw [decide_eq_false (by omega)]
   rfl
  rw [hlo]
  rfl)
 rw [h1]
 rfl
theorem U5 {x:Tm} (h:x.atom=true):AO x.name=false:=by
 unfold Tm.atom at h
 split at h
 ·rename_i hq
  have:x.name=⟨#[61]⟩:=Ao.1 hq
  rw [this]; decide +kernel
 ·rw [zA] at h
  cases hv:AO x.name with
  | false=>rfl
  | true =>
   have:=R1 hv
   rw [h.1] at this
   cases this
theorem Fm.PI {x:Fm} (h:x.form=true) (ho:qB x.op=false):x.var=⟨#[]⟩:=by
  unfold qB at ho
  rw [yN] at ho
  have h8:¬ x.op=8:=fun e=>by rw [An e] at ho; cases ho.1
  have h9:¬ x.op=9:=fun e=>by rw [An e] at ho; cases ho.2
  unfold Fm.form at h
  split at h
  · rw [zA] at h; exact Ao.1 h.2
  · split at h
    · rw [zA] at h; exact Ao.1 h.2
    · split at h
      · rw [zA] at h; exact Ao.1 h.2
      · split at h
        · rw [zA] at h; exact Ao.1 h.2
        · split at h
          · omega
          · cases h
abbrev TEnv:=ByteArray→Option Tm
def Cm (e:TEnv):MF
  | .str s=>match e s with
    | some t=>some (true,[.str t.name,.arr (t.args.map Tm.d)])
    | none=>none
  | .int _=>none
theorem EQ (e:TEnv) (s:ByteArray):Cm e (.str s)=match e s with | some t=>some (true,[.str t.name,.arr (t.args.map Tm.d)]) | none=>none:=rfl
noncomputable def Iu (e:TEnv) (s:ByteArray) (t:Tm):TEnv:=fun q=>bif dec (q=s) then some t else e q
theorem Y1 (e:TEnv) (s:ByteArray) (t:Tm):K7 (Cm e) (.str s) (true,[.str t.name,.arr (t.args.map Tm.d)])=Cm (Iu e s t):=by
 funext k
 cases k with
 | int i=>rw [G4 (fun h=>by cases h)]; rfl
 | str q =>
  rw [OA,EQ,EQ]
  unfold Iu
  cases dec (q=s) <;> rfl
theorem WB:Cm (fun _=>none)=nomap:=by
 funext k
 cases k <;> rfl
def FinT (e:TEnv):Prop:=∃ l:List ByteArray,∀ s,e s≠none→s∈l
theorem FinT.none:FinT fun _=>Option.none:=⟨[],fun s h=>absurd rfl h⟩
theorem FinT.put {e:TEnv} (h:FinT e) (s:ByteArray) (t:Tm):FinT (Iu e s t):=by
 obtain ⟨l,hl⟩:=h
 refine ⟨s :: l,fun q hq=>?_⟩
 unfold Iu at hq
 by_cases he:q=s
 ·simp [he]
 ·rw [Aj he,cond_false] at hq
  simp [hl q hq]
theorem FinT.enum {e:TEnv} (h:FinT e):∃ L,Enum (Cm e) L:=by
 obtain ⟨l,hl⟩:=h
 refine QaR l fun k x hk=>?_
 cases k with
 | int i=>cases hk
 | str s=>exact ⟨s,hl s (fun hn=>by rw [EQ,hn] at hk; exact absurd hk (by simp)),rfl⟩
def TB (m:Nat) (e:TEnv):Prop:=∀ s t,e s=some t→t.nodes≤m∧AO s=true
theorem TB.none (m:Nat):TB m fun _=>Option.none:=fun s t h=>by cases h
theorem TB.put {m:Nat} {e:TEnv} (h:TB m e) {s:ByteArray} (hs:AO s=true) {t:Tm} (ht:t.nodes≤m):TB m (Iu e s t):=fun q u hq=>by
 unfold Iu at hq
 by_cases he:q=s
 ·rw [An he,cond_true] at hq
  obtain rfl:=yW hq
  rw [he]; exact ⟨ht,hs⟩
 ·rw [Aj he,cond_false] at hq; exact h q u hq
mutual
noncomputable def Tm.rv (e:TEnv):Tm→Tm
 | .mk n args=>bif args.isEmpty then (e n).getD (.mk n []) else .mk n (Tm.rvL e args)
noncomputable def Tm.rvL (e:TEnv):List Tm→List Tm
 | []=>[]
 | x :: xs=>Tm.rv e x :: Tm.rvL e xs
end
theorem Tm.XF (e:TEnv):∀ xs:List Tm,Tm.rvL e xs=xs.map (Tm.rv e)
 | []=>by rw [Tm.rvL]; rfl
 | x :: xs=>by rw [Tm.rvL,Tm.XF e xs]; rfl
theorem Tm.U6 (e:TEnv) (x:Tm):x.rv e=bif x.args.isEmpty then (e x.name).getD (.mk x.name []) else .mk x.name (x.args.map (Tm.rv e)):=by
 obtain ⟨n,args⟩:=x
 rw [Tm.rv,Tm.XF]; rfl
theorem Tm.PJ {m:Nat} (hm:1≤m) {e:TEnv} (he:TB m e) (x:Tm):(x.rv e).nodes≤m*x.nodes:=by
 have key:∀ xs:List Tm,(∀ y∈xs,(y.rv e).nodes≤m*y.nodes)→Tm.nodeS (xs.map (Tm.rv e))≤m*Tm.nodeS xs:=by
  intro xs
  induction xs with
  | nil=>intro _; simp [Tm.nodeS]
  | cons y ys ih =>
   intro h
   have h1:=h y (by simp)
   have h2:=ih fun z hz=>h z (by simp [hz])
   rw [zN,Tm.nodeS,Tm.nodeS,Nat.mul_add]; omega
 have h1:=key x.args fun y hy=>Tm.PJ hm he y
 rw [Tm.U6,Tm.nodes_eq x,Nat.mul_add,Nat.mul_one]
 cases x.args.isEmpty with
 | true =>
  rw [cond_true]
  cases hx:e x.name with
  | none =>
   show (Tm.mk x.name []).nodes≤_
   rw [Tm.nodes_eq]
   show 1+Tm.nodeS []≤_
   rw [Tm.nodeS]; omega
  | some t=>have:=(he _ _ hx).1; show t.nodes≤_; omega
 | false =>
  rw [cond_false,Tm.nodes_eq]
  show 1+Tm.nodeS (x.args.map (Tm.rv e))≤_
  omega
termination_by SizeOf.sizeOf x
decreasing_by exact Tm.lt_of_mem hy
theorem Tm.Qbr {m:Nat} {e:TEnv} (he:TB m e) (x:Tm) (hx:x.names=true):x.rv e=x.ap e:=by
 have ih:∀ y∈x.args,y.rv e=y.ap e:=fun y hy=>Tm.Qbr he y (Tm.EI hx hy)
 rw [Tm.U6,Tm.N0,Tm.LA]
 cases hv:AO x.name with
 | true =>
  have h0:=Tm.JN hx hv
  rw [h0]
  simp
 | false =>
  have hn:e x.name=none:=by
   cases h:e x.name with
   | none=>rfl
   | some t=>have:=(he _ _ h).2; rw [hv] at this; cases this
  cases h0:x.args.isEmpty with
  | true =>
   have:x.args=[]:=by simpa using h0
   rw [hn,this]
   simp
  | false =>
   rw [cond_false]
   simp only [yE,if_false]
   congr 1
   exact List.map_congr_left ih
termination_by SizeOf.sizeOf x
decreasing_by exact Tm.lt_of_mem hy
theorem Tm.QbN {m:Nat} {e:TEnv} (he:TB m e) (x:Tm) (hx:x.atom=true):x.rv e=x.ap e:=by
 have hnv:=U5 hx
 have hn:e x.name=none:=by
  cases h:e x.name with
  | none=>rfl
  | some t=>have:=(he _ _ h).2; rw [hnv] at this; cases this
 rw [Tm.U6,Tm.N0,Tm.LA,hnv]
 simp only [yE,if_false]
 cases h0:x.args.isEmpty with
 | true =>
  have:x.args=[]:=by simpa using h0
  rw [hn,this]
  simp
 | false =>
  rw [cond_false]
  congr 1
  exact List.map_congr_left fun y hy=>Tm.Qbr he y (Tm.Uf (Tm.MH hx) hy)
def vT (l:List ByteArray):List Tm:=l.map fun v=>.mk v []
theorem Jz:∀ l:List ByteArray,Tm.nodeS (vT l)=l.length
 | []=>by simp [vT,Tm.nodeS]
 | v :: l=>by
  have ih:=Jz l
  unfold vT at ih ⊢
  rw [zN,Tm.nodeS,ih,Tm.nodes_eq]
  show 1+Tm.nodeS []+_=_
  rw [Tm.nodeS,zG]; omega
theorem Qbs {l:List ByteArray} {k:Nat} (h:k<l.length) (h2:k<(vT l).length):(vT l)[k]=.mk l[k] []:=by simp only [vT,zY]
def Bm:ByteArray:=⟨#[115,107]⟩
def N7:List Fm→Fm
 | []=>Fm.zero
 | x :: _=>x
noncomputable def skT (tk fr ou:List ByteArray) (c:Int):Tm:=.mk (pre Bm (fresh Bm tk c)) (vT (fr++ou))
mutual
noncomputable def Fm.sk (tk fr:List ByteArray):Fm→List ByteArray→TEnv→Int→Fm × Int
 | .mk op atom var parts,ou,e,c=>bif dec (op=3) then (.mk 3 (atom.rv e) ⟨#[]⟩ [],c)
  else bif dec (op=8) then (.mk 8 Tm.zero var [N7 (Fm.skL tk fr parts (ou++[var]) e c).1],(Fm.skL tk fr parts (ou++[var]) e c).2)
  else bif dec (op=9) then (N7 (Fm.skL tk fr parts ou (Iu e var (skT tk fr ou c)) (fresh Bm tk c)).1,(Fm.skL tk fr parts ou (Iu e var (skT tk fr ou c)) (fresh Bm tk c)).2)
  else (.mk op Tm.zero ⟨#[]⟩ (Fm.skL tk fr parts ou e c).1,(Fm.skL tk fr parts ou e c).2)
noncomputable def Fm.skL (tk fr:List ByteArray):List Fm→List ByteArray→TEnv→Int→List Fm × Int
 | [],_,_,c=>([],c)
 | x :: xs,ou,e,c=>((Fm.sk tk fr x ou e c).1 :: (Fm.skL tk fr xs ou e (Fm.sk tk fr x ou e c).2).1,(Fm.skL tk fr xs ou e (Fm.sk tk fr x ou e c).2).2)
end
theorem Fm.U7 (tk fr ou:List ByteArray) (e:TEnv):∀ (xs:List Fm) (c:Int),Fm.skL tk fr xs ou e c=AE (fun y c=>Fm.sk tk fr y ou e c) xs c
 | [],c=>by rw [Fm.skL]; rfl
 | x :: xs,c=>by rw [Fm.skL,AE,Fm.U7 tk fr ou e xs]
theorem Fm.Iv (tk fr:List ByteArray) {x:Fm} (h:x.op=3) (ou:List ByteArray) (e:TEnv) (c:Int):x.sk tk fr ou e c=(.mk 3 (x.atom.rv e) ⟨#[]⟩ [],c):=by
 obtain ⟨op,atom,var,parts⟩:=x
 obtain rfl:op=3:=h
 rw [Fm.sk,An rfl]; rfl
theorem Fm.Ld (tk fr:List ByteArray) {x p:Fm} (h:x.op=8) (hp:x.parts=[p]) (ou:List ByteArray) (e:TEnv) (c:Int):x.sk tk fr ou e c=(.mk 8 Tm.zero x.var [(p.sk tk fr (ou++[x.var]) e c).1],(p.sk tk fr (ou++[x.var]) e c).2):=by
 obtain ⟨op,atom,var,parts⟩:=x
 obtain rfl:op=8:=h
 obtain rfl:parts=[p]:=hp
 rw [Fm.sk,Aj (by decide),An rfl]
 simp only [cond_true,cond_false,Fm.skL,N7,Fm.Qbp]
theorem Fm.Iw (tk fr:List ByteArray) {x p:Fm} (h:x.op=9) (hp:x.parts=[p]) (ou:List ByteArray) (e:TEnv) (c:Int):x.sk tk fr ou e c=p.sk tk fr ou (Iu e x.var (skT tk fr ou c)) (fresh Bm tk c):=by
 obtain ⟨op,atom,var,parts⟩:=x
 obtain rfl:op=9:=h
 obtain rfl:parts=[p]:=hp
 rw [Fm.sk,Aj (by decide),Aj (by decide),An rfl]
 simp only [cond_true,cond_false,Fm.skL,N7,Fm.Qbp]
theorem Fm.Gp (tk fr:List ByteArray) {x:Fm} (h3:¬ x.op=3) (h8:¬ x.op=8) (h9:¬ x.op=9) (ou:List ByteArray) (e:TEnv) (c:Int):x.sk tk fr ou e c=(.mk x.op Tm.zero ⟨#[]⟩ (AE (fun y c=>Fm.sk tk fr y ou e c) x.parts c).1,(AE (fun y c=>Fm.sk tk fr y ou e c) x.parts c).2):=by
 obtain ⟨op,atom,var,parts⟩:=x
 have h3:¬ op=3:=h3
 have h8:¬ op=8:=h8
 have h9:¬ op=9:=h9
 rw [Fm.sk,Aj h3,Aj h8,Aj h9]
 simp only [Fm.U7]
 rfl
mutual
noncomputable def Fm.bad:Fm→Nat→Bool
 | .mk op _ _ parts,n=>(dec (op=9)&&dec (4 < n)) || Fm.Qaa parts (bif dec (op=8) then n+1 else n)
noncomputable def Fm.Qaa:List Fm→Nat→Bool
 | [],_=>false
 | x :: xs,n=>Fm.bad x n || Fm.Qaa xs n
end
theorem Fm.U8 (n:Nat):∀ xs:List Fm,Fm.Qaa xs n=xs.any fun y=>y.bad n
 | []=>by rw [Fm.Qaa]; rfl
 | x :: xs=>by rw [Fm.Qaa,Fm.U8 n xs]; rfl
theorem Fm.Qab (x:Fm) (n:Nat):x.bad n=((dec (x.op=9)&&dec (4<n)) || x.parts.any fun y=>y.bad (bif dec (x.op=8) then n+1 else n)):=by
 obtain ⟨op,atom,var,parts⟩:=x
 rw [Fm.bad,Fm.U8]; rfl
theorem PK {α β:Type} (g:α→Int→β × Int) (b:α→Bool):∀ (xs:List α) (c:Int) (t:Bool),AE (fun y (s:Int × Bool)=>((g y s.1).1,((g y s.1).2,s.2 || b y))) xs (c,t)=((AE g xs c).1,((AE g xs c).2,t || xs.any b))
 | [],c,t=>by simp [AE]
 | x :: xs,c,t=>by
  have ih:=PK g b xs (g x c).2 (t || b x)
  rw [AE,AE]
  simp only
  rw [ih]
  simp only [y5,Bool.or_assoc]
theorem Fm.J0 (tk fr:List ByteArray) (x:Fm) (hx:x.forms=true):∀ (ou:List ByteArray) (e:TEnv) (c:Int),0≤c→c≤(x.sk tk fr ou e c).2∧(x.sk tk fr ou e c).2≤c+x.nodes*(tk.length+2:Nat):=by
 intro ou e c hc
 have ih:∀ y∈x.parts,∀ (ou:List ByteArray) (e:TEnv) (c:Int),0≤c→c≤(y.sk tk fr ou e c).2∧(y.sk tk fr ou e c).2≤c+y.nodes*(tk.length+2:Nat):=fun y hy=>Fm.J0 tk fr y (Fm.Be hx hy)
 have key:∀ (ou:List ByteArray) (e:TEnv) (xs:List Fm),(∀ y∈xs,y∈x.parts)→∀ c:Int,0≤c→c≤(AE (fun y c=>Fm.sk tk fr y ou e c) xs c).2∧(AE (fun y c=>Fm.sk tk fr y ou e c) xs c).2≤c+Fm.nodeS xs*(tk.length+2:Nat):=by
  intro ou e xs
  induction xs with
  | nil=>intro _ c _; rw [AE,Fm.nodeS]; simp
  | cons y ys ihy =>
   intro hm c h0
   have h1:=ih y (hm y (by simp)) ou e c h0
   have h2:=ihy (fun z hz=>hm z (by simp [hz])) (y.sk tk fr ou e c).2 (by omega)
   rw [AE,Fm.nodeS]
   dsimp only
   rw [Int.natCast_add,Int.add_mul]
   omega
 have hfo:=Fm.BB hx
 rw [Fm.nodes_eq,Int.natCast_add,Int.add_mul]
 have hT:(0:Int)≤(Fm.nodeS x.parts:Int)*(tk.length+2:Nat):=Int.mul_nonneg (by omega) (by omega)
 have hO:((1:Nat):Int)*(tk.length+2:Nat)=tk.length+2:=by simp
 rw [hO]
 by_cases h3:x.op=3
 ·rw [Fm.Iv tk fr h3]; dsimp only; omega
 by_cases h8:x.op=8
 ·obtain ⟨p,hp⟩:=(Fm.BA hfo (by unfold qB; rw [An h8]; rfl)).2
  rw [Fm.Ld tk fr h8 hp]
  have:=ih p (by rw [hp]; simp) (ou++[x.var]) e c hc
  have hs:Fm.nodeS x.parts=p.nodes:=by rw [hp]; simp [Fm.nodeS]
  rw [hs]
  dsimp only
  omega
 by_cases h9:x.op=9
 ·obtain ⟨p,hp⟩:=(Fm.BA hfo (by unfold qB; rw [An h9]; simp)).2
  rw [Fm.Iw tk fr h9 hp]
  have hf:=CG Bm tk c
  have:=ih p (by rw [hp]; simp) ou (Iu e x.var (skT tk fr ou c)) (fresh Bm tk c) (by omega)
  have hs:Fm.nodeS x.parts=p.nodes:=by rw [hp]; simp [Fm.nodeS]
  rw [hs]
  omega
 ·rw [Fm.Gp tk fr h3 h8 h9]
  have:=key ou e x.parts (fun y hy=>hy) c hc
  dsimp only
  omega
termination_by SizeOf.sizeOf x
decreasing_by exact Fm.lt_of_mem hy
theorem Fm.PL (tk fr:List ByteArray) (x:Fm) (hx:x.forms=true):∀ (ou:List ByteArray) (e:TEnv) (c:Int),fr.length+ou.length+x.nodes≤1000000→TB 1000001 e→(x.sk tk fr ou e c).1.tame∧(x.sk tk fr ou e c).1.nodes≤x.nodes:=by
 intro ou e c hb he
 have ih:∀ y∈x.parts,∀ (ou:List ByteArray) (e:TEnv) (c:Int),fr.length+ou.length+y.nodes≤1000000→TB 1000001 e→(y.sk tk fr ou e c).1.tame∧(y.sk tk fr ou e c).1.nodes≤y.nodes:=fun y hy=>Fm.PL tk fr y (Fm.Be hx hy)
 have key:∀ (xs:List Fm),(∀ y∈xs,y∈x.parts)→∀ c:Int,Fm.Gb (AE (fun y c=>Fm.sk tk fr y ou e c) xs c).1∧Fm.nodeS (AE (fun y c=>Fm.sk tk fr y ou e c) xs c).1≤Fm.nodeS xs:=by
  intro xs
  induction xs with
  | nil=>intro _ c; rw [AE,Fm.Gb,Fm.nodeS]; exact ⟨trivial,zS _⟩
  | cons y ys ihy =>
   intro hm c
   have hle:=Fm.nodes_mem (hm y (by simp))
   have hxe:=Fm.nodes_eq x
   have h1:=ih y (hm y (by simp)) ou e c (by omega) he
   have h2:=ihy (fun z hz=>hm z (by simp [hz])) (y.sk tk fr ou e c).2
   rw [AE,Fm.Gb,Fm.nodeS,Fm.nodeS]
   exact ⟨⟨h1.1,h2.1⟩,by omega⟩
 have hfo:=Fm.BB hx
 have hz:Tm.zero.nodes≤1099511627776:=by rw [Tm.Pz]; omega
 have hne:=Fm.nodes_eq x
 by_cases h3:x.op=3
 ·rw [Fm.Iv tk fr h3,Fm.Sw,Fm.P0,Fm.Gb,Fm.nodeS]
  have h1:=Tm.PJ (by omega) he x.atom
  have h2:=Fm.Il hfo
  have h4:1000001*x.atom.nodes≤1000001*30:=Nat.mul_le_mul_left _ h2
  exact ⟨⟨by omega,trivial⟩,by omega⟩
 by_cases h8:x.op=8
 ·obtain ⟨p,hp⟩:=(Fm.BA hfo (by unfold qB; rw [An h8]; rfl)).2
  have hs:Fm.nodeS x.parts=p.nodes:=by rw [hp]; simp [Fm.nodeS]
  have:=ih p (by rw [hp]; simp) (ou++[x.var]) e c (by rw [zR,List.length_singleton]; omega) he
  rw [Fm.Ld tk fr h8 hp,Fm.Sw,Fm.P0,Fm.Gb,Fm.Gb,Fm.nodeS,Fm.nodeS]
  exact ⟨⟨hz,this.1,trivial⟩,by omega⟩
 by_cases h9:x.op=9
 ·obtain ⟨hvx,p,hp⟩:=Fm.BA hfo (by unfold qB; rw [An h9]; simp)
  have hs:Fm.nodeS x.parts=p.nodes:=by rw [hp]; simp [Fm.nodeS]
  have ht:(skT tk fr ou c).nodes≤1000001:=by
   unfold skT
   rw [Tm.nodes_eq]
   show 1+Tm.nodeS (vT (fr++ou))≤_
   rw [Jz,zR]; omega
  have:=ih p (by rw [hp]; simp) ou (Iu e x.var (skT tk fr ou c)) (fresh Bm tk c) (by omega) (he.put hvx ht)
  rw [Fm.Iw tk fr h9 hp]
  exact ⟨this.1,by omega⟩
 ·have:=key x.parts (fun y hy=>hy) c
  rw [Fm.Gp tk fr h3 h8 h9,Fm.Sw,Fm.P0]
  exact ⟨⟨hz,this.1⟩,by omega⟩
termination_by SizeOf.sizeOf x
decreasing_by exact Fm.lt_of_mem hy
theorem Mb {p:ByteArray} {t u:List ByteArray} (h:∀ k:Int,pre p k∈t ↔ pre p k∈u):∀ (n:Nat) (c:Int),De p t n c=De p u n c
 | 0,c=>rfl
 | n+1,c=>by
  rw [De,De,Mb h n,show (pre p (c+1)∈t)=(pre p (c+1)∈u) from propext (h _)]
theorem U9 {p:ByteArray} {t u:List ByteArray} (h:∀ k:Int,pre p k∈t ↔ pre p k∈u) {c:Int} (hc:0≤c):fresh p t c=fresh p u c:=by
 have h1:=ME p t c
 have h2:=ME p u c
 have h3:fresh p t c=De p t (t.length+u.length+1) c:=G9 _ _ _ hc (by omega) (by omega)
 have h4:fresh p u c=De p u (t.length+u.length+1) c:=G9 _ _ _ hc (by omega) (by omega)
 rw [h3,h4,Mb h]
theorem Fm.UA {tk tu:List ByteArray} (fr:List ByteArray) (h:∀ k:Int,pre Bm k∈tk ↔ pre Bm k∈tu) (x:Fm) (hx:x.forms=true):∀ (ou:List ByteArray) (e:TEnv) (c:Int),0≤c→x.sk tk fr ou e c=x.sk tu fr ou e c:=by
 intro ou e c hc
 have ih:∀ y∈x.parts,∀ (ou:List ByteArray) (e:TEnv) (c:Int),0≤c→y.sk tk fr ou e c=y.sk tu fr ou e c:=fun y hy=>Fm.UA fr h y (Fm.Be hx hy)
 have hfo:=Fm.BB hx
 have hcnt:∀ y∈x.parts,∀ (c:Int),0≤c→0≤(y.sk tu fr ou e c).2:=fun y hy c hc=>by
  have:=(Fm.J0 tu fr y (Fm.Be hx hy) ou e c hc).1
  omega
 have key:∀ (xs:List Fm),(∀ y∈xs,y∈x.parts)→∀ c:Int,0≤c→AE (fun y c=>Fm.sk tk fr y ou e c) xs c=AE (fun y c=>Fm.sk tu fr y ou e c) xs c:=by
  intro xs
  induction xs with
  | nil=>intro _ c _; rfl
  | cons y ys ihy =>
   intro hm c h0
   rw [AE,AE,ih y (hm y (by simp)) ou e c h0,ihy (fun z hz=>hm z (by simp [hz])) _ (hcnt y (hm y (by simp)) c h0)]
 by_cases h3:x.op=3
 ·rw [Fm.Iv tk fr h3,Fm.Iv tu fr h3]
 by_cases h8:x.op=8
 ·obtain ⟨p,hp⟩:=(Fm.BA hfo (by unfold qB; rw [An h8]; rfl)).2
  rw [Fm.Ld tk fr h8 hp,Fm.Ld tu fr h8 hp,ih p (by rw [hp]; simp) _ _ _ hc]
 by_cases h9:x.op=9
 ·obtain ⟨p,hp⟩:=(Fm.BA hfo (by unfold qB; rw [An h9]; simp)).2
  have hf:=CG Bm tu c
  rw [Fm.Iw tk fr h9 hp,Fm.Iw tu fr h9 hp,skT,skT,U9 h hc,ih p (by rw [hp]; simp) _ _ _ (by omega)]
 ·rw [Fm.Gp tk fr h3 h8 h9,Fm.Gp tu fr h3 h8 h9,key x.parts (fun y hy=>hy) c hc]
termination_by SizeOf.sizeOf x
decreasing_by exact Fm.lt_of_mem hy
def CN:SC:=(.seq (.reg [⟨some 2,none,.boxv 33 2 (.t 0)⟩,⟨(some 4),none,(.alloc 33 [(.str ⟨#[]⟩),.nil])⟩]) (.seq (.seq (.reg [⟨some 11,none,.mv (.t 1)⟩,⟨some 12,none,.faddr 0 (.t 2)⟩,⟨some 13,none,.load false 1 (.t 12)⟩,⟨(some 14),none,(.mget true true true [(.str ⟨#[]⟩),.nil] (.t 11) (.t 13))⟩,⟨some 10,none,.mv (.t 14)⟩,⟨some 15,none,.ext (.t 10) 0⟩,⟨some 16,none,.ext (.t 10) 1⟩,⟨(some 5),none,(.alloc 33 [(.str ⟨#[]⟩),.nil])⟩,⟨none,none,(.store 2 (.t 5) (.t 15))⟩,⟨some 6,none,.mv (.t 16)⟩]) (.seq (.reg [⟨some 17,none,.mv (.t 6)⟩,⟨some 18,none,.mv (.t 17)⟩,⟨(some 19),(some (18,true)),(.faddr 1 (.t 2))⟩,⟨(some 20),(some (18,true)),(.load false 1 (.t 19))⟩,⟨(some 21),(some (18,true)),(.len false (.t 20))⟩,⟨(some 22),(some (18,true)),(.bin .eql false (.t 21) (.c (.int .i64 0)))⟩,⟨some 23,none,.pick (.t 18) (.t 22) (.c (.bool false))⟩]) (.cond (.t 23) (.seq (.reg [⟨some 24,none,.load true 2 (.t 5)⟩,⟨some 25,none,.call 187 [(.t 24)]⟩,⟨none,none,(.store 2 (.t 4) (.t 25))⟩]) .ret) .skip))) (.seq (.reg [⟨some 26,none,.faddr 0 (.t 2)⟩,⟨some 27,none,.load false 1 (.t 26)⟩,⟨(some 28),none,(.build [(.str ⟨#[]⟩),.nil] [(0,(1,(.t 27)))])⟩,⟨(some 7),none,(.alloc 33 [(.str ⟨#[]⟩),.nil])⟩,⟨none,none,(.store 2 (.t 7) (.t 28))⟩]) (.seq (.seq (.reg [⟨some 29,none,.faddr 1 (.t 2)⟩,⟨some 30,none,.load false 1 (.t 29)⟩,⟨some 31,none,.len false (.t 30)⟩,⟨some 32,none,.mv (.c (.int .i64 0))⟩]) (.block 0 (.loop [0,1,0,0,1,0,0,1,0,0,0,0,0,0,0,0,0,0,0,0,0,0,0,0,0,0,0,0,0,0,1,1,1,0,0,0,0,0,0,0,0,0,0,0,0,0] (.seq (.reg [⟨some 33,none,.bin .lss false (.t 32) (.t 31)⟩]) (.seq (.cond (.t 33) .skip (.exit 0)) (.seq (.block 1 (.seq (.reg [⟨some 34,none,.iaddr 2 (.t 30) (.t 32)⟩,⟨some 35,none,.load true 2 (.t 34)⟩,⟨(some 9),none,(.alloc 33 [(.str ⟨#[]⟩),.nil])⟩,⟨none,none,(.store 2 (.t 9) (.t 35))⟩]) (.dreg [[],[0],[],[],[2,3],[4,2,3],[1,0,5,4,2,3],[0,1,2,3,4,5,6],[7,0,1,2,3,4,5,6]] [⟨some 36,none,.faddr 1 (.t 7)⟩,⟨some 37,none,.load false 1 (.t 36)⟩,⟨some 38,none,.load true 2 (.t 9)⟩,⟨some 39,none,.mv (.t 1)⟩,⟨some 40,none,.call 127 [(.t 38),(.t 39)]⟩,⟨(some 41),none,(.mkrow 33 2 [(.str ⟨#[]⟩),.nil] 1 [(0,(.t 40))])⟩,⟨(some 42),none,(.append 33 2 40 [(.str ⟨#[]⟩),.nil] (.t 37) (.t 41))⟩,⟨some 43,none,.faddr 1 (.t 7)⟩,⟨none,none,(.store 1 (.t 43) (.t 42))⟩]))) (.reg [⟨some 44,none,.bin .add false (.t 32) (.c (.int .i64 1))⟩,⟨some 32,none,.mv (.t 44)⟩]))))))) (.seq (.reg [⟨some 45,none,.load true 2 (.t 7)⟩,⟨none,none,(.store 2 (.t 4) (.t 45))⟩]) .ret)))))
theorem Ec:codeOf Tryz.prog 127=some ⟨46,CN,[(.cell 4 true 2)]⟩:=by kernel_rfl
theorem Bf:modes 127=⟨[],.own [none,some (33,2)],none,false⟩:=by unfold modes; rfl
abbrev RvC (e:TEnv) (x:Tm):Prop:=E 127 [x.sv,.mp true (Cm e)] []=some ((x.rv e).osv,(x.rv e).obs)
theorem PM (e:TEnv) (m:Nat) (hm:m≤1099511627776) (he:TB m e) (x:Tm) (hn:x.args.length≤1099511627776) (ih:∀ y∈x.args,RvC e y):RvC e x:=by
  unfold RvC
  have h10:((1:Int)=0)=False:=by simp
  have e0:x.args.isEmpty=true→x.rv e=(e x.name).getD (.mk x.name []):=fun h=>by rw [Tm.U6,h]; rfl
  have e9:x.args.isEmpty=false→x.rv e=.mk x.name (x.args.map (Tm.rv e)):=fun h=>by rw [Tm.U6,h]; rfl
  have e1:(Tm.mk x.name (x.args.map (Tm.rv e))).osv=.agg [.str x.name,.ref 0]:=rfl
  have e2:(Tm.mk x.name (x.args.map (Tm.rv e))).obs=[.row 33 2 ((x.args.map (Tm.rv e)).map Tm.o)]:=rfl
  cases hq:e x.name with
  | none =>
    have hme:Cm e (.str x.name)=none:=by rw [EQ,hq]
    have e3:x.rv e=.mk x.name (x.args.map (Tm.rv e)):=by
      cases hx:x.args.isEmpty with
      | true =>
        have h0:x.args=[]:=by simpa using hx
        rw [e0 hx,hq,h0]; rfl
      | false=>exact e9 hx
    rw [e3,e1,e2]
    clear e0 e1 e2 e3 e9
    obtain ⟨nm,hnm⟩:∃ nm,nm=x.name:=⟨_,rfl⟩
    rw [←hnm] at hme ⊢
    refine Ai Ec Bf (of_decide_eq_true rfl) ?_
    simp (disch:=omega) only [CN,go_sem,Ab,hme,← hnm]
    refine go_loop (α:=Int) (fun a=>⟨slots 46 0 [(1,.mp true (Cm e)),(4,.ptr 0 0),(7,.ptr 1 0),(30,.arr (x.args.map Tm.d)),(31,.int .i64 x.args.length),(32,.int .i64 a)],(if a=0 then [.box 33 [.str ⟨#[]⟩,.nil],.box 33 [.str nm,.nil]] else [.box 33 [.str ⟨#[]⟩,.nil],.box 33 [.str nm,.ref 2],.row 33 2 (((x.args.map (Tm.rv e)).take a.toNat).map Tm.o)])⟩) (fun a=>∃ k:Nat,a=k∧k≤(x.args).length) (fun a=>(x.args).length-(a).toNat) 0 ⟨0,rfl,zI _⟩ (by simp (disch:=omega) only [go_sem,Ab,eq_self,if_true]) ?_
    rintro i ⟨k,hi,hk⟩
    have hni:i.toNat=k:=by omega
    have hni1:(i+1).toNat=k+1:=by omega
    rcases zB k (x.args).length with hlt | hge
    · have hg:=get_at Tm.d hlt
      rw [Tm.d_eq] at hg
      have hc:=ih x.args[k] (zD hlt)
      have hlm:k<(x.args.map (Tm.rv e)).length:=by rw [zE]; exact hlt
      have hs:=LL Tm.o hlm
      rw [Tm.o_eq,zY] at hs
      rcases zL k with h0 | h0
      · subst h0
        obtain rfl:i=0:=hi
        rw [z8,zK,z7] at hs
        simp (disch:=omega) only [go_sem,Ab,hni,hg,hc,Tm.osv,Tm.obs,Bf,eq_self,if_true]
        refine ⟨1,⟨1,rfl,hlt⟩,by omega,?_⟩
        simp (disch:=omega) only [go_sem,Ab,h10,if_false,hs]
      · have hi0:(i=0)=False:=by simp; omega
        have hi1:(i+1=0)=False:=by simp; omega
        have htl:((x.args.map (Tm.rv e)).take k).length=k:=by rw [zX,zE]; omega
        simp (disch:=omega) only [go_sem,Ab,hni,hg,hc,Tm.osv,Tm.obs,Bf,hi0,if_false,htl]
        refine ⟨i+1,⟨k+1,by omega,hlt⟩,by omega,?_⟩
        simp (disch:=omega) only [go_sem,Ab,hni1,hi1,if_false,hs]
    · obtain rfl:k=x.args.length:=by omega
      have ht:(x.args.map (Tm.rv e)).take x.args.length=x.args.map (Tm.rv e):=by rw [←zE (f:=Tm.rv e)]; exact yM
      rcases zL x.args.length with h0 | h0
      · have hx:x.args=[]:=zJ h0
        obtain rfl:i=0:=by omega
        first | omega | simp (disch:=omega) only [go_sem,Ab,hni,hx,eq_self,if_true,zK,zP]
      · have hi0:(i=0)=False:=by simp; omega
        first | omega | simp (disch:=omega) only [go_sem,Ab,hni,hi0,if_false,ht]
  | some v =>
    have hme:Cm e (.str x.name)=some (true,[.str v.name,.arr (v.args.map Tm.d)]):=by rw [EQ,hq]
    rcases zL x.args.length with hz | hz
    · have hx:x.args=[]:=zJ hz
      have hz0:((x.args.length:Int)=0)=True:=by rw [hx]; simp
      have hvn:=(he _ _ hq).1
      have hcp:=Is v (by omega)
      have hvs:v.sv=.agg [.str v.name,.arr (v.args.map Tm.d)]:=rfl
      rw [hvs] at hcp
      rw [e0 (by rw [hx]; rfl),hq]
      show E _ _ _=some (v.osv,v.obs)
      refine Ai Ec Bf (of_decide_eq_true rfl) ?_
      simp (disch:=omega) only [CN,go_sem,Ab,hme,hz0,Z8,hcp,CX,Tm.osv,Tm.obs]
    · have hz0:((x.args.length:Int)=0)=False:=eq_false (by omega)
      have hx:x.args.isEmpty=false:=by
        cases hx:x.args with
        | nil=>rw [hx] at hz; simp at hz
        | cons a r=>rfl
      rw [e9 hx,e1,e2]
      clear e0 e1 e2 e9
      obtain ⟨nm,hnm⟩:∃ nm,nm=x.name:=⟨_,rfl⟩
      rw [←hnm] at hme ⊢
      refine Ai Ec Bf (of_decide_eq_true rfl) ?_
      simp (disch:=omega) only [CN,go_sem,Ab,hme,hz0,Z9,← hnm]
      refine go_loop (α:=Int) (fun a=>⟨slots 46 0 [(1,.mp true (Cm e)),(4,.ptr 0 0),(7,.ptr 1 0),(30,.arr (x.args.map Tm.d)),(31,.int .i64 x.args.length),(32,.int .i64 a)],(if a=0 then [.box 33 [.str ⟨#[]⟩,.nil],.box 33 [.str nm,.nil]] else [.box 33 [.str ⟨#[]⟩,.nil],.box 33 [.str nm,.ref 2],.row 33 2 (((x.args.map (Tm.rv e)).take a.toNat).map Tm.o)])⟩) (fun a=>∃ k:Nat,a=k∧k≤(x.args).length) (fun a=>(x.args).length-(a).toNat) 0 ⟨0,rfl,zI _⟩ (by simp (disch:=omega) only [go_sem,Ab,eq_self,if_true]) ?_
      rintro i ⟨k,hi,hk⟩
      have hni:i.toNat=k:=by omega
      have hni1:(i+1).toNat=k+1:=by omega
      rcases zB k (x.args).length with hlt | hge
      · have hg:=get_at Tm.d hlt
        rw [Tm.d_eq] at hg
        have hc:=ih x.args[k] (zD hlt)
        have hlm:k<(x.args.map (Tm.rv e)).length:=by rw [zE]; exact hlt
        have hs:=LL Tm.o hlm
        rw [Tm.o_eq,zY] at hs
        rcases zL k with h0 | h0
        · subst h0
          obtain rfl:i=0:=hi
          rw [z8,zK,z7] at hs
          simp (disch:=omega) only [go_sem,Ab,hni,hg,hc,Tm.osv,Tm.obs,Bf,eq_self,if_true]
          refine ⟨1,⟨1,rfl,hlt⟩,by omega,?_⟩
          simp (disch:=omega) only [go_sem,Ab,h10,if_false,hs]
        · have hi0:(i=0)=False:=by simp; omega
          have hi1:(i+1=0)=False:=by simp; omega
          have htl:((x.args.map (Tm.rv e)).take k).length=k:=by rw [zX,zE]; omega
          simp (disch:=omega) only [go_sem,Ab,hni,hg,hc,Tm.osv,Tm.obs,Bf,hi0,if_false,htl]
          refine ⟨i+1,⟨k+1,by omega,hlt⟩,by omega,?_⟩
          simp (disch:=omega) only [go_sem,Ab,hni1,hi1,if_false,hs]
      · obtain rfl:k=x.args.length:=by omega
        have ht:(x.args.map (Tm.rv e)).take x.args.length=x.args.map (Tm.rv e):=by rw [←zE (f:=Tm.rv e)]; exact yM
        rcases zL x.args.length with h0 | h0
        · have hx:x.args=[]:=zJ h0
          obtain rfl:i=0:=by omega
          first | omega | simp (disch:=omega) only [go_sem,Ab,hni,hx,eq_self,if_true,zK,zP]
        · have hi0:(i=0)=False:=by simp; omega
          first | omega | simp (disch:=omega) only [go_sem,Ab,hni,hi0,if_false,ht]
theorem Kx (e:TEnv) (m:Nat) (hm:m≤1099511627776) (he:TB m e) (x:Tm) (hn:x.nodes≤1099511627776):RvC e x :=
 PM e m hm he x (by have:=Tm.length_le x.args; have:=Tm.nodes_eq x; omega) fun y hy=>Kx e m hm he y (by have:=Tm.nodes_mem hy; have:=Tm.nodes_eq x; omega)
termination_by SizeOf.sizeOf x
decreasing_by exact Tm.lt_of_mem hy
def GO:SC:=(.seq (.reg [⟨(some 2),none,(.mv (.c (.str ⟨#[]⟩)))⟩]) (.block 0 (.loop [1,0,0,0,0,0,0,0,0,0,0,0,0,0,0,0,0,0,0,0,0,0,0,0,0,0,0,0,0] (.block 1 (.seq (.reg [⟨some 4,none,.mv (.t 0)⟩,⟨some 5,none,.nilchk (.t 4)⟩,⟨some 6,none,.faddr 2 (.t 5)⟩,⟨some 7,none,.load false 1 (.t 6)⟩,⟨some 8,none,.bin .add false (.t 7) (.c (.int .i64 1))⟩,⟨some 9,none,.nilchk (.t 4)⟩,⟨some 10,none,.faddr 2 (.t 9)⟩,⟨none,none,(.store 1 (.t 10) (.t 8))⟩]) (.seq (.dreg [[],[0],[1,0],[2,1,0],[],[4],[5,4],[6,5,4],[7,6,5,4],[3,2,1,0,8,7,6,5,4],[9,3,2,1,0,8,7,6,5,4]] [⟨some 11,none,.mv (.t 0)⟩,⟨some 12,none,.nilchk (.t 11)⟩,⟨some 13,none,.faddr 0 (.t 12)⟩,⟨some 14,none,.load false 1 (.t 13)⟩,⟨some 15,none,.mv (.t 0)⟩,⟨some 16,none,.nilchk (.t 15)⟩,⟨some 17,none,.faddr 2 (.t 16)⟩,⟨some 18,none,.load false 1 (.t 17)⟩,⟨some 19,none,.call 189 [(.t 18)]⟩,⟨some 20,none,.bin .add false (.t 14) (.t 19)⟩,⟨some 3,none,.mv (.t 20)⟩]) (.seq (.reg [⟨some 21,none,.mv (.t 0)⟩,⟨some 22,none,.nilchk (.t 21)⟩,⟨some 23,none,.faddr 1 (.t 22)⟩,⟨some 24,none,.load false 1 (.t 23)⟩,⟨some 25,none,.mv (.t 3)⟩,⟨some 26,none,.call 185 [(.t 24),(.t 25)]⟩,⟨some 27,none,.un .not (.t 26)⟩]) (.cond (.t 27) (.seq (.reg [⟨some 28,none,.mv (.t 3)⟩,⟨some 2,none,.mv (.t 28)⟩]) .ret) .skip))))))))
theorem Mc:codeOf Tryz.prog 130=some ⟨29,GO,[(.tmp 2)]⟩:=by kernel_rfl
theorem Ev:modes 130=⟨[],.asis,none,false⟩:=by unfold modes; rfl
theorem Qba (p:ByteArray) (hp:p.size≤1000) (tk:List ByteArray) (c:Int) (h0:0≤c) (hc:c+tk.length≤1099511600000):E 130 [.ptr 0 0] [.box 89 [.str p,.ref 1,.int .i64 c],.row 9 1 (tk.map fun s=>[OT.str s])]=some (.str (pre p (fresh p tk c)),[.box 89 [.str p,.ref 1,.int .i64 (fresh p tk c)],.row 9 1 (tk.map fun s=>[OT.str s])]):=by
 have hfr:=CG p tk c
 refine Ai Mc Ev (of_decide_eq_true rfl) ?_
 simp (disch:=omega) only [GO,go_sem,Ab]
 refine go_loop (α:=Int) (fun a=>⟨slots 29 0 [(0,.ptr 0 0)],[.box 89 [.str p,.ref 1,.int .i64 a],.row 9 1 (tk.map fun s=>[OT.str s])]⟩) (fun a=>c≤a∧fresh p tk a=fresh p tk c) (fun a=>beyond p tk a) c ⟨Int.le_refl _,rfl⟩ (by simp (disch:=omega) only [go_sem,Ab]) ?_
 rintro a ⟨ha,hR⟩
 have hfa:=CG p tk a
 rw [hR] at hfa
 have hit:=QbG (a+1) (by omega) (by omega)
 have hns:=JL (show 0≤a+1 by omega) (by omega:a+1≤1099511627776)
 have hpre:p++Jd (a+1)=pre p (a+1):=rfl
 have hcn:=Fo tk (pre p (a+1)) (by omega)
 by_cases hm:pre p (a+1)∈tk
 ·rw [An hm] at hcn
  simp (disch:=omega) only [go_sem,Ab,hit,hpre,hcn,FY,As]
  exact ⟨a+1,⟨by omega,by rw [←Rh (by omega) hm]; exact hR⟩,JO (by omega) hm,by first | trivial | rfl | exact ⟨rfl,rfl⟩⟩
 ·rw [Aj hm] at hcn
  have hnew:=Ri hm
  rw [hR] at hnew
  rw [hnew]
  simp (disch:=omega) only [go_sem,Ab,hit,hpre,hcn,FY,As]
def IB:SC:=(.seq (.reg [⟨some 2,none,.mv (.c .nil)⟩]) (.seq (.reg [⟨(some 6),none,(.mkrow 33 2 [(.str ⟨#[]⟩),.nil] 0 [])⟩,⟨some 3,none,.mv (.t 6)⟩]) (.seq (.seq (.reg [⟨some 7,none,.mv (.t 0)⟩,⟨some 8,none,.len false (.t 7)⟩,⟨some 9,none,.mv (.c (.int .i64 0))⟩]) (.block 0 (.loop [0,0,0,1,0,0,0,1,1,1,0,0,0,0,0,0,0,0,0,0] (.seq (.reg [⟨some 10,none,.bin .lss false (.t 9) (.t 8)⟩]) (.seq (.cond (.t 10) .skip (.exit 0)) (.seq (.block 1 (.seq (.reg [⟨some 11,none,.iaddr 1 (.t 7) (.t 9)⟩,⟨some 12,none,.load false 1 (.t 11)⟩,⟨some 5,none,.mv (.t 12)⟩]) (.reg [⟨some 13,none,.mv (.t 3)⟩,⟨some 14,none,.mv (.t 5)⟩,⟨(some 15),none,(.build [(.str ⟨#[]⟩),.nil] [(0,(1,(.t 14)))])⟩,⟨(some 16),none,(.mkrow 33 2 [(.str ⟨#[]⟩),.nil] 1 [(0,(.t 15))])⟩,⟨(some 17),none,(.append 33 2 40 [(.str ⟨#[]⟩),.nil] (.t 13) (.t 16))⟩,⟨some 3,none,.mv (.t 17)⟩]))) (.reg [⟨some 18,none,.bin .add false (.t 9) (.c (.int .i64 1))⟩,⟨some 9,none,.mv (.t 18)⟩]))))))) (.seq (.reg [⟨some 19,none,.mv (.t 3)⟩,⟨some 2,none,.mv (.t 19)⟩]) .ret))))
theorem NS:codeOf Tryz.prog 131=some ⟨20,IB,[(.tmp 2)]⟩:=by kernel_rfl
theorem Fz:modes 131=⟨[],.frz,none,false⟩:=by unfold modes; rfl
theorem WC (l:List ByteArray) (hl:l.length≤1048576):E 131 [.arr (l.map fun s=>[D.str s])] []=some (.arr ((vT l).map Tm.d),[]):=by
 have hz:([]:List Tm).map Tm.o=[]:=rfl
 refine Ai NS Fz (of_decide_eq_true rfl) ?_
 simp (disch:=omega) only [IB,go_sem,Ab]
 refine go_loop (α:=Int) (fun a=>⟨slots 20 0 [(3,.ref 0),(7,.arr (l.map fun s=>[D.str s])),(8,.int .i64 l.length),(9,.int .i64 a)],[.row 33 2 (((vT l).take a.toNat).map Tm.o)]⟩) (fun a=>∃ k:Nat,a=k∧k≤(l).length) (fun a=>(l).length-(a).toNat) 0 ⟨0,rfl,zI _⟩ (by simp (disch:=omega) only [go_sem,Ab,z8,hz,zM]) ?_
 rintro i ⟨k,hi,hk⟩
 have hni:i.toNat=k:=by omega
 have hni1:(i+1).toNat=k+1:=by omega
 rcases zB k (l).length with hlt | hge
 ·have hg:=get_at (fun s=>[D.str s]) hlt
  have hs:((vT l).take k).map Tm.o++[[OT.str l[k],OT.ow []]]=((vT l).take (k+1)).map Tm.o:=by
   have hlv:k<(vT l).length:=by unfold vT; rw [zE]; exact hlt
   rw [yJ hlv,yD]
   rw [zN,zK,Qbs hlt hlv]; rfl
  have htl:((vT l).take k).length=k:=by unfold vT; rw [zX,zE]; omega
  simp (disch:=omega) only [go_sem,Ab,hni,hg,htl,hs]
  refine ⟨i+1,⟨k+1,by omega,hlt⟩,by omega,?_⟩
  simp (disch:=omega) only [go_sem,Ab,hni1,hs]
 ·obtain rfl:k=l.length:=by omega
  have ht:(vT l).take l.length=vT l:=yI (by unfold vT; rw [zE]; exact zS _)
  have her:=Tm.erss (vT l)
  have hfu:=Tm.fus (vT l)
  simp (disch:=omega) only [go_sem,Ab,hni,ht,her,hfu]
def Ky:SC:=(.seq (.reg [⟨some 1,none,.boxv 36 5 (.t 0)⟩,⟨some 2,none,.mv (.c (.int .i64 0))⟩]) (.seq (.reg [⟨some 3,none,.mv (.c (.int .i64 1))⟩]) (.seq (.seq (.reg [⟨some 6,none,.faddr 4 (.t 1)⟩,⟨some 7,none,.load false 1 (.t 6)⟩,⟨some 8,none,.len false (.t 7)⟩,⟨some 9,none,.mv (.c (.int .i64 0))⟩]) (.block 0 (.loop [0,0,0,1,0,0,0,1,1,1,0,0,0,0,0,0,0,0,0,0,0,0] (.seq (.reg [⟨some 10,none,.bin .lss false (.t 9) (.t 8)⟩]) (.seq (.cond (.t 10) .skip (.exit 0)) (.seq (.block 1 (.seq (.reg [⟨some 11,none,.iaddr 5 (.t 7) (.t 9)⟩,⟨some 12,none,.load true 5 (.t 11)⟩,⟨(some 5),none,(.alloc 36 [(.int .i64 0),(.str ⟨#[]⟩),.nil,(.str ⟨#[]⟩),.nil])⟩,⟨none,none,(.store 5 (.t 5) (.t 12))⟩]) (.seq (.seq (.reg [⟨some 13,none,.mv (.t 3)⟩,⟨some 14,none,.bin .gtr false (.t 13) (.c (.int .i64 40))⟩]) (.cond (.t 14) (.seq (.reg [⟨some 15,none,.mv (.t 3)⟩,⟨some 2,none,.mv (.t 15)⟩]) .ret) .skip)) (.reg [⟨some 16,none,.mv (.t 3)⟩,⟨some 17,none,.load true 5 (.t 5)⟩,⟨some 18,none,.call 116 [(.t 17)]⟩,⟨some 19,none,.bin .add false (.t 16) (.t 18)⟩,⟨some 3,none,.mv (.t 19)⟩])))) (.reg [⟨some 20,none,.bin .add false (.t 9) (.c (.int .i64 1))⟩,⟨some 9,none,.mv (.t 20)⟩]))))))) (.seq (.reg [⟨some 21,none,.mv (.t 3)⟩,⟨some 2,none,.mv (.t 21)⟩]) .ret))))
theorem Qq:codeOf Tryz.prog 116=some ⟨22,Ky,[(.tmp 2)]⟩:=by kernel_rfl
theorem DL:modes 116=⟨[],.asis,none,false⟩:=by unfold modes; rfl
theorem Qac (x:Fm) (hn:x.nodes≤1099511627776) (ih:∀ y∈x.parts,E 116 [y.sv] []=some (.int .i64 y.cap,[])):E 116 [x.sv] []=some (.int .i64 x.cap,[]):=by
 have hl:=Fm.length_le x.parts
 have hx:=Fm.nodes_eq x
 rw [Fm.cap_eq]
 refine Ai Qq DL (of_decide_eq_true rfl) ?_
 simp (disch:=omega) only [Ky,go_sem,Ab]
 refine go_loop (α:=Int × Int) (fun a=>⟨slots 22 0 [(3,.int .i64 a.2),(7,.arr (x.parts.map Fm.d)),(8,.int .i64 x.parts.length),(9,.int .i64 a.1)],[]⟩) (fun a=>∃ k:Nat,a.1=k∧k≤x.parts.length∧1≤a.2∧a.2+Fm.nodeS (x.parts.drop k)≤x.nodes∧Fm.capL (x.parts.drop k) a.2=Fm.capL x.parts 1) (fun a=>x.parts.length-a.1.toNat) (0,1) ⟨0,rfl,zI _,by dsimp only; omega,by rw [zH]; dsimp only; omega,rfl⟩ (by simp (disch:=omega) only [go_sem,Ab]) ?_
 rintro ⟨i,n⟩ ⟨k,hi,hk,hn0,hn1,hs⟩
 dsimp only at hi hn0 hn1 hs
 have hni:i.toNat=k:=by omega
 rcases zB k x.parts.length with hlt | hge
 ·have hg:=get_at Fm.d hlt
  rw [Fm.d_eq] at hg
  have hd:x.parts.drop k=x.parts[k] :: x.parts.drop (k+1):=zC hlt
  have hc:=ih x.parts[k] (zD hlt)
  have hp:=Fm.cap_spec x.parts[k]
  rw [hd,Fm.capL] at hs
  rw [hd,Fm.nodeS] at hn1
  rcases Int.lt_or_le 40 n with h30 | h30
  ·rw [if_pos h30] at hs
   simp (disch:=omega) only [go_sem,Ab,hni,hg,hc,DL]
   exact hs
  ·rw [if_neg (by omega)] at hs
   simp (disch:=omega) only [go_sem,Ab,hni,hg,hc,DL]
   refine ⟨(i+1,n+x.parts[k].cap),⟨k+1,by dsimp only; omega,hlt,by dsimp only; omega,by dsimp only; omega,hs⟩,by dsimp only; omega,?_⟩
   simp only [and_self]
 ·have hd:x.parts.drop k=[]:=zF hge
  rw [hd,Fm.capL] at hs
  simp (disch:=omega) only [go_sem,Ab,hni]
  exact hs
theorem XG (x:Fm) (hn:x.nodes≤1099511627776):E 116 [x.sv] []=some (.int .i64 x.cap,[]) :=
 Qac x hn fun y hy=>XG y (by have:=Fm.nodes_mem hy; have:=Fm.nodes_eq x; omega)
termination_by SizeOf.sizeOf x
decreasing_by exact Fm.lt_of_mem hy
def Kz:SC:=(.seq (.reg [⟨some 2,none,.boxv 36 5 (.t 0)⟩,⟨some 4,none,.mv (.c (.int .i64 0))⟩]) (.seq (.reg [⟨some 5,none,.mv (.c (.int .i64 1))⟩]) (.seq (.seq (.reg [⟨some 6,none,.mv (.c (.int .i64 0))⟩]) (.block 0 (.loop [0,1,1,0,0,1,1,0,0,0,0,0,0,0,0,0,0,0,0,0,0,0,0,0,0,0,0,0,0,0,0] (.seq (.seq (.reg [⟨some 7,none,.mv (.t 6)⟩,⟨some 8,none,.faddr 4 (.t 2)⟩,⟨some 9,none,.load false 1 (.t 8)⟩,⟨some 10,none,.len false (.t 9)⟩,⟨some 11,none,.bin .lss false (.t 7) (.t 10)⟩,⟨some 12,none,.mv (.t 11)⟩,⟨(some 13),(some (12,true)),(.mv (.t 5))⟩,⟨(some 14),(some (12,true)),(.mv (.t 1))⟩,⟨(some 15),(some (12,true)),(.bin .leq false (.t 13) (.t 14))⟩,⟨some 16,none,.pick (.t 12) (.t 15) (.c (.bool false))⟩]) (.cond (.t 16) .skip (.exit 0))) (.seq (.block 1 (.reg [⟨some 19,none,.mv (.t 5)⟩,⟨some 20,none,.faddr 4 (.t 2)⟩,⟨some 21,none,.load false 1 (.t 20)⟩,⟨some 22,none,.mv (.t 6)⟩,⟨some 23,none,.iaddr 5 (.t 21) (.t 22)⟩,⟨some 24,none,.load true 5 (.t 23)⟩,⟨some 25,none,.mv (.t 1)⟩,⟨some 26,none,.mv (.t 5)⟩,⟨some 27,none,.bin .sub false (.t 25) (.t 26)⟩,⟨some 28,none,.call 108 [(.t 24),(.t 27)]⟩,⟨some 29,none,.bin .add false (.t 19) (.t 28)⟩,⟨some 5,none,.mv (.t 29)⟩])) (.reg [⟨some 17,none,.mv (.t 6)⟩,⟨some 18,none,.bin .add false (.t 17) (.c (.int .i64 1))⟩,⟨some 6,none,.mv (.t 18)⟩])))))) (.seq (.reg [⟨some 30,none,.mv (.t 5)⟩,⟨some 4,none,.mv (.t 30)⟩]) .ret))))
theorem Qr:codeOf Tryz.prog 108=some ⟨31,Kz,[(.tmp 4)]⟩:=by kernel_rfl
theorem DM:modes 108=⟨[],.asis,none,false⟩:=by unfold modes; rfl
theorem Qad (x:Fm) (m:Int) (hm:0≤m) (hm1:m≤1099511627776) (hn:x.nodes≤1099511627776) (ih:∀ y∈x.parts,∀ m:Int,0≤m→m≤1099511627776→E 108 [y.sv,.int .i64 m] []=some (.int .i64 (y.many m),[])):E 108 [x.sv,.int .i64 m] []=some (.int .i64 (x.many m),[]):=by
 have hl:=Fm.length_le x.parts
 have hx:=Fm.nodes_eq x
 rw [Fm.many_eq]
 refine Ai Qr DM (of_decide_eq_true rfl) ?_
 simp (disch:=omega) only [Kz,go_sem,Ab]
 refine go_loop (α:=Int × Int) (fun a=>⟨slots 31 0 [(1,.int .i64 m),(2,.ptr 0 0),(5,.int .i64 a.2),(6,.int .i64 a.1)],[.box 36 [.int .i64 x.op,.str x.atom.name,.arr (x.atom.args.map Tm.d),.str x.var,.arr (x.parts.map Fm.d)]]⟩) (fun a=>∃ k:Nat,a.1=k∧k≤x.parts.length∧1≤a.2∧a.2+Fm.nodeS (x.parts.drop k)≤x.nodes∧Fm.manyL (x.parts.drop k) m a.2=Fm.manyL x.parts m 1) (fun a=>x.parts.length-a.1.toNat) (0,1) ⟨0,rfl,zI _,by dsimp only; omega,by rw [zH]; dsimp only; omega,rfl⟩ (by simp (disch:=omega) only [go_sem,Ab]) ?_
 rintro ⟨i,n⟩ ⟨k,hi,hk,hn0,hn1,hs⟩
 dsimp only at hi hn0 hn1 hs
 have hni:i.toNat=k:=by omega
 rcases zB k x.parts.length with hlt | hge
 ·have hg:=get_at Fm.d hlt
  rw [Fm.d_eq] at hg
  have hd:x.parts.drop k=x.parts[k] :: x.parts.drop (k+1):=zC hlt
  rw [hd,Fm.manyL] at hs
  rw [hd,Fm.nodeS] at hn1
  rcases Int.lt_or_le m n with h30 | h30
  ·rw [if_neg (by omega)] at hs
   simp (disch:=omega) only [go_sem,Ab,hni,hg,DM]
   exact hs
  ·rw [if_pos h30] at hs
   have hc:=ih x.parts[k] (zD hlt) (m-n) (by omega) (by omega)
   have hp:=Fm.many_spec x.parts[k] (m-n)
   simp (disch:=omega) only [go_sem,Ab,hni,hg,hc,DM]
   refine ⟨(i+1,n+x.parts[k].many (m-n)),⟨k+1,by dsimp only; omega,hlt,by dsimp only; omega,by dsimp only; omega,hs⟩,by dsimp only; omega,?_⟩
   simp only [and_self]
 ·have hd:x.parts.drop k=[]:=zF hge
  rw [hd,Fm.manyL] at hs
  simp (disch:=omega) only [go_sem,Ab,hni]
  exact hs
theorem XH (x:Fm) (m:Int) (hm:0≤m) (hm1:m≤1099511627776) (hn:x.nodes≤1099511627776):E 108 [x.sv,.int .i64 m] []=some (.int .i64 (x.many m),[]) :=
 Qad x m hm hm1 hn fun y hy m hm hm1=>XH y m hm hm1 (by have:=Fm.nodes_mem hy; have:=Fm.nodes_eq x; omega)
termination_by SizeOf.sizeOf x
decreasing_by exact Fm.lt_of_mem hy
end Go.Proofs.YtepbennkcbmgoaaGreatDoor
