/-
  This text holds, one behind the other: This text tells what the forms and the validity of formulas answer in both packages. No condition.
  This text tells what copies of formulas answer in both packages. No condition.
  This text tells what the program's check of a resulting formula answers. No condition.
  This text tells what the free variables of a formula answer in the program. No condition.
  This text tells what making a formula of an atom answers in the program. No condition.
  This text tells what removing existential quantifiers answers in the program: the walk over formulas. No condition.
  This text tells what removing existential quantifiers answers in the program: the recursion. No condition.
  This text tells whether a formula is in negation normal form, in both packages. No condition.
  This text tells what gathering the symbols of a formula answers in both packages, and what counting variables before quantifiers answers. No condition.
  This text tells whether a name is in a list of names, in the reference. No condition.
  This text tells what the free variables of a formula answer in the reference, as a row of the call's own. No condition.
  This text tells whether all quantifiers of a formula have variables of their own, in both packages. No condition.
  This text tells what renaming a term by a map and printing a number answer. No condition.
  This text tells what the next number's name is in the reference, the names taken in a row of the call's own. No condition.
  This text tells what removing existential quantifiers answers in the reference: the walk over formulas. No condition.
  This text holds plain laws of formulas: substitutions of one variable. No condition.
-/
import Derived.Test.YtepbennkcbmgoaaGreatDoorK43c
import Derived.Test.YtepbennkcbmgoaaGreatDoorK43d
set_option maxHeartbeats 16000000
open List renaming drop_eq_getElem_cons → zA, drop_eq_nil_of_le → zC, length_append → zE, drop_zero → zF, getElem_mem → zG, eq_nil_of_length_eq_zero → zJ, append_assoc → zL, append_nil → zM, map_append → zO, map_nil → zP, nil_append → zQ, length_nil → zR, map_cons → zS, map_map → zT, pairwise_iff_getElem → zU, length_singleton → z6, length_map → z7, length → yF, mem_cons → yI, sublist_append_right → yK, flatten_cons → yL, mem_flatMap → yN, mem_append → yP, any_cons → yR, Nodup → yS
open Nat renaming lt_or_ge → zB, zero_le → zI, not_lt → zK, eq_zero_or_pos → zN, le_refl → yC, zero_add → yJ
open Bool renaming false_and → zD, true_and → zH, not_false → zW, false_or → zX, and_false → zY, not_true → z8, true_or → yA, and_true → yB, or_false → yD, and_eq_true → yH, or_true → yO, and_self → yQ
open Int renaming toNat_zero → zV, tdiv_eq_ediv_of_nonneg → zZ, natCast_add → yE, mul_nonneg → yG, add_mul → yM
set_option maxRecDepth 100000
set_option linter.unusedSimpArgs false
set_option linter.unusedVariables false
set_option linter.unusedSectionVars false
namespace Go.Proofs.YtepbennkcbmgoaaGreatDoor
open Go.RowKit
def DC:SC:=(.seq (.reg [⟨some 2,none,.mv (.c (.bool false))⟩]) (.seq (.reg [⟨some 3,none,.mv (.t 0)⟩,⟨some 4,none,.bin .eql false (.t 3) (.c (.int .i64 8))⟩,⟨some 5,none,.mv (.t 4)⟩,⟨(some 6),(some (5,false)),(.mv (.t 0))⟩,⟨(some 7),(some (5,false)),(.bin .eql false (.t 6) (.c (.int .i64 9)))⟩,⟨some 8,none,.pick (.t 5) (.c (.bool true)) (.t 7)⟩,⟨some 2,none,.mv (.t 8)⟩]) .ret))
theorem F4:codeOf Tryz.prog 175=some ⟨9,DC,[(.tmp 2)]⟩:=by kernel_rfl
theorem Ac:modes 175=⟨[],.asis,none,false⟩:=by unfold modes; rfl
def IC:SC:=(.seq (.reg [⟨some 2,none,.mv (.c (.bool false))⟩]) (.seq (.reg [⟨some 3,none,.mv (.t 0)⟩,⟨some 4,none,.bin .eql false (.t 3) (.c (.int .i64 5))⟩,⟨some 5,none,.mv (.t 4)⟩,⟨(some 6),(some (5,false)),(.mv (.t 0))⟩,⟨(some 7),(some (5,false)),(.bin .eql false (.t 6) (.c (.int .i64 6)))⟩,⟨some 8,none,.pick (.t 5) (.c (.bool true)) (.t 7)⟩,⟨some 9,none,.mv (.t 8)⟩,⟨(some 10),(some (9,false)),(.mv (.t 0))⟩,⟨(some 11),(some (9,false)),(.bin .eql false (.t 10) (.c (.int .i64 7)))⟩,⟨some 12,none,.pick (.t 9) (.c (.bool true)) (.t 11)⟩,⟨some 2,none,.mv (.t 12)⟩]) .ret))
theorem NT:codeOf Tryz.prog 176=some ⟨13,IC,[(.tmp 2)]⟩:=by kernel_rfl
theorem Ah:modes 176=⟨[],.asis,none,false⟩:=by unfold modes; rfl
def Ew:SC:=(.seq (.reg [⟨some 1,none,.boxv 33 2 (.t 0)⟩,⟨some 2,none,.mv (.c (.bool false))⟩]) (.seq (.reg [⟨some 3,none,.faddr 0 (.t 1)⟩,⟨some 4,none,.load false 1 (.t 3)⟩,⟨(some 5),none,(.bin .eql false (.t 4) (.c (.str ⟨#[]⟩)))⟩,⟨some 6,none,.mv (.t 5)⟩,⟨(some 7),(some (6,true)),(.faddr 1 (.t 1))⟩,⟨(some 8),(some (6,true)),(.load false 1 (.t 7))⟩,⟨(some 9),(some (6,true)),(.len false (.t 8))⟩,⟨(some 10),(some (6,true)),(.bin .eql false (.t 9) (.c (.int .i64 0)))⟩,⟨some 11,none,.pick (.t 6) (.t 10) (.c (.bool false))⟩,⟨some 2,none,.mv (.t 11)⟩]) .ret))
theorem GP:codeOf Tryz.prog 179=some ⟨12,Ew,[(.tmp 2)]⟩:=by kernel_rfl
theorem Af:modes 179=⟨[],.asis,none,false⟩:=by unfold modes; rfl
def Hk:SC:=(.seq (.reg [⟨some 1,none,.boxv 33 2 (.t 0)⟩,⟨some 2,none,.mv (.c (.bool false))⟩]) (.seq (.reg [⟨some 3,none,.faddr 0 (.t 1)⟩,⟨some 4,none,.load false 1 (.t 3)⟩,⟨(some 5),none,(.bin .eql false (.t 4) (.c (.str ⟨#[]⟩)))⟩,⟨some 6,none,.mv (.t 5)⟩,⟨(some 7),(some (6,true)),(.faddr 1 (.t 1))⟩,⟨(some 8),(some (6,true)),(.load false 1 (.t 7))⟩,⟨(some 9),(some (6,true)),(.len false (.t 8))⟩,⟨(some 10),(some (6,true)),(.bin .eql false (.t 9) (.c (.int .i64 0)))⟩,⟨some 11,none,.pick (.t 6) (.t 10) (.c (.bool false))⟩,⟨some 2,none,.mv (.t 11)⟩]) .ret))
theorem K0:codeOf Tryz.prog 236=some ⟨12,Hk,[(.tmp 2)]⟩:=by kernel_rfl
theorem Am:modes 236=⟨[],.asis,none,false⟩:=by unfold modes; rfl
def Bt:SC:=(.seq (.reg [⟨some 4,none,.mv (.c (.int .i64 0))⟩]) (.seq (.seq (.reg [⟨some 6,none,.mv (.t 0)⟩,⟨some 7,none,.len false (.t 6)⟩,⟨some 8,none,.mv (.c (.int .i64 0))⟩]) (.block 0 (.loop [1,1,0,0,0,0,0,1,1,0,0,0,0,0,0,0,0,0,0] (.seq (.reg [⟨some 9,none,.bin .lss false (.t 8) (.t 7)⟩]) (.seq (.cond (.t 9) .skip (.exit 0)) (.seq (.block 1 (.seq (.reg [⟨some 10,none,.mv (.t 8)⟩,⟨some 5,none,.mv (.t 10)⟩]) (.seq (.reg [⟨some 11,none,.mv (.t 1)⟩,⟨some 12,none,.mv (.t 0)⟩,⟨some 13,none,.mv (.t 5)⟩,⟨some 14,none,.iaddr 5 (.t 12) (.t 13)⟩,⟨some 15,none,.load true 5 (.t 14)⟩,⟨some 16,none,.callv (.t 11) [(.t 15)]⟩]) (.cond (.t 16) (.seq (.reg [⟨some 17,none,.mv (.t 5)⟩,⟨some 4,none,.mv (.t 17)⟩]) .ret) .skip)))) (.reg [⟨some 18,none,.bin .add false (.t 8) (.c (.int .i64 1))⟩,⟨some 8,none,.mv (.t 18)⟩]))))))) (.seq (.reg [⟨some 4,none,.mv (.c (.int .i64 (-(0+1))))⟩]) .ret)))
theorem C8:codeOf Tryz.prog 183=some ⟨19,Bt,[(.tmp 4)]⟩:=by kernel_rfl
theorem Bu:modes 183=⟨[],.asis,none,false⟩:=by unfold modes; rfl
def Bi:SC:=(.seq (.reg [⟨some 4,none,.mv (.c (.bool false))⟩]) (.seq (.reg [⟨some 5,none,.mv (.t 0)⟩,⟨some 6,none,.mv (.t 1)⟩,⟨some 7,none,.call 183 [(.t 5),(.t 6)]⟩,⟨some 8,none,.bin .geq false (.t 7) (.c (.int .i64 0))⟩,⟨some 4,none,.mv (.t 8)⟩]) .ret))
theorem Ct:codeOf Tryz.prog 121=some ⟨9,Bi,[(.tmp 4)]⟩:=by kernel_rfl
theorem Aa:modes 121=⟨[],.asis,none,false⟩:=by unfold modes; rfl
theorem NU (fid:Nat) (p:Fm→Bool) (xs:List Fm) (hl:xs.length≤1099511627776) (hg:JV Tryz.prog fid=true) (hm:(modes fid).hand=[]) (hE:∀ x∈xs,E fid [x.sv] []=some (.bool (p x),[])):E 183 [.arr (xs.map Fm.d),.fn fid []] []=some (.int .i64 (D8 p xs 0),[]):=by
 refine Ai C8 Bu (of_decide_eq_true rfl) ?_
 simp (disch:=omega) only [Bt,go_sem,Ab]
 refine go_loop (α:=Int) (fun a=>⟨slots 19 0 [(0,.arr (xs.map Fm.d)),(1,.fn fid []),(7,.int .i64 xs.length),(8,.int .i64 a)],[]⟩) (fun a=>∃ k:Nat,a=k∧k≤(xs).length∧D8 p (xs.drop k) a=D8 p xs 0) (fun a=>(xs).length-(a).toNat) 0 ⟨0,rfl,zI _,by rw [zF]⟩ (by simp (disch:=omega) only [go_sem,Ab]) ?_
 rintro i ⟨k,hi,hk,hR⟩
 have hni:i.toNat=k:=by omega
 have hni1:(i+1).toNat=k+1:=by omega
 rcases zB k (xs).length with hlt | hge
 ·have hg':=get_at Fm.d hlt
  rw [Fm.d_eq] at hg'
  have hc:=hE xs[k] (zG hlt)
  rw [zA hlt,D8] at hR
  cases hp:p xs[k] with
  | true =>
   rw [hp] at hc hR
   simp (disch:=omega) only [go_sem,Ab,hni,hg',hc,hg,hm]
   simpa using hR
  | false =>
   rw [hp] at hc hR
   simp (disch:=omega) only [go_sem,Ab,hni,hg',hc,hg,hm]
   exact ⟨i+1,⟨k+1,by omega,hlt,by simpa using hR⟩,by omega,by first | trivial | rfl⟩
 ·rw [zC hge,D8] at hR
  simp (disch:=omega) only [go_sem,Ab,hni]
  exact hR
theorem Gq (fid:Nat) (p:Fm→Bool) (xs:List Fm) (hl:xs.length≤1099511627776) (hg:JV Tryz.prog fid=true) (hm:(modes fid).hand=[]) (hE:∀ x∈xs,E fid [x.sv] []=some (.bool (p x),[])):E 121 [.arr (xs.map Fm.d),.fn fid []] []=some (.bool (xs.any p),[]):=by
 have h:=NU fid p xs hl hg hm hE
 refine Ai Ct Aa (of_decide_eq_true rfl) ?_
 simp (disch:=omega) only [Bi,go_sem,Ab,h,Bu]
 rw [L9]
def Ax:SC:=(.seq (.reg [⟨some 1,none,.boxv 36 5 (.t 0)⟩,⟨some 2,none,.mv (.c (.bool false))⟩]) (.seq (.reg [⟨some 3,none,.mv (.c (.int .i64 0))⟩]) (.seq (.block 0 (.seq (.seq (.reg [⟨some 5,none,.faddr 0 (.t 1)⟩,⟨some 6,none,.load false 1 (.t 5)⟩,⟨some 7,none,.bin .eql false (.t 6) (.c (.int .i64 1))⟩,⟨some 4,none,.mv (.t 7)⟩]) (.cond (.t 4) .skip (.seq (.reg [⟨some 8,none,.faddr 0 (.t 1)⟩,⟨some 9,none,.load false 1 (.t 8)⟩,⟨some 10,none,.bin .eql false (.t 9) (.c (.int .i64 2))⟩,⟨some 4,none,.mv (.t 10)⟩]) (.cond (.t 4) .skip (.reg [⟨some 11,none,.faddr 0 (.t 1)⟩,⟨some 12,none,.load false 1 (.t 11)⟩,⟨some 13,none,.bin .eql false (.t 12) (.c (.int .i64 3))⟩,⟨some 4,none,.mv (.t 13)⟩]))))) (.cond (.t 4) .skip (.seq (.seq (.reg [⟨some 15,none,.faddr 0 (.t 1)⟩,⟨some 16,none,.load false 1 (.t 15)⟩,⟨some 17,none,.bin .eql false (.t 16) (.c (.int .i64 4))⟩,⟨some 14,none,.mv (.t 17)⟩]) (.cond (.t 14) .skip (.reg [⟨some 18,none,.faddr 0 (.t 1)⟩,⟨some 19,none,.load false 1 (.t 18)⟩,⟨some 20,none,.call 175 [(.t 19)]⟩,⟨some 14,none,.mv (.t 20)⟩]))) (.cond (.t 14) (.reg [⟨some 3,none,.mv (.c (.int .i64 1))⟩]) (.seq (.reg [⟨some 22,none,.faddr 0 (.t 1)⟩,⟨some 23,none,.load false 1 (.t 22)⟩,⟨some 24,none,.call 176 [(.t 23)]⟩,⟨some 21,none,.mv (.t 24)⟩]) (.cond (.t 21) (.reg [⟨some 3,none,.mv (.c (.int .i64 2))⟩]) (.seq (.reg [⟨some 2,none,.mv (.c (.bool false))⟩]) .ret)))))))) (.seq (.seq (.reg [⟨some 25,none,.faddr 4 (.t 1)⟩,⟨some 26,none,.load false 1 (.t 25)⟩,⟨some 27,none,.len false (.t 26)⟩,⟨some 28,none,.mv (.t 3)⟩,⟨some 29,none,.bin .neq false (.t 27) (.t 28)⟩,⟨some 30,none,.mv (.t 29)⟩,⟨(some 31),(some (30,false)),(.faddr 0 (.t 1))⟩,⟨(some 32),(some (30,false)),(.load false 1 (.t 31))⟩,⟨(some 33),(some (30,false)),(.call 175 [(.t 32)])⟩,⟨(some 34),(some (30,false)),(.mv (.t 33))⟩,⟨(some 35),(some (34,true)),(.faddr 3 (.t 1))⟩,⟨(some 36),(some (34,true)),(.load false 1 (.t 35))⟩,⟨(some 37),(some (34,true)),(.call 177 [(.t 36)])⟩,⟨(some 38),(some (34,true)),(.un .not (.t 37))⟩,⟨(some 39),(some (30,false)),(.pick (.t 34) (.t 38) (.c (.bool false)))⟩,⟨some 40,none,.pick (.t 30) (.c (.bool true)) (.t 39)⟩,⟨some 41,none,.mv (.t 40)⟩,⟨(some 42),(some (41,false)),(.faddr 0 (.t 1))⟩,⟨(some 43),(some (41,false)),(.load false 1 (.t 42))⟩,⟨(some 44),(some (41,false)),(.call 175 [(.t 43)])⟩,⟨(some 45),(some (41,false)),(.un .not (.t 44))⟩,⟨(some 46),(some (41,false)),(.mv (.t 45))⟩,⟨(some 47),(some (46,true)),(.faddr 3 (.t 1))⟩,⟨(some 48),(some (46,true)),(.load false 1 (.t 47))⟩,⟨(some 49),(some (46,true)),(.bin .neq false (.t 48) (.c (.str ⟨#[]⟩)))⟩,⟨(some 50),(some (41,false)),(.pick (.t 46) (.t 49) (.c (.bool false)))⟩,⟨some 51,none,.pick (.t 41) (.c (.bool true)) (.t 50)⟩]) (.cond (.t 51) (.seq (.reg [⟨some 2,none,.mv (.c (.bool false))⟩]) .ret) .skip)) (.seq (.seq (.reg [⟨some 52,none,.faddr 0 (.t 1)⟩,⟨some 53,none,.load false 1 (.t 52)⟩,⟨some 54,none,.bin .eql false (.t 53) (.c (.int .i64 3))⟩,⟨some 55,none,.mv (.t 54)⟩,⟨(some 56),(some (55,true)),(.faddr 1 (.t 1))⟩,⟨(some 57),(some (55,true)),(.load true 2 (.t 56))⟩,⟨(some 58),(some (55,true)),(.call 178 [(.t 57)])⟩,⟨(some 59),(some (55,true)),(.un .not (.t 58))⟩,⟨some 60,none,.pick (.t 55) (.t 59) (.c (.bool false))⟩,⟨some 61,none,.mv (.t 60)⟩,⟨(some 62),(some (61,false)),(.faddr 0 (.t 1))⟩,⟨(some 63),(some (61,false)),(.load false 1 (.t 62))⟩,⟨(some 64),(some (61,false)),(.bin .neq false (.t 63) (.c (.int .i64 3)))⟩,⟨(some 65),(some (61,false)),(.mv (.t 64))⟩,⟨(some 66),(some (65,true)),(.faddr 1 (.t 1))⟩,⟨(some 67),(some (65,true)),(.load true 2 (.t 66))⟩,⟨(some 68),(some (65,true)),(.call 179 [(.t 67)])⟩,⟨(some 69),(some (65,true)),(.un .not (.t 68))⟩,⟨(some 70),(some (61,false)),(.pick (.t 65) (.t 69) (.c (.bool false)))⟩,⟨some 71,none,.pick (.t 61) (.c (.bool true)) (.t 70)⟩]) (.cond (.t 71) (.seq (.reg [⟨some 2,none,.mv (.c (.bool false))⟩]) .ret) .skip)) (.seq (.reg [⟨some 72,none,.faddr 4 (.t 1)⟩,⟨some 73,none,.load false 1 (.t 72)⟩,⟨some 74,none,.call 121 [(.t 73),(.c (.fn 180 []))]⟩,⟨some 75,none,.un .not (.t 74)⟩,⟨some 2,none,.mv (.t 75)⟩]) .ret))))))
theorem Ay:codeOf Tryz.prog 117=some ⟨76,Ax,[(.tmp 2)]⟩:=by kernel_rfl
theorem Au:modes 117=⟨[],.asis,none,false⟩:=by unfold modes; rfl
def HU:SC:=(.seq (.reg [⟨some 1,none,.boxv 36 5 (.t 0)⟩,⟨some 2,none,.mv (.c (.bool false))⟩]) (.seq (.reg [⟨some 3,none,.load true 5 (.t 1)⟩,⟨some 4,none,.call 117 [(.t 3)]⟩,⟨some 5,none,.un .not (.t 4)⟩,⟨some 2,none,.mv (.t 5)⟩]) .ret))
theorem MX:codeOf Tryz.prog 180=some ⟨6,HU,[(.tmp 2)]⟩:=by kernel_rfl
theorem HV:modes 180=⟨[],.asis,none,false⟩:=by unfold modes; rfl
theorem MY:JV Tryz.prog 180=true:=by kernel_rfl
def AC:SC:=(.seq (.reg [⟨some 1,none,.boxv 36 5 (.t 0)⟩,⟨some 2,none,.mv (.c (.bool false))⟩]) (.seq (.reg [⟨some 4,none,.faddr 4 (.t 1)⟩,⟨some 5,none,.load false 1 (.t 4)⟩,⟨some 6,none,.len false (.t 5)⟩,⟨some 3,none,.mv (.t 6)⟩]) (.seq (.seq (.reg [⟨some 7,none,.faddr 0 (.t 1)⟩,⟨some 8,none,.load false 1 (.t 7)⟩]) (.block 0 (.seq (.seq (.reg [⟨some 10,none,.bin .eql false (.t 8) (.c (.int .i64 1))⟩,⟨some 9,none,.mv (.t 10)⟩]) (.cond (.t 9) .skip (.reg [⟨some 11,none,.bin .eql false (.t 8) (.c (.int .i64 2))⟩,⟨some 9,none,.mv (.t 11)⟩]))) (.cond (.t 9) (.seq (.reg [⟨some 12,none,.mv (.t 3)⟩,⟨some 13,none,.bin .eql false (.t 12) (.c (.int .i64 0))⟩,⟨some 14,none,.mv (.t 13)⟩,⟨(some 15),(some (14,true)),(.faddr 1 (.t 1))⟩,⟨(some 16),(some (14,true)),(.load true 2 (.t 15))⟩,⟨(some 17),(some (14,true)),(.call 236 [(.t 16)])⟩,⟨some 18,none,.pick (.t 14) (.t 17) (.c (.bool false))⟩,⟨some 19,none,.mv (.t 18)⟩,⟨(some 20),(some (19,true)),(.faddr 3 (.t 1))⟩,⟨(some 21),(some (19,true)),(.load false 1 (.t 20))⟩,⟨(some 22),(some (19,true)),(.bin .eql false (.t 21) (.c (.str ⟨#[]⟩)))⟩,⟨some 23,none,.pick (.t 19) (.t 22) (.c (.bool false))⟩,⟨some 2,none,.mv (.t 23)⟩]) .ret) (.seq (.reg [⟨some 25,none,.bin .eql false (.t 8) (.c (.int .i64 3))⟩,⟨some 24,none,.mv (.t 25)⟩]) (.cond (.t 24) (.seq (.reg [⟨some 26,none,.mv (.t 3)⟩,⟨some 27,none,.bin .eql false (.t 26) (.c (.int .i64 0))⟩,⟨some 28,none,.mv (.t 27)⟩,⟨(some 29),(some (28,true)),(.faddr 1 (.t 1))⟩,⟨(some 30),(some (28,true)),(.load true 2 (.t 29))⟩,⟨(some 31),(some (28,true)),(.call 194 [(.t 30)])⟩,⟨some 32,none,.pick (.t 28) (.t 31) (.c (.bool false))⟩,⟨some 33,none,.mv (.t 32)⟩,⟨(some 34),(some (33,true)),(.faddr 3 (.t 1))⟩,⟨(some 35),(some (33,true)),(.load false 1 (.t 34))⟩,⟨(some 36),(some (33,true)),(.bin .eql false (.t 35) (.c (.str ⟨#[]⟩)))⟩,⟨some 37,none,.pick (.t 33) (.t 36) (.c (.bool false))⟩,⟨some 2,none,.mv (.t 37)⟩]) .ret) (.seq (.reg [⟨some 39,none,.bin .eql false (.t 8) (.c (.int .i64 4))⟩,⟨some 38,none,.mv (.t 39)⟩]) (.cond (.t 38) (.seq (.reg [⟨some 40,none,.mv (.t 3)⟩,⟨some 41,none,.bin .eql false (.t 40) (.c (.int .i64 1))⟩,⟨some 42,none,.mv (.t 41)⟩,⟨(some 43),(some (42,true)),(.faddr 1 (.t 1))⟩,⟨(some 44),(some (42,true)),(.load true 2 (.t 43))⟩,⟨(some 45),(some (42,true)),(.call 236 [(.t 44)])⟩,⟨some 46,none,.pick (.t 42) (.t 45) (.c (.bool false))⟩,⟨some 47,none,.mv (.t 46)⟩,⟨(some 48),(some (47,true)),(.faddr 3 (.t 1))⟩,⟨(some 49),(some (47,true)),(.load false 1 (.t 48))⟩,⟨(some 50),(some (47,true)),(.bin .eql false (.t 49) (.c (.str ⟨#[]⟩)))⟩,⟨some 51,none,.pick (.t 47) (.t 50) (.c (.bool false))⟩,⟨some 2,none,.mv (.t 51)⟩]) .ret) (.seq (.seq (.reg [⟨some 53,none,.bin .eql false (.t 8) (.c (.int .i64 5))⟩,⟨some 52,none,.mv (.t 53)⟩]) (.cond (.t 52) .skip (.seq (.reg [⟨some 54,none,.bin .eql false (.t 8) (.c (.int .i64 6))⟩,⟨some 52,none,.mv (.t 54)⟩]) (.cond (.t 52) .skip (.reg [⟨some 55,none,.bin .eql false (.t 8) (.c (.int .i64 7))⟩,⟨some 52,none,.mv (.t 55)⟩]))))) (.cond (.t 52) (.seq (.reg [⟨some 56,none,.mv (.t 3)⟩,⟨some 57,none,.bin .eql false (.t 56) (.c (.int .i64 2))⟩,⟨some 58,none,.mv (.t 57)⟩,⟨(some 59),(some (58,true)),(.faddr 1 (.t 1))⟩,⟨(some 60),(some (58,true)),(.load true 2 (.t 59))⟩,⟨(some 61),(some (58,true)),(.call 236 [(.t 60)])⟩,⟨some 62,none,.pick (.t 58) (.t 61) (.c (.bool false))⟩,⟨some 63,none,.mv (.t 62)⟩,⟨(some 64),(some (63,true)),(.faddr 3 (.t 1))⟩,⟨(some 65),(some (63,true)),(.load false 1 (.t 64))⟩,⟨(some 66),(some (63,true)),(.bin .eql false (.t 65) (.c (.str ⟨#[]⟩)))⟩,⟨some 67,none,.pick (.t 63) (.t 66) (.c (.bool false))⟩,⟨some 2,none,.mv (.t 67)⟩]) .ret) (.seq (.seq (.reg [⟨some 69,none,.bin .eql false (.t 8) (.c (.int .i64 8))⟩,⟨some 68,none,.mv (.t 69)⟩]) (.cond (.t 68) .skip (.reg [⟨some 70,none,.bin .eql false (.t 8) (.c (.int .i64 9))⟩,⟨some 68,none,.mv (.t 70)⟩]))) (.cond (.t 68) (.seq (.reg [⟨some 71,none,.mv (.t 3)⟩,⟨some 72,none,.bin .eql false (.t 71) (.c (.int .i64 1))⟩,⟨some 73,none,.mv (.t 72)⟩,⟨(some 74),(some (73,true)),(.faddr 1 (.t 1))⟩,⟨(some 75),(some (73,true)),(.load true 2 (.t 74))⟩,⟨(some 76),(some (73,true)),(.call 236 [(.t 75)])⟩,⟨some 77,none,.pick (.t 73) (.t 76) (.c (.bool false))⟩,⟨some 78,none,.mv (.t 77)⟩,⟨(some 79),(some (78,true)),(.faddr 3 (.t 1))⟩,⟨(some 80),(some (78,true)),(.load false 1 (.t 79))⟩,⟨(some 81),(some (78,true)),(.call 191 [(.t 80)])⟩,⟨some 82,none,.pick (.t 78) (.t 81) (.c (.bool false))⟩,⟨some 2,none,.mv (.t 82)⟩]) .ret) .skip)))))))))))) (.seq (.reg [⟨some 2,none,.mv (.c (.bool false))⟩]) .ret))))
theorem AF:codeOf Tryz.prog 171=some ⟨83,AC,[(.tmp 2)]⟩:=by kernel_rfl
theorem A8:modes 171=⟨[],.asis,none,false⟩:=by unfold modes; rfl
def Gr:SC:=(.seq (.reg [⟨some 1,none,.boxv 36 5 (.t 0)⟩,⟨some 2,none,.mv (.c (.bool false))⟩]) (.seq (.seq (.reg [⟨some 4,none,.load true 5 (.t 1)⟩,⟨some 5,none,.call 171 [(.t 4)]⟩,⟨some 6,none,.un .not (.t 5)⟩]) (.cond (.t 6) (.seq (.reg [⟨some 2,none,.mv (.c (.bool false))⟩]) .ret) .skip)) (.seq (.seq (.reg [⟨some 3,none,.mv (.c (.int .i64 0))⟩]) (.block 0 (.loop [0,1,0,1,0,0,0,0,0,0,0,0,0,0,0,0,0,0,0,0,0] (.seq (.seq (.reg [⟨some 7,none,.mv (.t 3)⟩,⟨some 8,none,.faddr 4 (.t 1)⟩,⟨some 9,none,.load false 1 (.t 8)⟩,⟨some 10,none,.len false (.t 9)⟩,⟨some 11,none,.bin .lss false (.t 7) (.t 10)⟩]) (.cond (.t 11) .skip (.exit 0))) (.seq (.block 1 (.seq (.reg [⟨some 14,none,.faddr 4 (.t 1)⟩,⟨some 15,none,.load false 1 (.t 14)⟩,⟨some 16,none,.mv (.t 3)⟩,⟨some 17,none,.iaddr 5 (.t 15) (.t 16)⟩,⟨some 18,none,.load true 5 (.t 17)⟩,⟨some 19,none,.call 109 [(.t 18)]⟩,⟨some 20,none,.un .not (.t 19)⟩]) (.cond (.t 20) (.seq (.reg [⟨some 2,none,.mv (.c (.bool false))⟩]) .ret) .skip))) (.reg [⟨some 12,none,.mv (.t 3)⟩,⟨some 13,none,.bin .add false (.t 12) (.c (.int .i64 1))⟩,⟨some 3,none,.mv (.t 13)⟩])))))) (.seq (.reg [⟨some 2,none,.mv (.c (.bool true))⟩]) .ret))))
theorem J1:codeOf Tryz.prog 109=some ⟨21,Gr,[(.tmp 2)]⟩:=by kernel_rfl
theorem C9:modes 109=⟨[],.asis,none,false⟩:=by unfold modes; rfl
def Dg:SC:=(.seq (.reg [⟨some 1,none,.boxv 36 5 (.t 0)⟩,⟨some 2,none,.mv (.c (.bool false))⟩]) (.seq (.reg [⟨some 3,none,.load true 5 (.t 1)⟩,⟨some 4,none,.call 116 [(.t 3)]⟩,⟨some 5,none,.bin .leq false (.t 4) (.c (.int .i64 40))⟩,⟨some 6,none,.mv (.t 5)⟩,⟨(some 7),(some (6,true)),(.load true 5 (.t 1))⟩,⟨(some 8),(some (6,true)),(.call 117 [(.t 7)])⟩,⟨some 9,none,.pick (.t 6) (.t 8) (.c (.bool false))⟩,⟨some 2,none,.mv (.t 9)⟩]) .ret))
theorem E6:codeOf Tryz.prog 53=some ⟨10,Dg,[(.tmp 2)]⟩:=by kernel_rfl
theorem A9:modes 53=⟨[],.asis,none,false⟩:=by unfold modes; rfl
def Hl:SC:=(.seq (.reg [⟨some 1,none,.boxv 36 5 (.t 0)⟩,⟨some 2,none,.mv (.c (.bool false))⟩]) (.seq (.reg [⟨some 3,none,.load true 5 (.t 1)⟩,⟨some 4,none,.call 108 [(.t 3),(.c (.int .i64 40))]⟩,⟨some 5,none,.bin .leq false (.t 4) (.c (.int .i64 40))⟩,⟨some 6,none,.mv (.t 5)⟩,⟨(some 7),(some (6,true)),(.load true 5 (.t 1))⟩,⟨(some 8),(some (6,true)),(.call 109 [(.t 7)])⟩,⟨some 9,none,.pick (.t 6) (.t 8) (.c (.bool false))⟩,⟨some 2,none,.mv (.t 9)⟩]) .ret))
theorem K1:codeOf Tryz.prog 48=some ⟨10,Hl,[(.tmp 2)]⟩:=by kernel_rfl
theorem Bz:modes 48=⟨[],.asis,none,false⟩:=by unfold modes; rfl
theorem BM (n:Int):E 175 [.int .i64 n] []=some (.bool (dec (n=8) || dec (n=9)),[]):=by
 cases h1:dec (n=8) with
 | true =>
  refine Ai F4 Ac (of_decide_eq_true rfl) ?_
  simp (disch:=omega) only [DC,go_sem,Ab,h1]
 | false =>
  refine Ai F4 Ac (of_decide_eq_true rfl) ?_
  simp (disch:=omega) only [DC,go_sem,Ab,h1]
theorem ER (n:Int):E 176 [.int .i64 n] []=some (.bool (dec (n=5) || dec (n=6) || dec (n=7)),[]):=by
 cases h1:dec (n=5) <;> cases h2:dec (n=6)
 all_goals
  refine Ai NT Ah (of_decide_eq_true rfl) ?_
  simp (disch:=omega) only [IC,go_sem,Ab,h1,h2]
theorem FF (x:Tm):E 179 [x.sv] []=some (.bool x.isZ,[]):=by
 unfold Tm.isZ
 have hl:dec ((x.args.length:Int)=0)=(x.args.length == 0):=by
  rw [KG]
  cases x.args <;> simp <;> omega
 cases h1:dec (x.name=⟨#[]⟩) with
 | true =>
  refine Ai GP Af (of_decide_eq_true rfl) ?_
  simp (disch:=omega) only [Ew,go_sem,Ab,h1]
  try rw [hl]
 | false =>
  refine Ai GP Af (of_decide_eq_true rfl) ?_
  simp (disch:=omega) only [Ew,go_sem,Ab,h1]
theorem Md (x:Tm):E 236 [x.sv] []=some (.bool x.isZ,[]):=by
 unfold Tm.isZ
 have hl:dec ((x.args.length:Int)=0)=(x.args.length == 0):=by
  rw [KG]
  cases x.args <;> simp <;> omega
 cases h1:dec (x.name=⟨#[]⟩) with
 | true =>
  refine Ai K0 Am (of_decide_eq_true rfl) ?_
  simp (disch:=omega) only [Hk,go_sem,Ab,h1]
  try rw [hl]
 | false =>
  refine Ai K0 Am (of_decide_eq_true rfl) ?_
  simp (disch:=omega) only [Hk,go_sem,Ab,h1]
theorem UC (x:Fm) (hn:x.atom.nodes≤1099511627776) (ho:x.op=1∨x.op=2):E 171 [x.sv] []=some (.bool x.form,[]):=by
  have hf:x.form=(x.parts.length == 0&&x.atom.isZ&&dec (x.var=⟨#[]⟩)):=by unfold Fm.form; rcases ho with ho | ho <;> simp [ho]
  rcases ho with ho | ho
  all_goals
    first
      | (have o1:dec (x.op=1)=true:=An ho)
      | (have o1:dec (x.op=1)=false:=Aj (by omega))
    first
      | (have o2:dec (x.op=2)=true:=An ho)
      | (have o2:dec (x.op=2)=false:=Aj (by omega))
    have o3:dec (x.op=3)=false:=Aj (by omega)
    have o4:dec (x.op=4)=false:=Aj (by omega)
    have o5:dec (x.op=5)=false:=Aj (by omega)
    have o6:dec (x.op=6)=false:=Aj (by omega)
    have o7:dec (x.op=7)=false:=Aj (by omega)
    have o8:dec (x.op=8)=false:=Aj (by omega)
    have o9:dec (x.op=9)=false:=Aj (by omega)
    have ha:=Md x.atom
    have hv:=Dx x.var
    rw [hf]
    by_cases hl:x.parts.length=0
    · have hl2:dec ((x.parts.length:Int)=0)=true:=An (by omega)
      rw [hl,beq_self_eq_true,zH]
      cases hq:x.atom.isZ with
      | true =>
        rw [hq] at ha
        rw [zH]
        refine Ai AF A8 (of_decide_eq_true rfl) ?_
        simp (disch:=omega) only [AC,go_sem,o1,o2,o3,o4,o5,o6,o7,o8,o9,hl2,ha,hv,Al,Am,Ak]
        repeat ((first | (refine A5 ?_ ?_; (focus (simp (disch:=omega) only [go_sem,o1,o2,o3,o4,o5,o6,o7,o8,o9,hl2,ha,hv,Al,Am,Ak]; done))) | (refine A6 ?_ ?_; (focus (simp (disch:=omega) only [go_sem,o1,o2,o3,o4,o5,o6,o7,o8,o9,hl2,ha,hv,Al,Am,Ak]; done)))); (try simp (disch:=omega) only [go_sem,o1,o2,o3,o4,o5,o6,o7,o8,o9,hl2,ha,hv,Al,Am,Ak]))
      | false =>
        rw [hq] at ha
        rw [zD]
        refine Ai AF A8 (of_decide_eq_true rfl) ?_
        simp (disch:=omega) only [AC,go_sem,o1,o2,o3,o4,o5,o6,o7,o8,o9,hl2,ha,hv,Al,Am,Ak]
        repeat ((first | (refine A5 ?_ ?_; (focus (simp (disch:=omega) only [go_sem,o1,o2,o3,o4,o5,o6,o7,o8,o9,hl2,ha,hv,Al,Am,Ak]; done))) | (refine A6 ?_ ?_; (focus (simp (disch:=omega) only [go_sem,o1,o2,o3,o4,o5,o6,o7,o8,o9,hl2,ha,hv,Al,Am,Ak]; done)))); (try simp (disch:=omega) only [go_sem,o1,o2,o3,o4,o5,o6,o7,o8,o9,hl2,ha,hv,Al,Am,Ak]))
    · have hl2:dec ((x.parts.length:Int)=0)=false:=Aj (by omega)
      have hl3:(x.parts.length == 0)=false:=by simpa using hl
      rw [hl3,zD,zD]
      refine Ai AF A8 (of_decide_eq_true rfl) ?_
      simp (disch:=omega) only [AC,go_sem,o1,o2,o3,o4,o5,o6,o7,o8,o9,hl2,ha,hv,Al,Am,Ak]
      repeat ((first | (refine A5 ?_ ?_; (focus (simp (disch:=omega) only [go_sem,o1,o2,o3,o4,o5,o6,o7,o8,o9,hl2,ha,hv,Al,Am,Ak]; done))) | (refine A6 ?_ ?_; (focus (simp (disch:=omega) only [go_sem,o1,o2,o3,o4,o5,o6,o7,o8,o9,hl2,ha,hv,Al,Am,Ak]; done)))); (try simp (disch:=omega) only [go_sem,o1,o2,o3,o4,o5,o6,o7,o8,o9,hl2,ha,hv,Al,Am,Ak]))
theorem Qae (x:Fm) (hn:x.atom.nodes≤1099511627776) (ho:x.op=3):E 171 [x.sv] []=some (.bool x.form,[]):=by
  have hf:x.form=(x.parts.length == 0&&x.atom.atom&&dec (x.var=⟨#[]⟩)):=by unfold Fm.form; rcases ho with ho <;> simp [ho]
  rcases ho with ho
  all_goals
    have o1:dec (x.op=1)=false:=Aj (by omega)
    have o2:dec (x.op=2)=false:=Aj (by omega)
    have o3:dec (x.op=3)=true:=An ho
    have o4:dec (x.op=4)=false:=Aj (by omega)
    have o5:dec (x.op=5)=false:=Aj (by omega)
    have o6:dec (x.op=6)=false:=Aj (by omega)
    have o7:dec (x.op=7)=false:=Aj (by omega)
    have o8:dec (x.op=8)=false:=Aj (by omega)
    have o9:dec (x.op=9)=false:=Aj (by omega)
    have ha:=ZI x.atom (by omega)
    have hv:=Dx x.var
    rw [hf]
    by_cases hl:x.parts.length=0
    · have hl2:dec ((x.parts.length:Int)=0)=true:=An (by omega)
      rw [hl,beq_self_eq_true,zH]
      cases hq:x.atom.atom with
      | true =>
        rw [hq] at ha
        rw [zH]
        refine Ai AF A8 (of_decide_eq_true rfl) ?_
        simp (disch:=omega) only [AC,go_sem,o1,o2,o3,o4,o5,o6,o7,o8,o9,hl2,ha,hv,Al,Am,Ak]
        repeat ((first | (refine A5 ?_ ?_; (focus (simp (disch:=omega) only [go_sem,o1,o2,o3,o4,o5,o6,o7,o8,o9,hl2,ha,hv,Al,Am,Ak]; done))) | (refine A6 ?_ ?_; (focus (simp (disch:=omega) only [go_sem,o1,o2,o3,o4,o5,o6,o7,o8,o9,hl2,ha,hv,Al,Am,Ak]; done)))); (try simp (disch:=omega) only [go_sem,o1,o2,o3,o4,o5,o6,o7,o8,o9,hl2,ha,hv,Al,Am,Ak]))
      | false =>
        rw [hq] at ha
        rw [zD]
        refine Ai AF A8 (of_decide_eq_true rfl) ?_
        simp (disch:=omega) only [AC,go_sem,o1,o2,o3,o4,o5,o6,o7,o8,o9,hl2,ha,hv,Al,Am,Ak]
        repeat ((first | (refine A5 ?_ ?_; (focus (simp (disch:=omega) only [go_sem,o1,o2,o3,o4,o5,o6,o7,o8,o9,hl2,ha,hv,Al,Am,Ak]; done))) | (refine A6 ?_ ?_; (focus (simp (disch:=omega) only [go_sem,o1,o2,o3,o4,o5,o6,o7,o8,o9,hl2,ha,hv,Al,Am,Ak]; done)))); (try simp (disch:=omega) only [go_sem,o1,o2,o3,o4,o5,o6,o7,o8,o9,hl2,ha,hv,Al,Am,Ak]))
    · have hl2:dec ((x.parts.length:Int)=0)=false:=Aj (by omega)
      have hl3:(x.parts.length == 0)=false:=by simpa using hl
      rw [hl3,zD,zD]
      refine Ai AF A8 (of_decide_eq_true rfl) ?_
      simp (disch:=omega) only [AC,go_sem,o1,o2,o3,o4,o5,o6,o7,o8,o9,hl2,ha,hv,Al,Am,Ak]
      repeat ((first | (refine A5 ?_ ?_; (focus (simp (disch:=omega) only [go_sem,o1,o2,o3,o4,o5,o6,o7,o8,o9,hl2,ha,hv,Al,Am,Ak]; done))) | (refine A6 ?_ ?_; (focus (simp (disch:=omega) only [go_sem,o1,o2,o3,o4,o5,o6,o7,o8,o9,hl2,ha,hv,Al,Am,Ak]; done)))); (try simp (disch:=omega) only [go_sem,o1,o2,o3,o4,o5,o6,o7,o8,o9,hl2,ha,hv,Al,Am,Ak]))
theorem Qaf (x:Fm) (hn:x.atom.nodes≤1099511627776) (ho:x.op=4):E 171 [x.sv] []=some (.bool x.form,[]):=by
  have hf:x.form=(x.parts.length == 1&&x.atom.isZ&&dec (x.var=⟨#[]⟩)):=by unfold Fm.form; rcases ho with ho <;> simp [ho]
  rcases ho with ho
  all_goals
    have o1:dec (x.op=1)=false:=Aj (by omega)
    have o2:dec (x.op=2)=false:=Aj (by omega)
    have o3:dec (x.op=3)=false:=Aj (by omega)
    have o4:dec (x.op=4)=true:=An ho
    have o5:dec (x.op=5)=false:=Aj (by omega)
    have o6:dec (x.op=6)=false:=Aj (by omega)
    have o7:dec (x.op=7)=false:=Aj (by omega)
    have o8:dec (x.op=8)=false:=Aj (by omega)
    have o9:dec (x.op=9)=false:=Aj (by omega)
    have ha:=Md x.atom
    have hv:=Dx x.var
    rw [hf]
    by_cases hl:x.parts.length=1
    · have hl2:dec ((x.parts.length:Int)=1)=true:=An (by omega)
      rw [hl,beq_self_eq_true,zH]
      cases hq:x.atom.isZ with
      | true =>
        rw [hq] at ha
        rw [zH]
        refine Ai AF A8 (of_decide_eq_true rfl) ?_
        simp (disch:=omega) only [AC,go_sem,o1,o2,o3,o4,o5,o6,o7,o8,o9,hl2,ha,hv,Al,Am,Ak]
        repeat ((first | (refine A5 ?_ ?_; (focus (simp (disch:=omega) only [go_sem,o1,o2,o3,o4,o5,o6,o7,o8,o9,hl2,ha,hv,Al,Am,Ak]; done))) | (refine A6 ?_ ?_; (focus (simp (disch:=omega) only [go_sem,o1,o2,o3,o4,o5,o6,o7,o8,o9,hl2,ha,hv,Al,Am,Ak]; done)))); (try simp (disch:=omega) only [go_sem,o1,o2,o3,o4,o5,o6,o7,o8,o9,hl2,ha,hv,Al,Am,Ak]))
      | false =>
        rw [hq] at ha
        rw [zD]
        refine Ai AF A8 (of_decide_eq_true rfl) ?_
        simp (disch:=omega) only [AC,go_sem,o1,o2,o3,o4,o5,o6,o7,o8,o9,hl2,ha,hv,Al,Am,Ak]
        repeat ((first | (refine A5 ?_ ?_; (focus (simp (disch:=omega) only [go_sem,o1,o2,o3,o4,o5,o6,o7,o8,o9,hl2,ha,hv,Al,Am,Ak]; done))) | (refine A6 ?_ ?_; (focus (simp (disch:=omega) only [go_sem,o1,o2,o3,o4,o5,o6,o7,o8,o9,hl2,ha,hv,Al,Am,Ak]; done)))); (try simp (disch:=omega) only [go_sem,o1,o2,o3,o4,o5,o6,o7,o8,o9,hl2,ha,hv,Al,Am,Ak]))
    · have hl2:dec ((x.parts.length:Int)=1)=false:=Aj (by omega)
      have hl3:(x.parts.length == 1)=false:=by simpa using hl
      rw [hl3,zD,zD]
      refine Ai AF A8 (of_decide_eq_true rfl) ?_
      simp (disch:=omega) only [AC,go_sem,o1,o2,o3,o4,o5,o6,o7,o8,o9,hl2,ha,hv,Al,Am,Ak]
      repeat ((first | (refine A5 ?_ ?_; (focus (simp (disch:=omega) only [go_sem,o1,o2,o3,o4,o5,o6,o7,o8,o9,hl2,ha,hv,Al,Am,Ak]; done))) | (refine A6 ?_ ?_; (focus (simp (disch:=omega) only [go_sem,o1,o2,o3,o4,o5,o6,o7,o8,o9,hl2,ha,hv,Al,Am,Ak]; done)))); (try simp (disch:=omega) only [go_sem,o1,o2,o3,o4,o5,o6,o7,o8,o9,hl2,ha,hv,Al,Am,Ak]))
theorem PN (x:Fm) (hn:x.atom.nodes≤1099511627776) (ho:x.op=5∨x.op=6∨x.op=7):E 171 [x.sv] []=some (.bool x.form,[]):=by
  have hf:x.form=(x.parts.length == 2&&x.atom.isZ&&dec (x.var=⟨#[]⟩)):=by unfold Fm.form; rcases ho with ho | ho | ho <;> simp [ho]
  rcases ho with ho | ho | ho
  all_goals
    have o1:dec (x.op=1)=false:=Aj (by omega)
    have o2:dec (x.op=2)=false:=Aj (by omega)
    have o3:dec (x.op=3)=false:=Aj (by omega)
    have o4:dec (x.op=4)=false:=Aj (by omega)
    first
      | (have o5:dec (x.op=5)=true:=An ho)
      | (have o5:dec (x.op=5)=false:=Aj (by omega))
    first
      | (have o6:dec (x.op=6)=true:=An ho)
      | (have o6:dec (x.op=6)=false:=Aj (by omega))
    first
      | (have o7:dec (x.op=7)=true:=An ho)
      | (have o7:dec (x.op=7)=false:=Aj (by omega))
    have o8:dec (x.op=8)=false:=Aj (by omega)
    have o9:dec (x.op=9)=false:=Aj (by omega)
    have ha:=Md x.atom
    have hv:=Dx x.var
    rw [hf]
    by_cases hl:x.parts.length=2
    · have hl2:dec ((x.parts.length:Int)=2)=true:=An (by omega)
      rw [hl,beq_self_eq_true,zH]
      cases hq:x.atom.isZ with
      | true =>
        rw [hq] at ha
        rw [zH]
        refine Ai AF A8 (of_decide_eq_true rfl) ?_
        simp (disch:=omega) only [AC,go_sem,o1,o2,o3,o4,o5,o6,o7,o8,o9,hl2,ha,hv,Al,Am,Ak]
        repeat ((first | (refine A5 ?_ ?_; (focus (simp (disch:=omega) only [go_sem,o1,o2,o3,o4,o5,o6,o7,o8,o9,hl2,ha,hv,Al,Am,Ak]; done))) | (refine A6 ?_ ?_; (focus (simp (disch:=omega) only [go_sem,o1,o2,o3,o4,o5,o6,o7,o8,o9,hl2,ha,hv,Al,Am,Ak]; done)))); (try simp (disch:=omega) only [go_sem,o1,o2,o3,o4,o5,o6,o7,o8,o9,hl2,ha,hv,Al,Am,Ak]))
      | false =>
        rw [hq] at ha
        rw [zD]
        refine Ai AF A8 (of_decide_eq_true rfl) ?_
        simp (disch:=omega) only [AC,go_sem,o1,o2,o3,o4,o5,o6,o7,o8,o9,hl2,ha,hv,Al,Am,Ak]
        repeat ((first | (refine A5 ?_ ?_; (focus (simp (disch:=omega) only [go_sem,o1,o2,o3,o4,o5,o6,o7,o8,o9,hl2,ha,hv,Al,Am,Ak]; done))) | (refine A6 ?_ ?_; (focus (simp (disch:=omega) only [go_sem,o1,o2,o3,o4,o5,o6,o7,o8,o9,hl2,ha,hv,Al,Am,Ak]; done)))); (try simp (disch:=omega) only [go_sem,o1,o2,o3,o4,o5,o6,o7,o8,o9,hl2,ha,hv,Al,Am,Ak]))
    · have hl2:dec ((x.parts.length:Int)=2)=false:=Aj (by omega)
      have hl3:(x.parts.length == 2)=false:=by simpa using hl
      rw [hl3,zD,zD]
      refine Ai AF A8 (of_decide_eq_true rfl) ?_
      simp (disch:=omega) only [AC,go_sem,o1,o2,o3,o4,o5,o6,o7,o8,o9,hl2,ha,hv,Al,Am,Ak]
      repeat ((first | (refine A5 ?_ ?_; (focus (simp (disch:=omega) only [go_sem,o1,o2,o3,o4,o5,o6,o7,o8,o9,hl2,ha,hv,Al,Am,Ak]; done))) | (refine A6 ?_ ?_; (focus (simp (disch:=omega) only [go_sem,o1,o2,o3,o4,o5,o6,o7,o8,o9,hl2,ha,hv,Al,Am,Ak]; done)))); (try simp (disch:=omega) only [go_sem,o1,o2,o3,o4,o5,o6,o7,o8,o9,hl2,ha,hv,Al,Am,Ak]))
theorem UD (x:Fm) (hn:x.atom.nodes≤1099511627776) (ho:x.op=8∨x.op=9):E 171 [x.sv] []=some (.bool x.form,[]):=by
  have hf:x.form=(x.parts.length == 1&&x.atom.isZ&&AO x.var):=by unfold Fm.form; rcases ho with ho | ho <;> simp [ho]
  rcases ho with ho | ho
  all_goals
    have o1:dec (x.op=1)=false:=Aj (by omega)
    have o2:dec (x.op=2)=false:=Aj (by omega)
    have o3:dec (x.op=3)=false:=Aj (by omega)
    have o4:dec (x.op=4)=false:=Aj (by omega)
    have o5:dec (x.op=5)=false:=Aj (by omega)
    have o6:dec (x.op=6)=false:=Aj (by omega)
    have o7:dec (x.op=7)=false:=Aj (by omega)
    first
      | (have o8:dec (x.op=8)=true:=An ho)
      | (have o8:dec (x.op=8)=false:=Aj (by omega))
    first
      | (have o9:dec (x.op=9)=true:=An ho)
      | (have o9:dec (x.op=9)=false:=Aj (by omega))
    have ha:=Md x.atom
    have hv:=Dx x.var
    rw [hf]
    by_cases hl:x.parts.length=1
    · have hl2:dec ((x.parts.length:Int)=1)=true:=An (by omega)
      rw [hl,beq_self_eq_true,zH]
      cases hq:x.atom.isZ with
      | true =>
        rw [hq] at ha
        rw [zH]
        refine Ai AF A8 (of_decide_eq_true rfl) ?_
        simp (disch:=omega) only [AC,go_sem,o1,o2,o3,o4,o5,o6,o7,o8,o9,hl2,ha,hv,Al,Am,Ak]
        repeat ((first | (refine A5 ?_ ?_; (focus (simp (disch:=omega) only [go_sem,o1,o2,o3,o4,o5,o6,o7,o8,o9,hl2,ha,hv,Al,Am,Ak]; done))) | (refine A6 ?_ ?_; (focus (simp (disch:=omega) only [go_sem,o1,o2,o3,o4,o5,o6,o7,o8,o9,hl2,ha,hv,Al,Am,Ak]; done)))); (try simp (disch:=omega) only [go_sem,o1,o2,o3,o4,o5,o6,o7,o8,o9,hl2,ha,hv,Al,Am,Ak]))
      | false =>
        rw [hq] at ha
        rw [zD]
        refine Ai AF A8 (of_decide_eq_true rfl) ?_
        simp (disch:=omega) only [AC,go_sem,o1,o2,o3,o4,o5,o6,o7,o8,o9,hl2,ha,hv,Al,Am,Ak]
        repeat ((first | (refine A5 ?_ ?_; (focus (simp (disch:=omega) only [go_sem,o1,o2,o3,o4,o5,o6,o7,o8,o9,hl2,ha,hv,Al,Am,Ak]; done))) | (refine A6 ?_ ?_; (focus (simp (disch:=omega) only [go_sem,o1,o2,o3,o4,o5,o6,o7,o8,o9,hl2,ha,hv,Al,Am,Ak]; done)))); (try simp (disch:=omega) only [go_sem,o1,o2,o3,o4,o5,o6,o7,o8,o9,hl2,ha,hv,Al,Am,Ak]))
    · have hl2:dec ((x.parts.length:Int)=1)=false:=Aj (by omega)
      have hl3:(x.parts.length == 1)=false:=by simpa using hl
      rw [hl3,zD,zD]
      refine Ai AF A8 (of_decide_eq_true rfl) ?_
      simp (disch:=omega) only [AC,go_sem,o1,o2,o3,o4,o5,o6,o7,o8,o9,hl2,ha,hv,Al,Am,Ak]
      repeat ((first | (refine A5 ?_ ?_; (focus (simp (disch:=omega) only [go_sem,o1,o2,o3,o4,o5,o6,o7,o8,o9,hl2,ha,hv,Al,Am,Ak]; done))) | (refine A6 ?_ ?_; (focus (simp (disch:=omega) only [go_sem,o1,o2,o3,o4,o5,o6,o7,o8,o9,hl2,ha,hv,Al,Am,Ak]; done)))); (try simp (disch:=omega) only [go_sem,o1,o2,o3,o4,o5,o6,o7,o8,o9,hl2,ha,hv,Al,Am,Ak]))
theorem Qag (x:Fm) (hn:x.atom.nodes≤1099511627776):E 171 [x.sv] []=some (.bool x.form,[]):=by
 rcases Ug x.op with h | h | h | h | h | h | h | h | h | h
 ·exact UC x hn (.inl h)
 ·exact UC x hn (.inr h)
 ·exact Qae x hn h
 ·exact Qaf x hn h
 ·exact PN x hn (.inl h)
 ·exact PN x hn (.inr (.inl h))
 ·exact PN x hn (.inr (.inr h))
 ·exact UD x hn (.inl h)
 ·exact UD x hn (.inr h)
 ·obtain ⟨h1,h2,h3,h4,h5,h6,h7,h8,h9⟩:=h
  have hf:x.form=false:=by unfold Fm.form; simp [h1,h2,h3,h4,h5,h6,h7,h8,h9]
  have o1:=Aj h1
  have o2:=Aj h2
  have o3:=Aj h3
  have o4:=Aj h4
  have o5:=Aj h5
  have o6:=Aj h6
  have o7:=Aj h7
  have o8:=Aj h8
  have o9:=Aj h9
  rw [hf]
  refine Ai AF A8 (of_decide_eq_true rfl) ?_
  simp (disch:=omega) only [AC,go_sem,o1,o2,o3,o4,o5,o6,o7,o8,o9]
  repeat ((first | (refine A5 ?_ ?_; (focus (simp (disch:=omega) only [go_sem,o1,o2,o3,o4,o5,o6,o7,o8,o9]; done))) | (refine A6 ?_ ?_; (focus (simp (disch:=omega) only [go_sem,o1,o2,o3,o4,o5,o6,o7,o8,o9]; done)))); (try simp (disch:=omega) only [go_sem,o1,o2,o3,o4,o5,o6,o7,o8,o9]))
theorem WD (x:Fm) (ht:x.tame) (hn:x.nodes≤1099511627776) (ih:∀ y∈x.parts,E 109 [y.sv] []=some (.bool y.forms,[])):E 109 [x.sv] []=some (.bool x.forms,[]):=by
  have hl:=Fm.length_le x.parts
  have hx:=Fm.nodes_eq x
  have hf:=Qag x (Fm.tame_at ht)
  rw [Fm.Em]
  cases hq:x.form with
  | false =>
    rw [hq] at hf
    rw [zD]
    refine Ai J1 C9 (of_decide_eq_true rfl) ?_
    simp (disch:=omega) only [Gr,go_sem,Ab,hf,A8]
  | true =>
    rw [hq] at hf
    rw [zH]
    refine Ai J1 C9 (of_decide_eq_true rfl) ?_
    simp (disch:=omega) only [Gr,go_sem,Ab,hf,A8]
    refine go_loop (α:=Int) (fun a=>⟨slots 21 0 [(1,.ptr 0 0),(3,.int .i64 a)],[.box 36 [.int .i64 x.op,.str x.atom.name,.arr (x.atom.args.map Tm.d),.str x.var,.arr (x.parts.map Fm.d)]]⟩) (fun a=>∃ k:Nat,a=k∧k≤(x.parts).length∧Fm.Kp (x.parts.drop k)=Fm.Kp x.parts) (fun a=>(x.parts).length-(a).toNat) 0 ⟨0,rfl,zI _,by rw [zF]⟩ (by simp (disch:=omega) only [go_sem,Ab]) ?_
    rintro i ⟨k,hi,hk,hR⟩
    have hni:i.toNat=k:=by omega
    have hni1:(i+1).toNat=k+1:=by omega
    rcases zB k (x.parts).length with hlt | hge
    · have hg:=get_at Fm.d hlt
      rw [Fm.d_eq] at hg
      have hc:=ih x.parts[k] (zG hlt)
      rw [zA hlt,Fm.Kp] at hR
      cases hp:x.parts[k].forms with
      | true =>
        rw [hp] at hc hR
        rw [zH] at hR
        simp (disch:=omega) only [go_sem,Ab,hni,hg,hc,C9]
        exact ⟨i+1,⟨k+1,by omega,hlt,hR⟩,by omega,by first | trivial | rfl⟩
      | false =>
        rw [hp] at hc hR
        rw [zD] at hR
        simp (disch:=omega) only [go_sem,Ab,hni,hg,hc,C9]
        exact hR
    · rw [zC hge,Fm.Kp] at hR
      simp (disch:=omega) only [go_sem,Ab,hni]
      exact hR
theorem R2 (x:Fm) (ht:x.tame) (hn:x.nodes≤1099511627776):E 109 [x.sv] []=some (.bool x.forms,[]) :=
 WD x ht hn fun y hy=>R2 y (Fm.Ro ht hy) (by have:=Fm.nodes_mem hy; have:=Fm.nodes_eq x; omega)
termination_by SizeOf.sizeOf x
decreasing_by exact Fm.lt_of_mem hy
theorem R4 (x:Fm) (hn:x.atom.nodes≤1099511627776) (hl0:x.parts.length≤1099511627776) (ho:x.op=1∨x.op=2) (h2:E 121 [.arr (x.parts.map Fm.d),.fn 180 []] []=some (.bool (x.parts.any fun y=>!y.forms),[])):E 117 [x.sv] []=some (.bool x.forms,[]):=by
  have hf:x.form=(x.parts.length == 0&&x.atom.isZ&&dec (x.var=⟨#[]⟩)):=by unfold Fm.form; rcases ho with ho | ho <;> simp [ho]
  rcases ho with ho | ho
  all_goals
    first
      | (have o1:dec (x.op=1)=true:=An ho)
      | (have o1:dec (x.op=1)=false:=Aj (by omega))
    first
      | (have o2:dec (x.op=2)=true:=An ho)
      | (have o2:dec (x.op=2)=false:=Aj (by omega))
    have o3:dec (x.op=3)=false:=Aj (by omega)
    have o4:dec (x.op=4)=false:=Aj (by omega)
    have o5:dec (x.op=5)=false:=Aj (by omega)
    have o6:dec (x.op=6)=false:=Aj (by omega)
    have o7:dec (x.op=7)=false:=Aj (by omega)
    have o8:dec (x.op=8)=false:=Aj (by omega)
    have o9:dec (x.op=9)=false:=Aj (by omega)
    have ha:=FF x.atom
    have hv:=CK x.var
    have hb:=ER x.op
    have hu:=BM x.op
    rw [o5,o6,o7] at hb
    rw [o8,o9] at hu
    rw [Fm.Em,hf,← Fm.any_not]
    by_cases hl:x.parts.length=0
    · have hl2:dec ((x.parts.length:Int)=0)=true:=An (by omega)
      rw [hl,beq_self_eq_true,zH]
      cases hw:dec (x.var=⟨#[]⟩) with
      | false =>
        try rw [hw] at hv
        rw [zY,zD]
        refine Ai Ay Au (of_decide_eq_true rfl) ?_
        simp (disch:=omega) only [Ax,go_sem,o1,o2,o3,o4,o5,o6,o7,o8,o9,hl2,ha,hv,hb,hu,hw,h2,Ad,Af,Ae,Ac,Ah,Aa]
        repeat ((first | (refine A5 ?_ ?_; (focus (simp (disch:=omega) only [go_sem,o1,o2,o3,o4,o5,o6,o7,o8,o9,hl2,ha,hv,hb,hu,hw,h2,Ad,Af,Ae,Ac,Ah,Aa]; done))) | (refine A6 ?_ ?_; (focus (simp (disch:=omega) only [go_sem,o1,o2,o3,o4,o5,o6,o7,o8,o9,hl2,ha,hv,hb,hu,hw,h2,Ad,Af,Ae,Ac,Ah,Aa]; done)))); (try simp (disch:=omega) only [go_sem,o1,o2,o3,o4,o5,o6,o7,o8,o9,hl2,ha,hv,hb,hu,hw,h2,Ad,Af,Ae,Ac,Ah,Aa]))
      | true =>
        try rw [hw] at hv
        rw [yB]
        cases hq:x.atom.isZ with
        | true =>
          rw [hq] at ha
          rw [zH]
          refine Ai Ay Au (of_decide_eq_true rfl) ?_
          simp (disch:=omega) only [Ax,go_sem,o1,o2,o3,o4,o5,o6,o7,o8,o9,hl2,ha,hv,hb,hu,hw,h2,Ad,Af,Ae,Ac,Ah,Aa]
          repeat ((first | (refine A5 ?_ ?_; (focus (simp (disch:=omega) only [go_sem,o1,o2,o3,o4,o5,o6,o7,o8,o9,hl2,ha,hv,hb,hu,hw,h2,Ad,Af,Ae,Ac,Ah,Aa]; done))) | (refine A6 ?_ ?_; (focus (simp (disch:=omega) only [go_sem,o1,o2,o3,o4,o5,o6,o7,o8,o9,hl2,ha,hv,hb,hu,hw,h2,Ad,Af,Ae,Ac,Ah,Aa]; done)))); (try simp (disch:=omega) only [go_sem,o1,o2,o3,o4,o5,o6,o7,o8,o9,hl2,ha,hv,hb,hu,hw,h2,Ad,Af,Ae,Ac,Ah,Aa]))
        | false =>
          rw [hq] at ha
          rw [zD]
          refine Ai Ay Au (of_decide_eq_true rfl) ?_
          simp (disch:=omega) only [Ax,go_sem,o1,o2,o3,o4,o5,o6,o7,o8,o9,hl2,ha,hv,hb,hu,hw,h2,Ad,Af,Ae,Ac,Ah,Aa]
          repeat ((first | (refine A5 ?_ ?_; (focus (simp (disch:=omega) only [go_sem,o1,o2,o3,o4,o5,o6,o7,o8,o9,hl2,ha,hv,hb,hu,hw,h2,Ad,Af,Ae,Ac,Ah,Aa]; done))) | (refine A6 ?_ ?_; (focus (simp (disch:=omega) only [go_sem,o1,o2,o3,o4,o5,o6,o7,o8,o9,hl2,ha,hv,hb,hu,hw,h2,Ad,Af,Ae,Ac,Ah,Aa]; done)))); (try simp (disch:=omega) only [go_sem,o1,o2,o3,o4,o5,o6,o7,o8,o9,hl2,ha,hv,hb,hu,hw,h2,Ad,Af,Ae,Ac,Ah,Aa]))
    · have hl2:dec ((x.parts.length:Int)=0)=false:=Aj (by omega)
      have hl3:(x.parts.length == 0)=false:=by simpa using hl
      rw [hl3,zD,zD,zD]
      refine Ai Ay Au (of_decide_eq_true rfl) ?_
      simp (disch:=omega) only [Ax,go_sem,o1,o2,o3,o4,o5,o6,o7,o8,o9,hl2,ha,hv,hb,hu, h2,Ad,Af,Ae,Ac,Ah,Aa]
      repeat ((first | (refine A5 ?_ ?_; (focus (simp (disch:=omega) only [go_sem,o1,o2,o3,o4,o5,o6,o7,o8,o9,hl2,ha,hv,hb,hu, h2,Ad,Af,Ae,Ac,Ah,Aa]; done))) | (refine A6 ?_ ?_; (focus (simp (disch:=omega) only [go_sem,o1,o2,o3,o4,o5,o6,o7,o8,o9,hl2,ha,hv,hb,hu, h2,Ad,Af,Ae,Ac,Ah,Aa]; done)))); (try simp (disch:=omega) only [go_sem,o1,o2,o3,o4,o5,o6,o7,o8,o9,hl2,ha,hv,hb,hu, h2,Ad,Af,Ae,Ac,Ah,Aa]))
theorem Y2 (x:Fm) (hn:x.atom.nodes≤1099511627776) (hl0:x.parts.length≤1099511627776) (ho:x.op=3) (h2:E 121 [.arr (x.parts.map Fm.d),.fn 180 []] []=some (.bool (x.parts.any fun y=>!y.forms),[])):E 117 [x.sv] []=some (.bool x.forms,[]):=by
  have hf:x.form=(x.parts.length == 0&&x.atom.atom&&dec (x.var=⟨#[]⟩)):=by unfold Fm.form; rcases ho with ho <;> simp [ho]
  rcases ho with ho
  all_goals
    have o1:dec (x.op=1)=false:=Aj (by omega)
    have o2:dec (x.op=2)=false:=Aj (by omega)
    have o3:dec (x.op=3)=true:=An ho
    have o4:dec (x.op=4)=false:=Aj (by omega)
    have o5:dec (x.op=5)=false:=Aj (by omega)
    have o6:dec (x.op=6)=false:=Aj (by omega)
    have o7:dec (x.op=7)=false:=Aj (by omega)
    have o8:dec (x.op=8)=false:=Aj (by omega)
    have o9:dec (x.op=9)=false:=Aj (by omega)
    have ha:=Qi x.atom (by omega)
    have hv:=CK x.var
    have hb:=ER x.op
    have hu:=BM x.op
    rw [o5,o6,o7] at hb
    rw [o8,o9] at hu
    rw [Fm.Em,hf,← Fm.any_not]
    by_cases hl:x.parts.length=0
    · have hl2:dec ((x.parts.length:Int)=0)=true:=An (by omega)
      rw [hl,beq_self_eq_true,zH]
      cases hw:dec (x.var=⟨#[]⟩) with
      | false =>
        try rw [hw] at hv
        rw [zY,zD]
        refine Ai Ay Au (of_decide_eq_true rfl) ?_
        simp (disch:=omega) only [Ax,go_sem,o1,o2,o3,o4,o5,o6,o7,o8,o9,hl2,ha,hv,hb,hu,hw,h2,Ad,Af,Ae,Ac,Ah,Aa]
        repeat ((first | (refine A5 ?_ ?_; (focus (simp (disch:=omega) only [go_sem,o1,o2,o3,o4,o5,o6,o7,o8,o9,hl2,ha,hv,hb,hu,hw,h2,Ad,Af,Ae,Ac,Ah,Aa]; done))) | (refine A6 ?_ ?_; (focus (simp (disch:=omega) only [go_sem,o1,o2,o3,o4,o5,o6,o7,o8,o9,hl2,ha,hv,hb,hu,hw,h2,Ad,Af,Ae,Ac,Ah,Aa]; done)))); (try simp (disch:=omega) only [go_sem,o1,o2,o3,o4,o5,o6,o7,o8,o9,hl2,ha,hv,hb,hu,hw,h2,Ad,Af,Ae,Ac,Ah,Aa]))
      | true =>
        try rw [hw] at hv
        rw [yB]
        cases hq:x.atom.atom with
        | true =>
          rw [hq] at ha
          rw [zH]
          refine Ai Ay Au (of_decide_eq_true rfl) ?_
          simp (disch:=omega) only [Ax,go_sem,o1,o2,o3,o4,o5,o6,o7,o8,o9,hl2,ha,hv,hb,hu,hw,h2,Ad,Af,Ae,Ac,Ah,Aa]
          repeat ((first | (refine A5 ?_ ?_; (focus (simp (disch:=omega) only [go_sem,o1,o2,o3,o4,o5,o6,o7,o8,o9,hl2,ha,hv,hb,hu,hw,h2,Ad,Af,Ae,Ac,Ah,Aa]; done))) | (refine A6 ?_ ?_; (focus (simp (disch:=omega) only [go_sem,o1,o2,o3,o4,o5,o6,o7,o8,o9,hl2,ha,hv,hb,hu,hw,h2,Ad,Af,Ae,Ac,Ah,Aa]; done)))); (try simp (disch:=omega) only [go_sem,o1,o2,o3,o4,o5,o6,o7,o8,o9,hl2,ha,hv,hb,hu,hw,h2,Ad,Af,Ae,Ac,Ah,Aa]))
        | false =>
          rw [hq] at ha
          rw [zD]
          refine Ai Ay Au (of_decide_eq_true rfl) ?_
          simp (disch:=omega) only [Ax,go_sem,o1,o2,o3,o4,o5,o6,o7,o8,o9,hl2,ha,hv,hb,hu,hw,h2,Ad,Af,Ae,Ac,Ah,Aa]
          repeat ((first | (refine A5 ?_ ?_; (focus (simp (disch:=omega) only [go_sem,o1,o2,o3,o4,o5,o6,o7,o8,o9,hl2,ha,hv,hb,hu,hw,h2,Ad,Af,Ae,Ac,Ah,Aa]; done))) | (refine A6 ?_ ?_; (focus (simp (disch:=omega) only [go_sem,o1,o2,o3,o4,o5,o6,o7,o8,o9,hl2,ha,hv,hb,hu,hw,h2,Ad,Af,Ae,Ac,Ah,Aa]; done)))); (try simp (disch:=omega) only [go_sem,o1,o2,o3,o4,o5,o6,o7,o8,o9,hl2,ha,hv,hb,hu,hw,h2,Ad,Af,Ae,Ac,Ah,Aa]))
    · have hl2:dec ((x.parts.length:Int)=0)=false:=Aj (by omega)
      have hl3:(x.parts.length == 0)=false:=by simpa using hl
      rw [hl3,zD,zD,zD]
      refine Ai Ay Au (of_decide_eq_true rfl) ?_
      simp (disch:=omega) only [Ax,go_sem,o1,o2,o3,o4,o5,o6,o7,o8,o9,hl2,ha,hv,hb,hu, h2,Ad,Af,Ae,Ac,Ah,Aa]
      repeat ((first | (refine A5 ?_ ?_; (focus (simp (disch:=omega) only [go_sem,o1,o2,o3,o4,o5,o6,o7,o8,o9,hl2,ha,hv,hb,hu, h2,Ad,Af,Ae,Ac,Ah,Aa]; done))) | (refine A6 ?_ ?_; (focus (simp (disch:=omega) only [go_sem,o1,o2,o3,o4,o5,o6,o7,o8,o9,hl2,ha,hv,hb,hu, h2,Ad,Af,Ae,Ac,Ah,Aa]; done)))); (try simp (disch:=omega) only [go_sem,o1,o2,o3,o4,o5,o6,o7,o8,o9,hl2,ha,hv,hb,hu, h2,Ad,Af,Ae,Ac,Ah,Aa]))
theorem Y3 (x:Fm) (hn:x.atom.nodes≤1099511627776) (hl0:x.parts.length≤1099511627776) (ho:x.op=4) (h2:E 121 [.arr (x.parts.map Fm.d),.fn 180 []] []=some (.bool (x.parts.any fun y=>!y.forms),[])):E 117 [x.sv] []=some (.bool x.forms,[]):=by
  have hf:x.form=(x.parts.length == 1&&x.atom.isZ&&dec (x.var=⟨#[]⟩)):=by unfold Fm.form; rcases ho with ho <;> simp [ho]
  rcases ho with ho
  all_goals
    have o1:dec (x.op=1)=false:=Aj (by omega)
    have o2:dec (x.op=2)=false:=Aj (by omega)
    have o3:dec (x.op=3)=false:=Aj (by omega)
    have o4:dec (x.op=4)=true:=An ho
    have o5:dec (x.op=5)=false:=Aj (by omega)
    have o6:dec (x.op=6)=false:=Aj (by omega)
    have o7:dec (x.op=7)=false:=Aj (by omega)
    have o8:dec (x.op=8)=false:=Aj (by omega)
    have o9:dec (x.op=9)=false:=Aj (by omega)
    have ha:=FF x.atom
    have hv:=CK x.var
    have hb:=ER x.op
    have hu:=BM x.op
    rw [o5,o6,o7] at hb
    rw [o8,o9] at hu
    rw [Fm.Em,hf,← Fm.any_not]
    by_cases hl:x.parts.length=1
    · have hl2:dec ((x.parts.length:Int)=1)=true:=An (by omega)
      rw [hl,beq_self_eq_true,zH]
      cases hw:dec (x.var=⟨#[]⟩) with
      | false =>
        try rw [hw] at hv
        rw [zY,zD]
        refine Ai Ay Au (of_decide_eq_true rfl) ?_
        simp (disch:=omega) only [Ax,go_sem,o1,o2,o3,o4,o5,o6,o7,o8,o9,hl2,ha,hv,hb,hu,hw,h2,Ad,Af,Ae,Ac,Ah,Aa]
        repeat ((first | (refine A5 ?_ ?_; (focus (simp (disch:=omega) only [go_sem,o1,o2,o3,o4,o5,o6,o7,o8,o9,hl2,ha,hv,hb,hu,hw,h2,Ad,Af,Ae,Ac,Ah,Aa]; done))) | (refine A6 ?_ ?_; (focus (simp (disch:=omega) only [go_sem,o1,o2,o3,o4,o5,o6,o7,o8,o9,hl2,ha,hv,hb,hu,hw,h2,Ad,Af,Ae,Ac,Ah,Aa]; done)))); (try simp (disch:=omega) only [go_sem,o1,o2,o3,o4,o5,o6,o7,o8,o9,hl2,ha,hv,hb,hu,hw,h2,Ad,Af,Ae,Ac,Ah,Aa]))
      | true =>
        try rw [hw] at hv
        rw [yB]
        cases hq:x.atom.isZ with
        | true =>
          rw [hq] at ha
          rw [zH]
          refine Ai Ay Au (of_decide_eq_true rfl) ?_
          simp (disch:=omega) only [Ax,go_sem,o1,o2,o3,o4,o5,o6,o7,o8,o9,hl2,ha,hv,hb,hu,hw,h2,Ad,Af,Ae,Ac,Ah,Aa]
          repeat ((first | (refine A5 ?_ ?_; (focus (simp (disch:=omega) only [go_sem,o1,o2,o3,o4,o5,o6,o7,o8,o9,hl2,ha,hv,hb,hu,hw,h2,Ad,Af,Ae,Ac,Ah,Aa]; done))) | (refine A6 ?_ ?_; (focus (simp (disch:=omega) only [go_sem,o1,o2,o3,o4,o5,o6,o7,o8,o9,hl2,ha,hv,hb,hu,hw,h2,Ad,Af,Ae,Ac,Ah,Aa]; done)))); (try simp (disch:=omega) only [go_sem,o1,o2,o3,o4,o5,o6,o7,o8,o9,hl2,ha,hv,hb,hu,hw,h2,Ad,Af,Ae,Ac,Ah,Aa]))
        | false =>
          rw [hq] at ha
          rw [zD]
          refine Ai Ay Au (of_decide_eq_true rfl) ?_
          simp (disch:=omega) only [Ax,go_sem,o1,o2,o3,o4,o5,o6,o7,o8,o9,hl2,ha,hv,hb,hu,hw,h2,Ad,Af,Ae,Ac,Ah,Aa]
          repeat ((first | (refine A5 ?_ ?_; (focus (simp (disch:=omega) only [go_sem,o1,o2,o3,o4,o5,o6,o7,o8,o9,hl2,ha,hv,hb,hu,hw,h2,Ad,Af,Ae,Ac,Ah,Aa]; done))) | (refine A6 ?_ ?_; (focus (simp (disch:=omega) only [go_sem,o1,o2,o3,o4,o5,o6,o7,o8,o9,hl2,ha,hv,hb,hu,hw,h2,Ad,Af,Ae,Ac,Ah,Aa]; done)))); (try simp (disch:=omega) only [go_sem,o1,o2,o3,o4,o5,o6,o7,o8,o9,hl2,ha,hv,hb,hu,hw,h2,Ad,Af,Ae,Ac,Ah,Aa]))
    · have hl2:dec ((x.parts.length:Int)=1)=false:=Aj (by omega)
      have hl3:(x.parts.length == 1)=false:=by simpa using hl
      rw [hl3,zD,zD,zD]
      refine Ai Ay Au (of_decide_eq_true rfl) ?_
      simp (disch:=omega) only [Ax,go_sem,o1,o2,o3,o4,o5,o6,o7,o8,o9,hl2,ha,hv,hb,hu, h2,Ad,Af,Ae,Ac,Ah,Aa]
      repeat ((first | (refine A5 ?_ ?_; (focus (simp (disch:=omega) only [go_sem,o1,o2,o3,o4,o5,o6,o7,o8,o9,hl2,ha,hv,hb,hu, h2,Ad,Af,Ae,Ac,Ah,Aa]; done))) | (refine A6 ?_ ?_; (focus (simp (disch:=omega) only [go_sem,o1,o2,o3,o4,o5,o6,o7,o8,o9,hl2,ha,hv,hb,hu, h2,Ad,Af,Ae,Ac,Ah,Aa]; done)))); (try simp (disch:=omega) only [go_sem,o1,o2,o3,o4,o5,o6,o7,o8,o9,hl2,ha,hv,hb,hu, h2,Ad,Af,Ae,Ac,Ah,Aa]))
theorem MZ (x:Fm) (hn:x.atom.nodes≤1099511627776) (hl0:x.parts.length≤1099511627776) (ho:x.op=5∨x.op=6∨x.op=7) (h2:E 121 [.arr (x.parts.map Fm.d),.fn 180 []] []=some (.bool (x.parts.any fun y=>!y.forms),[])):E 117 [x.sv] []=some (.bool x.forms,[]):=by
  have hf:x.form=(x.parts.length == 2&&x.atom.isZ&&dec (x.var=⟨#[]⟩)):=by unfold Fm.form; rcases ho with ho | ho | ho <;> simp [ho]
  rcases ho with ho | ho | ho
  all_goals
    have o1:dec (x.op=1)=false:=Aj (by omega)
    have o2:dec (x.op=2)=false:=Aj (by omega)
    have o3:dec (x.op=3)=false:=Aj (by omega)
    have o4:dec (x.op=4)=false:=Aj (by omega)
    first
      | (have o5:dec (x.op=5)=true:=An ho)
      | (have o5:dec (x.op=5)=false:=Aj (by omega))
    first
      | (have o6:dec (x.op=6)=true:=An ho)
      | (have o6:dec (x.op=6)=false:=Aj (by omega))
    first
      | (have o7:dec (x.op=7)=true:=An ho)
      | (have o7:dec (x.op=7)=false:=Aj (by omega))
    have o8:dec (x.op=8)=false:=Aj (by omega)
    have o9:dec (x.op=9)=false:=Aj (by omega)
    have ha:=FF x.atom
    have hv:=CK x.var
    have hb:=ER x.op
    have hu:=BM x.op
    rw [o5,o6,o7] at hb
    rw [o8,o9] at hu
    rw [Fm.Em,hf,← Fm.any_not]
    by_cases hl:x.parts.length=2
    · have hl2:dec ((x.parts.length:Int)=2)=true:=An (by omega)
      rw [hl,beq_self_eq_true,zH]
      cases hw:dec (x.var=⟨#[]⟩) with
      | false =>
        try rw [hw] at hv
        rw [zY,zD]
        refine Ai Ay Au (of_decide_eq_true rfl) ?_
        simp (disch:=omega) only [Ax,go_sem,o1,o2,o3,o4,o5,o6,o7,o8,o9,hl2,ha,hv,hb,hu,hw,h2,Ad,Af,Ae,Ac,Ah,Aa]
        repeat ((first | (refine A5 ?_ ?_; (focus (simp (disch:=omega) only [go_sem,o1,o2,o3,o4,o5,o6,o7,o8,o9,hl2,ha,hv,hb,hu,hw,h2,Ad,Af,Ae,Ac,Ah,Aa]; done))) | (refine A6 ?_ ?_; (focus (simp (disch:=omega) only [go_sem,o1,o2,o3,o4,o5,o6,o7,o8,o9,hl2,ha,hv,hb,hu,hw,h2,Ad,Af,Ae,Ac,Ah,Aa]; done)))); (try simp (disch:=omega) only [go_sem,o1,o2,o3,o4,o5,o6,o7,o8,o9,hl2,ha,hv,hb,hu,hw,h2,Ad,Af,Ae,Ac,Ah,Aa]))
      | true =>
        try rw [hw] at hv
        rw [yB]
        cases hq:x.atom.isZ with
        | true =>
          rw [hq] at ha
          rw [zH]
          refine Ai Ay Au (of_decide_eq_true rfl) ?_
          simp (disch:=omega) only [Ax,go_sem,o1,o2,o3,o4,o5,o6,o7,o8,o9,hl2,ha,hv,hb,hu,hw,h2,Ad,Af,Ae,Ac,Ah,Aa]
          repeat ((first | (refine A5 ?_ ?_; (focus (simp (disch:=omega) only [go_sem,o1,o2,o3,o4,o5,o6,o7,o8,o9,hl2,ha,hv,hb,hu,hw,h2,Ad,Af,Ae,Ac,Ah,Aa]; done))) | (refine A6 ?_ ?_; (focus (simp (disch:=omega) only [go_sem,o1,o2,o3,o4,o5,o6,o7,o8,o9,hl2,ha,hv,hb,hu,hw,h2,Ad,Af,Ae,Ac,Ah,Aa]; done)))); (try simp (disch:=omega) only [go_sem,o1,o2,o3,o4,o5,o6,o7,o8,o9,hl2,ha,hv,hb,hu,hw,h2,Ad,Af,Ae,Ac,Ah,Aa]))
        | false =>
          rw [hq] at ha
          rw [zD]
          refine Ai Ay Au (of_decide_eq_true rfl) ?_
          simp (disch:=omega) only [Ax,go_sem,o1,o2,o3,o4,o5,o6,o7,o8,o9,hl2,ha,hv,hb,hu,hw,h2,Ad,Af,Ae,Ac,Ah,Aa]
          repeat ((first | (refine A5 ?_ ?_; (focus (simp (disch:=omega) only [go_sem,o1,o2,o3,o4,o5,o6,o7,o8,o9,hl2,ha,hv,hb,hu,hw,h2,Ad,Af,Ae,Ac,Ah,Aa]; done))) | (refine A6 ?_ ?_; (focus (simp (disch:=omega) only [go_sem,o1,o2,o3,o4,o5,o6,o7,o8,o9,hl2,ha,hv,hb,hu,hw,h2,Ad,Af,Ae,Ac,Ah,Aa]; done)))); (try simp (disch:=omega) only [go_sem,o1,o2,o3,o4,o5,o6,o7,o8,o9,hl2,ha,hv,hb,hu,hw,h2,Ad,Af,Ae,Ac,Ah,Aa]))
    · have hl2:dec ((x.parts.length:Int)=2)=false:=Aj (by omega)
      have hl3:(x.parts.length == 2)=false:=by simpa using hl
      rw [hl3,zD,zD,zD]
      refine Ai Ay Au (of_decide_eq_true rfl) ?_
      simp (disch:=omega) only [Ax,go_sem,o1,o2,o3,o4,o5,o6,o7,o8,o9,hl2,ha,hv,hb,hu, h2,Ad,Af,Ae,Ac,Ah,Aa]
      repeat ((first | (refine A5 ?_ ?_; (focus (simp (disch:=omega) only [go_sem,o1,o2,o3,o4,o5,o6,o7,o8,o9,hl2,ha,hv,hb,hu, h2,Ad,Af,Ae,Ac,Ah,Aa]; done))) | (refine A6 ?_ ?_; (focus (simp (disch:=omega) only [go_sem,o1,o2,o3,o4,o5,o6,o7,o8,o9,hl2,ha,hv,hb,hu, h2,Ad,Af,Ae,Ac,Ah,Aa]; done)))); (try simp (disch:=omega) only [go_sem,o1,o2,o3,o4,o5,o6,o7,o8,o9,hl2,ha,hv,hb,hu, h2,Ad,Af,Ae,Ac,Ah,Aa]))
theorem R5 (x:Fm) (hn:x.atom.nodes≤1099511627776) (hl0:x.parts.length≤1099511627776) (ho:x.op=8∨x.op=9) (h2:E 121 [.arr (x.parts.map Fm.d),.fn 180 []] []=some (.bool (x.parts.any fun y=>!y.forms),[])):E 117 [x.sv] []=some (.bool x.forms,[]):=by
  have hf:x.form=(x.parts.length == 1&&x.atom.isZ&&AO x.var):=by unfold Fm.form; rcases ho with ho | ho <;> simp [ho]
  rcases ho with ho | ho
  all_goals
    have o1:dec (x.op=1)=false:=Aj (by omega)
    have o2:dec (x.op=2)=false:=Aj (by omega)
    have o3:dec (x.op=3)=false:=Aj (by omega)
    have o4:dec (x.op=4)=false:=Aj (by omega)
    have o5:dec (x.op=5)=false:=Aj (by omega)
    have o6:dec (x.op=6)=false:=Aj (by omega)
    have o7:dec (x.op=7)=false:=Aj (by omega)
    first
      | (have o8:dec (x.op=8)=true:=An ho)
      | (have o8:dec (x.op=8)=false:=Aj (by omega))
    first
      | (have o9:dec (x.op=9)=true:=An ho)
      | (have o9:dec (x.op=9)=false:=Aj (by omega))
    have ha:=FF x.atom
    have hv:=CK x.var
    have hb:=ER x.op
    have hu:=BM x.op
    rw [o5,o6,o7] at hb
    rw [o8,o9] at hu
    rw [Fm.Em,hf,← Fm.any_not]
    by_cases hl:x.parts.length=1
    · have hl2:dec ((x.parts.length:Int)=1)=true:=An (by omega)
      rw [hl,beq_self_eq_true,zH]
      cases hw:AO x.var with
      | false =>
        try rw [hw] at hv
        rw [zY,zD]
        refine Ai Ay Au (of_decide_eq_true rfl) ?_
        simp (disch:=omega) only [Ax,go_sem,o1,o2,o3,o4,o5,o6,o7,o8,o9,hl2,ha,hv,hb,hu, h2,Ad,Af,Ae,Ac,Ah,Aa]
        repeat ((first | (refine A5 ?_ ?_; (focus (simp (disch:=omega) only [go_sem,o1,o2,o3,o4,o5,o6,o7,o8,o9,hl2,ha,hv,hb,hu, h2,Ad,Af,Ae,Ac,Ah,Aa]; done))) | (refine A6 ?_ ?_; (focus (simp (disch:=omega) only [go_sem,o1,o2,o3,o4,o5,o6,o7,o8,o9,hl2,ha,hv,hb,hu, h2,Ad,Af,Ae,Ac,Ah,Aa]; done)))); (try simp (disch:=omega) only [go_sem,o1,o2,o3,o4,o5,o6,o7,o8,o9,hl2,ha,hv,hb,hu, h2,Ad,Af,Ae,Ac,Ah,Aa]))
      | true =>
        try rw [hw] at hv
        rw [yB]
        cases hq:x.atom.isZ with
        | true =>
          rw [hq] at ha
          rw [zH]
          refine Ai Ay Au (of_decide_eq_true rfl) ?_
          simp (disch:=omega) only [Ax,go_sem,o1,o2,o3,o4,o5,o6,o7,o8,o9,hl2,ha,hv,hb,hu, h2,Ad,Af,Ae,Ac,Ah,Aa]
          repeat ((first | (refine A5 ?_ ?_; (focus (simp (disch:=omega) only [go_sem,o1,o2,o3,o4,o5,o6,o7,o8,o9,hl2,ha,hv,hb,hu, h2,Ad,Af,Ae,Ac,Ah,Aa]; done))) | (refine A6 ?_ ?_; (focus (simp (disch:=omega) only [go_sem,o1,o2,o3,o4,o5,o6,o7,o8,o9,hl2,ha,hv,hb,hu, h2,Ad,Af,Ae,Ac,Ah,Aa]; done)))); (try simp (disch:=omega) only [go_sem,o1,o2,o3,o4,o5,o6,o7,o8,o9,hl2,ha,hv,hb,hu, h2,Ad,Af,Ae,Ac,Ah,Aa]))
        | false =>
          rw [hq] at ha
          rw [zD]
          refine Ai Ay Au (of_decide_eq_true rfl) ?_
          simp (disch:=omega) only [Ax,go_sem,o1,o2,o3,o4,o5,o6,o7,o8,o9,hl2,ha,hv,hb,hu, h2,Ad,Af,Ae,Ac,Ah,Aa]
          repeat ((first | (refine A5 ?_ ?_; (focus (simp (disch:=omega) only [go_sem,o1,o2,o3,o4,o5,o6,o7,o8,o9,hl2,ha,hv,hb,hu, h2,Ad,Af,Ae,Ac,Ah,Aa]; done))) | (refine A6 ?_ ?_; (focus (simp (disch:=omega) only [go_sem,o1,o2,o3,o4,o5,o6,o7,o8,o9,hl2,ha,hv,hb,hu, h2,Ad,Af,Ae,Ac,Ah,Aa]; done)))); (try simp (disch:=omega) only [go_sem,o1,o2,o3,o4,o5,o6,o7,o8,o9,hl2,ha,hv,hb,hu, h2,Ad,Af,Ae,Ac,Ah,Aa]))
    · have hl2:dec ((x.parts.length:Int)=1)=false:=Aj (by omega)
      have hl3:(x.parts.length == 1)=false:=by simpa using hl
      rw [hl3,zD,zD,zD]
      refine Ai Ay Au (of_decide_eq_true rfl) ?_
      simp (disch:=omega) only [Ax,go_sem,o1,o2,o3,o4,o5,o6,o7,o8,o9,hl2,ha,hv,hb,hu, h2,Ad,Af,Ae,Ac,Ah,Aa]
      repeat ((first | (refine A5 ?_ ?_; (focus (simp (disch:=omega) only [go_sem,o1,o2,o3,o4,o5,o6,o7,o8,o9,hl2,ha,hv,hb,hu, h2,Ad,Af,Ae,Ac,Ah,Aa]; done))) | (refine A6 ?_ ?_; (focus (simp (disch:=omega) only [go_sem,o1,o2,o3,o4,o5,o6,o7,o8,o9,hl2,ha,hv,hb,hu, h2,Ad,Af,Ae,Ac,Ah,Aa]; done)))); (try simp (disch:=omega) only [go_sem,o1,o2,o3,o4,o5,o6,o7,o8,o9,hl2,ha,hv,hb,hu, h2,Ad,Af,Ae,Ac,Ah,Aa]))
theorem WE (x:Fm) (ht:x.tame) (hn:x.nodes≤1099511627776) (ih:∀ y∈x.parts,E 117 [y.sv] []=some (.bool y.forms,[])):E 117 [x.sv] []=some (.bool x.forms,[]):=by
 have hl:=Fm.length_le x.parts
 have hx:=Fm.nodes_eq x
 have ha:=Fm.tame_at ht
 have h1:∀ y∈x.parts,E 180 [y.sv] []=some (.bool (!y.forms),[]):=fun y hy=>by
  have h:=ih y hy
  refine Ai MX HV (of_decide_eq_true rfl) ?_
  simp (disch:=omega) only [HU,go_sem,Ab,h,Au]
 have h2:=Gq 180 (fun y=>!y.forms) x.parts (by omega) MY (by rw [HV]) h1
 rcases Ug x.op with h | h | h | h | h | h | h | h | h | h
 ·exact R4 x ha (by omega) (.inl h) h2
 ·exact R4 x ha (by omega) (.inr h) h2
 ·exact Y2 x ha (by omega) h h2
 ·exact Y3 x ha (by omega) h h2
 ·exact MZ x ha (by omega) (.inl h) h2
 ·exact MZ x ha (by omega) (.inr (.inl h)) h2
 ·exact MZ x ha (by omega) (.inr (.inr h)) h2
 ·exact R5 x ha (by omega) (.inl h) h2
 ·exact R5 x ha (by omega) (.inr h) h2
 ·obtain ⟨k1,k2,k3,k4,k5,k6,k7,k8,k9⟩:=h
  have hf:x.form=false:=by unfold Fm.form; simp [k1,k2,k3,k4,k5,k6,k7,k8,k9]
  have o1:=Aj k1
  have o2:=Aj k2
  have o3:=Aj k3
  have o4:=Aj k4
  have o5:=Aj k5
  have o6:=Aj k6
  have o7:=Aj k7
  have o8:=Aj k8
  have o9:=Aj k9
  have hb:=ER x.op
  have hu:=BM x.op
  rw [o5,o6,o7] at hb
  rw [o8,o9] at hu
  rw [Fm.Em,hf,zD]
  refine Ai Ay Au (of_decide_eq_true rfl) ?_
  simp (disch:=omega) only [Ax,go_sem,o1,o2,o3,o4,o5,o6,o7,o8,o9,hb,hu,Ac,Ah]
  repeat ((first | (refine A5 ?_ ?_; (focus (simp (disch:=omega) only [go_sem,o1,o2,o3,o4,o5,o6,o7,o8,o9,hb,hu,Ac,Ah]; done))) | (refine A6 ?_ ?_; (focus (simp (disch:=omega) only [go_sem,o1,o2,o3,o4,o5,o6,o7,o8,o9,hb,hu,Ac,Ah]; done)))); (try simp (disch:=omega) only [go_sem,o1,o2,o3,o4,o5,o6,o7,o8,o9,hb,hu,Ac,Ah]))
theorem R6 (x:Fm) (ht:x.tame) (hn:x.nodes≤1099511627776):E 117 [x.sv] []=some (.bool x.forms,[]) :=
 WE x ht hn fun y hy=>R6 y (Fm.Ro ht hy) (by have:=Fm.nodes_mem hy; have:=Fm.nodes_eq x; omega)
termination_by SizeOf.sizeOf x
decreasing_by exact Fm.lt_of_mem hy
theorem ES (x:Fm) (ht:x.tame) (hn:x.nodes≤1099511627776):E 53 [x.sv] []=some (.bool x.valid,[]):=by
 have h1:=XG x hn
 have h2:=R6 x ht hn
 have h3:=Fm.cap_spec x
 unfold Fm.valid
 rcases zB 40 x.nodes with h5 | h5
 ·rw [decide_eq_false (by omega),zD]
  have d:dec (x.cap≤40)=false:=Aj (by omega)
  refine Ai E6 A9 (of_decide_eq_true rfl) ?_
  simp (disch:=omega) only [Dg,go_sem,Ab,h1,h2,d,DL,Au]
 ·rw [decide_eq_true h5,zH]
  have d:dec (x.cap≤40)=true:=An (by omega)
  refine Ai E6 A9 (of_decide_eq_true rfl) ?_
  simp (disch:=omega) only [Dg,go_sem,Ab,h1,h2,d,DL,Au]
theorem UE (x:Fm) (ht:x.tame) (hn:x.nodes≤1099511627776):E 48 [x.sv] []=some (.bool x.valid,[]):=by
 have h1:=XH x 40 (by omega) (by omega) hn
 have h2:=R2 x ht hn
 have h3:=Fm.many_spec x 40
 unfold Fm.valid
 rcases zB 40 x.nodes with h5 | h5
 ·rw [decide_eq_false (by omega),zD]
  have d:dec ((x.many 40)≤40)=false:=Aj (by omega)
  refine Ai K1 Bz (of_decide_eq_true rfl) ?_
  simp (disch:=omega) only [Hl,go_sem,Ab,h1,h2,d,DM,C9]
 ·rw [decide_eq_true h5,zH]
  have d:dec ((x.many 40)≤40)=true:=An (by omega)
  refine Ai K1 Bz (of_decide_eq_true rfl) ?_
  simp (disch:=omega) only [Hl,go_sem,Ab,h1,h2,d,DM,C9]
def Fm.osh (x:Fm):List OT:=[.int x.op,.str x.atom.name,.sh (x.atom.args.map Tm.d),.str x.var,.sh (x.parts.map Fm.d)]
theorem Fm.osh_eq (x:Fm):x.osh=[.int x.op,.str x.atom.name,.sh (x.atom.args.map Tm.d),.str x.var,.sh (x.parts.map Fm.d)]:=rfl
theorem Fm.osh_full:∀ xs:List Fm,OT.AA (xs.map Fm.osh)=true
 | []=>rfl
 | x :: xs=>by simp only [zS,OT.AA,Fm.osh,OT.BU,OT.full,Fm.osh_full xs,yQ]
theorem Fm.osh_er:∀ xs:List Fm,OT.erss (xs.map Fm.osh)=xs.map Fm.d
 | []=>rfl
 | x :: xs=>by simp only [zS,OT.erss,Fm.osh,OT.ers,OT.er,Fm.osh_er xs,Fm.d_eq]
def ID:SC:=(.seq (.reg [⟨some 2,none,.boxv 36 5 (.t 0)⟩,⟨(some 4),none,(.alloc 36 [(.int .i64 0),(.str ⟨#[]⟩),.nil,(.str ⟨#[]⟩),.nil])⟩]) (.seq (.dreg [[],[0],[],[2],[3,2],[],[5],[1,0,4,3,2,6,5],[],[8,7,1,0,4,3,2,6,5]] [⟨some 8,none,.faddr 0 (.t 2)⟩,⟨some 9,none,.load false 1 (.t 8)⟩,⟨some 10,none,.faddr 1 (.t 2)⟩,⟨some 11,none,.load true 2 (.t 10)⟩,⟨some 12,none,.call 187 [(.t 11)]⟩,⟨some 13,none,.faddr 3 (.t 2)⟩,⟨some 14,none,.load false 1 (.t 13)⟩,⟨(some 15),none,(.build [(.int .i64 0),(.str ⟨#[]⟩),.nil,(.str ⟨#[]⟩),.nil] [(0,(1,(.t 9))),(1,(2,(.t 12))),(3,(1,(.t 14)))])⟩,⟨(some 5),none,(.alloc 36 [(.int .i64 0),(.str ⟨#[]⟩),.nil,(.str ⟨#[]⟩),.nil])⟩,⟨none,none,(.store 5 (.t 5) (.t 15))⟩]) (.seq (.seq (.reg [⟨some 16,none,.faddr 4 (.t 2)⟩,⟨some 17,none,.load false 1 (.t 16)⟩,⟨some 18,none,.len false (.t 17)⟩,⟨some 19,none,.mv (.c (.int .i64 0))⟩]) (.block 0 (.loop [0,1,0,0,1,1,0,0,0,0,0,0,0,0,0,0,0,1,1,1,0,0,0,0,0,0,0,0,0,0,0,0,0] (.seq (.reg [⟨some 20,none,.bin .lss false (.t 19) (.t 18)⟩]) (.seq (.cond (.t 20) .skip (.exit 0)) (.seq (.block 1 (.seq (.reg [⟨some 21,none,.iaddr 5 (.t 17) (.t 19)⟩,⟨some 22,none,.load true 5 (.t 21)⟩,⟨(some 7),none,(.alloc 36 [(.int .i64 0),(.str ⟨#[]⟩),.nil,(.str ⟨#[]⟩),.nil])⟩,⟨none,none,(.store 5 (.t 7) (.t 22))⟩]) (.dreg [[],[0],[],[],[2,3],[4,2,3],[1,0,5,4,2,3],[0,1,2,3,4,5,6],[7,0,1,2,3,4,5,6]] [⟨some 23,none,.faddr 4 (.t 5)⟩,⟨some 24,none,.load false 1 (.t 23)⟩,⟨some 25,none,.mv (.t 1)⟩,⟨some 26,none,.load true 5 (.t 7)⟩,⟨some 27,none,.callv (.t 25) [(.t 26)]⟩,⟨(some 28),none,(.mkrow 36 5 [(.int .i64 0),(.str ⟨#[]⟩),.nil,(.str ⟨#[]⟩),.nil] 1 [(0,(.t 27))])⟩,⟨(some 29),none,(.append 36 5 88 [(.int .i64 0),(.str ⟨#[]⟩),.nil,(.str ⟨#[]⟩),.nil] (.t 24) (.t 28))⟩,⟨some 30,none,.faddr 4 (.t 5)⟩,⟨none,none,(.store 1 (.t 30) (.t 29))⟩]))) (.reg [⟨some 31,none,.bin .add false (.t 19) (.c (.int .i64 1))⟩,⟨some 19,none,.mv (.t 31)⟩]))))))) (.seq (.reg [⟨some 32,none,.load true 5 (.t 5)⟩,⟨none,none,(.store 5 (.t 4) (.t 32))⟩]) .ret))))
theorem NV:codeOf Tryz.prog 132=some ⟨33,ID,[(.cell 4 true 5)]⟩:=by kernel_rfl
theorem IE:modes 132=⟨[],.own [none,none,some (33,2),none,some (36,5)],none,false⟩:=by unfold modes; rfl
def ET:SC:=(.seq (.reg [⟨some 1,none,.boxv 36 5 (.t 0)⟩,⟨(some 2),none,(.alloc 36 [(.int .i64 0),(.str ⟨#[]⟩),.nil,(.str ⟨#[]⟩),.nil])⟩,⟨some 3,none,.mv (.c (.bool false))⟩]) (.seq (.seq (.reg [⟨some 4,none,.load true 5 (.t 1)⟩,⟨some 5,none,.call 53 [(.t 4)]⟩,⟨some 6,none,.un .not (.t 5)⟩]) (.cond (.t 6) (.seq (.reg [⟨(some 7),none,(.build [(.int .i64 0),(.str ⟨#[]⟩),.nil,(.str ⟨#[]⟩),.nil] [])⟩,⟨none,none,(.store 5 (.t 2) (.t 7))⟩,⟨some 3,none,.mv (.c (.bool false))⟩]) .ret) .skip)) (.seq (.reg [⟨some 8,none,.load true 5 (.t 1)⟩,⟨none,none,(.store 5 (.t 2) (.t 8))⟩,⟨some 3,none,.mv (.c (.bool true))⟩]) .ret)))
theorem HW:codeOf Tryz.prog 60=some ⟨9,ET,[(.cell 2 true 5),(.tmp 3)]⟩:=by kernel_rfl
theorem Bv:modes 60=⟨[true],.own [none,none,some (33,2),none,some (36,5),none],none,false⟩:=by unfold modes; rfl
theorem Qs (y:Fm) (hy:y.tame) (hn:y.nodes≤1099511627776) (hv:y.valid=true):E 60 [y.osv] y.obs=some (.tup [y.osv,.bool true],y.obs):=by
 have h:=ES y hy hn
 rw [hv] at h
 refine Ai HW Bv (of_decide_eq_true rfl) ?_
 simp (disch:=omega) only [ET,go_sem,Ab,h,A9,Fm.osv,Fm.obs,Tm.erss,Tm.noss,Fm.erss,Fm.noss]
theorem SD (y:Fm) (hy:y.tame) (hn:y.nodes≤1099511627776) (hv:y.valid=false):E 60 [y.osv] y.obs=some (.tup [.agg [.int .i64 0,.str ⟨#[]⟩,.ref 2,.str ⟨#[]⟩,.ref 3],.bool false],[.row 33 2 (y.atom.args.map Tm.o),.row 36 5 (y.parts.map Fm.o),.row 33 2 [],.row 36 5 []]):=by
 have h:=ES y hy hn
 rw [hv] at h
 refine Ai HW Bv (of_decide_eq_true rfl) ?_
 simp (disch:=omega) only [ET,go_sem,Ab,h,A9,Fm.osv,Fm.obs,Tm.erss,Tm.noss,Fm.erss,Fm.noss]
theorem Me (xs:List ByteArray) (h:xs.length≤1048576):E 57 [.arr (xs.map fun s=>[D.str s])] []=some (.ref 0,[.row 9 1 (xs.map fun s=>[OT.str s])]):=by
 rw [KR (g:=M4) (by unfold modes; rfl)]
 unfold M4
 simp only
 rw [An ⟨fun e he=>by obtain ⟨s,_,rfl⟩:=List.mem_map.1 he; exact ⟨s,rfl⟩,by simpa using h⟩,cond_true,zT]
 rfl
theorem Az:modes 57=⟨[],.asis,some M4,false⟩:=by unfold modes; rfl
theorem SE {x:Fm} (h:x.form=true) (ho:x.op=3):E 186 [x.atom.sv] []=some (.ref 0,[.row 9 1 ((BT [] x.atom.vs).map fun s=>[OT.str s])]):=by
 have ha:=(Fm.EJ h ho).2.1
 have hn:=Tm.KU ha
 have h1:=Sz x.atom (W4 x.atom ha) (by omega)
 have e:x.atom.vars=BT [] x.atom.vs:=MM _
 rw [e] at h1
 exact h1
theorem UF (b acc:List ByteArray) (n:ByteArray) (ns:List ByteArray):AZ acc ((n :: ns).filter fun m=>!dec (m∈b))=AZ (bif dec (n∈b) then acc else FD acc n) (ns.filter fun m=>!dec (m∈b)):=by
 rw [List.filter_cons]
 cases dec (n∈b) with
 | true=>rfl
 | false=>rfl
def Fb:SC:=(.seq (.reg [⟨some 4,none,.boxv 36 5 (.t 1)⟩,⟨some 6,none,.mv (.c .nil)⟩]) (.seq (.seq (.reg [⟨some 11,none,.faddr 0 (.t 4)⟩,⟨some 12,none,.load false 1 (.t 11)⟩,⟨some 13,none,.bin .eql false (.t 12) (.c (.int .i64 3))⟩]) (.cond (.t 13) (.seq (.seq (.reg [⟨some 14,none,.faddr 1 (.t 4)⟩,⟨some 15,none,.load true 2 (.t 14)⟩,⟨some 16,none,.call 186 [(.t 15)]⟩,⟨some 17,none,.len false (.t 16)⟩,⟨some 18,none,.mv (.c (.int .i64 0))⟩]) (.block 0 (.loop [1,0,1,0,0,0,0,0,0,0,0,0,0,0,0,0,1,1,1,0,0,0,0,0,0,0,0,0,0,0,0,0,0,0,0,0,0,0,0,0,0,0,0,0,0,0,0,0,0,0,0,0,0,0,0,0,0,0,0,0] (.seq (.reg [⟨some 19,none,.bin .lss false (.t 18) (.t 17)⟩]) (.seq (.cond (.t 19) .skip (.exit 0)) (.seq (.block 1 (.seq (.reg [⟨some 20,none,.iaddr 1 (.t 16) (.t 18)⟩,⟨some 21,none,.load false 1 (.t 20)⟩,⟨some 8,none,.mv (.t 21)⟩]) (.seq (.reg [⟨some 22,none,.mv (.t 2)⟩,⟨some 23,none,.mv (.t 8)⟩,⟨some 24,none,.call 185 [(.t 22),(.t 23)]⟩,⟨some 25,none,.un .not (.t 24)⟩,⟨some 26,none,.mv (.t 25)⟩,⟨(some 27),(some (26,true)),(.mv (.t 0))⟩,⟨(some 28),(some (26,true)),(.mv (.t 8))⟩,⟨(some 29),(some (26,true)),(.call 185 [(.t 27),(.t 28)])⟩,⟨(some 30),(some (26,true)),(.un .not (.t 29))⟩,⟨some 31,none,.pick (.t 26) (.t 30) (.c (.bool false))⟩]) (.cond (.t 31) (.reg [⟨some 32,none,.mv (.t 0)⟩,⟨some 33,none,.mv (.t 8)⟩,⟨(some 34),none,(.mkrow 9 1 [(.str ⟨#[]⟩)] 1 [(0,(.t 33))])⟩,⟨(some 35),none,(.append 9 1 16 [(.str ⟨#[]⟩)] (.t 32) (.t 34))⟩,⟨some 0,none,.mv (.t 35)⟩]) .skip)))) (.reg [⟨some 36,none,.bin .add false (.t 18) (.c (.int .i64 1))⟩,⟨some 18,none,.mv (.t 36)⟩]))))))) (.seq (.reg [⟨some 37,none,.mv (.t 0)⟩,⟨some 6,none,.mv (.t 37)⟩]) .ret)) .skip)) (.seq (.seq (.reg [⟨some 38,none,.faddr 0 (.t 4)⟩,⟨some 39,none,.load false 1 (.t 38)⟩,⟨some 40,none,.call 175 [(.t 39)]⟩]) (.cond (.t 40) (.dreg [[],[0],[],[2],[3,2],[1,0,4,3,2],[5,1,0,4,3,2]] [⟨some 41,none,.mv (.t 2)⟩,⟨some 42,none,.call 57 [(.t 41)]⟩,⟨some 43,none,.faddr 3 (.t 4)⟩,⟨some 44,none,.load false 1 (.t 43)⟩,⟨(some 45),none,(.mkrow 9 1 [(.str ⟨#[]⟩)] 1 [(0,(.t 44))])⟩,⟨(some 46),none,(.append 9 1 16 [(.str ⟨#[]⟩)] (.t 42) (.t 45))⟩,⟨some 2,none,.mv (.t 46)⟩]) .skip)) (.seq (.seq (.reg [⟨some 47,none,.faddr 4 (.t 4)⟩,⟨some 48,none,.load false 1 (.t 47)⟩,⟨some 49,none,.len false (.t 48)⟩,⟨some 50,none,.mv (.c (.int .i64 0))⟩]) (.block 2 (.loop [1,0,1,0,0,0,0,0,0,0,0,0,0,0,0,0,0,0,0,0,0,0,0,0,0,0,0,0,0,0,0,0,0,0,0,0,0,0,0,0,0,0,0,0,0,0,0,0,1,1,1,0,0,0,0,0,0,0,0,0] (.seq (.reg [⟨some 51,none,.bin .lss false (.t 50) (.t 49)⟩]) (.seq (.cond (.t 51) .skip (.exit 2)) (.seq (.block 3 (.seq (.reg [⟨some 52,none,.iaddr 5 (.t 48) (.t 50)⟩,⟨some 53,none,.load true 5 (.t 52)⟩,⟨(some 10),none,(.alloc 36 [(.int .i64 0),(.str ⟨#[]⟩),.nil,(.str ⟨#[]⟩),.nil])⟩,⟨none,none,(.store 5 (.t 10) (.t 53))⟩]) (.reg [⟨some 54,none,.mv (.t 0)⟩,⟨some 55,none,.load true 5 (.t 10)⟩,⟨some 56,none,.mv (.t 2)⟩,⟨some 57,none,.call 125 [(.t 54),(.t 55),(.t 56)]⟩,⟨some 0,none,.mv (.t 57)⟩]))) (.reg [⟨some 58,none,.bin .add false (.t 50) (.c (.int .i64 1))⟩,⟨some 50,none,.mv (.t 58)⟩]))))))) (.seq (.reg [⟨some 59,none,.mv (.t 0)⟩,⟨some 6,none,.mv (.t 59)⟩]) .ret)))))
theorem Hm:codeOf Tryz.prog 125=some ⟨60,Fb,[(.tmp 6)]⟩:=by kernel_rfl
theorem Cz:modes 125=⟨[true],.asis,none,false⟩:=by unfold modes; rfl
def J2:SC:=(.seq (.reg [⟨some 1,none,.boxv 36 5 (.t 0)⟩,⟨some 2,none,.mv (.c .nil)⟩]) (.seq (.reg [⟨(some 4),none,(.mkrow 9 1 [(.str ⟨#[]⟩)] 0 [])⟩,⟨some 5,none,.load true 5 (.t 1)⟩,⟨some 6,none,.call 125 [(.t 4),(.t 5),(.c .nil)]⟩,⟨some 3,none,.mv (.t 6)⟩]) (.seq (.reg [⟨some 7,none,.mv (.t 3)⟩,⟨some 8,none,.call 119 [(.t 7)]⟩]) (.seq (.reg [⟨some 9,none,.mv (.t 3)⟩,⟨some 2,none,.mv (.t 9)⟩]) .ret))))
theorem N8:codeOf Tryz.prog 58=some ⟨10,J2,[(.tmp 2)]⟩:=by kernel_rfl
theorem Cu:modes 58=⟨[],.frz,none,false⟩:=by unfold modes; rfl
abbrev QbO (x:Fm):Prop:=∀ l b:List ByteArray,l.length+x.vn≤1048576→b.length+x.nodes≤1048576→E 125 [.ref 0,x.sv,.arr (b.map fun s=>[D.str s])] [.row 9 1 (l.map fun s=>[OT.str s])]=some ((bif dec (l.length<(AZ l (x.fv b)).length) then .ref 1 else .ref 0),(bif dec (l.length<(AZ l (x.fv b)).length) then [.gone,.row 9 1 ((AZ l (x.fv b)).map fun s=>[OT.str s])] else [.row 9 1 ((AZ l (x.fv b)).map fun s=>[OT.str s])]))
theorem Y4 (x:Fm) (hx:x.forms=true) (ih:∀ y∈x.parts,QbO y):QbO x:=by
  intro l b hn hb
  have hfo:=Fm.BB hx
  have hvn:=Fm.Kr x
  have hnd:=Fm.nodes_eq x
  have hpl:=Fm.length_le x.parts
  have hfv:=Fm.ZS x b
  have hat:=Fm.Il hfo
  have hgl:dec (l.length<l.length)=false:=Aj (by omega)
  have hxs:x.sv=.agg [.int .i64 x.op,.str x.atom.name,.arr (x.atom.args.map Tm.d),.str x.var,.arr (x.parts.map Fm.d)]:=rfl
  have has:x.atom.sv=.agg [.str x.atom.name,.arr (x.atom.args.map Tm.d)]:=rfl
  cases ho:dec (x.op=3) with
  | true =>
    rw [ho] at hfv
    simp only [cond_true] at hfv
    have hv:=SE hfo (Ao.1 ho)
    have hil:=DJ x.atom.vs []
    have hvl:=Tm.KX x.atom
    simp only [zR] at hil
    obtain ⟨ns,hns⟩:∃ ns,ns=BT [] x.atom.vs:=⟨_,rfl⟩
    rw [←hns] at hv hfv hil
    rw [hfv]
    refine Ai Hm Cz (of_decide_eq_true rfl) ?_
    simp (disch:=omega) only [Fb,go_sem,Ab,ho,hv,EM]
    refine go_loop (α:=Int × (List ByteArray)) (fun a=>⟨slots 60 0 [(0,(bif dec (l.length<(a.2).length) then .ref 1 else .ref 0)),(2,.arr (b.map fun s=>[D.str s])),(16,(bif dec (l.length<(a.2).length) then .ref 2 else .ref 1)),(17,.int .i64 ns.length),(18,.int .i64 (a.1))],(bif dec (l.length<(a.2).length) then [.gone,.row 9 1 ((a.2).map fun s=>[OT.str s]),.row 9 1 (ns.map fun s=>[OT.str s])] else [.row 9 1 ((a.2).map fun s=>[OT.str s]),.row 9 1 (ns.map fun s=>[OT.str s])])⟩) (fun a=>∃ k:Nat,a.1=k∧k≤(ns).length∧AZ (a.2) ((ns.drop k).filter fun m=>!dec (m∈b))=AZ l (ns.filter fun m=>!dec (m∈b))∧(a.2).length+(ns.length-k)≤1048576∧l.length≤(a.2).length) (fun a=>(ns).length-(a.1).toNat) (0,l) ⟨0,rfl,zI _,by rw [zF],by dsimp only; omega,yC _⟩ (by simp (disch:=omega) only [go_sem,Ab,hgl]) ?_
    rintro ⟨i,acc⟩ ⟨k,hi,hk,hR⟩
    dsimp only at hi hR
    have hni:i.toNat=k:=by omega
    have hni1:(i+1).toNat=k+1:=by omega
    rcases zB k (ns).length with hlt | hge
    · have hg:(ns.map fun s=>[OT.str s])[k]?=some [OT.str ns[k]]:=by rw [List.getElem?_map,List.getElem?_eq_getElem hlt]; rfl
      obtain ⟨hR1,hR2,hR3⟩:=hR
      rw [zA hlt,UF] at hR1
      have c1:=Fo b ns[k] (by omega)
      have c2:=Fo acc ns[k] (by omega)
      rcases zB l.length acc.length with q1 | q1
      all_goals
        cases hq:dec (ns[k]∈b) with
        | true =>
          rw [hq] at c1 hR1
          simp only [cond_true] at hR1
          simp (disch:=omega) only [go_sem,Ab,hni,hg,c1,c2,As]
          refine ⟨(i+1,acc),⟨k+1,by dsimp only; omega,hlt,hR1,by dsimp only; omega,by dsimp only; omega⟩,by dsimp only; omega,?_⟩
          first | done | simp (disch:=omega) only [go_sem,Ab]
        | false =>
          rw [hq] at c1 hR1
          simp only [cond_false] at hR1
          cases hm:dec (ns[k]∈acc) with
          | true =>
            have e2:FD acc ns[k]=acc:=by unfold FD; rw [hm]; rfl
            rw [hm] at c2
            rw [e2] at hR1
            simp (disch:=omega) only [go_sem,Ab,hni,hg,c1,c2,As]
            refine ⟨(i+1,acc),⟨k+1,by dsimp only; omega,hlt,hR1,by dsimp only; omega,by dsimp only; omega⟩,by dsimp only; omega,?_⟩
            first | done | simp (disch:=omega) only [go_sem,Ab]
          | false =>
            have e2:FD acc ns[k]=acc++[ns[k]]:=by unfold FD; rw [hm]; rfl
            have hl1:(acc.map fun s=>[OT.str s])++[[OT.str ns[k]]]=(acc++[ns[k]]).map fun s=>[OT.str s]:=by simp
            have q2:dec (l.length<(acc++[ns[k]]).length)=true:=An (by simp; omega)
            rw [hm] at c2
            rw [e2] at hR1
            simp (disch:=omega) only [go_sem,Ab,hni,hg,c1,c2,hl1,As]
            refine ⟨(i+1,acc++[ns[k]]),⟨k+1,by dsimp only; omega,hlt,hR1,by simp; omega,by simp; omega⟩,by dsimp only; omega,?_⟩
            first | done | simp (disch:=omega) only [go_sem,Ab,q2,hl1]
    · rw [zC hge] at hR
      obtain ⟨hR1,hR2,hR3⟩:=hR
      have hR1:acc=_:=hR1
      rw [←hR1]
      rcases zB l.length acc.length with q1 | q1
      · simp (disch:=omega) only [go_sem,Ab,hni]
      · simp (disch:=omega) only [go_sem,Ab,hni]
  | false =>
    rw [ho] at hfv
    simp only [cond_false] at hfv
    have hu:=BM x.op
    cases hq:qB x.op with
    | false =>
      rw [hq] at hfv
      simp only [cond_false] at hfv
      rw [hfv]
      unfold qB at hq
      rw [hq] at hu
      obtain ⟨b',hb'⟩:∃ b',b'=b:=⟨_,rfl⟩
      have hbl:b'.length≤b.length+1:=by rw [hb']; omega
      rw [←hb']
      refine Ai Hm Cz (of_decide_eq_true rfl) ?_
      simp (disch:=omega) only [Fb,go_sem,Ab,ho,hu,Ac]
      refine go_loop (α:=Int × (List ByteArray)) (fun a=>⟨slots 60 0 [(0,(bif dec (l.length<(a.2).length) then .ref 1 else .ref 0)),(2,.arr (b'.map fun s=>[D.str s])),(48,.arr (x.parts.map Fm.d)),(49,.int .i64 x.parts.length),(50,.int .i64 (a.1))],(bif dec (l.length<(a.2).length) then [.gone,.row 9 1 ((a.2).map fun s=>[OT.str s])] else [.row 9 1 ((a.2).map fun s=>[OT.str s])])⟩) (fun a=>∃ k:Nat,a.1=k∧k≤(x.parts).length∧AZ (a.2) (Fm.fvL (x.parts.drop k) b')=AZ l (Fm.fvL x.parts b')∧(a.2).length+Fm.vnS (x.parts.drop k)≤1048576∧l.length≤(a.2).length) (fun a=>(x.parts).length-(a.1).toNat) (0,l) ⟨0,rfl,zI _,by rw [zF],by rw [zF]; dsimp only; omega,yC _⟩ (by simp (disch:=omega) only [go_sem,Ab,hgl]) ?_
      rintro ⟨i,acc⟩ ⟨k,hi,hk,hR⟩
      dsimp only at hi hR
      have hni:i.toNat=k:=by omega
      have hni1:(i+1).toNat=k+1:=by omega
      rcases zB k (x.parts).length with hlt | hge
      · have hg:=get_at Fm.d hlt
        rw [Fm.d_eq] at hg
        obtain ⟨hR1,hR2,hR3⟩:=hR
        rw [zA hlt,Fm.fvL,Gh] at hR1
        rw [zA hlt,Fm.vnS] at hR2
        have hnm:=Fm.nodes_le x.parts k hlt
        have hc:=ih x.parts[k] (zG hlt) acc b' (by omega) (by omega)
        have hlen:=Dp (x.parts[k].fv b') acc
        have hgr:=Ee (x.parts[k].fv b') acc
        have hvl:=Fm.Ir x.parts[k] b'
        obtain ⟨acc2,ha2⟩:∃ a,a=AZ acc (x.parts[k].fv b'):=⟨_,rfl⟩
        rw [←ha2] at hc hlen hgr hR1
        rcases zB l.length acc.length with q1 | q1 <;> rcases zB acc.length acc2.length with q2 | q2
        all_goals
          first
            | rw [An q2] at hc
            | rw [Aj (zK.2 q2)] at hc
          simp only [cond_true,cond_false] at hc
          simp (disch:=omega) only [go_sem,Ab,hni,hg,hc,Cz]
          refine ⟨(i+1,acc2),⟨k+1,by dsimp only; omega,hlt,hR1,by dsimp only; omega,by dsimp only; omega⟩,by dsimp only; omega,?_⟩
          first | done | simp (disch:=omega) only [go_sem,Ab]
      · rw [zC hge,Fm.fvL] at hR
        obtain ⟨hR1,hR2,hR3⟩:=hR
        have hR1:acc=_:=hR1
        rw [←hR1]
        rcases zB l.length acc.length with q1 | q1
        · simp (disch:=omega) only [go_sem,Ab,hni]
        · simp (disch:=omega) only [go_sem,Ab,hni]
    | true =>
      rw [hq] at hfv
      simp only [cond_true] at hfv
      rw [hfv]
      unfold qB at hq
      rw [hq] at hu
      have hcl:=Me b (by omega)
      have hl1:(b.map fun s=>[OT.str s])++[[OT.str x.var]]=(b++[x.var]).map fun s=>[OT.str s]:=by simp
      obtain ⟨b',hb'⟩:∃ b',b'=b++[x.var]:=⟨_,rfl⟩
      have hbl:b'.length≤b.length+1:=by rw [hb']; simp
      rw [←hb'] at hl1
      rw [←hb']
      refine Ai Hm Cz (of_decide_eq_true rfl) ?_
      simp (disch:=omega) only [Fb,go_sem,Ab,ho,hu,hcl,hl1,Ac,Az]
      refine go_loop (α:=Int × (List ByteArray)) (fun a=>⟨slots 60 0 [(0,(bif dec (l.length<(a.2).length) then .ref 1 else .ref 0)),(2,(bif dec (l.length<(a.2).length) then .ref 2 else .ref 1)),(48,.arr (x.parts.map Fm.d)),(49,.int .i64 x.parts.length),(50,.int .i64 (a.1))],(bif dec (l.length<(a.2).length) then [.gone,.row 9 1 ((a.2).map fun s=>[OT.str s]),.row 9 1 (b'.map fun s=>[OT.str s])] else [.row 9 1 ((a.2).map fun s=>[OT.str s]),.row 9 1 (b'.map fun s=>[OT.str s])])⟩) (fun a=>∃ k:Nat,a.1=k∧k≤(x.parts).length∧AZ (a.2) (Fm.fvL (x.parts.drop k) b')=AZ l (Fm.fvL x.parts b')∧(a.2).length+Fm.vnS (x.parts.drop k)≤1048576∧l.length≤(a.2).length) (fun a=>(x.parts).length-(a.1).toNat) (0,l) ⟨0,rfl,zI _,by rw [zF],by rw [zF]; dsimp only; omega,yC _⟩ (by simp (disch:=omega) only [go_sem,Ab,hgl]) ?_
      rintro ⟨i,acc⟩ ⟨k,hi,hk,hR⟩
      dsimp only at hi hR
      have hni:i.toNat=k:=by omega
      have hni1:(i+1).toNat=k+1:=by omega
      rcases zB k (x.parts).length with hlt | hge
      · have hg:=get_at Fm.d hlt
        rw [Fm.d_eq] at hg
        obtain ⟨hR1,hR2,hR3⟩:=hR
        rw [zA hlt,Fm.fvL,Gh] at hR1
        rw [zA hlt,Fm.vnS] at hR2
        have hnm:=Fm.nodes_le x.parts k hlt
        have hc:=ih x.parts[k] (zG hlt) acc b' (by omega) (by omega)
        have hlen:=Dp (x.parts[k].fv b') acc
        have hgr:=Ee (x.parts[k].fv b') acc
        have hvl:=Fm.Ir x.parts[k] b'
        obtain ⟨acc2,ha2⟩:∃ a,a=AZ acc (x.parts[k].fv b'):=⟨_,rfl⟩
        rw [←ha2] at hc hlen hgr hR1
        rcases zB l.length acc.length with q1 | q1 <;> rcases zB acc.length acc2.length with q2 | q2
        all_goals
          first
            | rw [An q2] at hc
            | rw [Aj (zK.2 q2)] at hc
          simp only [cond_true,cond_false] at hc
          simp (disch:=omega) only [go_sem,Ab,hni,hg,hc,Cz]
          refine ⟨(i+1,acc2),⟨k+1,by dsimp only; omega,hlt,hR1,by dsimp only; omega,by dsimp only; omega⟩,by dsimp only; omega,?_⟩
          first | done | simp (disch:=omega) only [go_sem,Ab]
      · rw [zC hge,Fm.fvL] at hR
        obtain ⟨hR1,hR2,hR3⟩:=hR
        have hR1:acc=_:=hR1
        rw [←hR1]
        rcases zB l.length acc.length with q1 | q1
        · simp (disch:=omega) only [go_sem,Ab,hni]
        · simp (disch:=omega) only [go_sem,Ab,hni]
theorem UG (x:Fm) (hx:x.forms=true):QbO x :=
 Y4 x hx fun y hy=>UG y (Fm.Be hx hy)
termination_by SizeOf.sizeOf x
decreasing_by exact Fm.lt_of_mem hy
theorem Qah (x:Fm) (hx:x.forms=true) (hv:x.vn≤1048576) (hn:x.nodes≤1048576):E 58 [x.sv] []=some (.arr (x.free.map fun s=>[D.str s]),[]):=by
 have h1:=UG x hx [] [] (by simpa using hv) (by simpa using hn)
 have hl:=Dp (x.fv []) []
 have hfl:=Fm.Ir x []
 rw [zR,yJ] at hl
 have h2:=Sy (AZ [] (x.fv [])) (by omega)
 rw [MM] at h2
 rw [zP,zP,zR] at h1
 unfold Fm.free
 have hxs:x.sv=.agg [.int .i64 x.op,.str x.atom.name,.arr (x.atom.args.map Tm.d),.str x.var,.arr (x.parts.map Fm.d)]:=rfl
 rcases zB 0 (AZ [] (x.fv [])).length with q | q
 ·rw [An q] at h1
  simp only [cond_true] at h1
  refine Ai N8 Cu (of_decide_eq_true rfl) ?_
  simp (disch:=omega) only [J2,go_sem,Ab,h1,h2,Cz,AL,Cp,L8,OT.erss,OT.AA]
 ·rw [Aj (by omega)] at h1
  simp only [cond_false] at h1
  refine Ai N8 Cu (of_decide_eq_true rfl) ?_
  simp (disch:=omega) only [J2,go_sem,Ab,h1,h2,Cz,AL,Cp,L8,OT.erss,OT.AA]
def K2:SC:=(.seq (.reg [⟨some 1,none,.boxv 33 2 (.t 0)⟩,⟨(some 2),none,(.alloc 36 [(.int .i64 0),(.str ⟨#[]⟩),.nil,(.str ⟨#[]⟩),.nil])⟩]) (.seq (.reg [⟨some 3,none,.load true 2 (.t 1)⟩,⟨(some 4),none,(.build [(.int .i64 0),(.str ⟨#[]⟩),.nil,(.str ⟨#[]⟩),.nil] [(0,(1,(.c (.int .i64 3)))),(1,(2,(.t 3)))])⟩,⟨none,none,(.store 5 (.t 2) (.t 4))⟩]) .ret))
theorem Qt:codeOf Tryz.prog 126=some ⟨5,K2,[(.cell 2 true 5)]⟩:=by kernel_rfl
theorem K3:modes 126=⟨[true],.own [none,none,some (33,2),none,some (36,5)],none,false⟩:=by unfold modes; rfl
theorem Qai (y:Tm):E 126 [y.osv] y.obs=some (.agg [.int .i64 3,.str y.name,.ref 0,.str ⟨#[]⟩,.ref 1],[.row 33 2 (y.args.map Tm.o),.row 36 5 []]):=by
 refine Ai Qt K3 (of_decide_eq_true rfl) ?_
 simp (disch:=omega) only [K2,go_sem,Ab,Tm.osv,Tm.obs]
def GQ:SC:=(.seq (.reg [⟨some 5,none,.boxv 36 5 (.t 2)⟩,⟨(some 6),none,(.alloc 36 [(.int .i64 0),(.str ⟨#[]⟩),.nil,(.str ⟨#[]⟩),.nil])⟩]) (.seq (.reg [⟨some 7,none,.mv (.t 0)⟩,⟨some 8,none,.mv (.t 1)⟩,⟨some 9,none,.load true 5 (.t 5)⟩,⟨(some 10),none,(.mkrow 36 5 [(.int .i64 0),(.str ⟨#[]⟩),.nil,(.str ⟨#[]⟩),.nil] 1 [(0,(.t 9))])⟩,⟨(some 11),none,(.build [(.int .i64 0),(.str ⟨#[]⟩),.nil,(.str ⟨#[]⟩),.nil] [(0,(1,(.t 7))),(3,(1,(.t 8))),(4,(1,(.t 10)))])⟩,⟨none,none,(.store 5 (.t 6) (.t 11))⟩]) .ret))
theorem Mf:codeOf Tryz.prog 128=some ⟨12,GQ,[(.cell 6 true 5)]⟩:=by kernel_rfl
theorem GR:modes 128=⟨[false,false,true],.own [none,none,some (33,2),none,some (36,5)],none,false⟩:=by unfold modes; rfl
theorem SF (op:Int) (v:ByteArray) (y:Fm):E 128 [.int .i64 op,.str v,y.osv] y.obs=some (.agg [.int .i64 op,.str ⟨#[]⟩,.ref 2,.str v,.ref 3],[.gone,.gone,.row 33 2 [],.row 36 5 [y.o]]):=by
 have ho:[[OT.int y.op,OT.str y.atom.name,OT.ow (y.atom.args.map Tm.o),OT.str y.var,OT.ow (y.parts.map Fm.o)]]=[y.o]:=by rw [Fm.o_eq]
 refine Ai Mf GR (of_decide_eq_true rfl) ?_
 simp (disch:=omega) only [GQ,go_sem,Ab,Fm.osv,Fm.obs,ho]
def CH:SC:=(.seq (.reg [⟨some 2,none,.mv (.c .nil)⟩]) (.seq (.reg [⟨some 3,none,.mv (.c (.int .i64 0))⟩]) (.seq (.seq (.reg [⟨some 9,none,.mv (.t 0)⟩,⟨some 10,none,.len false (.t 9)⟩,⟨some 11,none,.mv (.c (.int .i64 0))⟩]) (.block 0 (.loop [1,0,0,1,0,0,0,0,0,1,1,1,0,0,0,0,0,0,0,0,0,0,0,0,0,0,0,0,0,0,0,0,0,0,0,0] (.seq (.reg [⟨some 12,none,.bin .lss false (.t 11) (.t 10)⟩]) (.seq (.cond (.t 12) .skip (.exit 0)) (.seq (.block 1 (.seq (.reg [⟨some 13,none,.iaddr 1 (.t 9) (.t 11)⟩,⟨some 14,none,.load false 1 (.t 13)⟩,⟨some 5,none,.mv (.t 14)⟩]) (.seq (.reg [⟨some 15,none,.mv (.t 3)⟩,⟨some 16,none,.mv (.t 5)⟩,⟨some 17,none,.len false (.t 16)⟩,⟨some 18,none,.bin .add false (.t 15) (.t 17)⟩,⟨some 3,none,.mv (.t 18)⟩]) (.seq (.reg [⟨some 19,none,.mv (.t 3)⟩,⟨some 20,none,.bin .lss false (.t 19) (.c (.int .i64 0))⟩]) (.cond (.t 20) (.reg [⟨some 21,none,.un .neg (.c .nil)⟩,⟨none,none,(.un .neg (.c .nil))⟩]) .skip))))) (.reg [⟨some 22,none,.bin .add false (.t 11) (.c (.int .i64 1))⟩,⟨some 11,none,.mv (.t 22)⟩]))))))) (.seq (.reg [⟨some 23,none,.mv (.t 3)⟩,⟨some 24,none,.call 188 [(.c .nil),(.t 23)]⟩,⟨some 6,none,.mv (.t 24)⟩]) (.seq (.seq (.reg [⟨some 25,none,.mv (.t 0)⟩,⟨some 26,none,.len false (.t 25)⟩,⟨some 27,none,.mv (.c (.int .i64 0))⟩]) (.block 2 (.loop [0,0,0,0,0,0,1,0,0,0,0,0,0,0,0,0,0,0,0,0,0,0,0,0,0,1,1,1,0,0,0,0,0,0,0,0] (.seq (.reg [⟨some 28,none,.bin .lss false (.t 27) (.t 26)⟩]) (.seq (.cond (.t 28) .skip (.exit 2)) (.seq (.block 3 (.seq (.reg [⟨some 29,none,.iaddr 1 (.t 25) (.t 27)⟩,⟨some 30,none,.load false 1 (.t 29)⟩,⟨some 8,none,.mv (.t 30)⟩]) (.reg [⟨some 31,none,.mv (.t 6)⟩,⟨some 32,none,.mv (.t 8)⟩,⟨(some 33),none,(.append 9 1 16 [(.str ⟨#[]⟩)] (.t 31) (.t 32))⟩,⟨some 6,none,.mv (.t 33)⟩]))) (.reg [⟨some 34,none,.bin .add false (.t 27) (.c (.int .i64 1))⟩,⟨some 27,none,.mv (.t 34)⟩]))))))) (.seq (.reg [⟨some 35,none,.mv (.t 6)⟩,⟨some 2,none,.mv (.t 35)⟩]) .ret))))))
theorem Fp:codeOf Tryz.prog 129=some ⟨36,CH,[(.tmp 2)]⟩:=by kernel_rfl
theorem BN:modes 129=⟨[],.own [some (9,1)],none,false⟩:=by unfold modes; rfl
theorem Bx:modes 188=⟨[true],.asis,some Nz,false⟩:=by unfold modes; rfl
theorem Qbb:E 188 [.nil,.int .i64 0] []=some (.nil,[]):=by
 rw [KR (g:=Nz) (congrArg FM.ext Bx)]
 unfold Nz
 simp only
 rw [An trivial,cond_true]
theorem Qbc (n:Int) (h:0<n) (h1:n≤1048576):E 188 [.nil,.int .i64 n] []=some (.ref 0,[.row 9 1 []]):=by
 rw [KR (g:=Nz) (congrArg FM.ext Bx)]
 unfold Nz
 simp only
 rw [Aj (by omega),cond_false,An ⟨h,h1⟩,cond_true]
theorem Y5 (xs:List (List ByteArray)) (hx:xs.length≤1024) (hs:xs.flatten.length≤1048576):E 129 [.arr (xs.map fun l=>[D.arr (l.map fun s=>[D.str s])])] []=some (.ref 0,[.row 9 1 (xs.flatten.map (fun s=>[OT.str s]))]):=by
  refine Ai Fp BN (of_decide_eq_true rfl) ?_
  simp (disch:=omega) only [CH,go_sem,Ab]
  refine go_loop (α:=Int × (Int)) (fun a=>⟨slots 36 0 [(0,.arr (xs.map fun l=>[D.arr (l.map fun s=>[D.str s])])),(3,.int .i64 (a.2)),(9,.arr (xs.map fun l=>[D.arr (l.map fun s=>[D.str s])])),(10,.int .i64 xs.length),(11,.int .i64 (a.1))],[]⟩) (fun a=>∃ k:Nat,a.1=k∧k≤(xs).length∧(a.2)+((xs.drop k).flatten.length:Int)=xs.flatten.length∧0≤(a.2)) (fun a=>(xs).length-(a.1).toNat) (0,0) ⟨0,rfl,zI _,by rw [zF]; dsimp only; omega,Int.le_refl _⟩ (by simp (disch:=omega) only [go_sem,Ab]) ?_
  rintro ⟨i,n⟩ ⟨k,hi,hk,hR⟩
  dsimp only at hi hR
  have hni:i.toNat=k:=by omega
  have hni1:(i+1).toNat=k+1:=by omega
  rcases zB k (xs).length with hlt | hge
  · have hg:=get_at (fun l:List ByteArray=>[D.arr (l.map fun s=>[D.str s])]) hlt
    rw [zA hlt,yL,zE] at hR
    obtain ⟨hR1,hR2⟩:=hR
    have hge:dec (n+(xs[k].length:Int)<0)=false:=Aj (by omega)
    simp (disch:=omega) only [go_sem,Ab,hni,hg,hge]
    refine ⟨(i+1,n+xs[k].length),⟨k+1,by dsimp only; omega,hlt,by dsimp only; omega,by dsimp only; omega⟩,by dsimp only; omega,?_⟩
    first | trivial | rfl
  · rw [zC hge] at hR
    obtain ⟨hR1,hR2⟩:=hR
    have hn:n=xs.flatten.length:=by simpa using hR1
    clear hR1 hR2
    rcases zN xs.flatten.length with hz | hz
    · have hxe:∀ l∈xs,l=[]:=by
        have:=zJ hz
        rwa [List.flatten_eq_nil_iff] at this
      have hfe:xs.flatten=[]:=zJ hz
      obtain rfl:n=0:=by omega
      have hgr:=Qbb
      rw [hfe]
      simp (disch:=omega) only [go_sem,Ab,hni,hgr,Bx]
      clear hi hni hni1 hk hge
      refine go_loop (α:=Int) (fun a=>⟨slots 36 0 [(6,(if a=0 then .nil else .ref 0)),(25,.arr (xs.map fun l=>[D.arr (l.map fun s=>[D.str s])])),(26,.int .i64 xs.length),(27,.int .i64 a)],(if a=0 then [] else [.row 9 1 []])⟩) (fun a=>∃ k:Nat,a=k∧k≤(xs).length) (fun a=>(xs).length-(a).toNat) 0 ⟨0,rfl,zI _⟩ (by simp (disch:=omega) only [go_sem,Ab,eq_self,if_true]) ?_
      rintro i ⟨k,hi,hk⟩
      have hni:i.toNat=k:=by omega
      have hni1:(i+1).toNat=k+1:=by omega
      rcases zB k (xs).length with hlt | hge
      · have hg:=get_at (fun l:List ByteArray=>[D.arr (l.map fun s=>[D.str s])]) hlt
        rw [hxe _ (zG hlt)] at hg
        rcases zN k with h0 | h0
        · subst h0
          obtain rfl:i=0:=hi
          simp (disch:=omega) only [go_sem,Ab,hg,eq_self,if_true]
          exact ⟨1,⟨1,rfl,hlt⟩,by omega,by first | trivial | rfl⟩
        · have hi0:(i=0)=False:=by simp; omega
          have hi1:(i+1=0)=False:=by simp; omega
          simp (disch:=omega) only [go_sem,Ab,hni,hg,hi0,if_false]
          exact ⟨i+1,⟨k+1,by omega,hlt⟩,by omega,by simp only [hi1,if_false,and_self]⟩
      · rcases zN k with h0 | h0
        · subst h0
          obtain rfl:i=0:=hi
          simp (disch:=omega) only [go_sem,Ab,eq_self,if_true]
        · have hi0:(i=0)=False:=by simp; omega
          simp (disch:=omega) only [go_sem,Ab,hni,hi0,if_false]
    · have hgr:=Qbc n (by omega) (by omega)
      simp (disch:=omega) only [go_sem,Ab,hni,hgr,Bx]
      clear hi hni hni1 hk hge
      refine go_loop (α:=Int × (List ByteArray)) (fun a=>⟨slots 36 0 [(6,.ref 0),(25,.arr (xs.map fun l=>[D.arr (l.map fun s=>[D.str s])])),(26,.int .i64 xs.length),(27,.int .i64 (a.1))],[.row 9 1 ((a.2).map (fun s=>[OT.str s]))]⟩) (fun a=>∃ k:Nat,a.1=k∧k≤(xs).length∧(a.2)++(xs.drop k).flatten=xs.flatten) (fun a=>(xs).length-(a.1).toNat) (0,[]) ⟨0,rfl,zI _,by rw [zF]; rfl⟩ (by simp (disch:=omega) only [go_sem,Ab]) ?_
      rintro ⟨i,acc⟩ ⟨k,hi,hk,hR⟩
      dsimp only at hi hR
      have hni:i.toNat=k:=by omega
      have hni1:(i+1).toNat=k+1:=by omega
      rcases zB k (xs).length with hlt | hge
      · have hg:=get_at (fun l:List ByteArray=>[D.arr (l.map fun s=>[D.str s])]) hlt
        rw [zA hlt,yL,← zL] at hR
        have hlen:=congrArg yF hR
        rw [zE,zE] at hlen
        have hap:acc.map (fun s=>[OT.str s])++xs[k].map (fun s=>[OT.str s])=(acc++xs[k]).map (fun s=>[OT.str s]):=by rw [zO]
        have h1:(xs[k].map fun s=>[D.str s]).map (fun x=>x.map D.ot)=xs[k].map (fun s=>[OT.str s]):=by rw [zT]; rfl
        have h4:=Di xs[k]
        simp (disch:=omega) only [go_sem,Ab,hni,hg,hap,h1,h4]
        refine ⟨(i+1,acc++xs[k]),⟨k+1,by dsimp only; omega,hlt,hR⟩,by dsimp only; omega,?_⟩
        first | trivial | rfl | simp only [hap]
      · rw [zC hge] at hR
        have hR:acc=xs.flatten:=by simpa using hR
        rw [←hR]
        simp (disch:=omega) only [go_sem,Ab,hni]
def AM:SC:=(.seq (.reg [⟨some 4,none,.boxv 85 1 (.t 0)⟩,⟨some 5,none,.boxv 36 5 (.t 1)⟩,⟨some 6,none,.boxv 28 1 (.t 2)⟩,⟨some 7,none,.boxv 150 1 (.t 3)⟩,⟨(some 8),none,(.alloc 36 [(.int .i64 0),(.str ⟨#[]⟩),.nil,(.str ⟨#[]⟩),.nil])⟩]) (.seq (.seq (.reg [⟨some 13,none,.faddr 0 (.t 5)⟩,⟨some 14,none,.load false 1 (.t 13)⟩]) (.block 0 (.seq (.reg [⟨some 16,none,.bin .eql false (.t 14) (.c (.int .i64 3))⟩,⟨some 15,none,.mv (.t 16)⟩]) (.cond (.t 15) (.seq (.reg [⟨some 17,none,.faddr 1 (.t 5)⟩,⟨some 18,none,.load true 2 (.t 17)⟩,⟨some 19,none,.load false 1 (.t 7)⟩,⟨some 20,none,.call 127 [(.t 18),(.t 19)]⟩,⟨some 21,none,.call 126 [(.t 20)]⟩,⟨none,none,(.store 5 (.t 8) (.t 21))⟩]) .ret) (.seq (.reg [⟨some 23,none,.bin .eql false (.t 14) (.c (.int .i64 8))⟩,⟨some 22,none,.mv (.t 23)⟩]) (.cond (.t 22) (.seq (.dreg [[],[0],[],[],[3],[4,3],[5,4,3],[],[7],[],[9],[10,9],[8,7,11,10,9],[],[2,6,5,4,3,12,8,7,11,10,9,13],[1,0,14,2,6,5,4,3,12,8,7,11,10,9,13],[15,1,0,14,2,6,5,4,3,12,8,7,11,10,9,13]] [⟨some 24,none,.faddr 3 (.t 5)⟩,⟨some 25,none,.load false 1 (.t 24)⟩,⟨some 26,none,.load false 1 (.t 4)⟩,⟨some 27,none,.faddr 4 (.t 5)⟩,⟨some 28,none,.load false 1 (.t 27)⟩,⟨some 29,none,.iaddr 5 (.t 28) (.c (.int .i64 0))⟩,⟨some 30,none,.load true 5 (.t 29)⟩,⟨some 31,none,.load false 1 (.t 6)⟩,⟨some 32,none,.call 57 [(.t 31)]⟩,⟨some 33,none,.faddr 3 (.t 5)⟩,⟨some 34,none,.load false 1 (.t 33)⟩,⟨(some 35),none,(.mkrow 9 1 [(.str ⟨#[]⟩)] 1 [(0,(.t 34))])⟩,⟨(some 36),none,(.append 9 1 16 [(.str ⟨#[]⟩)] (.t 32) (.t 35))⟩,⟨some 37,none,.load false 1 (.t 7)⟩,⟨some 38,none,.call 59 [(.t 26),(.t 30),(.t 36),(.t 37)]⟩,⟨some 39,none,.call 128 [(.c (.int .i64 8)),(.t 25),(.t 38)]⟩,⟨none,none,(.store 5 (.t 8) (.t 39))⟩]) .ret) (.seq (.reg [⟨some 41,none,.bin .eql false (.t 14) (.c (.int .i64 9))⟩,⟨some 40,none,.mv (.t 41)⟩]) (.cond (.t 40) (.seq (.dreg [[],[0],[1,0],[2,1,0],[],[3,2,1,0,4],[5,3,2,1,0,4],[6,5,3,2,1,0,4]] [⟨some 42,none,.load false 1 (.t 4)⟩,⟨some 43,none,.nilchk (.t 42)⟩,⟨some 44,none,.faddr 1 (.t 43)⟩,⟨some 45,none,.load false 1 (.t 44)⟩,⟨some 46,none,.load false 1 (.t 6)⟩,⟨some 47,none,.mkrow 28 1 [.nil] 2 [(0,(.t 45)),(1,(.t 46))]⟩,⟨some 48,none,.call 129 [(.t 47)]⟩,⟨some 9,none,.mv (.t 48)⟩]) (.seq (.dreg [[],[],[1],[2,1],[3,2,1],[4,3,2,1],[5,4,3,2,1],[6,5,4,3,2,1],[7,6,5,4,3,2,1],[5,4,3,2,1,8,7,6],[0,1,2,3,4,5,6,7,8,9],[10,0,1,2,3,4,5,6,7,8,9],[11,10,0,1,2,3,4,5,6,7,8,9]] [⟨some 49,none,.load false 1 (.t 4)⟩,⟨some 50,none,.load false 1 (.t 4)⟩,⟨some 51,none,.nilchk (.t 50)⟩,⟨some 52,none,.faddr 2 (.t 51)⟩,⟨some 53,none,.load false 1 (.t 52)⟩,⟨some 54,none,.mv (.t 53)⟩,⟨(some 55),(some (54,false)),(.mv (.t 9))⟩,⟨(some 56),(some (54,false)),(.len false (.t 55))⟩,⟨(some 57),(some (54,false)),(.bin .gtr false (.t 56) (.c (.int .i64 4)))⟩,⟨some 58,none,.pick (.t 54) (.c (.bool true)) (.t 57)⟩,⟨some 59,none,.nilchk (.t 49)⟩,⟨some 60,none,.faddr 2 (.t 59)⟩,⟨none,none,(.store 1 (.t 60) (.t 58))⟩]) (.seq (.reg [⟨some 61,none,.mkmap true none⟩,⟨some 10,none,.mv (.t 61)⟩]) (.seq (.seq (.reg [⟨some 62,none,.load false 1 (.t 7)⟩,⟨some 63,none,.mkit (.t 62)⟩]) (.block 1 (.mloop [0,0,0,0,1,1,1,0,1,1,1,0,0,0,0,0,0,0,0,0,0,0,0,0,0,0,0,0,0,0,0,0,0,0,0,0,0,0,0,0,0,0,0,0,0,0,0,0,0,0,0,0,0,0,0,0,0,0,0,0,0,0,0,1,0,0,0,0,0,0,0,0,0,0,0,0,0,0,0,0,0,0,0,0,0,0,0,0,0,0,0,0,0,0] [0,0,0,0,1,1,1,1,1,1,1,0,0,0,0,0,0,0,0,0,0,0,0,0,0,0,0,0,0,0,0,0,0,0,0,0,0,0,0,0,0,0,0,0,0,0,0,0,0,0,0,0,0,0,0,0,0,0,0,0,0,0,0,0,0,0,0,0,0,0,0,0,0,0,0,0,0,0,0,0,0,0,0,0,0,0,0,0,0,0,0,0,0,0] (.t 63) 64 65 (.seq (.cond (.t 65) .skip (.exit 1)) (.block 2 (.seq (.reg [⟨some 66,none,.mcur (.t 63)⟩,⟨some 67,none,.ext (.t 66) 0⟩,⟨some 68,none,.ext (.t 66) 1⟩,⟨(some 12),none,(.alloc 33 [(.str ⟨#[]⟩),.nil])⟩,⟨some 11,none,.mv (.t 67)⟩,⟨none,none,(.store 2 (.t 12) (.t 68))⟩]) (.reg [⟨some 69,none,.mv (.t 10)⟩,⟨some 70,none,.mv (.t 11)⟩,⟨some 71,none,.load true 2 (.t 12)⟩,⟨none,none,(.mset true (.t 69) (.t 70) (.t 71))⟩]))))))) (.seq (.dreg [[],[],[1],[],[3],[4,3],[5,4,3],[6,5,4,3],[],[8,7,6,5,4,3],[7,6,5,4,3,9,8],[0,2,1,10,7,6,5,4,3,9,8]] [⟨some 72,none,.mv (.t 10)⟩,⟨some 73,none,.faddr 3 (.t 5)⟩,⟨some 74,none,.load false 1 (.t 73)⟩,⟨some 75,none,.load false 1 (.t 4)⟩,⟨some 76,none,.nilchk (.t 75)⟩,⟨some 77,none,.faddr 0 (.t 76)⟩,⟨some 78,none,.load false 1 (.t 77)⟩,⟨some 79,none,.call 130 [(.t 78)]⟩,⟨some 80,none,.mv (.t 9)⟩,⟨some 81,none,.call 131 [(.t 80)]⟩,⟨(some 82),none,(.build [(.str ⟨#[]⟩),.nil] [(0,(1,(.t 79))),(1,(1,(.t 81)))])⟩,⟨none,none,(.mset true (.t 72) (.t 74) (.t 82))⟩]) (.seq (.dreg [[],[],[1],[2,1],[3,2,1],[],[],[0,4,3,2,1,5,6],[7,0,4,3,2,1,5,6]] [⟨some 83,none,.load false 1 (.t 4)⟩,⟨some 84,none,.faddr 4 (.t 5)⟩,⟨some 85,none,.load false 1 (.t 84)⟩,⟨some 86,none,.iaddr 5 (.t 85) (.c (.int .i64 0))⟩,⟨some 87,none,.load true 5 (.t 86)⟩,⟨some 88,none,.load false 1 (.t 6)⟩,⟨some 89,none,.mv (.t 10)⟩,⟨some 90,none,.call 59 [(.t 83),(.t 87),(.t 88),(.t 89)]⟩,⟨none,none,(.store 5 (.t 8) (.t 90))⟩]) .ret)))))) .skip)))))))) (.seq (.reg [⟨some 91,none,.load true 5 (.t 5)⟩,⟨some 92,none,.mkfn 133 [(.t 4),(.t 6),(.t 7)]⟩,⟨some 93,none,.call 132 [(.t 91),(.t 92)]⟩,⟨none,none,(.store 5 (.t 8) (.t 93))⟩]) .ret)))
theorem AY:codeOf Tryz.prog 59=some ⟨94,AM,[(.cell 8 true 5)]⟩:=by kernel_rfl
theorem Ar:modes 59=⟨[],.own [none,none,some (33,2),none,some (36,5)],none,false⟩:=by unfold modes; rfl
def CI:SC:=(.seq (.reg [⟨some 4,none,.boxv 36 5 (.t 0)⟩,⟨(some 5),none,(.alloc 36 [(.int .i64 0),(.str ⟨#[]⟩),.nil,(.str ⟨#[]⟩),.nil])⟩]) (.seq (.reg [⟨some 6,none,.load false 1 (.t 1)⟩,⟨some 7,none,.load true 5 (.t 4)⟩,⟨some 8,none,.load false 1 (.t 2)⟩,⟨some 9,none,.load false 1 (.t 3)⟩,⟨some 10,none,.call 59 [(.t 6),(.t 7),(.t 8),(.t 9)]⟩,⟨none,none,(.store 5 (.t 5) (.t 10))⟩]) .ret))
theorem Fq:codeOf Tryz.prog 133=some ⟨11,CI,[(.cell 5 true 5)]⟩:=by kernel_rfl
theorem BO:modes 133=⟨[],.own [none,none,some (33,2),none,some (36,5)],none,false⟩:=by unfold modes; rfl
theorem Fs:JV Tryz.prog 133=true:=by kernel_rfl
theorem SG (fid:Nat) (e:TEnv) (tk fr ou:List ByteArray) (f:Fm→Int × Bool→Fm × (Int × Bool)) (P:Nat→Int × Bool→Prop) (x:Fm) (c0:Int × Bool) (hP:P 0 c0) (hl:x.parts.length≤1099511627776) (hat:x.atom.nodes≤1099511627776) (hg:JV Tryz.prog fid=true) (hm:(modes fid).hand=[]) (hr:∀ r,D5 (modes fid).res r=r)
  (hE:∀ (k:Nat) (h:k<x.parts.length) (c:Int × Bool),P k c→E fid [x.parts[k].sv,.ptr 0 0,.ptr 1 0,.ptr 2 0] [.box 85 [.ptr 3 0],.box 28 [.arr (ou.map fun s=>[D.str s])],.box 150 [.mp true (Cm e)],.box 92 [.ptr 4 0,.arr (fr.map fun s=>[D.str s]),.bool c.2],.box 89 [.str Bm,.ref 5,.int .i64 c.1],.row 9 1 (tk.map fun s=>[OT.str s])]=some (.agg [.int .i64 (f x.parts[k] c).1.op,.str (f x.parts[k] c).1.atom.name,.ref 6,.str (f x.parts[k] c).1.var,.ref 7],[.box 85 [.ptr 3 0],.box 28 [.arr (ou.map fun s=>[D.str s])],.box 150 [.mp true (Cm e)],.box 92 [.ptr 4 0,.arr (fr.map fun s=>[D.str s]),.bool (f x.parts[k] c).2.2],.box 89 [.str Bm,.ref 5,.int .i64 (f x.parts[k] c).2.1],.row 9 1 (tk.map fun s=>[OT.str s]),.row 33 2 ((f x.parts[k] c).1.atom.args.map Tm.o),.row 36 5 ((f x.parts[k] c).1.parts.map Fm.o)])∧P (k+1) (f x.parts[k] c).2) :
  E 132 [x.sv,.fn fid [.ptr 0 0,.ptr 1 0,.ptr 2 0]] [.box 85 [.ptr 3 0],.box 28 [.arr (ou.map fun s=>[D.str s])],.box 150 [.mp true (Cm e)],.box 92 [.ptr 4 0,.arr (fr.map fun s=>[D.str s]),.bool c0.2],.box 89 [.str Bm,.ref 5,.int .i64 c0.1],.row 9 1 (tk.map fun s=>[OT.str s])]=some (.agg [.int .i64 x.op,.str x.atom.name,.ref 6,.str x.var,.ref 7],[.box 85 [.ptr 3 0],.box 28 [.arr (ou.map fun s=>[D.str s])],.box 150 [.mp true (Cm e)],.box 92 [.ptr 4 0,.arr (fr.map fun s=>[D.str s]),.bool (AE f x.parts c0).2.2],.box 89 [.str Bm,.ref 5,.int .i64 (AE f x.parts c0).2.1],.row 9 1 (tk.map fun s=>[OT.str s]),.row 33 2 (x.atom.args.map Tm.o),.row 36 5 ((AE f x.parts c0).1.map Fm.o)]):=by
 have hct:=Is x.atom hat
 have h10:((1:Int)=0)=False:=by simp
 refine Ai NV IE (of_decide_eq_true rfl) ?_
 simp (disch:=omega) only [ID,go_sem,Ab,hct,CX,Tm.osv,Tm.obs]
 refine go_loop (α:=Int × (Int × Bool) × (List Fm)) (fun a=>⟨slots 33 0 [(1,.fn fid [.ptr 0 0,.ptr 1 0,.ptr 2 0]),(4,.ptr 6 0),(5,.ptr 7 0),(17,.arr (x.parts.map Fm.d)),(18,.int .i64 x.parts.length),(19,.int .i64 (a.1))],(if (a.1)=0 then [.box 85 [.ptr 3 0],.box 28 [.arr (ou.map fun s=>[D.str s])],.box 150 [.mp true (Cm e)],.box 92 [.ptr 4 0,.arr (fr.map fun s=>[D.str s]),.bool (a.2.1).2],.box 89 [.str Bm,.ref 5,.int .i64 (a.2.1).1],.row 9 1 (tk.map fun s=>[OT.str s]),.box 36 [.int .i64 0,.str ⟨#[]⟩,.nil,.str ⟨#[]⟩,.nil],.box 36 [.int .i64 x.op,.str x.atom.name,.ref 8,.str x.var,.nil],.row 33 2 (x.atom.args.map Tm.o)] else [.box 85 [.ptr 3 0],.box 28 [.arr (ou.map fun s=>[D.str s])],.box 150 [.mp true (Cm e)],.box 92 [.ptr 4 0,.arr (fr.map fun s=>[D.str s]),.bool (a.2.1).2],.box 89 [.str Bm,.ref 5,.int .i64 (a.2.1).1],.row 9 1 (tk.map fun s=>[OT.str s]),.box 36 [.int .i64 0,.str ⟨#[]⟩,.nil,.str ⟨#[]⟩,.nil],.box 36 [.int .i64 x.op,.str x.atom.name,.ref 8,.str x.var,.ref 9],.row 33 2 (x.atom.args.map Tm.o),.row 36 5 ((a.2.2).map Fm.o)])⟩) (fun a=>∃ k:Nat,a.1=k∧k≤(x.parts).length∧(a.2.2).length=k∧P k (a.2.1)∧AE f x.parts c0=((a.2.2)++(AE f (x.parts.drop k) (a.2.1)).1,(AE f (x.parts.drop k) (a.2.1)).2)) (fun a=>(x.parts).length-(a.1).toNat) (0,c0,[]) ⟨0,rfl,zI _,rfl,hP,by rw [zF]; rfl⟩ (by simp (disch:=omega) only [go_sem,Ab,eq_self,if_true]) ?_
 rintro ⟨i,c,acc⟩ ⟨k,hi,hk,hR⟩
 dsimp only at hi hR
 have hni:i.toNat=k:=by omega
 have hni1:(i+1).toNat=k+1:=by omega
 rcases zB k (x.parts).length with hlt | hge
 ·have hgt:=get_at Fm.d hlt
  rw [Fm.d_eq] at hgt
  obtain ⟨hR1,hR2,hR3⟩:=hR
  obtain ⟨hc,hp⟩:=hE k hlt c hR2
  rw [zA hlt,AE] at hR3
  obtain ⟨y,hy⟩:∃ y,y=f x.parts[k] c:=⟨_,rfl⟩
  rw [←hy] at hc hp hR3
  have hs:acc.map Fm.o++[[OT.int y.1.op,OT.str y.1.atom.name,OT.ow (y.1.atom.args.map Tm.o),OT.str y.1.var,OT.ow (y.1.parts.map Fm.o)]]=(acc++[y.1]).map Fm.o:=by rw [zO,zS,zP,Fm.o_eq]
  have hR3':AE f x.parts c0=((acc++[y.1])++(AE f (x.parts.drop (k+1)) y.2).1,(AE f (x.parts.drop (k+1)) y.2).2):=by rw [hR3,zL]; rfl
  rcases zN k with h0 | h0
  ·subst h0
   obtain rfl:i=0:=hi
   have ha0:acc=[]:=zJ hR1
   subst ha0
   rw [zP,zQ] at hs
   simp (disch:=omega) only [go_sem,Ab,hni,hgt,hc,hg,hm,hr,eq_self,if_true]
   refine ⟨(1,y.2,[]++[y.1]),⟨1,rfl,hlt,rfl,hp,hR3'⟩,by dsimp only; omega,?_⟩
   simp (disch:=omega) only [go_sem,Ab,h10,if_false,hs,zQ]
  ·have hi0:(i=0)=False:=by simp; omega
   have hi1:(i+1=0)=False:=by simp; omega
   simp (disch:=omega) only [go_sem,Ab,hni,hgt,hc,hg,hm,hr,hi0,if_false]
   refine ⟨(i+1,y.2,acc++[y.1]),⟨k+1,by dsimp only; omega,hlt,by simp [hR1],hp,hR3'⟩,by dsimp only; omega,?_⟩
   simp (disch:=omega) only [go_sem,Ab,hi1,if_false,hs]
 ·obtain rfl:k=x.parts.length:=by omega
  obtain ⟨hR1,hR2,hR3⟩:=hR
  rw [zC hge,AE,zM] at hR3
  rw [hR3]
  rcases zN x.parts.length with h0 | h0
  ·have hx:x.parts=[]:=zJ h0
   obtain rfl:i=0:=by omega
   have ha0:acc=[]:=zJ (by rw [hR1]; exact h0)
   subst ha0
   simp (disch:=omega) only [go_sem,Ab,hni,hx,eq_self,if_true,zP,zR]
  ·have hi0:(i=0)=False:=by simp; omega
   simp (disch:=omega) only [go_sem,Ab,hni,hi0,if_false]
abbrev SkE (tk fr:List ByteArray) (x:Fm) (ou:List ByteArray) (e:TEnv) (c:Int) (b:Bool):Prop:=E 59 [.ptr 0 0,x.sv,.arr (ou.map fun s=>[D.str s]),.mp true (Cm e)] [.box 92 [.ptr 1 0,.arr (fr.map fun s=>[D.str s]),.bool b],.box 89 [.str Bm,.ref 2,.int .i64 c],.row 9 1 (tk.map fun s=>[OT.str s])]=some (.agg [.int .i64 (x.sk tk fr ou e c).1.op,.str (x.sk tk fr ou e c).1.atom.name,.ref 3,.str (x.sk tk fr ou e c).1.var,.ref 4],[.box 92 [.ptr 1 0,.arr (fr.map fun s=>[D.str s]),.bool (b || x.bad (fr.length+ou.length))],.box 89 [.str Bm,.ref 2,.int .i64 (x.sk tk fr ou e c).2],.row 9 1 (tk.map fun s=>[OT.str s]),.row 33 2 ((x.sk tk fr ou e c).1.atom.args.map Tm.o),.row 36 5 ((x.sk tk fr ou e c).1.parts.map Fm.o)])
abbrev SkC (tk fr:List ByteArray) (x:Fm):Prop:=∀ (ou:List ByteArray) (e:TEnv) (c:Int) (b:Bool),FinT e→TB 1000001 e→fr.length+ou.length+x.nodes≤1000000→0≤c→c+x.nodes*(tk.length+2:Nat)≤1099511000000→SkE tk fr x ou e c b
theorem Qcq (tk fr:List ByteArray) (x:Fm) (ou:List ByteArray) (e:TEnv) (c:Int) (b:Bool) (h:SkE tk fr x ou e c b):E 133 [x.sv,.ptr 0 0,.ptr 1 0,.ptr 2 0] [.box 85 [.ptr 3 0],.box 28 [.arr (ou.map fun s=>[D.str s])],.box 150 [.mp true (Cm e)],.box 92 [.ptr 4 0,.arr (fr.map fun s=>[D.str s]),.bool (c,b).2],.box 89 [.str Bm,.ref 5,.int .i64 (c,b).1],.row 9 1 (tk.map fun s=>[OT.str s])]=some (.agg [.int .i64 (x.sk tk fr ou e c).1.op,.str (x.sk tk fr ou e c).1.atom.name,.ref 6,.str (x.sk tk fr ou e c).1.var,.ref 7],[.box 85 [.ptr 3 0],.box 28 [.arr (ou.map fun s=>[D.str s])],.box 150 [.mp true (Cm e)],.box 92 [.ptr 4 0,.arr (fr.map fun s=>[D.str s]),.bool ((x.sk tk fr ou e c).2,(b || x.bad (fr.length+ou.length))).2],.box 89 [.str Bm,.ref 5,.int .i64 ((x.sk tk fr ou e c).2,(b || x.bad (fr.length+ou.length))).1],.row 9 1 (tk.map fun s=>[OT.str s]),.row 33 2 ((x.sk tk fr ou e c).1.atom.args.map Tm.o),.row 36 5 ((x.sk tk fr ou e c).1.parts.map Fm.o)]):=by
 unfold SkE at h
 obtain ⟨r,hr⟩:∃ r,r=x.sk tk fr ou e c:=⟨_,rfl⟩
 rw [←hr] at h ⊢
 dsimp only at h ⊢
 refine Ai Fq BO (of_decide_eq_true rfl) ?_
 simp (disch:=omega) only [CI,go_sem,Ab,h,Ar]
theorem SH (tk fr:List ByteArray) (x:Fm) (hx:x.forms=true) (ih:∀ y∈x.parts,SkC tk fr y):SkC tk fr x:=by
  intro ou e c0 b hf he hb h0 hc0
  have hfo:=Fm.BB hx
  have hpl:=Fm.length_le x.parts
  have hnq:=Fm.nodes_eq x
  have hat:=Fm.Il hfo
  have hbe:=Fm.Qab x (fr.length+ou.length)
  rw [hnq,yE,yM] at hc0
  have hge1:((1:Nat):Int)*(tk.length+2:Nat)=tk.length+2:=by simp
  rw [hge1] at hc0
  have hgeS:(0:Int)≤(Fm.nodeS x.parts:Int)*(tk.length+2:Nat):=yG (by omega) (by omega)
  unfold SkE
  by_cases h3:x.op=3
  · have o3:dec (x.op=3)=true:=An h3
    have hp0:=(Fm.EJ hfo h3).1
    have hbad:x.bad (fr.length+ou.length)=false:=by rw [hbe,hp0,Aj (by omega)]; rfl
    have hrv:=Kx e 1000001 (by omega) he x.atom (by omega)
    unfold RvC at hrv
    rw [Fm.Iv tk fr h3,hbad,yD]
    obtain ⟨z,hz⟩:∃ z,z=x.atom.rv e:=⟨_,rfl⟩
    rw [←hz] at hrv ⊢
    have hao:=Qai z
    simp only [Tm.osv,Tm.obs] at hrv hao
    show E 59 [.ptr 0 0,x.sv,.arr (ou.map fun s=>[D.str s]),.mp true (Cm e)] [.box 92 [.ptr 1 0,.arr (fr.map fun s=>[D.str s]),.bool b],.box 89 [.str Bm,.ref 2,.int .i64 c0],.row 9 1 (tk.map fun s=>[OT.str s])]=some (.agg [.int .i64 3,.str z.name,.ref 3,.str ⟨#[]⟩,.ref 4],[.box 92 [.ptr 1 0,.arr (fr.map fun s=>[D.str s]),.bool b],.box 89 [.str Bm,.ref 2,.int .i64 c0],.row 9 1 (tk.map fun s=>[OT.str s]),.row 33 2 (z.args.map Tm.o),.row 36 5 []])
    refine Ai AY Ar (of_decide_eq_true rfl) ?_
    simp (disch:=omega) only [AM,go_sem,Ab,o3,hrv,hao,Bf,K3]
  have o3:dec (x.op=3)=false:=Aj h3
  by_cases h8:x.op=8
  · have o8:dec (x.op=8)=true:=An h8
    obtain ⟨p,hp⟩:=(Fm.BA hfo (by unfold qB; rw [o8]; rfl)).2
    have hbad:x.bad (fr.length+ou.length)=p.bad (fr.length+(ou++[x.var]).length):=by
      rw [hbe,hp,Aj (show ¬ x.op=9 by omega),o8,zE,z6,Nat.add_assoc]
      simp
    have hnp:Fm.nodeS x.parts=p.nodes:=by rw [hp]; simp [Fm.nodeS]
    have hcl:=Me ou (by omega)
    have hs:=ih p (by rw [hp]; simp) (ou++[x.var]) e c0 b hf he (by rw [zE,z6]; omega) h0 (by rw [←hnp]; omega)
    unfold SkE at hs
    have ha1:(ou.map fun s=>[OT.str s])++[[OT.str x.var]]=(ou++[x.var]).map fun s=>[OT.str s]:=by simp
    have hlt:0<x.parts.length:=by rw [hp]; simp
    have hg:=get_at Fm.d hlt
    have hx0:x.parts[0]=p:=by simp [hp]
    rw [hx0,Fm.d_eq] at hg
    have hps:p.sv=.agg [.int .i64 p.op,.str p.atom.name,.arr (p.atom.args.map Tm.d),.str p.var,.arr (p.parts.map Fm.d)]:=rfl
    have hgz:=Di ou
    rw [Fm.Ld tk fr h8 hp,hbad]
    rw [hps] at hs
    obtain ⟨r,hr⟩:∃ r,r=p.sk tk fr (ou++[x.var]) e c0:=⟨_,rfl⟩
    rw [←hr] at hs ⊢
    have hqt:=SF 8 x.var r.1
    simp only [Fm.osv,Fm.obs] at hqt
    obtain ⟨o1,ho1⟩:∃ o1,o1=ou++[x.var]:=⟨_,rfl⟩
    rw [←ho1] at ha1 hs ⊢
    show E 59 [.ptr 0 0,x.sv,.arr (ou.map fun s=>[D.str s]),.mp true (Cm e)] [.box 92 [.ptr 1 0,.arr (fr.map fun s=>[D.str s]),.bool b],.box 89 [.str Bm,.ref 2,.int .i64 c0],.row 9 1 (tk.map fun s=>[OT.str s])]=some (.agg [.int .i64 8,.str ⟨#[]⟩,.ref 3,.str x.var,.ref 4],[.box 92 [.ptr 1 0,.arr (fr.map fun s=>[D.str s]),.bool (b || p.bad (fr.length+o1.length))],.box 89 [.str Bm,.ref 2,.int .i64 r.2],.row 9 1 (tk.map fun s=>[OT.str s]),.row 33 2 [],.row 36 5 [r.1.o]])
    refine Ai AY Ar (of_decide_eq_true rfl) ?_
    simp (disch:=omega) only [AM,go_sem,Ab,o3,o8,hcl,ha1,hg,hs,hqt,hgz,zV,Cp,GR,Az,Ar]
  have o8:dec (x.op=8)=false:=Aj h8
  by_cases h9:x.op=9
  · have o9 : dec (x.op=9)=true:=An h9
    obtain ⟨hvx,p,hp⟩:=Fm.BA hfo (by unfold qB; rw [o9]; simp)
    have hbad:x.bad (fr.length+ou.length)=(dec (4<fr.length+ou.length) || p.bad (fr.length+ou.length)):=by
      rw [hbe,hp,o8,o9]
      simp
    have hnp:Fm.nodeS x.parts=p.nodes:=by rw [hp]; simp [Fm.nodeS]
    have hlt:0<x.parts.length:=by rw [hp]; simp
    have hg:=get_at Fm.d hlt
    have hx0:x.parts[0]=p:=by simp [hp]
    rw [hx0,Fm.d_eq] at hg
    have hps:p.sv=.agg [.int .i64 p.op,.str p.atom.name,.arr (p.atom.args.map Tm.d),.str p.var,.arr (p.parts.map Fm.d)]:=rfl
    have hcc:=Y5 [fr,ou] (by simp) (by simp; omega)
    simp only [zS,zP,yL,List.flatten_nil,zM] at hcc
    have hvt:=WC (fr++ou) (by rw [zE]; omega)
    have hfr:=CG Bm tk c0
    have hnx:=Qba Bm (by decide) tk c0 h0 (by omega)
    have hpm:=Y1 e x.var (skT tk fr ou c0)
    have hts:(skT tk fr ou c0).nodes≤1000001:=by
      unfold skT
      rw [Tm.nodes_eq]
      show 1+Tm.nodeS (vT (fr++ou))≤_
      rw [Jz,zE]; omega
    obtain ⟨b1,hb1⟩:∃ b1,b1=(b || dec (4<fr.length+ou.length)):=⟨_,rfl⟩
    have hs:=ih p (by rw [hp]; simp) ou (Iu e x.var (skT tk fr ou c0)) (fresh Bm tk c0) b1 (hf.put _ _) (he.put hvx hts) (by omega) (by omega) (by rw [←hnp]; omega)
    unfold SkE at hs
    rw [hps] at hs
    rw [Fm.Iw tk fr h9 hp,hbad,← Bool.or_assoc,← hb1]
    obtain ⟨e1,he1⟩:∃ e1,e1=Iu e x.var (skT tk fr ou c0):=⟨_,rfl⟩
    rw [←he1] at hpm hs ⊢
    unfold skT at hpm
    have hla:fr.length+ou.length=(fr++ou).length:=zE.symm
    rw [hla] at hb1
    obtain ⟨ar,har⟩:∃ ar,ar=fr++ou:=⟨_,rfl⟩
    rw [←har] at hcc hvt hb1 hpm
    obtain ⟨cf,hcf⟩:∃ cf,cf=fresh Bm tk c0:=⟨_,rfl⟩
    rw [←hcf] at hnx hfr hs hpm ⊢
    obtain ⟨v,hv⟩:∃ v,v=pre Bm cf:=⟨_,rfl⟩
    rw [←hv] at hnx hpm
    obtain ⟨r,hr⟩:∃ r,r=p.sk tk fr ou e1 cf:=⟨_,rfl⟩
    rw [←hr] at hs ⊢
    have hpm2:K7 (Cm e) (.str x.var) (true,[.str v,.arr ((vT ar).map Tm.d)])=Cm e1:=hpm
    have hbi:(b || dec ((4:Int)<(ar.length:Int)))=b1:=by
      rw [hb1]
      by_cases h4:4<ar.length
      · rw [An h4,An (by omega)]
      · rw [Aj h4,Aj (by omega)]
    clear hb1 hpm
    cases b with
    | false =>
      rw [zX] at hbi
      refine Ai AY Ar (of_decide_eq_true rfl) ?_
      simp (disch:=omega) only [AM,go_sem,Ab,o3,o8,o9,hcc,Cp,BN,hbi]
      refine TX (Cm e) hf.enum (.exit 1,⟨slots 94 0 [(4,.ptr 3 0),(5,.ptr 4 0),(6,.ptr 5 0),(8,.ptr 6 0),(9,.ref 7),(10,.ref 8)],[.box 92 [.ptr 1 0,.arr (fr.map fun s=>[D.str s]),.bool b1],.box 89 [.str Bm,.ref 2,.int .i64 c0],.row 9 1 (tk.map fun s=>[OT.str s]),.box 85 [.ptr 0 0],.box 36 [.int .i64 x.op,.str x.atom.name,.arr (x.atom.args.map Tm.d),.str x.var,.arr (x.parts.map Fm.d)],.box 28 [.arr (ou.map fun s=>[D.str s])],.box 36 [.int .i64 0,.str ⟨#[]⟩,.nil,.str ⟨#[]⟩,.nil],.row 9 1 (ar.map fun s=>[OT.str s]),.mp true (Cm e)]⟩) (by simp (disch:=omega) only [go_sem,Ab,hg,hnx,hvt,hpm2,hs,Cp,zV,Fz,Ev,Ar]) (fun p=>⟨slots 94 0 [(4,.ptr 3 0),(5,.ptr 4 0),(6,.ptr 5 0),(8,.ptr 6 0),(9,.ref 7),(10,.ref 8),(63,.ptr 9 0)],[.box 92 [.ptr 1 0,.arr (fr.map fun s=>[D.str s]),.bool b1],.box 89 [.str Bm,.ref 2,.int .i64 c0],.row 9 1 (tk.map fun s=>[OT.str s]),.box 85 [.ptr 0 0],.box 36 [.int .i64 x.op,.str x.atom.name,.arr (x.atom.args.map Tm.d),.str x.var,.arr (x.parts.map Fm.d)],.box 28 [.arr (ou.map fun s=>[D.str s])],.box 36 [.int .i64 0,.str ⟨#[]⟩,.nil,.str ⟨#[]⟩,.nil],.row 9 1 (ar.map fun s=>[OT.str s]),.mp true (Pt p),.it true (Cm e) (p.map (·.1)).reverse p.getLast?]⟩) 9 true (by simp (disch:=omega) only [go_sem,Ab]; exact ⟨rfl,rfl⟩) (fun p=>by simp (disch:=omega) only [go_sem,Ab]) (fun p q y _ _ hyq _=>?_) (fun p hp=>?_)
      · cases q with
        | int i=>cases hyq
        | str s =>
          rw [EQ] at hyq
          cases hs:e s with
          | none=>rw [hs] at hyq; cases hyq
          | some w =>
            rw [hs] at hyq
            obtain rfl:=Option.some.inj hyq
            simp (disch:=omega) only [go_sem,Ab,Pu,List.getLast?_append,zO,List.reverse_append]
            rfl
      · simp (disch:=omega) only [go_sem,Ab,Ub hp]
    | true =>
      rw [yA] at hbi
      subst hbi
      refine Ai AY Ar (of_decide_eq_true rfl) ?_
      simp (disch:=omega) only [AM,go_sem,Ab,o3,o8,o9,hcc,Cp,BN]
      refine TX (Cm e) hf.enum (.exit 1,⟨slots 94 0 [(4,.ptr 3 0),(5,.ptr 4 0),(6,.ptr 5 0),(8,.ptr 6 0),(9,.ref 7),(10,.ref 8)],[.box 92 [.ptr 1 0,.arr (fr.map fun s=>[D.str s]),.bool true],.box 89 [.str Bm,.ref 2,.int .i64 c0],.row 9 1 (tk.map fun s=>[OT.str s]),.box 85 [.ptr 0 0],.box 36 [.int .i64 x.op,.str x.atom.name,.arr (x.atom.args.map Tm.d),.str x.var,.arr (x.parts.map Fm.d)],.box 28 [.arr (ou.map fun s=>[D.str s])],.box 36 [.int .i64 0,.str ⟨#[]⟩,.nil,.str ⟨#[]⟩,.nil],.row 9 1 (ar.map fun s=>[OT.str s]),.mp true (Cm e)]⟩) (by simp (disch:=omega) only [go_sem,Ab,hg,hnx,hvt,hpm2,hs,Cp,zV,Fz,Ev,Ar]) (fun p=>⟨slots 94 0 [(4,.ptr 3 0),(5,.ptr 4 0),(6,.ptr 5 0),(8,.ptr 6 0),(9,.ref 7),(10,.ref 8),(63,.ptr 9 0)],[.box 92 [.ptr 1 0,.arr (fr.map fun s=>[D.str s]),.bool true],.box 89 [.str Bm,.ref 2,.int .i64 c0],.row 9 1 (tk.map fun s=>[OT.str s]),.box 85 [.ptr 0 0],.box 36 [.int .i64 x.op,.str x.atom.name,.arr (x.atom.args.map Tm.d),.str x.var,.arr (x.parts.map Fm.d)],.box 28 [.arr (ou.map fun s=>[D.str s])],.box 36 [.int .i64 0,.str ⟨#[]⟩,.nil,.str ⟨#[]⟩,.nil],.row 9 1 (ar.map fun s=>[OT.str s]),.mp true (Pt p),.it true (Cm e) (p.map (·.1)).reverse p.getLast?]⟩) 9 true (by simp (disch:=omega) only [go_sem,Ab]; exact ⟨rfl,rfl⟩) (fun p=>by simp (disch:=omega) only [go_sem,Ab]) (fun p q y _ _ hyq _=>?_) (fun p hp=>?_)
      · cases q with
        | int i=>cases hyq
        | str s =>
          rw [EQ] at hyq
          cases hs:e s with
          | none=>rw [hs] at hyq; cases hyq
          | some w =>
            rw [hs] at hyq
            obtain rfl:=Option.some.inj hyq
            simp (disch:=omega) only [go_sem,Ab,Pu,List.getLast?_append,zO,List.reverse_append]
            rfl
      · simp (disch:=omega) only [go_sem,Ab,Ub hp]
  have o9:dec (x.op=9)=false:=Aj h9
  have hz:x.atom=Tm.zero:=Fm.Gc hfo h3
  have hv0:x.var=⟨#[]⟩:=Fm.PI hfo (by unfold qB; rw [o8,o9]; rfl)
  have hm:=SG 133 e tk fr ou (fun y s=>((y.sk tk fr ou e s.1).1,((y.sk tk fr ou e s.1).2,s.2 || y.bad (fr.length+ou.length)))) (fun k s=>0≤s.1∧s.1+(Fm.nodeS (x.parts.drop k):Int)*(tk.length+2:Nat)≤1099511000000) x (c0,b) ⟨h0,by rw [zF]; omega⟩ (by omega) (by omega) Fs (by rw [BO]) (fun r=>by rw [BO]; rfl) (fun k hk s hp=>by
    obtain ⟨p1,p2⟩:=hp
    rw [zA hk,Fm.nodeS,yE,yM] at p2
    have hfk:=Fm.Be hx (zG hk)
    have hcnt:=Fm.J0 tk fr x.parts[k] hfk ou e s.1 p1
    have hge0:(0:Int)≤(Fm.nodeS (x.parts.drop (k+1)):Int)*(tk.length+2:Nat):=yG (by omega) (by omega)
    have hle:=Fm.nodes_le x.parts k hk
    exact ⟨Qcq tk fr x.parts[k] ou e s.1 s.2 (ih x.parts[k] (zG hk) ou e s.1 s.2 hf he (by omega) p1 (by omega)),by dsimp only; omega,by dsimp only; omega⟩)
  have hpair:=PK (fun y c=>Fm.sk tk fr y ou e c) (fun y=>y.bad (fr.length+ou.length)) x.parts c0 b
  rw [hpair] at hm
  have hbad:x.bad (fr.length+ou.length)=x.parts.any fun y=>y.bad (fr.length+ou.length):=by rw [hbe,o8,o9]; rfl
  rw [Fm.Gp tk fr h3 h8 h9,hbad]
  rw [hz,hv0] at hm
  obtain ⟨r,hr⟩:∃ r,r=AE (fun y c=>Fm.sk tk fr y ou e c) x.parts c0:=⟨_,rfl⟩
  obtain ⟨bb,hbb⟩:∃ bb,bb=(b || x.parts.any fun y=>y.bad (fr.length+ou.length)):=⟨_,rfl⟩
  rw [←hr,← hbb] at hm
  rw [←hr,← hbb]
  have hxs:x.sv=.agg [.int .i64 x.op,.str Tm.zero.name,.arr (Tm.zero.args.map Tm.d),.str ⟨#[]⟩,.arr (x.parts.map Fm.d)]:=by
    show SV.agg [.int .i64 x.op,.str x.atom.name,.arr (x.atom.args.map Tm.d),.str x.var,.arr (x.parts.map Fm.d)]=_
    rw [hz,hv0]
  rw [hxs] at hm ⊢
  show E 59 [.ptr 0 0,.agg [.int .i64 x.op,.str Tm.zero.name,.arr (Tm.zero.args.map Tm.d),.str ⟨#[]⟩,.arr (x.parts.map Fm.d)],.arr (ou.map fun s=>[D.str s]),.mp true (Cm e)] [.box 92 [.ptr 1 0,.arr (fr.map fun s=>[D.str s]),.bool b],.box 89 [.str Bm,.ref 2,.int .i64 c0],.row 9 1 (tk.map fun s=>[OT.str s])]=some (.agg [.int .i64 x.op,.str Tm.zero.name,.ref 3,.str ⟨#[]⟩,.ref 4],[.box 92 [.ptr 1 0,.arr (fr.map fun s=>[D.str s]),.bool bb],.box 89 [.str Bm,.ref 2,.int .i64 r.2],.row 9 1 (tk.map fun s=>[OT.str s]),.row 33 2 (Tm.zero.args.map Tm.o),.row 36 5 (r.1.map Fm.o)])
  refine Ai AY Ar (of_decide_eq_true rfl) ?_
  simp (disch:=omega) only [AM,go_sem,Ab,o3,o8,o9,hm,IE]
theorem N9 (tk fr:List ByteArray) (x:Fm) (hx:x.forms=true):SkC tk fr x :=
 SH tk fr x hx fun y hy=>N9 tk fr y (Fm.Be hx hy)
termination_by SizeOf.sizeOf x
decreasing_by exact Fm.lt_of_mem hy
mutual
noncomputable def Fm.isN:Fm→Bool
 | .mk op _ _ parts=>!(dec (op=7) || (dec (op=4)&&!dec ((N7 parts).op=3)))&&Fm.Qaj parts
noncomputable def Fm.Qaj:List Fm→Bool
 | []=>true
 | x :: xs=>Fm.isN x&&Fm.Qaj xs
end
theorem Fm.UH:∀ xs:List Fm,Fm.Qaj xs=xs.all Fm.isN
 | []=>by rw [Fm.Qaj]; rfl
 | x :: xs=>by rw [Fm.Qaj,Fm.UH xs]; rfl
theorem Fm.Qak (x:Fm):x.isN=(!(dec (x.op=7) || (dec (x.op=4)&&!dec ((N7 x.parts).op=3)))&&x.parts.all Fm.isN):=by
 obtain ⟨op,atom,var,parts⟩:=x
 rw [Fm.isN,Fm.UH]; rfl
def Bw:SC:=(.seq (.reg [⟨some 1,none,.boxv 36 5 (.t 0)⟩,⟨some 2,none,.mv (.c (.bool false))⟩]) (.seq (.seq (.reg [⟨some 3,none,.faddr 0 (.t 1)⟩,⟨some 4,none,.load false 1 (.t 3)⟩,⟨some 5,none,.bin .eql false (.t 4) (.c (.int .i64 7))⟩,⟨some 6,none,.mv (.t 5)⟩,⟨(some 7),(some (6,false)),(.faddr 0 (.t 1))⟩,⟨(some 8),(some (6,false)),(.load false 1 (.t 7))⟩,⟨(some 9),(some (6,false)),(.bin .eql false (.t 8) (.c (.int .i64 4)))⟩,⟨(some 10),(some (6,false)),(.mv (.t 9))⟩,⟨(some 11),(some (10,true)),(.faddr 4 (.t 1))⟩,⟨(some 12),(some (10,true)),(.load false 1 (.t 11))⟩,⟨(some 13),(some (10,true)),(.iaddr 5 (.t 12) (.c (.int .i64 0)))⟩,⟨(some 14),(some (10,true)),(.faddr 0 (.t 13))⟩,⟨(some 15),(some (10,true)),(.load false 1 (.t 14))⟩,⟨(some 16),(some (10,true)),(.bin .neq false (.t 15) (.c (.int .i64 3)))⟩,⟨(some 17),(some (6,false)),(.pick (.t 10) (.t 16) (.c (.bool false)))⟩,⟨some 18,none,.pick (.t 6) (.c (.bool true)) (.t 17)⟩]) (.cond (.t 18) (.seq (.reg [⟨some 2,none,.mv (.c (.bool false))⟩]) .ret) .skip)) (.seq (.reg [⟨some 19,none,.faddr 4 (.t 1)⟩,⟨some 20,none,.load false 1 (.t 19)⟩,⟨some 21,none,.call 121 [(.t 20),(.c (.fn 122 []))]⟩,⟨some 22,none,.un .not (.t 21)⟩,⟨some 2,none,.mv (.t 22)⟩]) .ret)))
theorem BR:codeOf Tryz.prog 55=some ⟨23,Bw,[(.tmp 2)]⟩:=by kernel_rfl
theorem A3:modes 55=⟨[],.asis,none,false⟩:=by unfold modes; rfl
def D6:SC:=(.seq (.reg [⟨some 1,none,.boxv 36 5 (.t 0)⟩,⟨some 2,none,.mv (.c (.bool false))⟩]) (.seq (.reg [⟨some 3,none,.load true 5 (.t 1)⟩,⟨some 4,none,.call 55 [(.t 3)]⟩,⟨some 5,none,.un .not (.t 4)⟩,⟨some 2,none,.mv (.t 5)⟩]) .ret))
theorem Gy:codeOf Tryz.prog 122=some ⟨6,D6,[(.tmp 2)]⟩:=by kernel_rfl
theorem D7:modes 122=⟨[],.asis,none,false⟩:=by unfold modes; rfl
theorem Gz:JV Tryz.prog 122=true:=by kernel_rfl
def Ds:SC:=(.seq (.reg [⟨some 1,none,.boxv 36 5 (.t 0)⟩,⟨some 2,none,.mv (.c (.bool false))⟩]) (.seq (.seq (.reg [⟨some 4,none,.faddr 0 (.t 1)⟩,⟨some 5,none,.load false 1 (.t 4)⟩,⟨some 6,none,.bin .eql false (.t 5) (.c (.int .i64 7))⟩,⟨some 7,none,.mv (.t 6)⟩,⟨(some 8),(some (7,false)),(.faddr 0 (.t 1))⟩,⟨(some 9),(some (7,false)),(.load false 1 (.t 8))⟩,⟨(some 10),(some (7,false)),(.bin .eql false (.t 9) (.c (.int .i64 4)))⟩,⟨(some 11),(some (7,false)),(.mv (.t 10))⟩,⟨(some 12),(some (11,true)),(.faddr 4 (.t 1))⟩,⟨(some 13),(some (11,true)),(.load false 1 (.t 12))⟩,⟨(some 14),(some (11,true)),(.iaddr 5 (.t 13) (.c (.int .i64 0)))⟩,⟨(some 15),(some (11,true)),(.faddr 0 (.t 14))⟩,⟨(some 16),(some (11,true)),(.load false 1 (.t 15))⟩,⟨(some 17),(some (11,true)),(.bin .neq false (.t 16) (.c (.int .i64 3)))⟩,⟨(some 18),(some (7,false)),(.pick (.t 11) (.t 17) (.c (.bool false)))⟩,⟨some 19,none,.pick (.t 7) (.c (.bool true)) (.t 18)⟩]) (.cond (.t 19) (.seq (.reg [⟨some 2,none,.mv (.c (.bool false))⟩]) .ret) .skip)) (.seq (.seq (.reg [⟨some 3,none,.mv (.c (.int .i64 0))⟩]) (.block 0 (.loop [0,1,0,1,0,0,0,0,0,0,0,0,0,0,0,0,0,0,0,0,0,0,0,0,0,0,0,0,0,0,0,0,0,0] (.seq (.seq (.reg [⟨some 20,none,.mv (.t 3)⟩,⟨some 21,none,.faddr 4 (.t 1)⟩,⟨some 22,none,.load false 1 (.t 21)⟩,⟨some 23,none,.len false (.t 22)⟩,⟨some 24,none,.bin .lss false (.t 20) (.t 23)⟩]) (.cond (.t 24) .skip (.exit 0))) (.seq (.block 1 (.seq (.reg [⟨some 27,none,.faddr 4 (.t 1)⟩,⟨some 28,none,.load false 1 (.t 27)⟩,⟨some 29,none,.mv (.t 3)⟩,⟨some 30,none,.iaddr 5 (.t 28) (.t 29)⟩,⟨some 31,none,.load true 5 (.t 30)⟩,⟨some 32,none,.call 49 [(.t 31)]⟩,⟨some 33,none,.un .not (.t 32)⟩]) (.cond (.t 33) (.seq (.reg [⟨some 2,none,.mv (.c (.bool false))⟩]) .ret) .skip))) (.reg [⟨some 25,none,.mv (.t 3)⟩,⟨some 26,none,.bin .add false (.t 25) (.c (.int .i64 1))⟩,⟨some 3,none,.mv (.t 26)⟩])))))) (.seq (.reg [⟨some 2,none,.mv (.c (.bool true))⟩]) .ret))))
theorem Ex:codeOf Tryz.prog 49=some ⟨34,Ds,[(.tmp 2)]⟩:=by kernel_rfl
theorem AJ:modes 49=⟨[],.asis,none,false⟩:=by unfold modes; rfl
theorem QbP (x:Fm) (h:E 55 [x.sv] []=some (.bool x.isN,[])):E 122 [x.sv] []=some (.bool (!x.isN),[]):=by
 have hxs:x.sv=.agg [.int .i64 x.op,.str x.atom.name,.arr (x.atom.args.map Tm.d),.str x.var,.arr (x.parts.map Fm.d)]:=rfl
 refine Ai Gy D7 (of_decide_eq_true rfl) ?_
 simp (disch:=omega) only [D6,go_sem,Ab,h,A3]
theorem Kc (x:Fm) (hx:x.forms=true) (hn:x.nodes≤1099511627776) (ih:∀ y∈x.parts,E 55 [y.sv] []=some (.bool y.isN,[])):E 55 [x.sv] []=some (.bool x.isN,[]):=by
 have hxs:x.sv=.agg [.int .i64 x.op,.str x.atom.name,.arr (x.atom.args.map Tm.d),.str x.var,.arr (x.parts.map Fm.d)]:=rfl
 have hfo:=Fm.BB hx
 have hpl:=Fm.length_le x.parts
 have hnq:=Fm.nodes_eq x
 have hie:=Fm.Qak x
 have hcf:=Gq 122 (fun y=>!y.isN) x.parts (by omega) Gz (by rw [D7]) fun y hy=>QbP y (ih y hy)
 have hna:(x.parts.any fun y=>!y.isN)=!(x.parts.all Fm.isN):=by rw [List.not_all_eq_any_not]
 rw [hna] at hcf
 by_cases h7:x.op=7
 ·have o7:dec (x.op=7)=true:=An h7
  rw [hie,o7]
  simp only [yA,z8,zD]
  refine Ai BR A3 (of_decide_eq_true rfl) ?_
  simp (disch:=omega) only [Bw,go_sem,Ab,o7,hcf,Aa]
 have o7:dec (x.op=7)=false:=Aj h7
 by_cases h4:x.op=4
 ·have o4:dec (x.op=4)=true:=An h4
  obtain ⟨p,hp⟩:=Fm.Uh hfo h4
  have hp:x.parts=[p]:=congrArg Fm.parts hp
  have hlt:0<x.parts.length:=by rw [hp]; simp
  have hg:=get_at Fm.d hlt
  have hx0:x.parts[0]=p:=by simp [hp]
  rw [hx0,Fm.d_eq] at hg
  have hh:(N7 x.parts).op=p.op:=by rw [hp]; rfl
  rw [hh,o7,o4] at hie
  by_cases hp3:p.op=3
  ·have hq3:(p.op=3)=True:=eq_true hp3
   have hd3:dec (p.op=3)=true:=An hp3
   rw [hd3] at hie
   simp only [z8,zY,yD,zW,zH] at hie
   rw [hie]
   refine Ai BR A3 (of_decide_eq_true rfl) ?_
   simp (disch:=omega) only [Bw,go_sem,Ab,o7,o4,hg,hq3,hd3,zV,hcf,Aa]
   all_goals first | done | (rw [Bool.not_not])
  ·have hq3:(p.op=3)=False:=eq_false hp3
   have hd3:dec (p.op=3)=false:=Aj hp3
   rw [hd3] at hie
   simp only [zW,yB,yO,z8,zD] at hie
   rw [hie]
   refine Ai BR A3 (of_decide_eq_true rfl) ?_
   simp (disch:=omega) only [Bw,go_sem,Ab,o7,o4,hg,hq3,hd3,zV,hcf,Aa]
 have o4:dec (x.op=4)=false:=Aj h4
 rw [o7,o4] at hie
 simp only [zD,yD,zW,zH] at hie
 rw [hie]
 refine Ai BR A3 (of_decide_eq_true rfl) ?_
 simp (disch:=omega) only [Bw,go_sem,Ab,o7,o4,hcf,Aa]
 all_goals first | done | (rw [Bool.not_not])
theorem Gs (x:Fm) (hx:x.forms=true) (hn:x.nodes≤1099511627776):E 55 [x.sv] []=some (.bool x.isN,[]) :=
 Kc x hx hn fun y hy=>Gs y (Fm.Be hx hy) (by have:=Fm.nodes_mem hy; have:=Fm.nodes_eq x; omega)
termination_by SizeOf.sizeOf x
decreasing_by exact Fm.lt_of_mem hy
theorem WF (x:Fm) (hx:x.forms=true) (hn:x.nodes≤1099511627776) (ih:∀ y∈x.parts,E 49 [y.sv] []=some (.bool y.isN,[])):E 49 [x.sv] []=some (.bool x.isN,[]):=by
  have hxs:x.sv=.agg [.int .i64 x.op,.str x.atom.name,.arr (x.atom.args.map Tm.d),.str x.var,.arr (x.parts.map Fm.d)]:=rfl
  have hfo:=Fm.BB hx
  have hpl:=Fm.length_le x.parts
  have hnq:=Fm.nodes_eq x
  have hie:=Fm.Qak x
  by_cases h7:x.op=7
  · have o7:dec (x.op=7)=true:=An h7
    rw [hie,o7]
    simp only [yA,z8,zD]
    refine Ai Ex AJ (of_decide_eq_true rfl) ?_
    simp (disch:=omega) only [Ds,go_sem,Ab,o7]
  have o7:dec (x.op=7)=false:=Aj h7
  by_cases h4:x.op=4
  · have o4:dec (x.op=4)=true:=An h4
    obtain ⟨p,hp⟩:=Fm.Uh hfo h4
    have hp:x.parts=[p]:=congrArg Fm.parts hp
    have hlt:0<x.parts.length:=by rw [hp]; simp
    have hg:=get_at Fm.d hlt
    have hx0:x.parts[0]=p:=by simp [hp]
    rw [hx0,Fm.d_eq] at hg
    have hh:(N7 x.parts).op=p.op:=by rw [hp]; rfl
    rw [hh,o7,o4] at hie
    by_cases hp3:p.op=3
    · have hq3:(p.op=3)=True:=eq_true hp3
      have hd3:dec (p.op=3)=true:=An hp3
      rw [hd3] at hie
      simp only [z8,zY,yD,zW,zH] at hie
      rw [hie]
      refine Ai Ex AJ (of_decide_eq_true rfl) ?_
      simp (disch:=omega) only [Ds,go_sem,Ab,o7,o4,hg,hq3,hd3,zV]
      refine go_loop (α:=Int) (fun a=>⟨slots 34 0 [(1,.ptr 0 0),(3,.int .i64 a)],[.box 36 [.int .i64 x.op,.str x.atom.name,.arr (x.atom.args.map Tm.d),.str x.var,.arr (x.parts.map Fm.d)]]⟩) (fun a=>∃ k:Nat,a=k∧k≤(x.parts).length∧(x.parts.drop k).all Fm.isN=x.parts.all Fm.isN) (fun a=>(x.parts).length-(a).toNat) 0 ⟨0,rfl,zI _,by rw [zF]⟩ (by simp (disch:=omega) only [go_sem,Ab]) ?_
      rintro i ⟨k,hi,hk,hR⟩
      have hni:i.toNat=k:=by omega
      have hni1:(i+1).toNat=k+1:=by omega
      rcases zB k (x.parts).length with hlt | hge
      · have hg:=get_at Fm.d hlt
        rw [Fm.d_eq] at hg
        have hc:=ih x.parts[k] (zG hlt)
        rw [zA hlt,List.all_cons] at hR
        cases hp:x.parts[k].isN with
        | true =>
          rw [hp] at hc hR
          rw [zH] at hR
          simp (disch:=omega) only [go_sem,Ab,hni,hg,hc,AJ]
          exact ⟨i+1,⟨k+1,by omega,hlt,hR⟩,by omega,by first | trivial | rfl⟩
        | false =>
          rw [hp] at hc hR
          rw [zD] at hR
          rw [←hR]
          simp (disch:=omega) only [go_sem,Ab,hni,hg,hc,AJ]
      · rw [zC hge,List.all_nil] at hR
        rw [←hR]
        simp (disch:=omega) only [go_sem,Ab,hni]
    · have hq3:(p.op=3)=False:=eq_false hp3
      have hd3:dec (p.op=3)=false:=Aj hp3
      rw [hd3] at hie
      simp only [zW,yB,yO,z8,zD] at hie
      rw [hie]
      refine Ai Ex AJ (of_decide_eq_true rfl) ?_
      simp (disch:=omega) only [Ds,go_sem,Ab,o7,o4,hg,hq3,hd3,zV]
  have o4:dec (x.op=4)=false:=Aj h4
  rw [o7,o4] at hie
  simp only [zD,yD,zW,zH] at hie
  rw [hie]
  refine Ai Ex AJ (of_decide_eq_true rfl) ?_
  simp (disch:=omega) only [Ds,go_sem,Ab,o7,o4]
  refine go_loop (α:=Int) (fun a=>⟨slots 34 0 [(1,.ptr 0 0),(3,.int .i64 a)],[.box 36 [.int .i64 x.op,.str x.atom.name,.arr (x.atom.args.map Tm.d),.str x.var,.arr (x.parts.map Fm.d)]]⟩) (fun a=>∃ k:Nat,a=k∧k≤(x.parts).length∧(x.parts.drop k).all Fm.isN=x.parts.all Fm.isN) (fun a=>(x.parts).length-(a).toNat) 0 ⟨0,rfl,zI _,by rw [zF]⟩ (by simp (disch:=omega) only [go_sem,Ab]) ?_
  rintro i ⟨k,hi,hk,hR⟩
  have hni:i.toNat=k:=by omega
  have hni1:(i+1).toNat=k+1:=by omega
  rcases zB k (x.parts).length with hlt | hge
  · have hg:=get_at Fm.d hlt
    rw [Fm.d_eq] at hg
    have hc:=ih x.parts[k] (zG hlt)
    rw [zA hlt,List.all_cons] at hR
    cases hp:x.parts[k].isN with
    | true =>
      rw [hp] at hc hR
      rw [zH] at hR
      simp (disch:=omega) only [go_sem,Ab,hni,hg,hc,AJ]
      exact ⟨i+1,⟨k+1,by omega,hlt,hR⟩,by omega,by first | trivial | rfl⟩
    | false =>
      rw [hp] at hc hR
      rw [zD] at hR
      rw [←hR]
      simp (disch:=omega) only [go_sem,Ab,hni,hg,hc,AJ]
  · rw [zC hge,List.all_nil] at hR
    rw [←hR]
    simp (disch:=omega) only [go_sem,Ab,hni]
theorem R7 (x:Fm) (hx:x.forms=true) (hn:x.nodes≤1099511627776):E 49 [x.sv] []=some (.bool x.isN,[]) :=
 WF x hx hn fun y hy=>R7 y (Fm.Be hx hy) (by have:=Fm.nodes_mem hy; have:=Fm.nodes_eq x; omega)
termination_by SizeOf.sizeOf x
decreasing_by exact Fm.lt_of_mem hy
mutual
noncomputable def Fm.ats:Fm→List Tm
 | .mk op atom _ parts=>bif dec (op=3) then [atom] else Fm.Na parts
noncomputable def Fm.Na:List Fm→List Tm
 | []=>[]
 | x :: xs=>Fm.ats x++Fm.Na xs
end
theorem Fm.WG (x:Fm):x.ats=bif dec (x.op=3) then [x.atom] else Fm.Na x.parts:=by
 obtain ⟨op,atom,var,parts⟩:=x
 rw [Fm.ats]; rfl
mutual
noncomputable def Tm.sy1:Tm→List ByteArray
 | .mk n args=>(bif Dd n then [n] else [])++Tm.F0 args
noncomputable def Tm.F0:List Tm→List ByteArray
 | []=>[]
 | x :: xs=>Tm.sy1 x++Tm.F0 xs
end
theorem Tm.SI (x:Tm):x.sy1=(bif Dd x.name then [x.name] else [])++Tm.F0 x.args:=by
 obtain ⟨n,args⟩:=x
 rw [Tm.sy1]; rfl
mutual
noncomputable def Tm.sy2:Tm→List ByteArray
 | .mk n args=>(bif !AO n&&!dec (n=⟨#[]⟩) then [n] else [])++Tm.sy2L args
noncomputable def Tm.sy2L:List Tm→List ByteArray
 | []=>[]
 | x :: xs=>Tm.sy2 x++Tm.sy2L xs
end
theorem Tm.sy2_eq (x:Tm):x.sy2=(bif !AO x.name&&!dec (x.name=⟨#[]⟩) then [x.name] else [])++Tm.sy2L x.args:=by
 obtain ⟨n,args⟩:=x
 rw [Tm.sy2]; rfl
noncomputable def syA (l:List Tm):List ByteArray:=l.flatMap Tm.sy1
mutual
noncomputable def Fm.sy2:Fm→List ByteArray
 | .mk _ atom _ parts=>atom.sy2++Fm.sy2L parts
noncomputable def Fm.sy2L:List Fm→List ByteArray
 | []=>[]
 | x :: xs=>Fm.sy2 x++Fm.sy2L xs
end
theorem Fm.sy2_eq (x:Fm):x.sy2=x.atom.sy2++Fm.sy2L x.parts:=by
 obtain ⟨op,atom,var,parts⟩:=x
 rw [Fm.sy2]; rfl
theorem Tm.JS (x:Tm):x.sy1.length≤x.nodes:=by
 have key:∀ xs:List Tm,(∀ y∈xs,y.sy1.length≤y.nodes)→(Tm.F0 xs).length≤Tm.nodeS xs:=by
  intro xs
  induction xs with
  | nil=>intro _; simp [Tm.F0]
  | cons y ys ih =>
   intro h
   have h1:=h y (by simp)
   have h2:=ih fun z hz=>h z (by simp [hz])
   rw [Tm.F0,Tm.nodeS,zE]; omega
 have h:=key x.args fun y hy=>Tm.JS y
 rw [Tm.SI,Tm.nodes_eq,zE]
 cases Dd x.name with
 | true=>simp only [cond_true,z6]; omega
 | false=>simp only [cond_false,zR]; omega
termination_by SizeOf.sizeOf x
decreasing_by exact Tm.lt_of_mem hy
theorem Tm.sy2_len (x:Tm):x.sy2.length≤x.nodes:=by
 have key:∀ xs:List Tm,(∀ y∈xs,y.sy2.length≤y.nodes)→(Tm.sy2L xs).length≤Tm.nodeS xs:=by
  intro xs
  induction xs with
  | nil=>intro _; simp [Tm.sy2L]
  | cons y ys ih =>
   intro h
   have h1:=h y (by simp)
   have h2:=ih fun z hz=>h z (by simp [hz])
   rw [Tm.sy2L,Tm.nodeS,zE]; omega
 have h:=key x.args fun y hy=>Tm.sy2_len y
 rw [Tm.sy2_eq,Tm.nodes_eq,zE]
 cases !AO x.name&&!dec (x.name=⟨#[]⟩) with
 | true=>simp only [cond_true,z6]; omega
 | false=>simp only [cond_false,zR]; omega
termination_by SizeOf.sizeOf x
decreasing_by exact Tm.lt_of_mem hy
theorem Fm.sy2_len (x:Fm):x.sy2.length≤x.vn:=by
 have key:∀ xs:List Fm,(∀ y∈xs,y.sy2.length≤y.vn)→(Fm.sy2L xs).length≤Fm.vnS xs:=by
  intro xs
  induction xs with
  | nil=>intro _; simp [Fm.sy2L]
  | cons y ys ih =>
   intro h
   have h1:=h y (by simp)
   have h2:=ih fun z hz=>h z (by simp [hz])
   rw [Fm.sy2L,Fm.vnS,zE]; omega
 have h:=key x.parts fun y hy=>Fm.sy2_len y
 have h2:=Tm.sy2_len x.atom
 rw [Fm.sy2_eq,Fm.Kr,zE]; omega
termination_by SizeOf.sizeOf x
decreasing_by exact Fm.lt_of_mem hy
theorem Fm.UI {m:ByteArray}:∀ {xs:List Fm},m∈Fm.sy2L xs ↔ ∃ y∈xs,m∈y.sy2
 | []=>by simp [Fm.sy2L]
 | x :: xs=>by rw [Fm.sy2L,yP,Fm.UI]; simp
theorem Fm.UJ {m:Tm}:∀ {xs:List Fm},m∈Fm.Na xs ↔ ∃ y∈xs,m∈y.ats
 | []=>by simp [Fm.Na]
 | x :: xs=>by rw [Fm.Na,yP,Fm.UJ]; simp
theorem Fm.Qal {y:Fm}:∀ {xs:List Fm},y∈xs→y.vn≤Fm.vnS xs
 | x :: xs,h=>by
  rw [Fm.vnS]
  rcases yI.1 h with rfl | h
  ·omega
  ·have:=Fm.Qal h; omega
theorem Fm.JT (x:Fm):Tm.nodeS x.ats≤x.vn:=by
 have app:∀ a b:List Tm,Tm.nodeS (a++b)=Tm.nodeS a+Tm.nodeS b:=by
  intro a b
  induction a with
  | nil=>simp [Tm.nodeS]
  | cons y ys ih=>rw [List.cons_append,Tm.nodeS,Tm.nodeS,ih]; omega
 have key:∀ xs:List Fm,(∀ y∈xs,Tm.nodeS y.ats≤y.vn)→Tm.nodeS (Fm.Na xs)≤Fm.vnS xs:=by
  intro xs
  induction xs with
  | nil=>intro _; simp [Fm.Na,Tm.nodeS]
  | cons y ys ih =>
   intro h
   have h1:=h y (by simp)
   have h2:=ih fun z hz=>h z (by simp [hz])
   rw [Fm.Na,Fm.vnS,app]; omega
 have h:=key x.parts fun y hy=>Fm.JT y
 rw [Fm.WG,Fm.Kr]
 cases dec (x.op=3) with
 | true=>simp only [cond_true,Tm.nodeS]; omega
 | false=>simp only [cond_false]; omega
termination_by SizeOf.sizeOf x
decreasing_by exact Fm.lt_of_mem hy
theorem XI {s:ByteArray} (h:Dd s=true):s≠⟨#[]⟩:=fun e=>by
 rw [e] at h
 have:Dd ⟨#[]⟩=false:=by decide +kernel
 rw [this] at h; cases h
theorem WH {x:Tm} (h:x.names=true) (hv:AO x.name=false):Dd x.name=true:=by
 rw [Tm.HD,hv] at h
 simp only [Bool.false_eq_true,if_false] at h
 rw [yH,yH] at h
 exact h.1.1
theorem Tm.sy12 (x:Tm) (h:x.names=true):x.sy2=x.sy1:=by
 have ih:∀ xs:List Tm,(∀ y∈xs,y.sy2=y.sy1)→Tm.sy2L xs=Tm.F0 xs:=by
  intro xs
  induction xs with
  | nil=>intro _; rw [Tm.sy2L,Tm.F0]
  | cons y ys ihy=>intro hh; rw [Tm.sy2L,Tm.F0,hh y (by simp),ihy fun z hz=>hh z (by simp [hz])]
 rw [Tm.sy2_eq,Tm.SI,ih x.args fun y hy=>Tm.sy12 y (Tm.EI h hy)]
 cases hv:AO x.name with
 | true=>rw [R1 hv]; rfl
 | false =>
  have hs:=WH h hv
  rw [hs,Aj (XI hs)]; rfl
termination_by SizeOf.sizeOf x
decreasing_by exact Tm.lt_of_mem hy
theorem Tm.Qcr {x:Tm} (h:x.atom=true) {m:ByteArray} (hm:m≠⟨#[61]⟩):m∈x.sy2 ↔ m∈x.sy1:=by
 have ih:∀ xs:List Tm,(∀ y∈xs,y.sy2=y.sy1)→Tm.sy2L xs=Tm.F0 xs:=by
  intro xs
  induction xs with
  | nil=>intro _; rw [Tm.sy2L,Tm.F0]
  | cons y ys ihy=>intro hh; rw [Tm.sy2L,Tm.F0,hh y (by simp),ihy fun z hz=>hh z (by simp [hz])]
 rw [Tm.sy2_eq,Tm.SI,ih x.args fun y hy=>Tm.sy12 y (Tm.Uf (Tm.MH h) hy),U5 h]
 unfold Tm.atom at h
 split at h
 ·rename_i hq
  have hq:x.name=⟨#[61]⟩:=Ao.1 hq
  have hsy:Dd x.name=false:=by rw [hq]; decide +kernel
  rw [hsy,Aj (by rw [hq]; decide)]
  simp only [zW,yQ,cond_true,cond_false,zQ,List.cons_append,yI,hq]
  exact ⟨fun h=>h.elim (fun e=>absurd e hm) id,.inr⟩
 ·rw [yH] at h
  rw [h.1,Aj (XI h.1)]; rfl
theorem Tm.Qam:Tm.zero.sy2=[]:=by
 rw [Tm.sy2_eq]
 show (bif !AO ⟨#[]⟩&&!dec ((⟨#[]⟩:ByteArray)=⟨#[]⟩) then [⟨#[]⟩] else [])++Tm.sy2L []=[]
 rw [An rfl,Tm.sy2L]; simp
theorem Fm.sy12 (x:Fm) (h:x.forms=true) {m:ByteArray} (hm:m≠⟨#[61]⟩):m∈x.sy2 ↔ m∈syA x.ats:=by
 have ih:∀ y∈x.parts,(m∈y.sy2 ↔ m∈syA y.ats):=fun y hy=>Fm.sy12 y (Fm.Be h hy) hm
 have hfo:=Fm.BB h
 rw [Fm.sy2_eq,Fm.WG,yP]
 by_cases h3:x.op=3
 ·have ha:=Fm.EJ hfo h3
  rw [An h3,cond_true,ha.1,Fm.sy2L]
  unfold syA
  simp only [List.flatMap_cons,List.flatMap_nil,zM,List.not_mem_nil,or_false]
  exact Tm.Qcr ha.2.1 hm
 ·have hz:x.atom=Tm.zero:=Fm.Gc hfo h3
  rw [Aj h3,cond_false,hz,Tm.Qam]
  simp only [List.not_mem_nil,false_or]
  rw [Fm.UI]
  unfold syA
  simp only [yN,Fm.UJ]
  constructor
  ·rintro ⟨y,hy,hm2⟩
   have:=(ih y hy).1 hm2
   unfold syA at this
   obtain ⟨t,ht,hmt⟩:=yN.1 this
   exact ⟨t,⟨y,hy,ht⟩,hmt⟩
  ·rintro ⟨t,⟨y,hy,ht⟩,hmt⟩
   exact ⟨y,hy,(ih y hy).2 (by unfold syA; exact yN.2 ⟨t,ht,hmt⟩)⟩
termination_by SizeOf.sizeOf x
decreasing_by exact Fm.lt_of_mem hy
def D1:SC:=(.seq (.reg [⟨some 3,none,.boxv 33 2 (.t 1)⟩,⟨some 4,none,.mv (.c .nil)⟩]) (.seq (.seq (.reg [⟨some 7,none,.faddr 0 (.t 3)⟩,⟨some 8,none,.load false 1 (.t 7)⟩,⟨some 9,none,.call 184 [(.t 8)]⟩,⟨some 10,none,.mv (.t 9)⟩,⟨(some 11),(some (10,true)),(.mv (.t 0))⟩,⟨(some 12),(some (10,true)),(.faddr 0 (.t 3))⟩,⟨(some 13),(some (10,true)),(.load false 1 (.t 12))⟩,⟨(some 14),(some (10,true)),(.call 185 [(.t 11),(.t 13)])⟩,⟨(some 15),(some (10,true)),(.un .not (.t 14))⟩,⟨some 16,none,.pick (.t 10) (.t 15) (.c (.bool false))⟩]) (.cond (.t 16) (.reg [⟨some 17,none,.mv (.t 0)⟩,⟨some 18,none,.faddr 0 (.t 3)⟩,⟨some 19,none,.load false 1 (.t 18)⟩,⟨(some 20),none,(.mkrow 9 1 [(.str ⟨#[]⟩)] 1 [(0,(.t 19))])⟩,⟨(some 21),none,(.append 9 1 16 [(.str ⟨#[]⟩)] (.t 17) (.t 20))⟩,⟨some 0,none,.mv (.t 21)⟩]) .skip)) (.seq (.seq (.reg [⟨some 22,none,.faddr 1 (.t 3)⟩,⟨some 23,none,.load false 1 (.t 22)⟩,⟨some 24,none,.len false (.t 23)⟩,⟨some 25,none,.mv (.c (.int .i64 0))⟩]) (.block 0 (.loop [1,0,0,0,0,0,0,0,0,0,0,0,0,0,0,0,0,0,0,0,0,0,0,1,1,1,0,0,0,0,0,0,0,0] (.seq (.reg [⟨some 26,none,.bin .lss false (.t 25) (.t 24)⟩]) (.seq (.cond (.t 26) .skip (.exit 0)) (.seq (.block 1 (.seq (.reg [⟨some 27,none,.iaddr 2 (.t 23) (.t 25)⟩,⟨some 28,none,.load true 2 (.t 27)⟩,⟨(some 6),none,(.alloc 33 [(.str ⟨#[]⟩),.nil])⟩,⟨none,none,(.store 2 (.t 6) (.t 28))⟩]) (.reg [⟨some 29,none,.mv (.t 0)⟩,⟨some 30,none,.load true 2 (.t 6)⟩,⟨some 31,none,.call 124 [(.t 29),(.t 30)]⟩,⟨some 0,none,.mv (.t 31)⟩]))) (.reg [⟨some 32,none,.bin .add false (.t 25) (.c (.int .i64 1))⟩,⟨some 25,none,.mv (.t 32)⟩]))))))) (.seq (.reg [⟨some 33,none,.mv (.t 0)⟩,⟨some 4,none,.mv (.t 33)⟩]) .ret))))
theorem EU:codeOf Tryz.prog 124=some ⟨34,D1,[(.tmp 4)]⟩:=by kernel_rfl
theorem BD:modes 124=⟨[true],.own [some (9,1)],none,false⟩:=by unfold modes; rfl
abbrev SyC (x:Tm):Prop:=∀ l:List ByteArray,l.length+x.nodes≤4194304→E 124 [.ref 0,x.sv] [.row 9 1 (l.map fun s=>[OT.str s])]=some ((bif dec (l.length<(AZ l x.sy1).length) then .ref 1 else .ref 0),(bif dec (l.length<(AZ l x.sy1).length) then [.gone,.row 9 1 ((AZ l x.sy1).map fun s=>[OT.str s])] else [.row 9 1 ((AZ l x.sy1).map fun s=>[OT.str s])]))
theorem Y6 (x:Tm) (ih:∀ y∈x.args,SyC y):SyC x:=by
  intro l hn
  have hxs:x.sv=.agg [.str x.name,.arr (x.args.map Tm.d)]:=rfl
  have hl:=Tm.length_le x.args
  have hne:=Tm.nodes_eq x
  have hvs:=Tm.SI x
  cases hsb:Dd x.name with
  | false =>
    rw [hsb] at hvs
    simp only [cond_false,zQ] at hvs
    rw [hvs]
    have hgl:dec (l.length < l.length)=false:=Aj (by omega)
    have hl1:True:=trivial
    refine Ai EU BD (of_decide_eq_true rfl) ?_
    simp (disch:=omega) only [D1,go_sem,Ab,hsb,AG,FW]
    refine go_loop (α:=Int × (List ByteArray)) (fun a=>⟨slots 34 0 [(0,(bif dec (l.length < (a.2).length) then .ref 1 else .ref 0)),(23,.arr (x.args.map Tm.d)),(24,.int .i64 x.args.length),(25,.int .i64 (a.1))],(bif dec (l.length < (a.2).length) then [.gone,.row 9 1 ((a.2).map fun s=>[OT.str s])] else [.row 9 1 ((a.2).map fun s=>[OT.str s])])⟩) (fun a=>∃ k:Nat,a.1=k∧k≤(x.args).length∧AZ (a.2) (Tm.F0 (x.args.drop k))=AZ l (Tm.F0 x.args)∧(a.2).length+Tm.nodeS (x.args.drop k)≤4194304∧l.length≤(a.2).length) (fun a=>(x.args).length - (a.1).toNat) (0,l) ⟨0,rfl,zI _,by rw [zF],by rw [zF]; dsimp only; omega,by simp⟩ (by simp (disch:=omega) only [go_sem,Ab,hgl,hl1]) ?_
    rintro ⟨i,acc⟩ ⟨k,hi,hk,hR⟩
    dsimp only at hi hR
    have hni:i.toNat=k:=by omega
    have hni1:(i+1).toNat=k+1:=by omega
    rcases zB k (x.args).length with hlt | hge
    · have hg:=get_at Tm.d hlt
      rw [Tm.d_eq] at hg
      obtain ⟨hR1,hR2,hR3⟩:=hR
      rw [zA hlt,Tm.F0,Gh] at hR1
      rw [zA hlt,Tm.nodeS] at hR2
      have hc:=ih x.args[k] (zG hlt) acc (by omega)
      have hlen:=Dp x.args[k].sy1 acc
      have hgr:=Ee x.args[k].sy1 acc
      have hvl:=Tm.JS x.args[k]
      obtain ⟨acc2,ha2⟩:∃ a,a=AZ acc x.args[k].sy1:=⟨_,rfl⟩
      rw [←ha2] at hc hlen hgr hR1
      rcases zB l.length acc.length with q1 | q1 <;> rcases zB acc.length acc2.length with q2 | q2
      all_goals
        first
          | rw [An q2] at hc
          | rw [Aj (zK.2 q2)] at hc
        simp only [cond_true,cond_false] at hc
        first
          | have d1:=An q1
          | have d1:=Aj (zK.2 q1)
        first
          | have d2:dec (l.length < acc2.length)=true:=An (by omega)
          | have d2:dec (l.length < acc2.length)=false:=Aj (by omega)
        simp (disch:=omega) only [go_sem,Ab,hni,hg,hc,d1,BD]
        refine ⟨(i+1,acc2),⟨k+1,by dsimp only; omega,hlt,hR1,by dsimp only; omega,by dsimp only; omega⟩,by dsimp only; omega,?_⟩
        first | done | simp (disch:=omega) only [go_sem,Ab,d2]
    · rw [zC hge,Tm.F0] at hR
      obtain ⟨hR1,hR2,hR3⟩:=hR
      have hR1:acc=_:=hR1
      rw [←hR1]
      rcases zB l.length acc.length with q1 | q1
      · have d1:=An q1
        simp (disch:=omega) only [go_sem,Ab,hni,d1]
      · have d1:=Aj (zK.2 q1)
        simp (disch:=omega) only [go_sem,Ab,hni,d1]
  | true =>
    rw [hsb] at hvs
    simp only [cond_true] at hvs
    have h1:=Fo l x.name (by omega)
    have e:AZ l x.sy1=AZ (FD l x.name) (Tm.F0 x.args):=by rw [hvs]; rfl
    rw [e]
    cases hm:dec (x.name∈l) with
    | true =>
      have e2:FD l x.name=l:=by unfold FD; rw [hm]; rfl
      rw [hm] at h1
      rw [e2]
      have hgl:dec (l.length < l.length)=false:=Aj (by omega)
      have hl1:True:=trivial
      refine Ai EU BD (of_decide_eq_true rfl) ?_
      simp (disch:=omega) only [D1,go_sem,Ab,hsb,h1,AG,FW,As]
      refine go_loop (α:=Int × (List ByteArray)) (fun a=>⟨slots 34 0 [(0,(bif dec (l.length < (a.2).length) then .ref 1 else .ref 0)),(23,.arr (x.args.map Tm.d)),(24,.int .i64 x.args.length),(25,.int .i64 (a.1))],(bif dec (l.length < (a.2).length) then [.gone,.row 9 1 ((a.2).map fun s=>[OT.str s])] else [.row 9 1 ((a.2).map fun s=>[OT.str s])])⟩) (fun a=>∃ k:Nat,a.1=k∧k≤(x.args).length∧AZ (a.2) (Tm.F0 (x.args.drop k))=AZ l (Tm.F0 x.args)∧(a.2).length+Tm.nodeS (x.args.drop k)≤4194304∧l.length≤(a.2).length) (fun a=>(x.args).length - (a.1).toNat) (0,l) ⟨0,rfl,zI _,by rw [zF],by rw [zF]; dsimp only; omega,by simp⟩ (by simp (disch:=omega) only [go_sem,Ab,hgl,hl1]) ?_
      rintro ⟨i,acc⟩ ⟨k,hi,hk,hR⟩
      dsimp only at hi hR
      have hni:i.toNat=k:=by omega
      have hni1:(i+1).toNat=k+1:=by omega
      rcases zB k (x.args).length with hlt | hge
      · have hg:=get_at Tm.d hlt
        rw [Tm.d_eq] at hg
        obtain ⟨hR1,hR2,hR3⟩:=hR
        rw [zA hlt,Tm.F0,Gh] at hR1
        rw [zA hlt,Tm.nodeS] at hR2
        have hc:=ih x.args[k] (zG hlt) acc (by omega)
        have hlen:=Dp x.args[k].sy1 acc
        have hgr:=Ee x.args[k].sy1 acc
        have hvl:=Tm.JS x.args[k]
        obtain ⟨acc2,ha2⟩:∃ a,a=AZ acc x.args[k].sy1:=⟨_,rfl⟩
        rw [←ha2] at hc hlen hgr hR1
        rcases zB l.length acc.length with q1 | q1 <;> rcases zB acc.length acc2.length with q2 | q2
        all_goals
          first
            | rw [An q2] at hc
            | rw [Aj (zK.2 q2)] at hc
          simp only [cond_true,cond_false] at hc
          first
            | have d1:=An q1
            | have d1:=Aj (zK.2 q1)
          first
            | have d2:dec (l.length < acc2.length)=true:=An (by omega)
            | have d2:dec (l.length < acc2.length)=false:=Aj (by omega)
          simp (disch:=omega) only [go_sem,Ab,hni,hg,hc,d1,BD]
          refine ⟨(i+1,acc2),⟨k+1,by dsimp only; omega,hlt,hR1,by dsimp only; omega,by dsimp only; omega⟩,by dsimp only; omega,?_⟩
          first | done | simp (disch:=omega) only [go_sem,Ab,d2]
      · rw [zC hge,Tm.F0] at hR
        obtain ⟨hR1,hR2,hR3⟩:=hR
        have hR1:acc=_:=hR1
        rw [←hR1]
        rcases zB l.length acc.length with q1 | q1
        · have d1:=An q1
          simp (disch:=omega) only [go_sem,Ab,hni,d1]
        · have d1:=Aj (zK.2 q1)
          simp (disch:=omega) only [go_sem,Ab,hni,d1]
    | false =>
      have e2:FD l x.name=l++[x.name]:=by unfold FD; rw [hm]; rfl
      have hl1:(l.map fun s=>[OT.str s])++[[OT.str x.name]]=(l++[x.name]).map fun s=>[OT.str s]:=by simp
      rw [hm] at h1
      rw [e2]
      have hgl:dec (l.length < (l++[x.name]).length)=true:=An (by simp)
      have hll:(l++[x.name]).length=l.length+1:=by simp
      refine Ai EU BD (of_decide_eq_true rfl) ?_
      simp (disch:=omega) only [D1,go_sem,Ab,hsb,h1,hl1,AG,FW,As]
      refine go_loop (α:=Int × (List ByteArray)) (fun a=>⟨slots 34 0 [(0,(bif dec (l.length < (a.2).length) then .ref 1 else .ref 0)),(23,.arr (x.args.map Tm.d)),(24,.int .i64 x.args.length),(25,.int .i64 (a.1))],(bif dec (l.length < (a.2).length) then [.gone,.row 9 1 ((a.2).map fun s=>[OT.str s])] else [.row 9 1 ((a.2).map fun s=>[OT.str s])])⟩) (fun a=>∃ k:Nat,a.1=k∧k≤(x.args).length∧AZ (a.2) (Tm.F0 (x.args.drop k))=AZ (l++[x.name]) (Tm.F0 x.args)∧(a.2).length+Tm.nodeS (x.args.drop k)≤4194304∧l.length≤(a.2).length) (fun a=>(x.args).length - (a.1).toNat) (0,(l++[x.name])) ⟨0,rfl,zI _,by rw [zF],by rw [zF]; dsimp only; omega,by simp⟩ (by simp (disch:=omega) only [go_sem,Ab,hgl,hl1]) ?_
      rintro ⟨i,acc⟩ ⟨k,hi,hk,hR⟩
      dsimp only at hi hR
      have hni:i.toNat=k:=by omega
      have hni1:(i+1).toNat=k+1:=by omega
      rcases zB k (x.args).length with hlt | hge
      · have hg:=get_at Tm.d hlt
        rw [Tm.d_eq] at hg
        obtain ⟨hR1,hR2,hR3⟩:=hR
        rw [zA hlt,Tm.F0,Gh] at hR1
        rw [zA hlt,Tm.nodeS] at hR2
        have hc:=ih x.args[k] (zG hlt) acc (by omega)
        have hlen:=Dp x.args[k].sy1 acc
        have hgr:=Ee x.args[k].sy1 acc
        have hvl:=Tm.JS x.args[k]
        obtain ⟨acc2,ha2⟩:∃ a,a=AZ acc x.args[k].sy1:=⟨_,rfl⟩
        rw [←ha2] at hc hlen hgr hR1
        rcases zB l.length acc.length with q1 | q1 <;> rcases zB acc.length acc2.length with q2 | q2
        all_goals
          first
            | rw [An q2] at hc
            | rw [Aj (zK.2 q2)] at hc
          simp only [cond_true,cond_false] at hc
          first
            | have d1:=An q1
            | have d1:=Aj (zK.2 q1)
          first
            | have d2:dec (l.length < acc2.length)=true:=An (by omega)
            | have d2:dec (l.length < acc2.length)=false:=Aj (by omega)
          simp (disch:=omega) only [go_sem,Ab,hni,hg,hc,d1,BD]
          refine ⟨(i+1,acc2),⟨k+1,by dsimp only; omega,hlt,hR1,by dsimp only; omega,by dsimp only; omega⟩,by dsimp only; omega,?_⟩
          first | done | simp (disch:=omega) only [go_sem,Ab,d2]
      · rw [zC hge,Tm.F0] at hR
        obtain ⟨hR1,hR2,hR3⟩:=hR
        have hR1:acc=_:=hR1
        rw [←hR1]
        rcases zB l.length acc.length with q1 | q1
        · have d1:=An q1
          simp (disch:=omega) only [go_sem,Ab,hni,d1]
        · have d1:=Aj (zK.2 q1)
          simp (disch:=omega) only [go_sem,Ab,hni,d1]
theorem UK (x:Tm):SyC x:=Y6 x fun y hy=>UK y
termination_by SizeOf.sizeOf x
decreasing_by exact Tm.lt_of_mem hy
def Gt:SC:=(.seq (.reg [⟨some 1,none,.boxv 36 5 (.t 0)⟩,⟨some 2,none,.mv (.c .nil)⟩]) (.seq (.seq (.reg [⟨some 6,none,.faddr 0 (.t 1)⟩,⟨some 7,none,.load false 1 (.t 6)⟩,⟨some 8,none,.bin .eql false (.t 7) (.c (.int .i64 3))⟩]) (.cond (.t 8) (.seq (.reg [⟨some 9,none,.faddr 1 (.t 1)⟩,⟨some 10,none,.load true 2 (.t 9)⟩,⟨(some 11),none,(.mkrow 33 2 [(.str ⟨#[]⟩),.nil] 1 [(0,(.t 10))])⟩,⟨some 2,none,.mv (.t 11)⟩]) .ret) .skip)) (.seq (.reg [⟨(some 12),none,(.mkrow 33 2 [(.str ⟨#[]⟩),.nil] 0 [])⟩,⟨some 3,none,.mv (.t 12)⟩]) (.seq (.seq (.reg [⟨some 13,none,.faddr 4 (.t 1)⟩,⟨some 14,none,.load false 1 (.t 13)⟩,⟨some 15,none,.len false (.t 14)⟩,⟨some 16,none,.mv (.c (.int .i64 0))⟩]) (.block 0 (.loop [0,0,0,1,0,0,0,0,0,0,0,0,0,0,1,1,1,0,0,0,0,0,0,0,0,0] (.seq (.reg [⟨some 17,none,.bin .lss false (.t 16) (.t 15)⟩]) (.seq (.cond (.t 17) .skip (.exit 0)) (.seq (.block 1 (.seq (.reg [⟨some 18,none,.iaddr 5 (.t 14) (.t 16)⟩,⟨some 19,none,.load true 5 (.t 18)⟩,⟨(some 5),none,(.alloc 36 [(.int .i64 0),(.str ⟨#[]⟩),.nil,(.str ⟨#[]⟩),.nil])⟩,⟨none,none,(.store 5 (.t 5) (.t 19))⟩]) (.reg [⟨some 20,none,.mv (.t 3)⟩,⟨some 21,none,.load true 5 (.t 5)⟩,⟨some 22,none,.call 123 [(.t 21)]⟩,⟨(some 23),none,(.append 33 2 40 [(.str ⟨#[]⟩),.nil] (.t 20) (.t 22))⟩,⟨some 3,none,.mv (.t 23)⟩]))) (.reg [⟨some 24,none,.bin .add false (.t 16) (.c (.int .i64 1))⟩,⟨some 16,none,.mv (.t 24)⟩]))))))) (.seq (.reg [⟨some 25,none,.mv (.t 3)⟩,⟨some 2,none,.mv (.t 25)⟩]) .ret)))))
theorem J3:codeOf Tryz.prog 123=some ⟨26,Gt,[(.tmp 2)]⟩:=by kernel_rfl
theorem Ey:modes 123=⟨[],.frz,none,false⟩:=by unfold modes; rfl
theorem Tm.Qcs (l:List Tm):OT.erss (l.map (fun t:Tm=>t.d.map D.ot))=l.map Tm.d:=by
 induction l with
 | nil=>rfl
 | cons t l ih=>rw [zS,OT.erss,ih,zS,Tm.d_eq]; rfl
theorem Tm.Qct (l:List Tm):OT.AA (l.map (fun t:Tm=>t.d.map D.ot))=true:=by
 induction l with
 | nil=>rfl
 | cons t l ih=>rw [zS,OT.AA,ih,Tm.d_eq]; rfl
theorem Tm.Qcu (l:List Tm):((l.map Tm.d).all fun x=>x.length == 2)=true:=by
 rw [List.all_map,List.all_eq_true]
 intro x _
 show ((x.d).length == 2)=true
 rw [Tm.d_eq]; rfl
theorem Tm.QbQ (l:List Tm):((l.map (fun t:Tm=>t.d.map D.ot)).all fun x=>x.length == 2)=true:=by
 rw [List.all_map,List.all_eq_true]
 intro x _
 show ((x.d.map D.ot).length == 2)=true
 rw [Tm.d_eq]; rfl
abbrev AtC (x:Fm):Prop:=E 123 [x.sv] []=some (.arr (x.ats.map Tm.d),[])
theorem WI (x:Fm) (hn:x.vn≤4194304) (hln:Fm.nodeS x.parts≤4194304) (ih:∀ y∈x.parts,AtC y):AtC x:=by
  unfold AtC
  have hxs:x.sv=.agg [.int .i64 x.op,.str x.atom.name,.arr (x.atom.args.map Tm.d),.str x.var,.arr (x.parts.map Fm.d)]:=rfl
  have has:x.atom.sv=.agg [.str x.atom.name,.arr (x.atom.args.map Tm.d)]:=rfl
  have hpl:=Fm.length_le x.parts
  have hne:=Fm.Kr x
  have hae:=Fm.WG x
  cases ho:dec (x.op=3) with
  | true =>
    rw [ho,cond_true] at hae
    rw [hae]
    have h1:[x.atom].map Tm.d=[[D.str x.atom.name,D.arr (x.atom.args.map Tm.d)]]:=by rw [zS,zP,Tm.d_eq]
    rw [h1]
    refine Ai J3 Ey (of_decide_eq_true rfl) ?_
    simp (disch:=omega) only [Gt,go_sem,Ab,ho]
  | false =>
    rw [ho,cond_false] at hae
    rw [hae]
    have hz0:([]:List Tm).map (fun t:Tm=>t.d.map D.ot)=[]:=rfl
    refine Ai J3 Ey (of_decide_eq_true rfl) ?_
    simp (disch:=omega) only [Gt,go_sem,Ab,ho]
    refine go_loop (α:=Int × (List Tm)) (fun a=>⟨slots 26 0 [(3,.ref 0),(14,.arr (x.parts.map Fm.d)),(15,.int .i64 x.parts.length),(16,.int .i64 (a.1))],[.row 33 2 ((a.2).map (fun t:Tm=>t.d.map D.ot))]⟩) (fun a=>∃ k:Nat,a.1=k∧k≤(x.parts).length∧(a.2)++Fm.Na (x.parts.drop k)=Fm.Na x.parts) (fun a=>(x.parts).length-(a.1).toNat) (0,[]) ⟨0,rfl,zI _,by rw [zF]; rfl⟩ (by simp (disch:=omega) only [go_sem,Ab,hz0]) ?_
    rintro ⟨i,acc⟩ ⟨k,hi,hk,hR⟩
    dsimp only at hi hR
    have hni:i.toNat=k:=by omega
    have hni1:(i+1).toNat=k+1:=by omega
    rcases zB k (x.parts).length with hlt | hge
    · have hg:=get_at Fm.d hlt
      rw [Fm.d_eq] at hg
      rw [zA hlt,Fm.Na,← zL] at hR
      have hc:=ih x.parts[k] (zG hlt)
      unfold AtC at hc
      have hps:x.parts[k].sv=.agg [.int .i64 x.parts[k].op,.str x.parts[k].atom.name,.arr (x.parts[k].atom.args.map Tm.d),.str x.parts[k].var,.arr (x.parts[k].parts.map Fm.d)]:=rfl
      rw [hps] at hc
      have hbf:(x.parts[k].ats.map Tm.d).map (fun x=>x.map D.ot)=x.parts[k].ats.map (fun t:Tm=>t.d.map D.ot):=by rw [zT]; rfl
      have hap:acc.map (fun t:Tm=>t.d.map D.ot)++x.parts[k].ats.map (fun t:Tm=>t.d.map D.ot)=(acc++x.parts[k].ats).map (fun t:Tm=>t.d.map D.ot):=by rw [zO]
      have hal:=Tm.Qcu x.parts[k].ats
      have hal2:=Tm.QbQ x.parts[k].ats
      have hat:x.ats.length≤4194304:=by
        have:=Fm.JT x
        have h2:x.ats.length≤Tm.nodeS x.ats:=Tm.length_le x.ats
        omega
      rw [hae] at hat
      have hlen:=congrArg yF hR
      rw [zE,zE] at hlen
      simp (disch:=omega) only [go_sem,Ab,hni,hg,hc,hbf,hap,hal,hal2,Ey]
      refine ⟨(i+1,acc++x.parts[k].ats),⟨k+1,by dsimp only; omega,hlt,hR⟩,by dsimp only; omega,?_⟩
      first | trivial | rfl | simp (disch:=omega) only [go_sem,Ab]
    · rw [zC hge,Fm.Na,zM] at hR
      have hR:acc=_:=hR
      rw [←hR]
      have her:=Tm.Qcs acc
      have hfu:=Tm.Qct acc
      simp (disch:=omega) only [go_sem,Ab,hni,her,hfu]
theorem R8 (x:Fm) (hn:x.vn≤4194304) (hnn:x.nodes≤4194304):AtC x :=
 WI x hn (by have:=Fm.nodes_eq x; omega) fun y hy=>R8 y (by have h1:=Fm.Kr x; have h2:=Fm.Qal hy; omega) (by have:=Fm.nodes_mem hy; have:=Fm.nodes_eq x; omega)
termination_by SizeOf.sizeOf x
decreasing_by exact Fm.lt_of_mem hy
def HX:SC:=(.seq (.reg [⟨some 3,none,.boxv 36 5 (.t 1)⟩,⟨some 4,none,.mv (.c .nil)⟩]) (.seq (.seq (.reg [⟨some 7,none,.load true 5 (.t 3)⟩,⟨some 8,none,.call 123 [(.t 7)]⟩,⟨some 9,none,.len false (.t 8)⟩,⟨some 10,none,.mv (.c (.int .i64 0))⟩]) (.block 0 (.loop [1,0,0,0,0,0,0,0,1,1,1,0,0,0,0,0,0,0,0] (.seq (.reg [⟨some 11,none,.bin .lss false (.t 10) (.t 9)⟩]) (.seq (.cond (.t 11) .skip (.exit 0)) (.seq (.block 1 (.seq (.reg [⟨some 12,none,.iaddr 2 (.t 8) (.t 10)⟩,⟨some 13,none,.load true 2 (.t 12)⟩,⟨(some 6),none,(.alloc 33 [(.str ⟨#[]⟩),.nil])⟩,⟨none,none,(.store 2 (.t 6) (.t 13))⟩]) (.reg [⟨some 14,none,.mv (.t 0)⟩,⟨some 15,none,.load true 2 (.t 6)⟩,⟨some 16,none,.call 124 [(.t 14),(.t 15)]⟩,⟨some 0,none,.mv (.t 16)⟩]))) (.reg [⟨some 17,none,.bin .add false (.t 10) (.c (.int .i64 1))⟩,⟨some 10,none,.mv (.t 17)⟩]))))))) (.seq (.reg [⟨some 18,none,.mv (.t 0)⟩,⟨some 4,none,.mv (.t 18)⟩]) .ret)))
theorem Nb:codeOf Tryz.prog 56=some ⟨19,HX,[(.tmp 4)]⟩:=by kernel_rfl
theorem BE:modes 56=⟨[true],.own [some (9,1)],none,false⟩:=by unfold modes; rfl
theorem UL (x:Fm) (hn:x.vn≤1000000) (hnn:x.nodes≤1000000) (l:List ByteArray) (hl:l.length+x.vn≤4194304):E 56 [.ref 0,x.sv] [.row 9 1 (l.map fun s=>[OT.str s])]=some ((bif dec (l.length < (AZ l (syA x.ats)).length) then .ref 1 else .ref 0),(bif dec (l.length < (AZ l (syA x.ats)).length) then [.gone,.row 9 1 ((AZ l (syA x.ats)).map fun s=>[OT.str s])] else [.row 9 1 ((AZ l (syA x.ats)).map fun s=>[OT.str s])])):=by
  have hac:=R8 x (by omega) (by omega)
  unfold AtC at hac
  have hxs:x.sv=.agg [.int .i64 x.op,.str x.atom.name,.arr (x.atom.args.map Tm.d),.str x.var,.arr (x.parts.map Fm.d)]:=rfl
  have han:=Fm.JT x
  have hgl:dec (l.length < l.length)=false:=Aj (by omega)
  obtain ⟨xs,hxs2⟩:∃ xs,xs=x.ats:=⟨_,rfl⟩
  rw [←hxs2] at hac han ⊢
  have hll:=Tm.length_le xs
  refine Ai Nb BE (of_decide_eq_true rfl) ?_
  simp (disch:=omega) only [HX,go_sem,Ab,hac,Ey]
  refine go_loop (α:=Int × (List ByteArray)) (fun a=>⟨slots 19 0 [(0,(bif dec (l.length < (a.2).length) then .ref 1 else .ref 0)),(8,.arr (xs.map Tm.d)),(9,.int .i64 xs.length),(10,.int .i64 (a.1))],(bif dec (l.length < (a.2).length) then [.gone,.row 9 1 ((a.2).map fun s=>[OT.str s])] else [.row 9 1 ((a.2).map fun s=>[OT.str s])])⟩) (fun a=>∃ k:Nat,a.1=k∧k≤(xs).length∧AZ (a.2) (syA (xs.drop k))=AZ l (syA xs)∧(a.2).length+Tm.nodeS (xs.drop k)≤4194304∧l.length≤(a.2).length) (fun a=>(xs).length - (a.1).toNat) (0,l) ⟨0,rfl,zI _,by rw [zF],by rw [zF]; dsimp only; omega,yC _⟩ (by simp (disch:=omega) only [go_sem,Ab,hgl]) ?_
  rintro ⟨i,acc⟩ ⟨k,hi,hk,hR⟩
  dsimp only at hi hR
  have hni:i.toNat=k:=by omega
  have hni1:(i+1).toNat=k+1:=by omega
  rcases zB k (xs).length with hlt | hge
  · have hg:=get_at Tm.d hlt
    rw [Tm.d_eq] at hg
    obtain ⟨hR1,hR2,hR3⟩:=hR
    rw [zA hlt] at hR1
    have hR1:AZ acc (xs[k].sy1++syA (xs.drop (k+1)))=AZ l (syA xs):=hR1
    rw [Gh] at hR1
    rw [zA hlt,Tm.nodeS] at hR2
    have hc:=UK xs[k] acc (by omega)
    have hts:xs[k].sv=.agg [.str xs[k].name,.arr (xs[k].args.map Tm.d)]:=rfl
    have hlen:=Dp xs[k].sy1 acc
    have hgr:=Ee xs[k].sy1 acc
    have hvl:=Tm.JS xs[k]
    obtain ⟨acc2,ha2⟩:∃ a,a=AZ acc xs[k].sy1:=⟨_,rfl⟩
    rw [←ha2] at hc hlen hgr hR1
    rcases zB l.length acc.length with q1 | q1 <;> rcases zB acc.length acc2.length with q2 | q2
    all_goals
      first
        | rw [An q2] at hc
        | rw [Aj (zK.2 q2)] at hc
      simp only [cond_true,cond_false] at hc
      first
        | have d1:=An q1
        | have d1:=Aj (zK.2 q1)
      first
        | have d2:dec (l.length < acc2.length)=true:=An (by omega)
        | have d2:dec (l.length < acc2.length)=false:=Aj (by omega)
      simp (disch:=omega) only [go_sem,Ab,hni,hg,hc,d1,BD]
      refine ⟨(i+1,acc2),⟨k+1,by dsimp only; omega,hlt,hR1,by dsimp only; omega,by dsimp only; omega⟩,by dsimp only; omega,?_⟩
      first | done | simp (disch:=omega) only [go_sem,Ab,d2]
  · rw [zC hge] at hR
    obtain ⟨hR1,hR2,hR3⟩:=hR
    have hR1:acc=_:=hR1
    rw [←hR1]
    rcases zB l.length acc.length with q1 | q1
    · have d1:=An q1
      simp (disch:=omega) only [go_sem,Ab,hni,d1]
    · have d1:=Aj (zK.2 q1)
      simp (disch:=omega) only [go_sem,Ab,hni,d1]
def D2:SC:=(.seq (.reg [⟨some 3,none,.boxv 33 2 (.t 1)⟩,⟨some 4,none,.mv (.c .nil)⟩]) (.seq (.seq (.reg [⟨some 6,none,.faddr 0 (.t 3)⟩,⟨some 7,none,.load false 1 (.t 6)⟩,⟨some 8,none,.call 191 [(.t 7)]⟩,⟨some 9,none,.un .not (.t 8)⟩,⟨some 10,none,.mv (.t 9)⟩,⟨(some 11),(some (10,true)),(.faddr 0 (.t 3))⟩,⟨(some 12),(some (10,true)),(.load false 1 (.t 11))⟩,⟨(some 13),(some (10,true)),(.bin .neq false (.t 12) (.c (.str ⟨#[]⟩)))⟩,⟨some 14,none,.pick (.t 10) (.t 13) (.c (.bool false))⟩]) (.cond (.t 14) (.reg [⟨some 15,none,.mv (.t 0)⟩,⟨some 16,none,.faddr 0 (.t 3)⟩,⟨some 17,none,.load false 1 (.t 16)⟩,⟨(some 18),none,(.mkrow 9 1 [(.str ⟨#[]⟩)] 1 [(0,(.t 17))])⟩,⟨(some 19),none,(.append 9 1 16 [(.str ⟨#[]⟩)] (.t 15) (.t 18))⟩,⟨some 0,none,.mv (.t 19)⟩]) .skip)) (.seq (.seq (.reg [⟨some 5,none,.mv (.c (.int .i64 0))⟩]) (.block 0 (.loop [1,0,0,1,0,1,0,0,0,0,0,0,0,0,0,0,0,0,0,0,0,0,0,0,0,0,0,0,0,0,0,0,0,0,0] (.seq (.seq (.reg [⟨some 20,none,.mv (.t 5)⟩,⟨some 21,none,.faddr 1 (.t 3)⟩,⟨some 22,none,.load false 1 (.t 21)⟩,⟨some 23,none,.len false (.t 22)⟩,⟨some 24,none,.bin .lss false (.t 20) (.t 23)⟩]) (.cond (.t 24) .skip (.exit 0))) (.seq (.block 1 (.reg [⟨some 27,none,.mv (.t 0)⟩,⟨some 28,none,.faddr 1 (.t 3)⟩,⟨some 29,none,.load false 1 (.t 28)⟩,⟨some 30,none,.mv (.t 5)⟩,⟨some 31,none,.iaddr 2 (.t 29) (.t 30)⟩,⟨some 32,none,.load true 2 (.t 31)⟩,⟨some 33,none,.call 137 [(.t 27),(.t 32)]⟩,⟨some 0,none,.mv (.t 33)⟩])) (.reg [⟨some 25,none,.mv (.t 5)⟩,⟨some 26,none,.bin .add false (.t 25) (.c (.int .i64 1))⟩,⟨some 5,none,.mv (.t 26)⟩])))))) (.seq (.reg [⟨some 34,none,.mv (.t 0)⟩,⟨some 4,none,.mv (.t 34)⟩]) .ret))))
theorem EV:codeOf Tryz.prog 137=some ⟨35,D2,[(.tmp 4)]⟩:=by kernel_rfl
theorem BF:modes 137=⟨[true],.asis,none,false⟩:=by unfold modes; rfl
abbrev SzC (x:Tm):Prop:=∀ l:List ByteArray,l.length+x.nodes≤4194304→E 137 [.ref 0,x.sv] [.row 9 1 (l.map fun s=>[OT.str s])]=some ((bif dec (l.length<(l++x.sy2).length) then .ref 1 else .ref 0),(bif dec (l.length<(l++x.sy2).length) then [.gone,.row 9 1 ((l++x.sy2).map fun s=>[OT.str s])] else [.row 9 1 ((l++x.sy2).map fun s=>[OT.str s])]))
theorem SJ (x:Tm) (ih:∀ y∈x.args,SzC y):SzC x:=by
  intro l hn
  have hxs:x.sv=.agg [.str x.name,.arr (x.args.map Tm.d)]:=rfl
  have hl:=Tm.length_le x.args
  have hne:=Tm.nodes_eq x
  have hvs:=Tm.sy2_eq x
  have hv:=Dx x.name
  have hgl0:dec (l.length < l.length)=false:=Aj (by omega)
  cases hvv:AO x.name with
  | true =>
    rw [hvv] at hvs
    simp only [z8,zD,cond_false,zQ] at hvs
    rw [hvs]
    have hgl:=hgl0
    have hl1:True:=trivial
    refine Ai EV BF (of_decide_eq_true rfl) ?_
    simp (disch:=omega) only [D2,go_sem,Ab,hv,hvv,Ak]
    refine go_loop (α:=Int × (List ByteArray)) (fun a=>⟨slots 35 0 [(0,(bif dec (l.length < (a.2).length) then .ref 1 else .ref 0)),(3,(bif dec (l.length < (a.2).length) then .ptr 2 0 else .ptr 1 0)),(5,.int .i64 (a.1))],(bif dec (l.length < (a.2).length) then [.gone,.row 9 1 ((a.2).map fun s=>[OT.str s]),.box 33 [.str x.name,.arr (x.args.map Tm.d)]] else [.row 9 1 ((a.2).map fun s=>[OT.str s]),.box 33 [.str x.name,.arr (x.args.map Tm.d)]])⟩) (fun a=>∃ k:Nat,a.1=k∧k≤(x.args).length∧(a.2)++Tm.sy2L (x.args.drop k)=l++Tm.sy2L x.args∧(a.2).length+Tm.nodeS (x.args.drop k)≤4194304∧l.length≤(a.2).length) (fun a=>(x.args).length - (a.1).toNat) (0,l) ⟨0,rfl,zI _,by rw [zF],by rw [zF]; dsimp only; omega,by simp⟩ (by simp (disch:=omega) only [go_sem,Ab,hgl,hl1]) ?_
    rintro ⟨i,acc⟩ ⟨k,hi,hk,hR⟩
    dsimp only at hi hR
    have hni:i.toNat=k:=by omega
    have hni1:(i+1).toNat=k+1:=by omega
    rcases zB k (x.args).length with hlt | hge
    · have hg:=get_at Tm.d hlt
      rw [Tm.d_eq] at hg
      obtain ⟨hR1,hR2,hR3⟩:=hR
      rw [zA hlt,Tm.sy2L,← zL] at hR1
      rw [zA hlt,Tm.nodeS] at hR2
      have hc:=ih x.args[k] (zG hlt) acc (by omega)
      have hgr:(acc++x.args[k].sy2).length=acc.length+x.args[k].sy2.length:=zE
      have hvl:=Tm.sy2_len x.args[k]
      obtain ⟨acc2,ha2⟩:∃ a,a=acc++x.args[k].sy2:=⟨_,rfl⟩
      rw [←ha2] at hc hgr hR1
      rcases zB l.length acc.length with q1 | q1 <;> rcases zB acc.length acc2.length with q2 | q2
      all_goals
        first
          | rw [An q2] at hc
          | rw [Aj (zK.2 q2)] at hc
        simp only [cond_true,cond_false] at hc
        first
          | have d1:=An q1
          | have d1:=Aj (zK.2 q1)
        first
          | have d2:dec (l.length < acc2.length)=true:=An (by omega)
          | have d2:dec (l.length < acc2.length)=false:=Aj (by omega)
        simp (disch:=omega) only [go_sem,Ab,hni,hg,hc,d1,BF]
        refine ⟨(i+1,acc2),⟨k+1,by dsimp only; omega,hlt,hR1,by dsimp only; omega,by dsimp only; omega⟩,by dsimp only; omega,?_⟩
        first | done | simp (disch:=omega) only [go_sem,Ab,d2]
    · rw [zC hge,Tm.sy2L,zM] at hR
      obtain ⟨hR1,hR2,hR3⟩:=hR
      have hR1:acc=_:=hR1
      rw [←hR1]
      rcases zB l.length acc.length with q1 | q1
      · have d1:=An q1
        simp (disch:=omega) only [go_sem,Ab,hni,d1]
      · have d1:=Aj (zK.2 q1)
        simp (disch:=omega) only [go_sem,Ab,hni,d1]
  | false =>
    rw [hvv] at hvs
    by_cases h0:x.name=⟨#[]⟩
    · have d0:dec (x.name=⟨#[]⟩)=true:=An h0
      rw [d0] at hvs
      simp only [zW,z8,zY,cond_false,zQ] at hvs
      rw [hvs]
      have hgl:=hgl0
      have hl1:True:=trivial
      refine Ai EV BF (of_decide_eq_true rfl) ?_
      simp (disch:=omega) only [D2,go_sem,Ab,hv,hvv,d0,hl1,Ak]
      refine go_loop (α:=Int × (List ByteArray)) (fun a=>⟨slots 35 0 [(0,(bif dec (l.length < (a.2).length) then .ref 1 else .ref 0)),(3,(bif dec (l.length < (a.2).length) then .ptr 2 0 else .ptr 1 0)),(5,.int .i64 (a.1))],(bif dec (l.length < (a.2).length) then [.gone,.row 9 1 ((a.2).map fun s=>[OT.str s]),.box 33 [.str x.name,.arr (x.args.map Tm.d)]] else [.row 9 1 ((a.2).map fun s=>[OT.str s]),.box 33 [.str x.name,.arr (x.args.map Tm.d)]])⟩) (fun a=>∃ k:Nat,a.1=k∧k≤(x.args).length∧(a.2)++Tm.sy2L (x.args.drop k)=l++Tm.sy2L x.args∧(a.2).length+Tm.nodeS (x.args.drop k)≤4194304∧l.length≤(a.2).length) (fun a=>(x.args).length - (a.1).toNat) (0,l) ⟨0,rfl,zI _,by rw [zF],by rw [zF]; dsimp only; omega,by simp⟩ (by simp (disch:=omega) only [go_sem,Ab,hgl,hl1]) ?_
      rintro ⟨i,acc⟩ ⟨k,hi,hk,hR⟩
      dsimp only at hi hR
      have hni:i.toNat=k:=by omega
      have hni1:(i+1).toNat=k+1:=by omega
      rcases zB k (x.args).length with hlt | hge
      · have hg:=get_at Tm.d hlt
        rw [Tm.d_eq] at hg
        obtain ⟨hR1,hR2,hR3⟩:=hR
        rw [zA hlt,Tm.sy2L,← zL] at hR1
        rw [zA hlt,Tm.nodeS] at hR2
        have hc:=ih x.args[k] (zG hlt) acc (by omega)
        have hgr:(acc++x.args[k].sy2).length=acc.length+x.args[k].sy2.length:=zE
        have hvl:=Tm.sy2_len x.args[k]
        obtain ⟨acc2,ha2⟩:∃ a,a=acc++x.args[k].sy2:=⟨_,rfl⟩
        rw [←ha2] at hc hgr hR1
        rcases zB l.length acc.length with q1 | q1 <;> rcases zB acc.length acc2.length with q2 | q2
        all_goals
          first
            | rw [An q2] at hc
            | rw [Aj (zK.2 q2)] at hc
          simp only [cond_true,cond_false] at hc
          first
            | have d1:=An q1
            | have d1:=Aj (zK.2 q1)
          first
            | have d2:dec (l.length < acc2.length)=true:=An (by omega)
            | have d2:dec (l.length < acc2.length)=false:=Aj (by omega)
          simp (disch:=omega) only [go_sem,Ab,hni,hg,hc,d1,BF]
          refine ⟨(i+1,acc2),⟨k+1,by dsimp only; omega,hlt,hR1,by dsimp only; omega,by dsimp only; omega⟩,by dsimp only; omega,?_⟩
          first | done | simp (disch:=omega) only [go_sem,Ab,d2]
      · rw [zC hge,Tm.sy2L,zM] at hR
        obtain ⟨hR1,hR2,hR3⟩:=hR
        have hR1:acc=_:=hR1
        rw [←hR1]
        rcases zB l.length acc.length with q1 | q1
        · have d1:=An q1
          simp (disch:=omega) only [go_sem,Ab,hni,d1]
        · have d1:=Aj (zK.2 q1)
          simp (disch:=omega) only [go_sem,Ab,hni,d1]
    · have d0:dec (x.name=⟨#[]⟩)=false:=Aj h0
      rw [d0] at hvs
      simp only [zW,yQ,cond_true] at hvs
      rw [hvs,← zL]
      have hl1:(l.map fun s=>[OT.str s])++[[OT.str x.name]]=(l++[x.name]).map fun s=>[OT.str s]:=by simp
      have hgl:dec (l.length < (l++[x.name]).length)=true:=An (by simp)
      have hll:(l++[x.name]).length=l.length+1:=by simp
      refine Ai EV BF (of_decide_eq_true rfl) ?_
      simp (disch:=omega) only [D2,go_sem,Ab,hv,hvv,d0,hl1,Ak]
      refine go_loop (α:=Int × (List ByteArray)) (fun a=>⟨slots 35 0 [(0,(bif dec (l.length < (a.2).length) then .ref 1 else .ref 0)),(3,(bif dec (l.length < (a.2).length) then .ptr 2 0 else .ptr 1 0)),(5,.int .i64 (a.1))],(bif dec (l.length < (a.2).length) then [.gone,.row 9 1 ((a.2).map fun s=>[OT.str s]),.box 33 [.str x.name,.arr (x.args.map Tm.d)]] else [.row 9 1 ((a.2).map fun s=>[OT.str s]),.box 33 [.str x.name,.arr (x.args.map Tm.d)]])⟩) (fun a=>∃ k:Nat,a.1=k∧k≤(x.args).length∧(a.2)++Tm.sy2L (x.args.drop k)=(l++[x.name])++Tm.sy2L x.args∧(a.2).length+Tm.nodeS (x.args.drop k)≤4194304∧l.length≤(a.2).length) (fun a=>(x.args).length - (a.1).toNat) (0,(l++[x.name])) ⟨0,rfl,zI _,by rw [zF],by rw [zF]; dsimp only; omega,by simp⟩ (by simp (disch:=omega) only [go_sem,Ab,hgl,hl1]) ?_
      rintro ⟨i,acc⟩ ⟨k,hi,hk,hR⟩
      dsimp only at hi hR
      have hni:i.toNat=k:=by omega
      have hni1:(i+1).toNat=k+1:=by omega
      rcases zB k (x.args).length with hlt | hge
      · have hg:=get_at Tm.d hlt
        rw [Tm.d_eq] at hg
        obtain ⟨hR1,hR2,hR3⟩:=hR
        rw [zA hlt,Tm.sy2L,← zL] at hR1
        rw [zA hlt,Tm.nodeS] at hR2
        have hc:=ih x.args[k] (zG hlt) acc (by omega)
        have hgr:(acc++x.args[k].sy2).length=acc.length+x.args[k].sy2.length:=zE
        have hvl:=Tm.sy2_len x.args[k]
        obtain ⟨acc2,ha2⟩:∃ a,a=acc++x.args[k].sy2:=⟨_,rfl⟩
        rw [←ha2] at hc hgr hR1
        rcases zB l.length acc.length with q1 | q1 <;> rcases zB acc.length acc2.length with q2 | q2
        all_goals
          first
            | rw [An q2] at hc
            | rw [Aj (zK.2 q2)] at hc
          simp only [cond_true,cond_false] at hc
          first
            | have d1:=An q1
            | have d1:=Aj (zK.2 q1)
          first
            | have d2:dec (l.length < acc2.length)=true:=An (by omega)
            | have d2:dec (l.length < acc2.length)=false:=Aj (by omega)
          simp (disch:=omega) only [go_sem,Ab,hni,hg,hc,d1,BF]
          refine ⟨(i+1,acc2),⟨k+1,by dsimp only; omega,hlt,hR1,by dsimp only; omega,by dsimp only; omega⟩,by dsimp only; omega,?_⟩
          first | done | simp (disch:=omega) only [go_sem,Ab,d2]
      · rw [zC hge,Tm.sy2L,zM] at hR
        obtain ⟨hR1,hR2,hR3⟩:=hR
        have hR1:acc=_:=hR1
        rw [←hR1]
        rcases zB l.length acc.length with q1 | q1
        · have d1:=An q1
          simp (disch:=omega) only [go_sem,Ab,hni,d1]
        · have d1:=Aj (zK.2 q1)
          simp (disch:=omega) only [go_sem,Ab,hni,d1]
theorem NA (x:Tm):SzC x:=SJ x fun y hy=>NA y
termination_by SizeOf.sizeOf x
decreasing_by exact Tm.lt_of_mem hy
def J4:SC:=(.seq (.reg [⟨some 3,none,.boxv 36 5 (.t 1)⟩,⟨some 4,none,.mv (.c .nil)⟩]) (.seq (.reg [⟨some 6,none,.mv (.t 0)⟩,⟨some 7,none,.faddr 1 (.t 3)⟩,⟨some 8,none,.load true 2 (.t 7)⟩,⟨some 9,none,.call 137 [(.t 6),(.t 8)]⟩,⟨some 0,none,.mv (.t 9)⟩]) (.seq (.seq (.reg [⟨some 5,none,.mv (.c (.int .i64 0))⟩]) (.block 0 (.loop [1,0,0,1,0,1,0,0,0,0,0,0,0,0,0,0,0,0,0,0,0,0,0,0,0] (.seq (.seq (.reg [⟨some 10,none,.mv (.t 5)⟩,⟨some 11,none,.faddr 4 (.t 3)⟩,⟨some 12,none,.load false 1 (.t 11)⟩,⟨some 13,none,.len false (.t 12)⟩,⟨some 14,none,.bin .lss false (.t 10) (.t 13)⟩]) (.cond (.t 14) .skip (.exit 0))) (.seq (.block 1 (.reg [⟨some 17,none,.mv (.t 0)⟩,⟨some 18,none,.faddr 4 (.t 3)⟩,⟨some 19,none,.load false 1 (.t 18)⟩,⟨some 20,none,.mv (.t 5)⟩,⟨some 21,none,.iaddr 5 (.t 19) (.t 20)⟩,⟨some 22,none,.load true 5 (.t 21)⟩,⟨some 23,none,.call 68 [(.t 17),(.t 22)]⟩,⟨some 0,none,.mv (.t 23)⟩])) (.reg [⟨some 15,none,.mv (.t 5)⟩,⟨some 16,none,.bin .add false (.t 15) (.c (.int .i64 1))⟩,⟨some 5,none,.mv (.t 16)⟩])))))) (.seq (.reg [⟨some 24,none,.mv (.t 0)⟩,⟨some 4,none,.mv (.t 24)⟩]) .ret))))
theorem PO:codeOf Tryz.prog 68=some ⟨25,J4,[(.tmp 4)]⟩:=by kernel_rfl
theorem Ez:modes 68=⟨[true],.asis,none,false⟩:=by unfold modes; rfl
abbrev NmC (x:Fm):Prop:=∀ l:List ByteArray,l.length+x.vn≤4194304→E 68 [.ref 0,x.sv] [.row 9 1 (l.map fun s=>[OT.str s])]=some ((bif dec (l.length<(l++x.sy2).length) then .ref 1 else .ref 0),(bif dec (l.length<(l++x.sy2).length) then [.gone,.row 9 1 ((l++x.sy2).map fun s=>[OT.str s])] else [.row 9 1 ((l++x.sy2).map fun s=>[OT.str s])]))
theorem WJ (x:Fm) (hnn:Fm.nodeS x.parts≤4194304) (ih:∀ y∈x.parts,NmC y):NmC x:=by
  intro l hn
  have hxs:x.sv=.agg [.int .i64 x.op,.str x.atom.name,.arr (x.atom.args.map Tm.d),.str x.var,.arr (x.parts.map Fm.d)]:=rfl
  have has:x.atom.sv=.agg [.str x.atom.name,.arr (x.atom.args.map Tm.d)]:=rfl
  have hpl:=Fm.length_le x.parts
  have hne:=Fm.Kr x
  have hvs:=Fm.sy2_eq x
  rw [hvs,← zL]
  have hs:=NA x.atom l (by omega)
  have hal:=Tm.sy2_len x.atom
  have hll:(l++x.atom.sy2).length=l.length+x.atom.sy2.length:=zE
  rw [has] at hs
  obtain ⟨l1,hl1⟩:∃ l1,l1=l++x.atom.sy2:=⟨_,rfl⟩
  rw [←hl1] at hs hll ⊢
  rcases zB l.length l1.length with q0 | q0
  all_goals
    first
      | have hgl:dec (l.length < l1.length)=true:=An q0
      | have hgl:dec (l.length < l1.length)=false:=Aj (zK.2 q0)
    rw [hgl] at hs
    simp only [cond_true,cond_false] at hs
    refine Ai PO Ez (of_decide_eq_true rfl) ?_
    simp (disch:=omega) only [J4,go_sem,Ab,hs,BF]
    refine go_loop (α:=Int × (List ByteArray)) (fun a=>⟨slots 25 0 [(0,(bif dec (l.length < (a.2).length) then .ref 1 else .ref 0)),(3,(bif dec (l.length < (a.2).length) then .ptr 2 0 else .ptr 1 0)),(5,.int .i64 (a.1))],(bif dec (l.length < (a.2).length) then [.gone,.row 9 1 ((a.2).map fun s=>[OT.str s]),.box 36 [.int .i64 x.op,.str x.atom.name,.arr (x.atom.args.map Tm.d),.str x.var,.arr (x.parts.map Fm.d)]] else [.row 9 1 ((a.2).map fun s=>[OT.str s]),.box 36 [.int .i64 x.op,.str x.atom.name,.arr (x.atom.args.map Tm.d),.str x.var,.arr (x.parts.map Fm.d)]])⟩) (fun a=>∃ k:Nat,a.1=k∧k≤(x.parts).length∧(a.2)++Fm.sy2L (x.parts.drop k)=l1++Fm.sy2L x.parts∧(a.2).length+Fm.vnS (x.parts.drop k)≤4194304∧l.length≤(a.2).length) (fun a=>(x.parts).length - (a.1).toNat) (0,l1) ⟨0,rfl,zI _,by rw [zF],by rw [zF]; dsimp only; omega,by dsimp only; omega⟩ (by simp (disch:=omega) only [go_sem,Ab,hgl]) ?_
    rintro ⟨i,acc⟩ ⟨k,hi,hk,hR⟩
    dsimp only at hi hR
    have hni:i.toNat=k:=by omega
    have hni1:(i+1).toNat=k+1:=by omega
    rcases zB k (x.parts).length with hlt | hge
    · have hg:=get_at Fm.d hlt
      rw [Fm.d_eq] at hg
      obtain ⟨hR1,hR2,hR3⟩:=hR
      rw [zA hlt,Fm.sy2L,← zL] at hR1
      rw [zA hlt,Fm.vnS] at hR2
      have hc:=ih x.parts[k] (zG hlt) acc (by omega)
      have hgr:(acc++x.parts[k].sy2).length=acc.length+x.parts[k].sy2.length:=zE
      have hvl:=Fm.sy2_len x.parts[k]
      obtain ⟨acc2,ha2⟩:∃ a,a=acc++x.parts[k].sy2:=⟨_,rfl⟩
      rw [←ha2] at hc hgr hR1
      rcases zB l.length acc.length with q1 | q1 <;> rcases zB acc.length acc2.length with q2 | q2
      all_goals
        first
          | rw [An q2] at hc
          | rw [Aj (zK.2 q2)] at hc
        simp only [cond_true,cond_false] at hc
        first
          | have d1:=An q1
          | have d1:=Aj (zK.2 q1)
        first
          | have d2:dec (l.length < acc2.length)=true:=An (by omega)
          | have d2:dec (l.length < acc2.length)=false:=Aj (by omega)
        simp (disch:=omega) only [go_sem,Ab,hni,hg,hc,d1,Ez]
        refine ⟨(i+1,acc2),⟨k+1,by dsimp only; omega,hlt,hR1,by dsimp only; omega,by dsimp only; omega⟩,by dsimp only; omega,?_⟩
        first | done | simp (disch:=omega) only [go_sem,Ab,d2]
    · rw [zC hge,Fm.sy2L,zM] at hR
      obtain ⟨hR1,hR2,hR3⟩:=hR
      have hR1:acc=_:=hR1
      rw [←hR1]
      rcases zB l.length acc.length with q1 | q1
      · have d1:=An q1
        simp (disch:=omega) only [go_sem,Ab,hni,d1]
      · have d1:=Aj (zK.2 q1)
        simp (disch:=omega) only [go_sem,Ab,hni,d1]
theorem JU (x:Fm) (hnn:x.nodes≤4194304):NmC x:=WJ x (by have:=Fm.nodes_eq x; omega) fun y hy=>JU y (by have:=Fm.nodes_mem hy; have:=Fm.nodes_eq x; omega)
termination_by SizeOf.sizeOf x
decreasing_by exact Fm.lt_of_mem hy
def Dt:SC:=(.seq (.reg [⟨some 2,none,.boxv 36 5 (.t 0)⟩,⟨some 4,none,.mv (.c (.bool false))⟩]) (.seq (.seq (.reg [⟨some 6,none,.faddr 0 (.t 2)⟩,⟨some 7,none,.load false 1 (.t 6)⟩,⟨some 8,none,.bin .eql false (.t 7) (.c (.int .i64 9))⟩,⟨some 9,none,.mv (.t 8)⟩,⟨(some 10),(some (9,true)),(.mv (.t 1))⟩,⟨(some 11),(some (9,true)),(.bin .gtr false (.t 10) (.c (.int .i64 4)))⟩,⟨some 12,none,.pick (.t 9) (.t 11) (.c (.bool false))⟩]) (.cond (.t 12) (.seq (.reg [⟨some 4,none,.mv (.c (.bool false))⟩]) .ret) .skip)) (.seq (.seq (.reg [⟨some 13,none,.faddr 0 (.t 2)⟩,⟨some 14,none,.load false 1 (.t 13)⟩,⟨some 15,none,.bin .eql false (.t 14) (.c (.int .i64 8))⟩]) (.cond (.t 15) (.reg [⟨some 16,none,.mv (.t 1)⟩,⟨some 17,none,.bin .add false (.t 16) (.c (.int .i64 1))⟩,⟨some 1,none,.mv (.t 17)⟩]) .skip)) (.seq (.seq (.reg [⟨some 5,none,.mv (.c (.int .i64 0))⟩]) (.block 0 (.loop [0,1,1,0,0,1,0,0,0,0,0,0,0,0,0,0,0,0,0,0,0,0,0,0,0,0,0,0,0,0,0,0,0] (.seq (.seq (.reg [⟨some 18,none,.mv (.t 5)⟩,⟨some 19,none,.faddr 4 (.t 2)⟩,⟨some 20,none,.load false 1 (.t 19)⟩,⟨some 21,none,.len false (.t 20)⟩,⟨some 22,none,.bin .lss false (.t 18) (.t 21)⟩]) (.cond (.t 22) .skip (.exit 0))) (.seq (.block 1 (.seq (.reg [⟨some 25,none,.faddr 4 (.t 2)⟩,⟨some 26,none,.load false 1 (.t 25)⟩,⟨some 27,none,.mv (.t 5)⟩,⟨some 28,none,.iaddr 5 (.t 26) (.t 27)⟩,⟨some 29,none,.load true 5 (.t 28)⟩,⟨some 30,none,.mv (.t 1)⟩,⟨some 31,none,.call 113 [(.t 29),(.t 30)]⟩,⟨some 32,none,.un .not (.t 31)⟩]) (.cond (.t 32) (.seq (.reg [⟨some 4,none,.mv (.c (.bool false))⟩]) .ret) .skip))) (.reg [⟨some 23,none,.mv (.t 5)⟩,⟨some 24,none,.bin .add false (.t 23) (.c (.int .i64 1))⟩,⟨some 5,none,.mv (.t 24)⟩])))))) (.seq (.reg [⟨some 4,none,.mv (.c (.bool true))⟩]) .ret)))))
theorem E0:codeOf Tryz.prog 113=some ⟨33,Dt,[(.tmp 4)]⟩:=by kernel_rfl
theorem AR:modes 113=⟨[],.asis,none,false⟩:=by unfold modes; rfl
abbrev ArC (x:Fm):Prop:=∀ n:Nat,n+x.nodes≤4194304→∀ m:Int,m=n→E 113 [x.sv,.int .i64 m] []=some (.bool (!x.bad n),[])
theorem WK (x:Fm) (ih0:∀ y∈x.parts,ArC y):ArC x:=by
  intro n hn m hm
  have hxs:x.sv=.agg [.int .i64 x.op,.str x.atom.name,.arr (x.atom.args.map Tm.d),.str x.var,.arr (x.parts.map Fm.d)]:=rfl
  have hpl:=Fm.length_le x.parts
  have hnq:=Fm.nodes_eq x
  have hbe:=Fm.Qab x n
  by_cases h9:x.op=9
  · have o9:dec (x.op=9)=true:=An h9
    have o8:dec (x.op=8)=false:=Aj (by omega)
    rw [o9,o8] at hbe
    simp only [zH,cond_false] at hbe
    by_cases h4:4<n
    · have d4:dec ((4:Int)<m)=true:=An (by omega)
      rw [An h4,yA] at hbe
      rw [hbe]
      refine Ai E0 AR (of_decide_eq_true rfl) ?_
      simp (disch:=omega) only [Dt,go_sem,Ab,o8,o9,d4]
    · have d4:dec ((4:Int)<m)=false:=Aj (by omega)
      rw [Aj h4,zX] at hbe
      rw [hbe]
      obtain ⟨n1,hn1⟩:∃ n1,n1=n:=⟨_,rfl⟩
      obtain ⟨m1,hm1⟩:∃ m1,m1=m:=⟨_,rfl⟩
      have ih:∀ y∈x.parts,∀ n:Nat,n+y.nodes≤4194304→E 113 [y.sv,.int .i64 m1] []=some (.bool (!y.bad n1),[]):=fun y hy _ _=>ih0 y hy n1 (by have:=Fm.nodes_mem hy; omega) m1 (by omega)
      rw [←hn1,← hm1]
      rw [←hm1] at d4
      refine Ai E0 AR (of_decide_eq_true rfl) ?_
      simp (disch:=omega) only [Dt,go_sem,Ab,o8,o9,d4]
      refine go_loop (α:=Int) (fun a=>⟨slots 33 0 [(1,.int .i64 m1),(2,.ptr 0 0),(5,.int .i64 a)],[.box 36 [.int .i64 x.op,.str x.atom.name,.arr (x.atom.args.map Tm.d),.str x.var,.arr (x.parts.map Fm.d)]]⟩) (fun a=>∃ k:Nat,a=k∧k≤(x.parts).length∧((x.parts.drop k).any fun y=>y.bad n1)=(x.parts.any fun y=>y.bad n1)) (fun a=>(x.parts).length-(a).toNat) 0 ⟨0,rfl,zI _,by rw [zF]⟩ (by simp (disch:=omega) only [go_sem,Ab]) ?_
      rintro i ⟨k,hi,hk,hR⟩
      have hni:i.toNat=k:=by omega
      have hni1:(i+1).toNat=k+1:=by omega
      rcases zB k (x.parts).length with hlt | hge
      · have hg:=get_at Fm.d hlt
        rw [Fm.d_eq] at hg
        have hle:=Fm.nodes_le x.parts k hlt
        have hc:=ih x.parts[k] (zG hlt) 0 (by omega)
        rw [zA hlt,yR] at hR
        cases hp:x.parts[k].bad n1 with
        | true =>
          rw [hp] at hc hR
          rw [yA] at hR
          rw [←hR]
          simp (disch:=omega) only [go_sem,Ab,hni,hg,hc,AR]
        | false =>
          rw [hp] at hc hR
          rw [zX] at hR
          simp (disch:=omega) only [go_sem,Ab,hni,hg,hc,AR]
          exact ⟨i+1,⟨k+1,by omega,hlt,hR⟩,by omega,by first | trivial | rfl⟩
      · rw [zC hge,List.any_nil] at hR
        rw [←hR]
        simp (disch:=omega) only [go_sem,Ab,hni]
  have o9:dec (x.op=9)=false:=Aj h9
  by_cases h8:x.op=8
  · have o8:dec (x.op=8)=true:=An h8
    rw [o9,o8] at hbe
    simp only [zD,zX,cond_true] at hbe
    rw [hbe]
    obtain ⟨n1,hn1⟩:∃ n1,n1=n+1:=⟨_,rfl⟩
    obtain ⟨m1,hm1⟩:∃ m1,m1=m+1:=⟨_,rfl⟩
    have ih:∀ y∈x.parts,∀ n:Nat,n+y.nodes≤4194304→E 113 [y.sv,.int .i64 m1] []=some (.bool (!y.bad n1),[]):=fun y hy _ _=>ih0 y hy n1 (by have:=Fm.nodes_mem hy; omega) m1 (by omega)
    rw [←hn1]
    refine Ai E0 AR (of_decide_eq_true rfl) ?_
    simp (disch:=omega) only [Dt,go_sem,Ab,o8,o9,← hm1]
    refine go_loop (α:=Int) (fun a=>⟨slots 33 0 [(1,.int .i64 m1),(2,.ptr 0 0),(5,.int .i64 a)],[.box 36 [.int .i64 x.op,.str x.atom.name,.arr (x.atom.args.map Tm.d),.str x.var,.arr (x.parts.map Fm.d)]]⟩) (fun a=>∃ k:Nat,a=k∧k≤(x.parts).length∧((x.parts.drop k).any fun y=>y.bad n1)=(x.parts.any fun y=>y.bad n1)) (fun a=>(x.parts).length-(a).toNat) 0 ⟨0,rfl,zI _,by rw [zF]⟩ (by simp (disch:=omega) only [go_sem,Ab]) ?_
    rintro i ⟨k,hi,hk,hR⟩
    have hni:i.toNat=k:=by omega
    have hni1:(i+1).toNat=k+1:=by omega
    rcases zB k (x.parts).length with hlt | hge
    · have hg:=get_at Fm.d hlt
      rw [Fm.d_eq] at hg
      have hle:=Fm.nodes_le x.parts k hlt
      have hc:=ih x.parts[k] (zG hlt) 0 (by omega)
      rw [zA hlt,yR] at hR
      cases hp:x.parts[k].bad n1 with
      | true =>
        rw [hp] at hc hR
        rw [yA] at hR
        rw [←hR]
        simp (disch:=omega) only [go_sem,Ab,hni,hg,hc,AR]
      | false =>
        rw [hp] at hc hR
        rw [zX] at hR
        simp (disch:=omega) only [go_sem,Ab,hni,hg,hc,AR]
        exact ⟨i+1,⟨k+1,by omega,hlt,hR⟩,by omega,by first | trivial | rfl⟩
    · rw [zC hge,List.any_nil] at hR
      rw [←hR]
      simp (disch:=omega) only [go_sem,Ab,hni]
  · have o8:dec (x.op=8)=false:=Aj h8
    have d4:True:=trivial
    rw [o9,o8] at hbe
    simp only [zD,zX,cond_false] at hbe
    rw [hbe]
    obtain ⟨n1,hn1⟩:∃ n1,n1=n:=⟨_,rfl⟩
    obtain ⟨m1,hm1⟩:∃ m1,m1=m:=⟨_,rfl⟩
    have ih:∀ y∈x.parts,∀ n:Nat,n+y.nodes≤4194304→E 113 [y.sv,.int .i64 m1] []=some (.bool (!y.bad n1),[]):=fun y hy _ _=>ih0 y hy n1 (by have:=Fm.nodes_mem hy; omega) m1 (by omega)
    rw [←hn1,← hm1]
    refine Ai E0 AR (of_decide_eq_true rfl) ?_
    simp (disch:=omega) only [Dt,go_sem,Ab,o8,o9,d4]
    refine go_loop (α:=Int) (fun a=>⟨slots 33 0 [(1,.int .i64 m1),(2,.ptr 0 0),(5,.int .i64 a)],[.box 36 [.int .i64 x.op,.str x.atom.name,.arr (x.atom.args.map Tm.d),.str x.var,.arr (x.parts.map Fm.d)]]⟩) (fun a=>∃ k:Nat,a=k∧k≤(x.parts).length∧((x.parts.drop k).any fun y=>y.bad n1)=(x.parts.any fun y=>y.bad n1)) (fun a=>(x.parts).length-(a).toNat) 0 ⟨0,rfl,zI _,by rw [zF]⟩ (by simp (disch:=omega) only [go_sem,Ab]) ?_
    rintro i ⟨k,hi,hk,hR⟩
    have hni:i.toNat=k:=by omega
    have hni1:(i+1).toNat=k+1:=by omega
    rcases zB k (x.parts).length with hlt | hge
    · have hg:=get_at Fm.d hlt
      rw [Fm.d_eq] at hg
      have hle:=Fm.nodes_le x.parts k hlt
      have hc:=ih x.parts[k] (zG hlt) 0 (by omega)
      rw [zA hlt,yR] at hR
      cases hp:x.parts[k].bad n1 with
      | true =>
        rw [hp] at hc hR
        rw [yA] at hR
        rw [←hR]
        simp (disch:=omega) only [go_sem,Ab,hni,hg,hc,AR]
      | false =>
        rw [hp] at hc hR
        rw [zX] at hR
        simp (disch:=omega) only [go_sem,Ab,hni,hg,hc,AR]
        exact ⟨i+1,⟨k+1,by omega,hlt,hR⟩,by omega,by first | trivial | rfl⟩
    · rw [zC hge,List.any_nil] at hR
      rw [←hR]
      simp (disch:=omega) only [go_sem,Ab,hni]
theorem Nc (x:Fm):ArC x:=WK x fun y hy=>Nc y
termination_by SizeOf.sizeOf x
decreasing_by exact Fm.lt_of_mem hy
def NB:SC:=(.seq (.reg [⟨some 4,none,.mv (.c (.bool false))⟩]) (.seq (.seq (.reg [⟨some 5,none,.mv (.c (.int .i64 0))⟩]) (.block 0 (.loop [1,1,0,0,0,1,0,0,0,0,0,0,0,0,0,0,0,0] (.seq (.seq (.reg [⟨some 6,none,.mv (.t 5)⟩,⟨some 7,none,.mv (.t 0)⟩,⟨some 8,none,.len false (.t 7)⟩,⟨some 9,none,.bin .lss false (.t 6) (.t 8)⟩]) (.cond (.t 9) .skip (.exit 0))) (.seq (.block 1 (.seq (.reg [⟨some 12,none,.mv (.t 0)⟩,⟨some 13,none,.mv (.t 5)⟩,⟨some 14,none,.iaddr 1 (.t 12) (.t 13)⟩,⟨some 15,none,.load false 1 (.t 14)⟩,⟨some 16,none,.mv (.t 1)⟩,⟨some 17,none,.bin .eql false (.t 15) (.t 16)⟩]) (.cond (.t 17) (.seq (.reg [⟨some 4,none,.mv (.c (.bool true))⟩]) .ret) .skip))) (.reg [⟨some 10,none,.mv (.t 5)⟩,⟨some 11,none,.bin .add false (.t 10) (.c (.int .i64 1))⟩,⟨some 5,none,.mv (.t 11)⟩])))))) (.seq (.reg [⟨some 4,none,.mv (.c (.bool false))⟩]) .ret)))
theorem UM:codeOf Tryz.prog 112=some ⟨18,NB,[(.tmp 4)]⟩:=by kernel_rfl
theorem Du:modes 112=⟨[],.asis,none,false⟩:=by unfold modes; rfl
theorem WL (xs:List ByteArray) (n:ByteArray) (hl:xs.length≤1099511627776):E 112 [.arr (xs.map fun s=>[D.str s]),.str n] []=some (.bool (dec (n∈xs)),[]):=by
  refine Ai UM Du (of_decide_eq_true rfl) ?_
  simp (disch:=omega) only [NB,go_sem,Ab]
  refine go_loop (α:=Int) (fun a=>⟨slots 18 0 [(0,.arr (xs.map fun s=>[D.str s])),(1,.str n),(5,.int .i64 a)],[]⟩) (fun a=>∃ k:Nat,a=k∧k≤(xs).length∧dec (n∈xs.drop k)=dec (n∈xs)) (fun a=>(xs).length-(a).toNat) 0 ⟨0,rfl,zI _,by rw [zF]⟩ (by simp (disch:=omega) only [go_sem,Ab]) ?_
  rintro i ⟨k,hi,hk,hR⟩
  have hni:i.toNat=k:=by omega
  have hni1:(i+1).toNat=k+1:=by omega
  rcases zB k (xs).length with hlt | hge
  · have hg:=get_at (fun s=>[D.str s]) hlt
    rw [zA hlt] at hR
    by_cases hp:xs[k]=n
    · have hq:=eq_true hp
      have ht:dec (n∈xs)=true:=An (hp▸zG hlt)
      simp (disch:=omega) only [go_sem,Ab,hni,hg,hq]
      exact ht.symm
    · have hq:=eq_false hp
      have hR:dec (n∈xs.drop (k+1))=dec (n∈xs):=by
        rw [←hR]
        exact QbF (by simp only [yI]; exact ⟨.inr,fun h=>h.elim (fun e=>absurd e.symm hp) id⟩)
      simp (disch:=omega) only [go_sem,Ab,hni,hg,hq]
      exact ⟨i+1,⟨k+1,by omega,hlt,hR⟩,by omega,by first | trivial | rfl⟩
  · rw [zC hge,Aj (by simp)] at hR
    simp (disch:=omega) only [go_sem,Ab,hni]
    exact hR
def Fc:SC:=(.seq (.reg [⟨some 4,none,.boxv 36 5 (.t 1)⟩,⟨some 6,none,.mv (.c .nil)⟩]) (.seq (.seq (.reg [⟨some 10,none,.faddr 0 (.t 4)⟩,⟨some 11,none,.load false 1 (.t 10)⟩,⟨some 12,none,.bin .eql false (.t 11) (.c (.int .i64 3))⟩]) (.cond (.t 12) (.seq (.reg [⟨some 13,none,.faddr 1 (.t 4)⟩,⟨some 14,none,.load true 2 (.t 13)⟩,⟨some 15,none,.call 237 [(.t 14)]⟩,⟨some 7,none,.mv (.t 15)⟩]) (.seq (.reg [⟨some 8,none,.mv (.c (.int .i64 0))⟩]) (.block 0 (.loop [1,0,1,0,1,0,0,1,1,0,0,0,0,0,0,0,0,0,0,0,0,0,0,0,0,0,0,0,0,0,0,0,0,0,0,0,0,0,0,0,0,0,0,0,0,0,0,0,0,0,0,0,0,0,0,0,0,0,0,0,0,0,0,0,0,0] (.seq (.seq (.reg [⟨some 16,none,.mv (.t 8)⟩,⟨some 17,none,.mv (.t 7)⟩,⟨some 18,none,.len false (.t 17)⟩,⟨some 19,none,.bin .lss false (.t 16) (.t 18)⟩]) (.cond (.t 19) .skip (.exit 0))) (.seq (.block 1 (.seq (.reg [⟨some 22,none,.mv (.t 2)⟩,⟨some 23,none,.mv (.t 7)⟩,⟨some 24,none,.mv (.t 8)⟩,⟨some 25,none,.iaddr 1 (.t 23) (.t 24)⟩,⟨some 26,none,.load false 1 (.t 25)⟩,⟨some 27,none,.call 112 [(.t 22),(.t 26)]⟩,⟨some 28,none,.un .not (.t 27)⟩]) (.cond (.t 28) (.reg [⟨some 29,none,.mv (.t 0)⟩,⟨some 30,none,.mv (.t 7)⟩,⟨some 31,none,.mv (.t 8)⟩,⟨some 32,none,.iaddr 1 (.t 30) (.t 31)⟩,⟨some 33,none,.load false 1 (.t 32)⟩,⟨some 34,none,.call 238 [(.t 29),(.t 33)]⟩,⟨some 0,none,.mv (.t 34)⟩]) .skip))) (.reg [⟨some 20,none,.mv (.t 8)⟩,⟨some 21,none,.bin .add false (.t 20) (.c (.int .i64 1))⟩,⟨some 8,none,.mv (.t 21)⟩]))))))) .skip)) (.seq (.seq (.reg [⟨some 35,none,.faddr 0 (.t 4)⟩,⟨some 36,none,.load false 1 (.t 35)⟩,⟨some 37,none,.bin .eql false (.t 36) (.c (.int .i64 8))⟩,⟨some 38,none,.mv (.t 37)⟩,⟨(some 39),(some (38,false)),(.faddr 0 (.t 4))⟩,⟨(some 40),(some (38,false)),(.load false 1 (.t 39))⟩,⟨(some 41),(some (38,false)),(.bin .eql false (.t 40) (.c (.int .i64 9)))⟩,⟨some 42,none,.pick (.t 38) (.c (.bool true)) (.t 41)⟩]) (.cond (.t 42) (.dreg [[],[],[0,1],[],[3],[4,3],[2,0,1,5,4,3],[6,2,0,1,5,4,3]] [⟨(some 43),none,(.mkrow 9 1 [(.str ⟨#[]⟩)] 0 [])⟩,⟨some 44,none,.mv (.t 2)⟩,⟨(some 45),none,(.append 9 1 16 [(.str ⟨#[]⟩)] (.t 43) (.t 44))⟩,⟨some 46,none,.faddr 3 (.t 4)⟩,⟨some 47,none,.load false 1 (.t 46)⟩,⟨(some 48),none,(.mkrow 9 1 [(.str ⟨#[]⟩)] 1 [(0,(.t 47))])⟩,⟨(some 49),none,(.append 9 1 16 [(.str ⟨#[]⟩)] (.t 45) (.t 48))⟩,⟨some 2,none,.mv (.t 49)⟩]) .skip)) (.seq (.seq (.reg [⟨some 9,none,.mv (.c (.int .i64 0))⟩]) (.block 2 (.loop [1,0,1,0,1,0,0,0,0,1,0,0,0,0,0,0,0,0,0,0,0,0,0,0,0,0,0,0,0,0,0,0,0,0,0,0,0,0,0,0,0,0,0,0,0,0,0,0,0,0,0,0,0,0,0,0,0,0,0,0,0,0,0,0,0,0] (.seq (.seq (.reg [⟨some 50,none,.mv (.t 9)⟩,⟨some 51,none,.faddr 4 (.t 4)⟩,⟨some 52,none,.load false 1 (.t 51)⟩,⟨some 53,none,.len false (.t 52)⟩,⟨some 54,none,.bin .lss false (.t 50) (.t 53)⟩]) (.cond (.t 54) .skip (.exit 2))) (.seq (.block 3 (.reg [⟨some 57,none,.mv (.t 0)⟩,⟨some 58,none,.faddr 4 (.t 4)⟩,⟨some 59,none,.load false 1 (.t 58)⟩,⟨some 60,none,.mv (.t 9)⟩,⟨some 61,none,.iaddr 5 (.t 59) (.t 60)⟩,⟨some 62,none,.load true 5 (.t 61)⟩,⟨some 63,none,.mv (.t 2)⟩,⟨some 64,none,.call 172 [(.t 57),(.t 62),(.t 63)]⟩,⟨some 0,none,.mv (.t 64)⟩])) (.reg [⟨some 55,none,.mv (.t 9)⟩,⟨some 56,none,.bin .add false (.t 55) (.c (.int .i64 1))⟩,⟨some 9,none,.mv (.t 56)⟩])))))) (.seq (.reg [⟨some 65,none,.mv (.t 0)⟩,⟨some 6,none,.mv (.t 65)⟩]) .ret)))))
theorem Hn:codeOf Tryz.prog 172=some ⟨66,Fc,[(.tmp 6)]⟩:=by kernel_rfl
theorem C0:modes 172=⟨[true],.asis,none,false⟩:=by unfold modes; rfl
def Ho:SC:=(.seq (.reg [⟨some 1,none,.boxv 36 5 (.t 0)⟩,⟨some 2,none,.mv (.c .nil)⟩]) (.seq (.reg [⟨(some 3),none,(.mkrow 9 1 [(.str ⟨#[]⟩)] 0 [])⟩,⟨some 4,none,.load true 5 (.t 1)⟩,⟨(some 5),none,(.mkrow 9 1 [(.str ⟨#[]⟩)] 0 [])⟩,⟨some 6,none,.call 172 [(.t 3),(.t 4),(.t 5)]⟩,⟨some 2,none,.mv (.t 6)⟩]) .ret))
theorem K4:codeOf Tryz.prog 110=some ⟨7,Ho,[(.tmp 2)]⟩:=by kernel_rfl
theorem DN:modes 110=⟨[],.asis,none,false⟩:=by unfold modes; rfl
theorem UN (b acc:List ByteArray) (n:ByteArray) (ns:List ByteArray):BT acc ((n :: ns).filter fun m=>!dec (m∈b))=BT (bif dec (n∈b) then acc else Cw acc n) (ns.filter fun m=>!dec (m∈b)):=by
 rw [List.filter_cons]
 cases dec (n∈b) with
 | true=>rfl
 | false=>rfl
abbrev QbR (x:Fm):Prop:=∀ l b:List ByteArray,l.length+x.vn≤1048576→b.length+x.nodes≤1048576→E 172 [.ref 0,x.sv,.arr (b.map fun s=>[D.str s])] [.row 9 1 (l.map fun s=>[OT.str s])]=some ((bif dec (l.length<(BT l (x.fv b)).length) then .ref 1 else .ref 0),(bif dec (l.length<(BT l (x.fv b)).length) then [.gone,.row 9 1 ((BT l (x.fv b)).map fun s=>[OT.str s])] else [.row 9 1 ((BT l (x.fv b)).map fun s=>[OT.str s])]))
theorem Y7 (x:Fm) (hx:x.forms=true) (ih:∀ y∈x.parts,QbR y):QbR x:=by
  intro l b hn hb
  have hfo:=Fm.BB hx
  have hvn:=Fm.Kr x
  have hnd:=Fm.nodes_eq x
  have hpl:=Fm.length_le x.parts
  have hfv:=Fm.ZS x b
  have hat:=Fm.Il hfo
  have hgl:dec (l.length < l.length)=false:=Aj (by omega)
  have hxs:x.sv=.agg [.int .i64 x.op,.str x.atom.name,.arr (x.atom.args.map Tm.d),.str x.var,.arr (x.parts.map Fm.d)]:=rfl
  have has:x.atom.sv=.agg [.str x.atom.name,.arr (x.atom.args.map Tm.d)]:=rfl
  cases ho:dec (x.op=3) with
  | true =>
    rw [ho] at hfv
    simp only [cond_true] at hfv
    have ho3:=Ao.1 ho
    have hp0:=(Fm.EJ hfo ho3).1
    have o8:dec (x.op=8)=false:=Aj (by omega)
    have o9:dec (x.op=9)=false:=Aj (by omega)
    have hv:=ZQ x.atom (by omega)
    have hil:=DJ x.atom.vs []
    have hvl:=Tm.KX x.atom
    simp only [zR] at hil
    obtain ⟨ns,hns⟩:∃ ns,ns=BT [] x.atom.vs:=⟨_,rfl⟩
    rw [←hns] at hv hfv hil
    rw [hfv]
    refine Ai Hn C0 (of_decide_eq_true rfl) ?_
    simp (disch:=omega) only [Fc,go_sem,Ab,ho,hv,Hh]
    refine go_loop (α:=Int × (List ByteArray)) (fun a=>⟨slots 66 0 [(0,(bif dec (l.length < (a.2).length) then .ref 1 else .ref 0)),(2,.arr (b.map fun s=>[D.str s])),(4,(bif dec (l.length < (a.2).length) then .ptr 2 0 else .ptr 1 0)),(7,.arr (ns.map fun s=>[D.str s])),(8,.int .i64 (a.1))],(bif dec (l.length < (a.2).length) then [.gone,.row 9 1 ((a.2).map fun s=>[OT.str s]),.box 36 [.int .i64 x.op,.str x.atom.name,.arr (x.atom.args.map Tm.d),.str x.var,.arr (x.parts.map Fm.d)]] else [.row 9 1 ((a.2).map fun s=>[OT.str s]),.box 36 [.int .i64 x.op,.str x.atom.name,.arr (x.atom.args.map Tm.d),.str x.var,.arr (x.parts.map Fm.d)]])⟩) (fun a=>∃ k:Nat,a.1=k∧k≤(ns).length∧BT (a.2) ((ns.drop k).filter fun m=>!dec (m∈b))=BT l (ns.filter fun m=>!dec (m∈b))∧(a.2).length+(ns.length - k)≤1048576∧l.length≤(a.2).length) (fun a=>(ns).length - (a.1).toNat) (0,l) ⟨0,rfl,zI _,by rw [zF],by dsimp only; omega,yC _⟩ (by simp (disch:=omega) only [go_sem,Ab,hgl]) ?_
    rintro ⟨i,acc⟩ ⟨k,hi,hk,hR⟩
    dsimp only at hi hR
    have hni:i.toNat=k:=by omega
    have hni1:(i+1).toNat=k+1:=by omega
    rcases zB k (ns).length with hlt | hge
    · have hg:=get_at (fun s=>[D.str s]) hlt
      obtain ⟨hR1,hR2,hR3⟩:=hR
      rw [zA hlt,UN] at hR1
      have c1:=WL b ns[k] (by omega)
      cases hq:dec (ns[k]∈b) with
      | true =>
        rw [hq] at c1 hR1
        simp only [cond_true] at hR1
        rcases zB l.length acc.length with q1 | q1
        all_goals
          first
            | have d1:=An q1
            | have d1:=Aj (zK.2 q1)
          simp (disch:=omega) only [go_sem,Ab,hni,hg,c1,d1,Du]
          refine ⟨(i+1,acc),⟨k+1,by dsimp only; omega,hlt,hR1,by dsimp only; omega,by dsimp only; omega⟩,by dsimp only; omega,?_⟩
          first | done | simp (disch:=omega) only [go_sem,Ab,d1]
      | false =>
        rw [hq] at c1 hR1
        simp only [cond_false] at hR1
        have c2:=Uj acc ns[k] (by omega)
        have hul:=P4 acc ns[k]
        have hug:=Rs acc ns[k]
        obtain ⟨acc2,ha2⟩:∃ a,a=Cw acc ns[k]:=⟨_,rfl⟩
        rw [←ha2] at c2 hul hug hR1
        rcases zB l.length acc.length with q1 | q1 <;> rcases zB acc.length acc2.length with q2 | q2
        all_goals
          first
            | rw [An q2] at c2
            | rw [Aj (zK.2 q2)] at c2
          simp only [cond_true,cond_false] at c2
          first
            | have d1:=An q1
            | have d1:=Aj (zK.2 q1)
          first
            | have d2:dec (l.length < acc2.length)=true:=An (by omega)
            | have d2:dec (l.length < acc2.length)=false:=Aj (by omega)
          simp (disch:=omega) only [go_sem,Ab,hni,hg,c1,c2,d1,Du,CM]
          refine ⟨(i+1,acc2),⟨k+1,by dsimp only; omega,hlt,hR1,by dsimp only; omega,by dsimp only; omega⟩,by dsimp only; omega,?_⟩
          first
            | done
            | (simp (disch:=omega) only [go_sem,Ab,d2]; done)
            | (have e2:acc2=acc:=by rw [ha2]; exact Rt (by rw [←ha2]; exact q2)
               simp (disch:=omega) only [go_sem,Ab,d2]
               rw [e2])
    · rw [zC hge] at hR
      obtain ⟨hR1,hR2,hR3⟩:=hR
      have hR1:acc=_:=hR1
      rw [←hR1]
      rcases zB l.length acc.length with q1 | q1
      all_goals
        first
          | have d1:=An q1
          | have d1:=Aj (zK.2 q1)
        simp (disch:=omega) only [go_sem,Ab,hni,d1,o8,o9]
        clear hi hni hni1 hk hge
        refine go_loop (α:=Int) (fun a=>⟨slots 66 0 [(0,(bif dec (l.length < acc.length) then .ref 1 else .ref 0)),(2,.arr (b.map fun s=>[D.str s])),(4,(bif dec (l.length < acc.length) then .ptr 2 0 else .ptr 1 0)),(9,.int .i64 a)],(bif dec (l.length < acc.length) then [.gone,.row 9 1 (acc.map fun s=>[OT.str s]),.box 36 [.int .i64 x.op,.str x.atom.name,.arr (x.atom.args.map Tm.d),.str x.var,.arr (x.parts.map Fm.d)]] else [.row 9 1 (acc.map fun s=>[OT.str s]),.box 36 [.int .i64 x.op,.str x.atom.name,.arr (x.atom.args.map Tm.d),.str x.var,.arr (x.parts.map Fm.d)]])⟩) (fun a=>∃ k:Nat,a=k∧k≤(x.parts).length) (fun a=>(x.parts).length - (a).toNat) 0 ⟨0,rfl,zI _⟩ (by simp (disch:=omega) only [go_sem,Ab,d1]) ?_
        rintro i ⟨k,hi,hk⟩
        have hni:i.toNat=k:=by omega
        have hni1:(i+1).toNat=k+1:=by omega
        rcases zB k (x.parts).length with hlt | hge
        · rw [hp0] at hlt
          simp at hlt
        · simp (disch:=omega) only [go_sem,Ab,hni,d1]
  | false =>
    rw [ho] at hfv
    simp only [cond_false] at hfv
    cases o8:dec (x.op=8) <;> cases o9:dec (x.op=9)
    all_goals
      have hq:qB x.op=(dec (x.op=8) || dec (x.op=9)):=rfl
      rw [o8,o9] at hq
      simp only [Bool.or_self,yO,yD,yA,zX] at hq
      rw [hq] at hfv
      simp only [cond_true,cond_false] at hfv
      rw [hfv]
    · obtain ⟨b',hb'⟩:∃ b',b'=b:=⟨_,rfl⟩
      have hbl:b'.length≤b.length+1:=by rw [hb']; omega
      rw [←hb']
      refine Ai Hn C0 (of_decide_eq_true rfl) ?_
      simp (disch:=omega) only [Fc,go_sem,Ab,ho,o8,o9]
      refine go_loop (α:=Int × (List ByteArray)) (fun a=>⟨slots 66 0 [(0,(bif dec (l.length < (a.2).length) then .ref 1 else .ref 0)),(2,.arr (b'.map fun s=>[D.str s])),(4,(bif dec (l.length < (a.2).length) then .ptr 2 0 else .ptr 1 0)),(9,.int .i64 (a.1))],(bif dec (l.length < (a.2).length) then [.gone,.row 9 1 ((a.2).map fun s=>[OT.str s]),.box 36 [.int .i64 x.op,.str x.atom.name,.arr (x.atom.args.map Tm.d),.str x.var,.arr (x.parts.map Fm.d)]] else [.row 9 1 ((a.2).map fun s=>[OT.str s]),.box 36 [.int .i64 x.op,.str x.atom.name,.arr (x.atom.args.map Tm.d),.str x.var,.arr (x.parts.map Fm.d)]])⟩) (fun a=>∃ k:Nat,a.1=k∧k≤(x.parts).length∧BT (a.2) (Fm.fvL (x.parts.drop k) b')=BT l (Fm.fvL x.parts b')∧(a.2).length+Fm.vnS (x.parts.drop k)≤1048576∧l.length≤(a.2).length) (fun a=>(x.parts).length - (a.1).toNat) (0,l) ⟨0,rfl,zI _,by rw [zF],by rw [zF]; dsimp only; omega,yC _⟩ (by simp (disch:=omega) only [go_sem,Ab,hgl]) ?_
      rintro ⟨i,acc⟩ ⟨k,hi,hk,hR⟩
      dsimp only at hi hR
      have hni:i.toNat=k:=by omega
      have hni1:(i+1).toNat=k+1:=by omega
      rcases zB k (x.parts).length with hlt | hge
      · have hg:=get_at Fm.d hlt
        rw [Fm.d_eq] at hg
        obtain ⟨hR1,hR2,hR3⟩:=hR
        rw [zA hlt,Fm.fvL,P5] at hR1
        rw [zA hlt,Fm.vnS] at hR2
        have hnm:=Fm.nodes_le x.parts k hlt
        have hc:=ih x.parts[k] (zG hlt) acc b' (by omega) (by omega)
        have hlen:=DJ (x.parts[k].fv b') acc
        have hgr:=JR (x.parts[k].fv b') acc
        have hvl:=Fm.Ir x.parts[k] b'
        obtain ⟨acc2,ha2⟩:∃ a,a=BT acc (x.parts[k].fv b'):=⟨_,rfl⟩
        rw [←ha2] at hc hlen hgr hR1
        rcases zB l.length acc.length with q1 | q1 <;> rcases zB acc.length acc2.length with q2 | q2
        all_goals
          first
            | rw [An q2] at hc
            | rw [Aj (zK.2 q2)] at hc
          simp only [cond_true,cond_false] at hc
          first
            | have d1:=An q1
            | have d1:=Aj (zK.2 q1)
          first
            | have d2:dec (l.length < acc2.length)=true:=An (by omega)
            | have d2:dec (l.length < acc2.length)=false:=Aj (by omega)
          simp (disch:=omega) only [go_sem,Ab,hni,hg,hc,d1,Cp,C0]
          refine ⟨(i+1,acc2),⟨k+1,by dsimp only; omega,hlt,hR1,by dsimp only; omega,by dsimp only; omega⟩,by dsimp only; omega,?_⟩
          first | done | simp (disch:=omega) only [go_sem,Ab,d2]
      · rw [zC hge,Fm.fvL] at hR
        obtain ⟨hR1,hR2,hR3⟩:=hR
        have hR1:acc=_:=hR1
        rw [←hR1]
        rcases zB l.length acc.length with q1 | q1
        · have d1:=An q1
          simp (disch:=omega) only [go_sem,Ab,hni,d1]
        · have d1:=Aj (zK.2 q1)
          simp (disch:=omega) only [go_sem,Ab,hni,d1]
    all_goals
      have hbm:((b.map fun s=>[D.str s]).map fun x=>x.map D.ot)=b.map fun s=>[OT.str s]:=by rw [zT]; rfl
      have hal:=Ep b
      have hal2:=Di b
      have hl1:(b.map fun s=>[OT.str s])++[[OT.str x.var]]=(b++[x.var]).map fun s=>[OT.str s]:=by simp
      obtain ⟨b',hb'⟩:∃ b',b'=b++[x.var]:=⟨_,rfl⟩
      have hbl:b'.length≤b.length+1:=by rw [hb']; simp
      rw [←hb'] at hl1
      rw [←hb']
      refine Ai Hn C0 (of_decide_eq_true rfl) ?_
      simp (disch:=omega) only [Fc,go_sem,Ab,ho,o8,o9,hbm,hal,hal2,hl1,zQ]
      refine go_loop (α:=Int × (List ByteArray)) (fun a=>⟨slots 66 0 [(0,(bif dec (l.length < (a.2).length) then .ref 1 else .ref 0)),(2,(bif dec (l.length < (a.2).length) then .ref 2 else .ref 1)),(4,(bif dec (l.length < (a.2).length) then .ptr 3 0 else .ptr 2 0)),(9,.int .i64 (a.1))],(bif dec (l.length < (a.2).length) then [.gone,.row 9 1 ((a.2).map fun s=>[OT.str s]),.row 9 1 (b'.map fun s=>[OT.str s]),.box 36 [.int .i64 x.op,.str x.atom.name,.arr (x.atom.args.map Tm.d),.str x.var,.arr (x.parts.map Fm.d)]] else [.row 9 1 ((a.2).map fun s=>[OT.str s]),.row 9 1 (b'.map fun s=>[OT.str s]),.box 36 [.int .i64 x.op,.str x.atom.name,.arr (x.atom.args.map Tm.d),.str x.var,.arr (x.parts.map Fm.d)]])⟩) (fun a=>∃ k:Nat,a.1=k∧k≤(x.parts).length∧BT (a.2) (Fm.fvL (x.parts.drop k) b')=BT l (Fm.fvL x.parts b')∧(a.2).length+Fm.vnS (x.parts.drop k)≤1048576∧l.length≤(a.2).length) (fun a=>(x.parts).length - (a.1).toNat) (0,l) ⟨0,rfl,zI _,by rw [zF],by rw [zF]; dsimp only; omega,yC _⟩ (by simp (disch:=omega) only [go_sem,Ab,hgl]) ?_
      rintro ⟨i,acc⟩ ⟨k,hi,hk,hR⟩
      dsimp only at hi hR
      have hni:i.toNat=k:=by omega
      have hni1:(i+1).toNat=k+1:=by omega
      rcases zB k (x.parts).length with hlt | hge
      · have hg:=get_at Fm.d hlt
        rw [Fm.d_eq] at hg
        obtain ⟨hR1,hR2,hR3⟩:=hR
        rw [zA hlt,Fm.fvL,P5] at hR1
        rw [zA hlt,Fm.vnS] at hR2
        have hnm:=Fm.nodes_le x.parts k hlt
        have hc:=ih x.parts[k] (zG hlt) acc b' (by omega) (by omega)
        have hlen:=DJ (x.parts[k].fv b') acc
        have hgr:=JR (x.parts[k].fv b') acc
        have hvl:=Fm.Ir x.parts[k] b'
        obtain ⟨acc2,ha2⟩:∃ a,a=BT acc (x.parts[k].fv b'):=⟨_,rfl⟩
        rw [←ha2] at hc hlen hgr hR1
        rcases zB l.length acc.length with q1 | q1 <;> rcases zB acc.length acc2.length with q2 | q2
        all_goals
          first
            | rw [An q2] at hc
            | rw [Aj (zK.2 q2)] at hc
          simp only [cond_true,cond_false] at hc
          first
            | have d1:=An q1
            | have d1:=Aj (zK.2 q1)
          first
            | have d2:dec (l.length < acc2.length)=true:=An (by omega)
            | have d2:dec (l.length < acc2.length)=false:=Aj (by omega)
          simp (disch:=omega) only [go_sem,Ab,hni,hg,hc,d1,Cp,C0]
          refine ⟨(i+1,acc2),⟨k+1,by dsimp only; omega,hlt,hR1,by dsimp only; omega,by dsimp only; omega⟩,by dsimp only; omega,?_⟩
          first | done | simp (disch:=omega) only [go_sem,Ab,d2]
      · rw [zC hge,Fm.fvL] at hR
        obtain ⟨hR1,hR2,hR3⟩:=hR
        have hR1:acc=_:=hR1
        rw [←hR1]
        rcases zB l.length acc.length with q1 | q1
        · have d1:=An q1
          simp (disch:=omega) only [go_sem,Ab,hni,d1]
        · have d1:=Aj (zK.2 q1)
          simp (disch:=omega) only [go_sem,Ab,hni,d1]
theorem UO (x:Fm) (hx:x.forms=true):QbR x :=
 Y7 x hx fun y hy=>UO y (Fm.Be hx hy)
termination_by SizeOf.sizeOf x
decreasing_by exact Fm.lt_of_mem hy
theorem PP (x:Fm) (hx:x.forms=true) (hv:x.vn≤1048576) (hn:x.nodes≤1048576):E 110 [x.sv] []=some (.ref 0,[.row 9 1 (x.free.map fun s=>[OT.str s])]):=by
 have h1:=UO x hx [] [] (by simpa using hv) (by simpa using hn)
 rw [zP,zP,zR] at h1
 unfold Fm.free
 have hxs:x.sv=.agg [.int .i64 x.op,.str x.atom.name,.arr (x.atom.args.map Tm.d),.str x.var,.arr (x.parts.map Fm.d)]:=rfl
 obtain ⟨ns,hns⟩:∃ ns,ns=BT [] (x.fv []):=⟨_,rfl⟩
 rw [←hns] at h1 ⊢
 rcases zB 0 ns.length with q | q
 ·rw [An q] at h1
  simp only [cond_true] at h1
  refine Ai K4 DN (of_decide_eq_true rfl) ?_
  simp (disch:=omega) only [Ho,go_sem,Ab,h1,C0]
 ·rw [Aj (by omega)] at h1
  simp only [cond_false] at h1
  refine Ai K4 DN (of_decide_eq_true rfl) ?_
  simp (disch:=omega) only [Ho,go_sem,Ab,h1,C0]
mutual
noncomputable def Fm.qs:Fm→List ByteArray
 | .mk op _ var parts=>(bif qB op then [var] else [])++Fm.qsL parts
noncomputable def Fm.qsL:List Fm→List ByteArray
 | []=>[]
 | x :: xs=>Fm.qs x++Fm.qsL xs
end
theorem Fm.UP (x:Fm):x.qs=(bif qB x.op then [x.var] else [])++Fm.qsL x.parts:=by
 obtain ⟨op,atom,var,parts⟩:=x
 rw [Fm.qs]; rfl
theorem Fm.PQ (x:Fm):x.qs.length≤x.nodes:=by
 have key:∀ xs:List Fm,(∀ y∈xs,y.qs.length≤y.nodes)→(Fm.qsL xs).length≤Fm.nodeS xs:=by
  intro xs
  induction xs with
  | nil=>intro _; simp [Fm.qsL]
  | cons y ys ih =>
   intro h
   have h1:=h y (by simp)
   have h2:=ih fun z hz=>h z (by simp [hz])
   rw [Fm.qsL,Fm.nodeS,zE]; omega
 have h:=key x.parts fun y hy=>Fm.PQ y
 rw [Fm.UP,Fm.nodes_eq,zE]
 cases qB x.op with
 | true=>simp only [cond_true,z6]; omega
 | false=>simp only [cond_false,zR]; omega
termination_by SizeOf.sizeOf x
decreasing_by exact Fm.lt_of_mem hy
noncomputable def Fm.sepd (x:Fm):Bool:=dec ((x.qs++x.free).Nodup)
theorem SK {zs:List (List UInt8)} (hs:zs.Pairwise fun x y=>x≤y):(Lib.compact zs).length=zs.length ↔ zs.Nodup:=by
  have hk:(Lib.compact zs).length=zs.length ↔ ∀ j,j<zs.length→Lib.keeps zs.toArray j=true:=by
    unfold Lib.compact Lib.compactUpTo
    rw [z7]
    have h:=List.length_filter_eq_length_iff (p:=Lib.keeps zs.toArray) (l:=List.range zs.length)
    rw [List.length_range] at h
    rw [h]
    simp only [List.mem_range]
  have at_:∀ j (h:j<zs.length),zs.toArray[j]! = zs[j]:=fun j h=>by
    rw [getElem!_pos zs.toArray j (by simpa using h)]; simp
  rw [hk]
  constructor
  · intro h
    unfold yS
    rw [zU] at hs ⊢
    intro i j hi hj hij e
    have h1:=h j hj
    unfold Lib.keeps at h1
    rw [decide_eq_true_eq,at_ j hj,at_ (j-1) (by omega)] at h1
    rcases h1 with h1 | h1
    · omega
    · refine h1 ?_
      rcases zB i (j-1) with h2 | h2
      · have a1:=hs i (j-1) hi (by omega) h2
        have a2:=hs (j-1) j (by omega) hj (by omega)
        rw [e] at a1
        exact List.le_antisymm a1 a2
      · have:i=j-1:=by omega
        subst this
        exact e.symm
  · intro h j hj
    unfold Lib.keeps
    rw [decide_eq_true_eq]
    rcases zN j with h0 | h0
    · exact .inl h0
    · right
      rw [at_ j hj,at_ (j-1) (by omega)]
      intro e
      unfold yS at h
      exact zU.1 h (j-1) j (by omega) hj (by omega) e.symm
theorem Qbd {a b:ByteArray} (h:a.toList=b.toList):a=b:=by rw [←DY a,← DY b,h]
noncomputable def Qu (l:List ByteArray):List ByteArray:=(Lib.compact (l.map (·.toList))).map fun x=>⟨x.toArray⟩
theorem Y8 (l:List ByteArray):(Qu (Io l)).length=(Io l).length ↔ l.Nodup:=by
 have e1:(Io l).map (·.toList)=srt (l.map (·.toList)):=by
  unfold Io
  rw [zT]
  have:((fun x:ByteArray=>x.toList) ∘ fun x:List UInt8=>(⟨x.toArray⟩:ByteArray))=id:=by
   funext x
   show (ByteArray.mk x.toArray).toList=x
   rw [ByteArray.toList_eq]
  rw [this,List.map_id]
 have hso:(srt (l.map (·.toList))).Pairwise fun x y=>x≤y:=by
  have:=List.pairwise_mergeSort (le:=fun x y:List UInt8=>decide (x≤y)) (fun a b c h k=>by
   rw [decide_eq_true_eq] at h k ⊢; exact List.le_trans h k) (fun a b=>by
   rw [Bool.or_eq_true,decide_eq_true_eq,decide_eq_true_eq]; exact List.le_total a b) (l.map (·.toList))
  exact this.imp fun h=>by rwa [decide_eq_true_eq] at h
 have hp:(srt (l.map (·.toList))).Perm (l.map (·.toList)):=List.mergeSort_perm _ _
 have h2:(Io l).length=(srt (l.map (·.toList))).length:=by rw [←e1,z7]
 unfold Qu
 rw [z7,e1,h2,SK hso,hp.nodup_iff]
 constructor
 ·intro h
  exact List.Pairwise.of_map (fun x:ByteArray=>x.toList) (fun a b hab e=>hab (by rw [e])) h
 ·intro h
  unfold yS at h ⊢
  rw [List.pairwise_map]
  exact h.imp fun hab e=>hab (Qbd e)
def Dv:SC:=(.seq (.reg [⟨some 1,none,.boxv 36 5 (.t 0)⟩,⟨some 2,none,.mv (.c .nil)⟩]) (.seq (.reg [⟨(some 6),none,(.mkrow 9 1 [(.str ⟨#[]⟩)] 0 [])⟩,⟨some 3,none,.mv (.t 6)⟩]) (.seq (.seq (.reg [⟨some 7,none,.faddr 0 (.t 1)⟩,⟨some 8,none,.load false 1 (.t 7)⟩,⟨some 9,none,.call 175 [(.t 8)]⟩]) (.cond (.t 9) (.reg [⟨some 10,none,.mv (.t 3)⟩,⟨some 11,none,.faddr 3 (.t 1)⟩,⟨some 12,none,.load false 1 (.t 11)⟩,⟨(some 13),none,(.mkrow 9 1 [(.str ⟨#[]⟩)] 1 [(0,(.t 12))])⟩,⟨(some 14),none,(.append 9 1 16 [(.str ⟨#[]⟩)] (.t 10) (.t 13))⟩,⟨some 3,none,.mv (.t 14)⟩]) .skip)) (.seq (.seq (.reg [⟨some 15,none,.faddr 4 (.t 1)⟩,⟨some 16,none,.load false 1 (.t 15)⟩,⟨some 17,none,.len false (.t 16)⟩,⟨some 18,none,.mv (.c (.int .i64 0))⟩]) (.block 0 (.loop [0,0,0,1,0,0,0,0,0,0,0,0,0,0,0,0,1,1,1,0,0,0,0,0,0,0,0,0] (.seq (.reg [⟨some 19,none,.bin .lss false (.t 18) (.t 17)⟩]) (.seq (.cond (.t 19) .skip (.exit 0)) (.seq (.block 1 (.seq (.reg [⟨some 20,none,.iaddr 5 (.t 16) (.t 18)⟩,⟨some 21,none,.load true 5 (.t 20)⟩,⟨(some 5),none,(.alloc 36 [(.int .i64 0),(.str ⟨#[]⟩),.nil,(.str ⟨#[]⟩),.nil])⟩,⟨none,none,(.store 5 (.t 5) (.t 21))⟩]) (.reg [⟨some 22,none,.mv (.t 3)⟩,⟨some 23,none,.load true 5 (.t 5)⟩,⟨some 24,none,.call 118 [(.t 23)]⟩,⟨(some 25),none,(.append 9 1 16 [(.str ⟨#[]⟩)] (.t 22) (.t 24))⟩,⟨some 3,none,.mv (.t 25)⟩]))) (.reg [⟨some 26,none,.bin .add false (.t 18) (.c (.int .i64 1))⟩,⟨some 18,none,.mv (.t 26)⟩]))))))) (.seq (.reg [⟨some 27,none,.mv (.t 3)⟩,⟨some 2,none,.mv (.t 27)⟩]) .ret)))))
theorem Ft:codeOf Tryz.prog 118=some ⟨28,Dv,[(.tmp 2)]⟩:=by kernel_rfl
theorem BP:modes 118=⟨[],.asis,none,false⟩:=by unfold modes; rfl
def Gu:SC:=(.seq (.reg [⟨some 1,none,.boxv 36 5 (.t 0)⟩,⟨some 2,none,.mv (.c (.bool false))⟩]) (.seq (.dreg [[],[0],[],[2,1,0],[1,0,3,2],[4,1,0,3,2]] [⟨some 4,none,.load true 5 (.t 1)⟩,⟨some 5,none,.call 118 [(.t 4)]⟩,⟨some 6,none,.load true 5 (.t 1)⟩,⟨some 7,none,.call 58 [(.t 6)]⟩,⟨(some 8),none,(.append 9 1 16 [(.str ⟨#[]⟩)] (.t 5) (.t 7))⟩,⟨some 3,none,.mv (.t 8)⟩]) (.seq (.reg [⟨some 9,none,.mv (.t 3)⟩,⟨some 10,none,.call 119 [(.t 9)]⟩]) (.seq (.reg [⟨some 11,none,.mv (.t 3)⟩,⟨some 12,none,.call 57 [(.t 11)]⟩,⟨some 13,none,.call 120 [(.t 12)]⟩,⟨some 14,none,.len false (.t 13)⟩,⟨some 15,none,.mv (.t 3)⟩,⟨some 16,none,.len false (.t 15)⟩,⟨some 17,none,.bin .eql false (.t 14) (.t 16)⟩,⟨some 2,none,.mv (.t 17)⟩]) .ret))))
theorem Le:codeOf Tryz.prog 54=some ⟨18,Gu,[(.tmp 2)]⟩:=by kernel_rfl
theorem Bn:modes 54=⟨[],.asis,none,false⟩:=by unfold modes; rfl
theorem CA:modes 120=⟨[true],.asis,some EH,false⟩:=by unfold modes; rfl
theorem WM (l:List ByteArray) (hl:l.length≤1099511627776):E 120 [.ref 0] [.row 9 1 (l.map fun s=>[OT.str s])]=some (.ref 1,[.gone,.row 9 1 ((Qu l).map fun s=>[OT.str s])]):=by
 rw [KR (g:=EH) (congrArg FM.ext CA)]
 unfold EH
 simp only
 rw [An ⟨by first | trivial | rfl,fun e he=>by obtain ⟨s,_,rfl⟩:=List.mem_map.1 he; exact ⟨s,rfl⟩,by simpa using hl⟩,cond_true]
 have e1:(l.map fun s=>[OT.str s]).map (fun e=>(GY e).toList)=l.map (·.toList):=by rw [zT]; rfl
 rw [e1]
 unfold Qu
 rw [zT]
 rfl
abbrev QsC (x:Fm):Prop:=E 118 [x.sv] []=some (.ref 0,[.row 9 1 (x.qs.map (fun s=>[OT.str s]))])
theorem Nd (x:Fm) (hn:x.nodes≤1048576) (ih:∀ y∈x.parts,QsC y):QsC x:=by
 unfold QsC
 have hpl:=Fm.length_le x.parts
 have hnq:=Fm.nodes_eq x
 have hql:=Fm.PQ x
 have hqs:=(Fm.UP x).symm
 have hxs:x.sv=.agg [.int .i64 x.op,.str x.atom.name,.arr (x.atom.args.map Tm.d),.str x.var,.arr (x.parts.map Fm.d)]:=rfl
 have hq0:=BM x.op
 cases hq:qB x.op with
 | true =>
  rw [hq,cond_true] at hqs
  unfold qB at hq
  rw [hq] at hq0
  have hz0:[[OT.str x.var]]=[x.var].map (fun s=>[OT.str s]):=rfl
  refine Ai Ft BP (of_decide_eq_true rfl) ?_
  simp (disch:=omega) only [Dv,go_sem,Ab,hq0,Ac]
  refine go_loop (α:=Int × (List ByteArray)) (fun a=>⟨slots 28 0 [(3,.ref 0),(16,.arr (x.parts.map Fm.d)),(17,.int .i64 x.parts.length),(18,.int .i64 (a.1))],[.row 9 1 ((a.2).map (fun s=>[OT.str s]))]⟩) (fun a=>∃ k:Nat,a.1=k∧k≤(x.parts).length∧(a.2)++Fm.qsL (x.parts.drop k)=x.qs) (fun a=>(x.parts).length-(a.1).toNat) (0,[x.var]) ⟨0,rfl,zI _,by rw [zF,hqs]⟩ (by simp (disch:=omega) only [go_sem,Ab]) ?_
  rintro ⟨i,acc⟩ ⟨k,hi,hk,hR⟩
  dsimp only at hi hR
  have hni:i.toNat=k:=by omega
  have hni1:(i+1).toNat=k+1:=by omega
  rcases zB k (x.parts).length with hlt | hge
  ·have hg:=get_at Fm.d hlt
   rw [Fm.d_eq] at hg
   rw [zA hlt,Fm.qsL,← zL] at hR
   have hc:=ih x.parts[k] (zG hlt)
   unfold QsC at hc
   have hps:x.parts[k].sv=.agg [.int .i64 x.parts[k].op,.str x.parts[k].atom.name,.arr (x.parts[k].atom.args.map Tm.d),.str x.parts[k].var,.arr (x.parts[k].parts.map Fm.d)]:=rfl
   rw [hps] at hc
   have hap:acc.map (fun s=>[OT.str s])++x.parts[k].qs.map (fun s=>[OT.str s])=(acc++x.parts[k].qs).map (fun s=>[OT.str s]):=by rw [zO]
   have hlen:=congrArg yF hR
   rw [zE,zE] at hlen
   have hal:=Di x.parts[k].qs
   simp (disch:=omega) only [go_sem,Ab,hni,hg,hc,hap,hal,BP]
   refine ⟨(i+1,acc++x.parts[k].qs),⟨k+1,by dsimp only; omega,hlt,hR⟩,by dsimp only; omega,?_⟩
   first | trivial | rfl | simp (disch:=omega) only [go_sem,Ab]
  ·rw [zC hge,Fm.qsL,zM] at hR
   have hR:acc=x.qs:=hR
   rw [←hR]
   simp (disch:=omega) only [go_sem,Ab,hni]
 | false =>
  rw [hq,cond_false] at hqs
  unfold qB at hq
  rw [hq] at hq0
  have hz0:([]:List ByteArray).map (fun s=>[OT.str s])=[]:=rfl
  refine Ai Ft BP (of_decide_eq_true rfl) ?_
  simp (disch:=omega) only [Dv,go_sem,Ab,hq0,Ac]
  refine go_loop (α:=Int × (List ByteArray)) (fun a=>⟨slots 28 0 [(3,.ref 0),(16,.arr (x.parts.map Fm.d)),(17,.int .i64 x.parts.length),(18,.int .i64 (a.1))],[.row 9 1 ((a.2).map (fun s=>[OT.str s]))]⟩) (fun a=>∃ k:Nat,a.1=k∧k≤(x.parts).length∧(a.2)++Fm.qsL (x.parts.drop k)=x.qs) (fun a=>(x.parts).length-(a.1).toNat) (0,[]) ⟨0,rfl,zI _,by rw [zF,hqs]⟩ (by simp (disch:=omega) only [go_sem,Ab]) ?_
  rintro ⟨i,acc⟩ ⟨k,hi,hk,hR⟩
  dsimp only at hi hR
  have hni:i.toNat=k:=by omega
  have hni1:(i+1).toNat=k+1:=by omega
  rcases zB k (x.parts).length with hlt | hge
  ·have hg:=get_at Fm.d hlt
   rw [Fm.d_eq] at hg
   rw [zA hlt,Fm.qsL,← zL] at hR
   have hc:=ih x.parts[k] (zG hlt)
   unfold QsC at hc
   have hps:x.parts[k].sv=.agg [.int .i64 x.parts[k].op,.str x.parts[k].atom.name,.arr (x.parts[k].atom.args.map Tm.d),.str x.parts[k].var,.arr (x.parts[k].parts.map Fm.d)]:=rfl
   rw [hps] at hc
   have hap:acc.map (fun s=>[OT.str s])++x.parts[k].qs.map (fun s=>[OT.str s])=(acc++x.parts[k].qs).map (fun s=>[OT.str s]):=by rw [zO]
   have hlen:=congrArg yF hR
   rw [zE,zE] at hlen
   have hal:=Di x.parts[k].qs
   simp (disch:=omega) only [go_sem,Ab,hni,hg,hc,hap,hal,BP]
   refine ⟨(i+1,acc++x.parts[k].qs),⟨k+1,by dsimp only; omega,hlt,hR⟩,by dsimp only; omega,?_⟩
   first | trivial | rfl | simp (disch:=omega) only [go_sem,Ab]
  ·rw [zC hge,Fm.qsL,zM] at hR
   have hR:acc=x.qs:=hR
   rw [←hR]
   simp (disch:=omega) only [go_sem,Ab,hni]
theorem IF (x:Fm) (hn:x.nodes≤1048576):QsC x :=
 Nd x hn fun y hy=>IF y (by have:=Fm.nodes_mem hy; have:=Fm.nodes_eq x; omega)
termination_by SizeOf.sizeOf x
decreasing_by exact Fm.lt_of_mem hy
theorem Qv (x:Fm) (hx:x.forms=true) (hv:x.vn≤100000) (hn:x.nodes≤100000):E 54 [x.sv] []=some (.bool x.sepd,[]):=by
 have h1:=IF x (by omega)
 unfold QsC at h1
 have h2:=Qah x hx (by omega) (by omega)
 have hql:=Fm.PQ x
 have hfl:=Fm.Ir x []
 have hil:=DJ (x.fv []) []
 rw [zR,yJ] at hil
 have hfr:x.free.length≤100000:=by unfold Fm.free; omega
 have ha:x.qs.map (fun s=>[OT.str s])++x.free.map (fun s=>[OT.str s])=(x.qs++x.free).map (fun s=>[OT.str s]):=by rw [zO]
 have hbf:(x.free.map fun s=>[D.str s]).map (fun x=>x.map D.ot)=x.free.map (fun s=>[OT.str s]):=by rw [zT]; rfl
 have hal:=Di x.free
 have hadl:=Ep x.free
 have hcb:=Y8 (x.qs++x.free)
 have hlen:(x.qs++x.free).length≤200000:=by rw [zE]; omega
 have h3:=Sy (x.qs++x.free) (by omega)
 have hpl:=(ML (x.qs++x.free)).length_eq
 have hsd:x.sepd=dec ((Qu (Io (x.qs++x.free))).length=(Io (x.qs++x.free)).length):=by
  unfold Fm.sepd
  rw [show ((x.qs++x.free).Nodup)=((Qu (Io (x.qs++x.free))).length=(Io (x.qs++x.free)).length) from propext hcb.symm]
 rw [hsd]
 clear hcb hsd
 have hqf:(x.qs.map (fun s=>[OT.str s])).length=x.qs.length:=z7 _
 obtain ⟨qf,hqf2⟩:∃ qf,qf=x.qs++x.free:=⟨_,rfl⟩
 rw [←hqf2] at ha hlen h3 hpl ⊢
 obtain ⟨so,hso⟩:∃ so,so=Io qf:=⟨_,rfl⟩
 rw [←hso] at h3 hpl ⊢
 have h4:=Me so (by omega)
 have h5:=WM so (by omega)
 have hdec:dec (((Qu so).length:Int)=(so.length:Int))=dec ((Qu so).length=so.length):=by
  rw [show (((Qu so).length:Int)=(so.length:Int))=((Qu so).length=so.length) from propext ⟨fun h=>by omega,fun h=>by omega⟩]
 have hxs:x.sv=.agg [.int .i64 x.op,.str x.atom.name,.arr (x.atom.args.map Tm.d),.str x.var,.arr (x.parts.map Fm.d)]:=rfl
 refine Ai Le Bn (of_decide_eq_true rfl) ?_
 simp (disch:=omega) only [Gu,go_sem,Ab,h1,h2,ha,hbf,hal,hadl,h3,h4,h5,hdec,BP,Cu,AL,Az,CA]
def E1:SC:=(.seq (.reg [⟨some 1,none,.boxv 36 5 (.t 0)⟩,⟨some 2,none,.mv (.c .nil)⟩]) (.seq (.reg [⟨(some 5),none,(.mkrow 9 1 [(.str ⟨#[]⟩)] 0 [])⟩,⟨some 3,none,.mv (.t 5)⟩]) (.seq (.seq (.reg [⟨some 6,none,.faddr 0 (.t 1)⟩,⟨some 7,none,.load false 1 (.t 6)⟩,⟨some 8,none,.bin .eql false (.t 7) (.c (.int .i64 8))⟩,⟨some 9,none,.mv (.t 8)⟩,⟨(some 10),(some (9,false)),(.faddr 0 (.t 1))⟩,⟨(some 11),(some (9,false)),(.load false 1 (.t 10))⟩,⟨(some 12),(some (9,false)),(.bin .eql false (.t 11) (.c (.int .i64 9)))⟩,⟨some 13,none,.pick (.t 9) (.c (.bool true)) (.t 12)⟩]) (.cond (.t 13) (.reg [⟨some 14,none,.mv (.t 3)⟩,⟨some 15,none,.faddr 3 (.t 1)⟩,⟨some 16,none,.load false 1 (.t 15)⟩,⟨(some 17),none,(.mkrow 9 1 [(.str ⟨#[]⟩)] 1 [(0,(.t 16))])⟩,⟨(some 18),none,(.append 9 1 16 [(.str ⟨#[]⟩)] (.t 14) (.t 17))⟩,⟨some 3,none,.mv (.t 18)⟩]) .skip)) (.seq (.seq (.reg [⟨some 4,none,.mv (.c (.int .i64 0))⟩]) (.block 0 (.loop [0,1,0,1,1,0,0,0,0,0,0,0,0,0,0,0,0,0,0,0,0,0,0,0,0,0,0,0,0,0,0,0,0,0,0] (.seq (.seq (.reg [⟨some 19,none,.mv (.t 4)⟩,⟨some 20,none,.faddr 4 (.t 1)⟩,⟨some 21,none,.load false 1 (.t 20)⟩,⟨some 22,none,.len false (.t 21)⟩,⟨some 23,none,.bin .lss false (.t 19) (.t 22)⟩]) (.cond (.t 23) .skip (.exit 0))) (.seq (.block 1 (.reg [⟨some 26,none,.mv (.t 3)⟩,⟨some 27,none,.faddr 4 (.t 1)⟩,⟨some 28,none,.load false 1 (.t 27)⟩,⟨some 29,none,.mv (.t 4)⟩,⟨some 30,none,.iaddr 5 (.t 28) (.t 29)⟩,⟨some 31,none,.load true 5 (.t 30)⟩,⟨some 32,none,.call 111 [(.t 31)]⟩,⟨(some 33),none,(.append 9 1 16 [(.str ⟨#[]⟩)] (.t 26) (.t 32))⟩,⟨some 3,none,.mv (.t 33)⟩])) (.reg [⟨some 24,none,.mv (.t 4)⟩,⟨some 25,none,.bin .add false (.t 24) (.c (.int .i64 1))⟩,⟨some 4,none,.mv (.t 25)⟩])))))) (.seq (.reg [⟨some 34,none,.mv (.t 3)⟩,⟨some 2,none,.mv (.t 34)⟩]) .ret)))))
theorem Gv:codeOf Tryz.prog 111=some ⟨35,E1,[(.tmp 2)]⟩:=by kernel_rfl
theorem Ci:modes 111=⟨[],.frz,none,false⟩:=by unfold modes; rfl
def Gw:SC:=(.seq (.reg [⟨some 1,none,.boxv 36 5 (.t 0)⟩,⟨some 2,none,.mv (.c (.bool false))⟩]) (.seq (.reg [⟨some 6,none,.load true 5 (.t 1)⟩,⟨some 7,none,.call 110 [(.t 6)]⟩,⟨some 3,none,.mv (.t 7)⟩]) (.seq (.reg [⟨some 8,none,.load true 5 (.t 1)⟩,⟨some 9,none,.call 111 [(.t 8)]⟩,⟨some 4,none,.mv (.t 9)⟩]) (.seq (.seq (.reg [⟨some 5,none,.mv (.c (.int .i64 0))⟩]) (.block 0 (.loop [0,0,0,1,1,1,0,0,0,0,0,0,0,0,0,0,0,0,0,0,0,0,0,0,0,0,0,0,0] (.seq (.seq (.reg [⟨some 10,none,.mv (.t 5)⟩,⟨some 11,none,.mv (.t 4)⟩,⟨some 12,none,.len false (.t 11)⟩,⟨some 13,none,.bin .lss false (.t 10) (.t 12)⟩]) (.cond (.t 13) .skip (.exit 0))) (.seq (.block 1 (.seq (.seq (.reg [⟨some 16,none,.mv (.t 3)⟩,⟨some 17,none,.mv (.t 4)⟩,⟨some 18,none,.mv (.t 5)⟩,⟨some 19,none,.iaddr 1 (.t 17) (.t 18)⟩,⟨some 20,none,.load false 1 (.t 19)⟩,⟨some 21,none,.call 112 [(.t 16),(.t 20)]⟩]) (.cond (.t 21) (.seq (.reg [⟨some 2,none,.mv (.c (.bool false))⟩]) .ret) .skip)) (.reg [⟨some 22,none,.mv (.t 3)⟩,⟨some 23,none,.mv (.t 4)⟩,⟨some 24,none,.mv (.t 5)⟩,⟨some 25,none,.iaddr 1 (.t 23) (.t 24)⟩,⟨some 26,none,.load false 1 (.t 25)⟩,⟨(some 27),none,(.mkrow 9 1 [(.str ⟨#[]⟩)] 1 [(0,(.t 26))])⟩,⟨(some 28),none,(.append 9 1 16 [(.str ⟨#[]⟩)] (.t 22) (.t 27))⟩,⟨some 3,none,.mv (.t 28)⟩]))) (.reg [⟨some 14,none,.mv (.t 5)⟩,⟨some 15,none,.bin .add false (.t 14) (.c (.int .i64 1))⟩,⟨some 5,none,.mv (.t 15)⟩])))))) (.seq (.reg [⟨some 2,none,.mv (.c (.bool true))⟩]) .ret)))))
theorem Lf:codeOf Tryz.prog 50=some ⟨29,Gw,[(.tmp 2)]⟩:=by kernel_rfl
theorem Bo:modes 50=⟨[],.asis,none,false⟩:=by unfold modes; rfl
abbrev QbC (x:Fm):Prop:=E 111 [x.sv] []=some (.arr (x.qs.map fun s=>[D.str s]),[])
theorem WN (x:Fm) (hn:x.nodes≤1048576) (ih:∀ y∈x.parts,QbC y):QbC x:=by
  unfold QbC
  have hpl:=Fm.length_le x.parts
  have hnq:=Fm.nodes_eq x
  have hql:=Fm.PQ x
  have hqs:=(Fm.UP x).symm
  have hxs:x.sv=.agg [.int .i64 x.op,.str x.atom.name,.arr (x.atom.args.map Tm.d),.str x.var,.arr (x.parts.map Fm.d)]:=rfl
  cases hq:qB x.op with
  | true =>
    rw [hq,cond_true] at hqs
    have hz0:[[OT.str x.var]]=[x.var].map (fun s=>[OT.str s]):=rfl
    rcases hq8:dec (x.op=8) with _ | _
    · have hq9:dec (x.op=9)=true:=by unfold qB at hq; rw [hq8,zX] at hq; exact hq
      refine Ai Gv Ci (of_decide_eq_true rfl) ?_
      simp (disch:=omega) only [E1,go_sem,Ab,hq8,hq9]
      refine go_loop (α:=Int × (List ByteArray)) (fun a=>⟨slots 35 0 [(1,.ptr 0 0),(3,.ref 1),(4,.int .i64 (a.1))],[.box 36 [.int .i64 x.op,.str x.atom.name,.arr (x.atom.args.map Tm.d),.str x.var,.arr (x.parts.map Fm.d)],.row 9 1 ((a.2).map (fun s=>[OT.str s]))]⟩) (fun a=>∃ k:Nat,a.1=k∧k≤(x.parts).length∧(a.2)++Fm.qsL (x.parts.drop k)=x.qs) (fun a=>(x.parts).length-(a.1).toNat) (0,[x.var]) ⟨0,rfl,zI _,by rw [zF,hqs]⟩ (by simp (disch:=omega) only [go_sem,Ab]) ?_
      rintro ⟨i,acc⟩ ⟨k,hi,hk,hR⟩
      dsimp only at hi hR
      have hni:i.toNat=k:=by omega
      have hni1:(i+1).toNat=k+1:=by omega
      rcases zB k (x.parts).length with hlt | hge
      · have hg:=get_at Fm.d hlt
        rw [Fm.d_eq] at hg
        rw [zA hlt,Fm.qsL,← zL] at hR
        have hc:=ih x.parts[k] (zG hlt)
        unfold QbC at hc
        have hps:x.parts[k].sv=.agg [.int .i64 x.parts[k].op,.str x.parts[k].atom.name,.arr (x.parts[k].atom.args.map Tm.d),.str x.parts[k].var,.arr (x.parts[k].parts.map Fm.d)]:=rfl
        rw [hps] at hc
        have hap:acc.map (fun s=>[OT.str s])++x.parts[k].qs.map (fun s=>[OT.str s])=(acc++x.parts[k].qs).map (fun s=>[OT.str s]):=by rw [zO]
        have hbf:(x.parts[k].qs.map fun s=>[D.str s]).map (fun x=>x.map D.ot)=x.parts[k].qs.map (fun s=>[OT.str s]):=by rw [zT]; rfl
        have hlen:=congrArg yF hR
        rw [zE,zE] at hlen
        have hal:=Di x.parts[k].qs
        have hadl:=Ep x.parts[k].qs
        simp (disch:=omega) only [go_sem,Ab,hni,hg,hc,hap,hbf,hal,hadl,Ci]
        refine ⟨(i+1,acc++x.parts[k].qs),⟨k+1,by dsimp only; omega,hlt,hR⟩,by dsimp only; omega,?_⟩
        first | trivial | rfl | simp (disch:=omega) only [go_sem,Ab]
      · rw [zC hge,Fm.qsL,zM] at hR
        have hR:acc=x.qs:=hR
        rw [←hR]
        simp (disch:=omega) only [go_sem,Ab,hni]
    · refine Ai Gv Ci (of_decide_eq_true rfl) ?_
      simp (disch:=omega) only [E1,go_sem,Ab,hq8]
      refine go_loop (α:=Int × (List ByteArray)) (fun a=>⟨slots 35 0 [(1,.ptr 0 0),(3,.ref 1),(4,.int .i64 (a.1))],[.box 36 [.int .i64 x.op,.str x.atom.name,.arr (x.atom.args.map Tm.d),.str x.var,.arr (x.parts.map Fm.d)],.row 9 1 ((a.2).map (fun s=>[OT.str s]))]⟩) (fun a=>∃ k:Nat,a.1=k∧k≤(x.parts).length∧(a.2)++Fm.qsL (x.parts.drop k)=x.qs) (fun a=>(x.parts).length-(a.1).toNat) (0,[x.var]) ⟨0,rfl,zI _,by rw [zF,hqs]⟩ (by simp (disch:=omega) only [go_sem,Ab]) ?_
      rintro ⟨i,acc⟩ ⟨k,hi,hk,hR⟩
      dsimp only at hi hR
      have hni:i.toNat=k:=by omega
      have hni1:(i+1).toNat=k+1:=by omega
      rcases zB k (x.parts).length with hlt | hge
      · have hg:=get_at Fm.d hlt
        rw [Fm.d_eq] at hg
        rw [zA hlt,Fm.qsL,← zL] at hR
        have hc:=ih x.parts[k] (zG hlt)
        unfold QbC at hc
        have hps:x.parts[k].sv=.agg [.int .i64 x.parts[k].op,.str x.parts[k].atom.name,.arr (x.parts[k].atom.args.map Tm.d),.str x.parts[k].var,.arr (x.parts[k].parts.map Fm.d)]:=rfl
        rw [hps] at hc
        have hap:acc.map (fun s=>[OT.str s])++x.parts[k].qs.map (fun s=>[OT.str s])=(acc++x.parts[k].qs).map (fun s=>[OT.str s]):=by rw [zO]
        have hbf:(x.parts[k].qs.map fun s=>[D.str s]).map (fun x=>x.map D.ot)=x.parts[k].qs.map (fun s=>[OT.str s]):=by rw [zT]; rfl
        have hlen:=congrArg yF hR
        rw [zE,zE] at hlen
        have hal:=Di x.parts[k].qs
        have hadl:=Ep x.parts[k].qs
        simp (disch:=omega) only [go_sem,Ab,hni,hg,hc,hap,hbf,hal,hadl,Ci]
        refine ⟨(i+1,acc++x.parts[k].qs),⟨k+1,by dsimp only; omega,hlt,hR⟩,by dsimp only; omega,?_⟩
        first | trivial | rfl | simp (disch:=omega) only [go_sem,Ab]
      · rw [zC hge,Fm.qsL,zM] at hR
        have hR:acc=x.qs:=hR
        rw [←hR]
        simp (disch:=omega) only [go_sem,Ab,hni]
  | false =>
    rw [hq,cond_false] at hqs
    unfold qB at hq
    rw [Bool.or_eq_false_iff] at hq
    obtain ⟨hq8,hq9⟩:=hq
    have hz0:([]:List ByteArray).map (fun s=>[OT.str s])=[]:=rfl
    refine Ai Gv Ci (of_decide_eq_true rfl) ?_
    simp (disch:=omega) only [E1,go_sem,Ab,hq8,hq9]
    refine go_loop (α:=Int × (List ByteArray)) (fun a=>⟨slots 35 0 [(1,.ptr 0 0),(3,.ref 1),(4,.int .i64 (a.1))],[.box 36 [.int .i64 x.op,.str x.atom.name,.arr (x.atom.args.map Tm.d),.str x.var,.arr (x.parts.map Fm.d)],.row 9 1 ((a.2).map (fun s=>[OT.str s]))]⟩) (fun a=>∃ k:Nat,a.1=k∧k≤(x.parts).length∧(a.2)++Fm.qsL (x.parts.drop k)=x.qs) (fun a=>(x.parts).length-(a.1).toNat) (0,[]) ⟨0,rfl,zI _,by rw [zF,hqs]⟩ (by simp (disch:=omega) only [go_sem,Ab]) ?_
    rintro ⟨i,acc⟩ ⟨k,hi,hk,hR⟩
    dsimp only at hi hR
    have hni:i.toNat=k:=by omega
    have hni1:(i+1).toNat=k+1:=by omega
    rcases zB k (x.parts).length with hlt | hge
    · have hg:=get_at Fm.d hlt
      rw [Fm.d_eq] at hg
      rw [zA hlt,Fm.qsL,← zL] at hR
      have hc:=ih x.parts[k] (zG hlt)
      unfold QbC at hc
      have hps:x.parts[k].sv=.agg [.int .i64 x.parts[k].op,.str x.parts[k].atom.name,.arr (x.parts[k].atom.args.map Tm.d),.str x.parts[k].var,.arr (x.parts[k].parts.map Fm.d)]:=rfl
      rw [hps] at hc
      have hap:acc.map (fun s=>[OT.str s])++x.parts[k].qs.map (fun s=>[OT.str s])=(acc++x.parts[k].qs).map (fun s=>[OT.str s]):=by rw [zO]
      have hbf:(x.parts[k].qs.map fun s=>[D.str s]).map (fun x=>x.map D.ot)=x.parts[k].qs.map (fun s=>[OT.str s]):=by rw [zT]; rfl
      have hlen:=congrArg yF hR
      rw [zE,zE] at hlen
      have hal:=Di x.parts[k].qs
      have hadl:=Ep x.parts[k].qs
      simp (disch:=omega) only [go_sem,Ab,hni,hg,hc,hap,hbf,hal,hadl,Ci]
      refine ⟨(i+1,acc++x.parts[k].qs),⟨k+1,by dsimp only; omega,hlt,hR⟩,by dsimp only; omega,?_⟩
      first | trivial | rfl | simp (disch:=omega) only [go_sem,Ab]
    · rw [zC hge,Fm.qsL,zM] at hR
      have hR:acc=x.qs:=hR
      rw [←hR]
      simp (disch:=omega) only [go_sem,Ab,hni]
theorem R9 (x:Fm) (hn:x.nodes≤1048576):QbC x :=
 WN x hn fun y hy=>R9 y (by have:=Fm.nodes_mem hy; have:=Fm.nodes_eq x; omega)
termination_by SizeOf.sizeOf x
decreasing_by exact Fm.lt_of_mem hy
theorem WO (x:Fm):x.free.Nodup:=by
 unfold Fm.free
 rw [←MM,(ML _).nodup_iff]
 exact KY List.nodup_nil
theorem Y9 (x:Fm):x.sepd=dec ((x.free++x.qs).Nodup):=by
 unfold Fm.sepd
 rw [show ((x.qs++x.free).Nodup)=((x.free++x.qs).Nodup) from propext List.perm_append_comm.nodup_iff]
theorem Qw (x:Fm) (hx:x.forms=true) (hv:x.vn≤100000) (hn:x.nodes≤100000):E 50 [x.sv] []=some (.bool x.sepd,[]):=by
  have h1:=R9 x (by omega)
  unfold QbC at h1
  have h2:=PP x hx (by omega) (by omega)
  have hql:=Fm.PQ x
  have hfl:=Fm.Ir x []
  have hil:=DJ (x.fv []) []
  rw [zR,yJ] at hil
  have hfr:x.free.length≤100000:=by unfold Fm.free; omega
  have hfn:=WO x
  rw [Y9]
  obtain ⟨fr,hfr2⟩:∃ fr,fr=x.free:=⟨_,rfl⟩
  obtain ⟨qs,hqs2⟩:∃ qs,qs=x.qs:=⟨_,rfl⟩
  rw [←hfr2] at h2 hfr hfn ⊢
  rw [←hqs2] at h1 hql ⊢
  have hxs:x.sv=.agg [.int .i64 x.op,.str x.atom.name,.arr (x.atom.args.map Tm.d),.str x.var,.arr (x.parts.map Fm.d)]:=rfl
  refine Ai Lf Bo (of_decide_eq_true rfl) ?_
  simp (disch:=omega) only [Gw,go_sem,Ab,h1,h2,Ci,DN]
  refine go_loop (α:=Int × (List ByteArray)) (fun a=>⟨slots 29 0 [(3,.ref 0),(4,.arr (qs.map fun s=>[D.str s])),(5,.int .i64 (a.1))],[.row 9 1 ((a.2).map (fun s=>[OT.str s]))]⟩) (fun a=>∃ k:Nat,a.1=k∧k≤(qs).length∧(a.2)++qs.drop k=fr++qs∧(a.2).length≤100000+k∧(a.2).Nodup) (fun a=>(qs).length-(a.1).toNat) (0,fr) ⟨0,rfl,zI _,by rw [zF],by dsimp only; omega,hfn⟩ (by simp (disch:=omega) only [go_sem,Ab]) ?_
  rintro ⟨i,acc⟩ ⟨k,hi,hk,hR⟩
  dsimp only at hi hR
  have hni:i.toNat=k:=by omega
  have hni1:(i+1).toNat=k+1:=by omega
  rcases zB k (qs).length with hlt | hge
  · have hg:=get_at (fun s=>[D.str s]) hlt
    obtain ⟨hR1,hR2,hR3⟩:=hR
    have hin:=WL acc qs[k] (by omega)
    by_cases hm:qs[k]∈acc
    · rw [An hm] at hin
      have hno:dec ((fr++qs).Nodup)=false:=Aj fun h=>by
        rw [←hR1,zA hlt,List.nodup_append] at h
        exact h.2.2 qs[k] hm qs[k] List.mem_cons_self rfl
      rw [hno]
      have hap:True:=trivial
      simp (disch:=omega) only [go_sem,Ab,hni,hg,hin,hap,Du]
    · rw [Aj hm] at hin
      have hap:acc.map (fun s=>[OT.str s])++[[OT.str qs[k]]]=(acc++[qs[k]]).map (fun s=>[OT.str s]):=by simp
      simp (disch:=omega) only [go_sem,Ab,hni,hg,hin,hap,Du]
      refine ⟨(i+1,acc++[qs[k]]),⟨k+1,by dsimp only; omega,hlt,by rw [zL,← hR1,zA hlt]; rfl,by simp; omega,?_⟩,by dsimp only; omega,?_⟩
      · rw [List.nodup_append]
        exact ⟨hR3,by simp,fun a ha b hb e=>hm (by simp at hb; rw [←hb,← e]; exact ha)⟩
      · simp (disch:=omega) only [go_sem,Ab]
  · obtain ⟨hR1,hR2,hR3⟩:=hR
    rw [zC hge,zM] at hR1
    rw [←hR1,An hR3]
    simp (disch:=omega) only [go_sem,Ab,hni]
def Ix:SC:=(.seq (.reg [⟨(some 2),none,(.mv (.c (.str ⟨#[]⟩)))⟩]) (.seq (.seq (.reg [⟨some 3,none,.mv (.t 0)⟩,⟨some 4,none,.bin .lss false (.t 3) (.c (.int .i64 0))⟩]) (.cond (.t 4) (.seq (.reg [⟨some 5,none,.mv (.t 0)⟩,⟨some 6,none,.un .neg (.t 5)⟩,⟨some 7,none,.call 190 [(.t 6)]⟩,⟨(some 8),none,(.bin .add false (.c (.str ⟨#[45]⟩)) (.t 7))⟩,⟨some 2,none,.mv (.t 8)⟩]) .ret) .skip)) (.seq (.seq (.reg [⟨some 9,none,.mv (.t 0)⟩,⟨some 10,none,.bin .lss false (.t 9) (.c (.int .i64 10))⟩]) (.cond (.t 10) (.seq (.reg [⟨some 11,none,.mv (.t 0)⟩,⟨some 12,none,.mv (.t 0)⟩,⟨some 13,none,.bin .add false (.t 12) (.c (.int .i64 1))⟩,⟨(some 14),none,(.slice true 0 (.c (.str ⟨#[48,49,50,51,52,53,54,55,56,57]⟩)) (some (.t 11)) (some (.t 13)))⟩,⟨some 2,none,.mv (.t 14)⟩]) .ret) .skip)) (.seq (.dreg [[],[0],[1,0],[],[3],[],[5],[6,5],[4,3,7,6,5],[2,1,0,8,4,3,7,6,5],[9,2,1,0,8,4,3,7,6,5]] [⟨some 15,none,.mv (.t 0)⟩,⟨some 16,none,.bin .quo false (.t 15) (.c (.int .i64 10))⟩,⟨some 17,none,.call 190 [(.t 16)]⟩,⟨some 18,none,.mv (.t 0)⟩,⟨some 19,none,.bin .rem false (.t 18) (.c (.int .i64 10))⟩,⟨some 20,none,.mv (.t 0)⟩,⟨some 21,none,.bin .rem false (.t 20) (.c (.int .i64 10))⟩,⟨some 22,none,.bin .add false (.t 21) (.c (.int .i64 1))⟩,⟨(some 23),none,(.slice true 0 (.c (.str ⟨#[48,49,50,51,52,53,54,55,56,57]⟩)) (some (.t 19)) (some (.t 22)))⟩,⟨some 24,none,.bin .add false (.t 17) (.t 23)⟩,⟨some 2,none,.mv (.t 24)⟩]) .ret))))
theorem Mg:codeOf Tryz.prog 190=some ⟨25,Ix,[(.tmp 2)]⟩:=by kernel_rfl
theorem E2:modes 190=⟨[],.asis,none,false⟩:=by unfold modes; rfl
theorem Qbt (d:Nat) (h:d<10):(⟨#[48,49,50,51,52,53,54,55,56,57]⟩:ByteArray).extract d (d+1)=⟨#[UInt8.ofNat (48+d)]⟩:=by
 have key:∀ d:_root_.Fin 10,(⟨#[48,49,50,51,52,53,54,55,56,57]⟩:ByteArray).extract d.val (d.val+1)=⟨#[UInt8.ofNat (48+d.val)]⟩:=by decide +kernel
 exact key ⟨d,h⟩
theorem Qan (n:Int) (h0:0≤n) (h1:n≤1099511627776) (ih:10≤n→E 190 [.int .i64 (n.tdiv 10)] []=some (.str (Jd (n.tdiv 10)),[])):E 190 [.int .i64 n] []=some (.str (Jd n),[]):=by
 have hsz:(⟨#[48,49,50,51,52,53,54,55,56,57]⟩:ByteArray).size=10:=rfl
 rcases Int.lt_or_le n 10 with h | h
 ·have e1:=Qbt n.toNat (by omega)
  have e2:(n+1).toNat=n.toNat+1:=by omega
  rw [Wu h0 h]
  refine Ai Mg E2 (of_decide_eq_true rfl) ?_
  simp (disch:=omega) only [Ix,go_sem,Ab,e1,e2,hsz]
 ·have hc:=ih h
  have hq:n.tdiv 10=n / 10:=zZ h0
  have hr:n.tmod 10=n % 10:=Int.tmod_eq_emod_of_nonneg h0
  have hq2:0≤n.tdiv 10∧n.tdiv 10≤n:=by omega
  have hr2:0≤n.tmod 10∧n.tmod 10<10:=by omega
  have hs:=JL hq2.1 (by omega:n.tdiv 10≤1099511627776)
  have e1:=Qbt (n.tmod 10).toNat (by omega)
  have e2:(n.tmod 10+1).toNat=(n.tmod 10).toNat+1:=by omega
  rw [ZC h]
  clear hq hr
  have hs1:(⟨#[UInt8.ofNat (48+(n.tmod 10).toNat)]⟩:ByteArray).size=1:=rfl
  refine Ai Mg E2 (of_decide_eq_true rfl) ?_
  simp (disch:=omega) only [Ix,go_sem,Ab,hc,e1,e2,hsz,hs1,E2]
theorem XJ (n:Int) (h0:0≤n) (h1:n≤1099511627776):E 190 [.int .i64 n] []=some (.str (Jd n),[]) :=
 Qan n h0 h1 fun h=>XJ (n.tdiv 10) (by rw [zZ h0]; omega) (by rw [zZ h0]; omega)
termination_by n.toNat
decreasing_by rw [zZ h0]; omega
def F5:SC:=(.seq (.reg [⟨(some 2),none,(.mv (.c (.str ⟨#[]⟩)))⟩]) (.block 0 (.loop [1,0,0,0,0,0,0,0,0,0,0,0,0,0,0,0,0,0,0,0,0,0,0,0,0,0,0,0,0] (.block 1 (.seq (.reg [⟨some 4,none,.mv (.t 0)⟩,⟨some 5,none,.nilchk (.t 4)⟩,⟨some 6,none,.faddr 1 (.t 5)⟩,⟨some 7,none,.load false 1 (.t 6)⟩,⟨some 8,none,.bin .add false (.t 7) (.c (.int .i64 1))⟩,⟨some 9,none,.nilchk (.t 4)⟩,⟨some 10,none,.faddr 1 (.t 9)⟩,⟨none,none,(.store 1 (.t 10) (.t 8))⟩]) (.seq (.dreg [[],[0],[1,0],[2,1,0],[],[4],[5,4],[6,5,4],[7,6,5,4],[3,2,1,0,8,7,6,5,4],[9,3,2,1,0,8,7,6,5,4]] [⟨some 11,none,.mv (.t 0)⟩,⟨some 12,none,.nilchk (.t 11)⟩,⟨some 13,none,.faddr 0 (.t 12)⟩,⟨some 14,none,.load false 1 (.t 13)⟩,⟨some 15,none,.mv (.t 0)⟩,⟨some 16,none,.nilchk (.t 15)⟩,⟨some 17,none,.faddr 1 (.t 16)⟩,⟨some 18,none,.load false 1 (.t 17)⟩,⟨some 19,none,.call 190 [(.t 18)]⟩,⟨some 20,none,.bin .add false (.t 14) (.t 19)⟩,⟨some 3,none,.mv (.t 20)⟩]) (.seq (.reg [⟨some 21,none,.mv (.t 0)⟩,⟨some 22,none,.nilchk (.t 21)⟩,⟨some 23,none,.faddr 2 (.t 22)⟩,⟨some 24,none,.load false 1 (.t 23)⟩,⟨some 25,none,.mv (.t 3)⟩,⟨some 26,none,.call 112 [(.t 24),(.t 25)]⟩,⟨some 27,none,.un .not (.t 26)⟩]) (.cond (.t 27) (.seq (.reg [⟨some 28,none,.mv (.t 3)⟩,⟨some 2,none,.mv (.t 28)⟩]) .ret) .skip))))))))
theorem Kd:codeOf Tryz.prog 136=some ⟨29,F5,[(.tmp 2)]⟩:=by kernel_rfl
theorem F6:modes 136=⟨[],.asis,none,false⟩:=by unfold modes; rfl
theorem QbS (p:ByteArray) (hp:p.size≤1000) (tk:List ByteArray) (c:Int) (h0:0≤c) (hc:c+tk.length≤1099511600000):E 136 [.ptr 0 0] [.box 103 [.str p,.int .i64 c,.ref 1],.row 9 1 (tk.map fun s=>[OT.str s])]=some (.str (pre p (fresh p tk c)),[.box 103 [.str p,.int .i64 (fresh p tk c),.ref 1],.row 9 1 (tk.map fun s=>[OT.str s])]):=by
 have hfr:=CG p tk c
 refine Ai Kd F6 (of_decide_eq_true rfl) ?_
 simp (disch:=omega) only [F5,go_sem,Ab]
 refine go_loop (α:=Int) (fun a=>⟨slots 29 0 [(0,.ptr 0 0)],[.box 103 [.str p,.int .i64 a,.ref 1],.row 9 1 (tk.map fun s=>[OT.str s])]⟩) (fun a=>c≤a∧fresh p tk a=fresh p tk c) (fun a=>beyond p tk a) c ⟨Int.le_refl _,rfl⟩ (by simp (disch:=omega) only [go_sem,Ab]) ?_
 rintro a ⟨ha,hR⟩
 have hfa:=CG p tk a
 rw [hR] at hfa
 have hit:=XJ (a+1) (by omega) (by omega)
 have hns:=JL (show 0≤a+1 by omega) (by omega:a+1≤1099511627776)
 have hpre:p++Jd (a+1)=pre p (a+1):=rfl
 have hcn:=WL tk (pre p (a+1)) (by omega)
 by_cases hm:pre p (a+1)∈tk
 ·rw [An hm] at hcn
  simp (disch:=omega) only [go_sem,Ab,hit,hpre,hcn,Cp,E2,Du]
  exact ⟨a+1,⟨by omega,by rw [←Rh (by omega) hm]; exact hR⟩,JO (by omega) hm,by first | trivial | rfl | exact ⟨rfl,rfl⟩⟩
 ·rw [Aj hm] at hcn
  have hnew:=Ri hm
  rw [hR] at hnew
  rw [hnew]
  simp (disch:=omega) only [go_sem,Ab,hit,hpre,hcn,Cp,E2,Du]
theorem Mh {b c:Bd} {xs:List Bd}:c∈D9 xs b ↔ c=b∨c∈xs:=by rw [(HJ b xs).mem_iff,yI]
theorem XK {xs:List Bd} (hs:KZ xs) {b:Bd} (hn:∀ c∈xs,c.var≠b.var):KZ (D9 xs b):=by
 have h1:xs.Pairwise fun x y=>MN x y=true:=by
  rw [zU]
  intro i j hi hj hij
  unfold MN
  rw [Jk (hs i j hij hj)]; rfl
 have h2:=N2 b xs h1
 have h3:((D9 xs b).map Bd.var).Nodup:=by
  rw [((HJ b xs).map Bd.var).nodup_iff,zS,List.nodup_cons]
  exact ⟨fun h=>by
   obtain ⟨c,hc,e⟩:=List.mem_map.1 h
   exact hn c hc e,P9 hs⟩
 intro j k hjk hk
 have a1:=zU.1 h2 j k (by omega) hk hjk
 unfold MN at a1
 have a2:strLt (D9 xs b)[k].var (D9 xs b)[j].var=false:=by simpa using a1
 cases a3:strLt (D9 xs b)[j].var (D9 xs b)[k].var with
 | true=>rfl
 | false =>
  have e:=GD a3 a2
  unfold yS at h3
  have h4:=zU.1 h3 j k (by rw [z7]; omega) (by rw [z7]; exact hk) hjk
  simp only [List.getElem_map] at h4
  exact absurd e h4
theorem Qao {s:Sb} (hs:KZ s.binds) {n:ByteArray} {t:Tm} (hn:s.look n=none):(Sb.mk (D9 s.binds ⟨n,t⟩)).look=Iu s.look n t:=by
 have hk:=(Sb.HT hs).1 hn
 have hu:KZ (D9 s.binds ⟨n,t⟩):=XK hs hk
 funext q
 unfold Iu
 by_cases hq:q=n
 ·subst hq
  rw [An rfl,cond_true]
  exact Sb.Jy (s:=⟨D9 s.binds ⟨q,t⟩⟩) (b:=⟨q,t⟩) hu (Mh.2 (.inl rfl))
 ·rw [Aj hq,cond_false]
  cases h:s.look q with
  | none =>
   rw [Sb.HT (s:=⟨D9 s.binds ⟨n,t⟩⟩) hu]
   intro b hb
   rcases Mh.1 hb with rfl | hb
   ·exact fun e=>hq e.symm
   ·exact (Sb.HT hs).1 h b hb
  | some u=>exact Sb.Jy (s:=⟨D9 s.binds ⟨n,t⟩⟩) (b:=⟨q,u⟩) hu (Mh.2 (.inr (Sb.U4 h)))
theorem YA (n:Int):AO (pre Bm n)=false:=by
 cases h:AO (pre Bm n) with
 | false=>rfl
 | true =>
  unfold AO at h
  rw [yH] at h
  have hsz:0<(pre Bm n).size:=by unfold pre; rw [ByteArray.size_append]; show 0<2+_; omega
  have h0:=Gd h.1 hsz
  have hb:FT (pre Bm n) 0=115:=by
   unfold FT pre
   rw [ByteArray.toList_eq,ByteArray.data_append,Array.toList_append]
   rfl
  unfold H3 NH at h0
  rw [hb] at h0
  simp at h0
theorem Sb.Qbe {s:Sb} {m:Nat} (hm:m≤1099511627776) (hs:KZ s.binds) (hl:s.binds.length≤1099511627776) (he:TB m s.look):s.tame:=⟨hl,fun b hb=>by have:=(he _ _ (Sb.Jy hs hb)).1; omega⟩
theorem UQ {x y:Fm} (hy:y∈x.parts):(∀ v∈y.qs,v∈x.qs)∧(x.qs.Nodup→y.qs.Nodup):=by
 have key:∀ xs:List Fm,y∈xs→y.qs.Sublist (Fm.qsL xs):=by
  intro xs
  induction xs with
  | nil=>intro h; cases h
  | cons z zs ih =>
   intro h
   rw [Fm.qsL]
   rcases yI.1 h with rfl | h
   ·exact List.sublist_append_left _ _
   ·exact (ih h).trans (yK _ _)
 have h:=key x.parts hy
 have h2:y.qs.Sublist x.qs:=by rw [Fm.UP x]; exact h.trans (yK _ _)
 exact ⟨fun v hv=>h2.subset hv,fun hn=>h2.nodup hn⟩
def CY:SC:=(.seq (.reg [⟨some 4,none,.boxv 36 5 (.t 0)⟩,⟨some 7,none,.boxv 142 1 (.t 3)⟩,⟨(some 8),none,(.alloc 36 [(.int .i64 0),(.str ⟨#[]⟩),.nil,(.str ⟨#[]⟩),.nil])⟩]) (.seq (.seq (.reg [⟨some 13,none,.faddr 0 (.t 4)⟩,⟨some 14,none,.load false 1 (.t 13)⟩]) (.block 0 (.seq (.reg [⟨some 16,none,.bin .eql false (.t 14) (.c (.int .i64 3))⟩,⟨some 15,none,.mv (.t 16)⟩]) (.cond (.t 15) (.seq (.dreg [[],[0],[],[],[3],[2,4,3],[1,0,5,2,4,3],[6,1,0,5,2,4,3]] [⟨some 17,none,.faddr 0 (.t 4)⟩,⟨some 18,none,.load false 1 (.t 17)⟩,⟨some 19,none,.load true 1 (.t 7)⟩,⟨some 20,none,.faddr 1 (.t 4)⟩,⟨some 21,none,.load true 2 (.t 20)⟩,⟨some 22,none,.call 173 [(.t 19),(.t 21)]⟩,⟨(some 23),none,(.build [(.int .i64 0),(.str ⟨#[]⟩),.nil,(.str ⟨#[]⟩),.nil] [(0,(1,(.t 18))),(1,(2,(.t 22)))])⟩,⟨none,none,(.store 5 (.t 8) (.t 23))⟩]) .ret) (.seq (.reg [⟨some 25,none,.bin .eql false (.t 14) (.c (.int .i64 9))⟩,⟨some 24,none,.mv (.t 25)⟩]) (.cond (.t 24) (.seq (.reg [⟨some 26,none,.mv (.t 1)⟩,⟨some 27,none,.call 136 [(.t 26)]⟩,⟨(some 28),none,(.build [(.str ⟨#[]⟩),.nil] [(0,(1,(.t 27)))])⟩,⟨(some 9),none,(.alloc 33 [(.str ⟨#[]⟩),.nil])⟩,⟨none,none,(.store 2 (.t 9) (.t 28))⟩]) (.seq (.seq (.reg [⟨some 10,none,.mv (.c (.int .i64 0))⟩]) (.block 1 (.loop [0,1,1,0,1,0,0,1,1,1,1,0,0,0,0,0,0,0,0,0,0,0,0,0,0,0,0,0,0,0,0,0,0,0,0,0,0,0,0,0,0,0,0,0,0,0,0,0,0,0,0,0,0,0,0,0,0,0,0,0,0,0,0,0,0,0,0,0,0,0,0,0,0,0,0,0,0,0,0,0,0,0,0,0,0,0,0,0,0,0,0,0,0] (.seq (.seq (.reg [⟨some 29,none,.mv (.t 10)⟩,⟨some 30,none,.mv (.t 2)⟩,⟨some 31,none,.len false (.t 30)⟩,⟨some 32,none,.bin .lss false (.t 29) (.t 31)⟩]) (.cond (.t 32) .skip (.exit 1))) (.seq (.block 2 (.dreg [[],[0],[],[],[2,3],[4,2,3],[5,4,2,3],[6,5,4,2,3],[1,0,7,6,5,4,2,3],[0,1,2,3,4,5,6,7,8],[9,0,1,2,3,4,5,6,7,8]] [⟨some 35,none,.faddr 1 (.t 9)⟩,⟨some 36,none,.load false 1 (.t 35)⟩,⟨some 37,none,.mv (.t 2)⟩,⟨some 38,none,.mv (.t 10)⟩,⟨some 39,none,.iaddr 1 (.t 37) (.t 38)⟩,⟨some 40,none,.load false 1 (.t 39)⟩,⟨(some 41),none,(.build [(.str ⟨#[]⟩),.nil] [(0,(1,(.t 40)))])⟩,⟨(some 42),none,(.mkrow 33 2 [(.str ⟨#[]⟩),.nil] 1 [(0,(.t 41))])⟩,⟨(some 43),none,(.append 33 2 40 [(.str ⟨#[]⟩),.nil] (.t 36) (.t 42))⟩,⟨some 44,none,.faddr 1 (.t 9)⟩,⟨none,none,(.store 1 (.t 44) (.t 43))⟩])) (.reg [⟨some 33,none,.mv (.t 10)⟩,⟨some 34,none,.bin .add false (.t 33) (.c (.int .i64 1))⟩,⟨some 10,none,.mv (.t 34)⟩])))))) (.seq (.dreg [[],[0],[1,0],[2,1,0],[],[],[],[],[7],[],[6,8,7,9],[3,2,1,0,4,5,10,6,8,7,9],[11,3,2,1,0,4,5,10,6,8,7,9]] [⟨some 45,none,.faddr 4 (.t 4)⟩,⟨some 46,none,.load false 1 (.t 45)⟩,⟨some 47,none,.iaddr 5 (.t 46) (.c (.int .i64 0))⟩,⟨some 48,none,.load true 5 (.t 47)⟩,⟨some 49,none,.mv (.t 1)⟩,⟨some 50,none,.mv (.t 2)⟩,⟨some 51,none,.load true 1 (.t 7)⟩,⟨some 52,none,.faddr 3 (.t 4)⟩,⟨some 53,none,.load false 1 (.t 52)⟩,⟨some 54,none,.load true 2 (.t 9)⟩,⟨some 55,none,.call 174 [(.t 51),(.t 53),(.t 54)]⟩,⟨some 56,none,.call 114 [(.t 48),(.t 49),(.t 50),(.t 55)]⟩,⟨none,none,(.store 5 (.t 8) (.t 56))⟩]) .ret))) (.seq (.reg [⟨some 58,none,.bin .eql false (.t 14) (.c (.int .i64 8))⟩,⟨some 57,none,.mv (.t 58)⟩]) (.cond (.t 57) (.dreg [[],[],[0,1],[],[3],[4,3],[2,0,1,5,4,3],[6,2,0,1,5,4,3]] [⟨(some 59),none,(.mkrow 9 1 [(.str ⟨#[]⟩)] 0 [])⟩,⟨some 60,none,.mv (.t 2)⟩,⟨(some 61),none,(.append 9 1 16 [(.str ⟨#[]⟩)] (.t 59) (.t 60))⟩,⟨some 62,none,.faddr 3 (.t 4)⟩,⟨some 63,none,.load false 1 (.t 62)⟩,⟨(some 64),none,(.mkrow 9 1 [(.str ⟨#[]⟩)] 1 [(0,(.t 63))])⟩,⟨(some 65),none,(.append 9 1 16 [(.str ⟨#[]⟩)] (.t 61) (.t 64))⟩,⟨some 2,none,.mv (.t 65)⟩]) .skip)))))))) (.seq (.reg [⟨some 66,none,.faddr 0 (.t 4)⟩,⟨some 67,none,.load false 1 (.t 66)⟩,⟨some 68,none,.faddr 3 (.t 4)⟩,⟨some 69,none,.load false 1 (.t 68)⟩,⟨(some 70),none,(.build [(.int .i64 0),(.str ⟨#[]⟩),.nil,(.str ⟨#[]⟩),.nil] [(0,(1,(.t 67))),(3,(1,(.t 69)))])⟩,⟨(some 11),none,(.alloc 36 [(.int .i64 0),(.str ⟨#[]⟩),.nil,(.str ⟨#[]⟩),.nil])⟩,⟨none,none,(.store 5 (.t 11) (.t 70))⟩]) (.seq (.seq (.reg [⟨some 12,none,.mv (.c (.int .i64 0))⟩]) (.block 3 (.loop [0,1,1,0,1,0,0,1,1,0,0,1,1,0,0,0,0,0,0,0,0,0,0,0,0,0,0,0,0,0,0,0,0,0,0,0,0,0,0,0,0,0,0,0,0,0,0,0,0,0,0,0,0,0,0,0,0,0,0,0,0,0,0,0,0,0,0,0,0,0,0,0,0,0,0,0,0,0,0,0,0,0,0,0,0,0,0,0,0,0,0,0,0] (.seq (.seq (.reg [⟨some 71,none,.mv (.t 12)⟩,⟨some 72,none,.faddr 4 (.t 4)⟩,⟨some 73,none,.load false 1 (.t 72)⟩,⟨some 74,none,.len false (.t 73)⟩,⟨some 75,none,.bin .lss false (.t 71) (.t 74)⟩]) (.cond (.t 75) .skip (.exit 3))) (.seq (.block 4 (.dreg [[],[0],[],[2],[],[3,2,4],[5,3,2,4],[],[],[],[6,5,3,2,4,7,8,9],[10,6,5,3,2,4,7,8,9],[1,0,11,10,6,5,3,2,4,7,8,9],[0,1,2,3,4,5,6,7,8,9,10,11,12],[13,0,1,2,3,4,5,6,7,8,9,10,11,12]] [⟨some 78,none,.faddr 4 (.t 11)⟩,⟨some 79,none,.load false 1 (.t 78)⟩,⟨some 80,none,.faddr 4 (.t 4)⟩,⟨some 81,none,.load false 1 (.t 80)⟩,⟨some 82,none,.mv (.t 12)⟩,⟨some 83,none,.iaddr 5 (.t 81) (.t 82)⟩,⟨some 84,none,.load true 5 (.t 83)⟩,⟨some 85,none,.mv (.t 1)⟩,⟨some 86,none,.mv (.t 2)⟩,⟨some 87,none,.load true 1 (.t 7)⟩,⟨some 88,none,.call 114 [(.t 84),(.t 85),(.t 86),(.t 87)]⟩,⟨(some 89),none,(.mkrow 36 5 [(.int .i64 0),(.str ⟨#[]⟩),.nil,(.str ⟨#[]⟩),.nil] 1 [(0,(.t 88))])⟩,⟨(some 90),none,(.append 36 5 88 [(.int .i64 0),(.str ⟨#[]⟩),.nil,(.str ⟨#[]⟩),.nil] (.t 79) (.t 89))⟩,⟨some 91,none,.faddr 4 (.t 11)⟩,⟨none,none,(.store 1 (.t 91) (.t 90))⟩])) (.reg [⟨some 76,none,.mv (.t 12)⟩,⟨some 77,none,.bin .add false (.t 76) (.c (.int .i64 1))⟩,⟨some 12,none,.mv (.t 77)⟩])))))) (.seq (.reg [⟨some 92,none,.load true 5 (.t 11)⟩,⟨none,none,(.store 5 (.t 8) (.t 92))⟩]) .ret)))))
theorem DT:codeOf Tryz.prog 114=some ⟨93,CY,[(.cell 8 true 5)]⟩:=by kernel_rfl
theorem AS:modes 114=⟨[],.frz,none,false⟩:=by unfold modes; rfl
abbrev SsE (tk fr:List ByteArray) (x:Fm) (ou:List ByteArray) (s:Sb) (e:TEnv) (c:Int):Prop:=E 114 [x.sv,.ptr 0 0,.arr ((fr++ou).map fun s=>[D.str s]),s.sv] [.box 103 [.str Bm,.int .i64 c,.ref 1],.row 9 1 (tk.map fun s=>[OT.str s])]=some ((x.sk tk fr ou e c).1.sv,[.box 103 [.str Bm,.int .i64 (x.sk tk fr ou e c).2,.ref 1],.row 9 1 (tk.map fun s=>[OT.str s])])
abbrev SsC (tk fr:List ByteArray) (x:Fm):Prop:=∀ (ou:List ByteArray) (s:Sb) (e:TEnv) (c:Int),s.fine→s.look=e→TB 1000001 e→x.qs.Nodup→(∀ v∈x.qs,e v=none)→s.binds.length+x.nodes≤1000000→fr.length+ou.length+x.nodes≤1000000→0≤c→c+x.nodes*(tk.length+2:Nat)≤1099511000000→SsE tk fr x ou s e c
theorem UR (tk fr:List ByteArray) (x:Fm) (hx:x.forms=true) (ih:∀ y∈x.parts,SsC tk fr y):SsC tk fr x:=by
  intro ou s e c0 hs hse he hnd hqe hsl hb h0 hc0
  have hfo:=Fm.BB hx
  have hpl:=Fm.length_le x.parts
  have hnq:=Fm.nodes_eq x
  have hat:=Fm.Il hfo
  have hst:s.tame:=Sb.Qbe (m:=1000001) (by omega) hs.1 (by omega) (by rw [hse]; exact he)
  have h10:((1:Int)=0)=False:=by simp
  have hxs:x.sv=.agg [.int .i64 x.op,.str x.atom.name,.arr (x.atom.args.map Tm.d),.str x.var,.arr (x.parts.map Fm.d)]:=rfl
  have has:x.atom.sv=.agg [.str x.atom.name,.arr (x.atom.args.map Tm.d)]:=rfl
  have hss:s.sv=.agg [.arr (s.binds.map Bd.d)]:=rfl
  have hz0:Tm.zero.name=⟨#[]⟩:=rfl
  have hz1:Tm.zero.args=[]:=rfl
  have hrs:∀ (op:Int) (a:Tm) (v:ByteArray) (ps:List Fm),(Fm.mk op a v ps).sv=.agg [.int .i64 op,.str a.name,.arr (a.args.map Tm.d),.str v,.arr (ps.map Fm.d)]:=fun _ _ _ _=>rfl
  have hxsk:∀ y:Fm,y.sv=.agg [.int .i64 y.op,.str y.atom.name,.arr (y.atom.args.map Tm.d),.str y.var,.arr (y.parts.map Fm.d)]:=fun _=>rfl
  rw [hnq,yE,yM] at hc0
  have hge1:((1:Nat):Int)*(tk.length+2:Nat)=tk.length+2:=by simp
  rw [hge1] at hc0
  have hgeS:(0:Int)≤(Fm.nodeS x.parts:Int)*(tk.length+2:Nat):=yG (by omega) (by omega)
  unfold SsE
  by_cases h3:x.op=3
  · have o3:dec (x.op=3)=true:=An h3
    have hap:=Rx s hs hst x.atom (by omega)
    rw [hse,← Tm.QbN he x.atom (Fm.EJ hfo h3).2.1,hss,has] at hap
    rw [Fm.Iv tk fr h3]
    obtain ⟨z,hz⟩:∃ z,z=x.atom.rv e:=⟨_,rfl⟩
    rw [←hz] at hap ⊢
    have hzs:z.sv=.agg [.str z.name,.arr (z.args.map Tm.d)]:=rfl
    rw [hzs] at hap
    dsimp only
    rw [hrs,← h3]
    refine Ai DT AS (of_decide_eq_true rfl) ?_
    simp (disch:=omega) only [CY,go_sem,Ab,o3,hap,C5]
  have o3:dec (x.op=3)=false:=Aj h3
  by_cases h9:x.op=9
  · have o9:dec (x.op=9)=true:=An h9
    obtain ⟨hvx,p,hp⟩:=Fm.BA hfo (by unfold qB; rw [o9]; simp)
    have hnp:Fm.nodeS x.parts=p.nodes:=by rw [hp]; simp [Fm.nodeS]
    have hlt0:0<x.parts.length:=by rw [hp]; simp
    have hg0:=get_at Fm.d hlt0
    have hx0:x.parts[0]=p:=by simp [hp]
    rw [hx0,Fm.d_eq] at hg0
    have hqx:x.qs=x.var :: p.qs:=by
      rw [Fm.UP,hp]
      unfold qB
      rw [o9,yO,cond_true,Fm.qsL,Fm.qsL,zM]; rfl
    have hfr:=CG Bm tk c0
    have hnx:=QbS Bm (by decide) tk c0 h0 (by omega)
    have hvn:=hqe x.var (by rw [hqx]; simp)
    have hpl2:=Qao hs.1 (n:=x.var) (t:=skT tk fr ou c0) (by rw [hse]; exact hvn)
    rw [hse] at hpl2
    have hts:(skT tk fr ou c0).nodes≤1000001:=by
      unfold skT
      rw [Tm.nodes_eq]
      show 1+Tm.nodeS (vT (fr++ou))≤_
      rw [Jz,zE]; omega
    have hfine:(Sb.mk (D9 s.binds ⟨x.var,skT tk fr ou c0⟩)).fine:=⟨XK hs.1 ((Sb.HT hs.1).1 (by rw [hse]; exact hvn)),fun b hb=>by
      rcases Mh.1 hb with rfl | hb
      · exact hvx
      · exact hs.2 b hb⟩
    have hil:(D9 s.binds ⟨x.var,skT tk fr ou c0⟩).length=s.binds.length+1:=by rw [(HJ _ _).length_eq]; rfl
    rw [hqx,List.nodup_cons] at hnd
    have hc:=ih p (by rw [hp]; simp) ou ⟨D9 s.binds ⟨x.var,skT tk fr ou c0⟩⟩ (Iu e x.var (skT tk fr ou c0)) (fresh Bm tk c0) hfine hpl2 (he.put hvx hts) hnd.2 (fun v hv=>by
      unfold Iu
      rw [Aj (fun e:v=x.var=>hnd.1 (by rw [←e]; exact hv)),cond_false]
      exact hqe v (by rw [hqx]; simp [hv])) (by show (D9 s.binds _).length+_≤_; omega) (by omega) (by omega) (by rw [←hnp]; omega)
    unfold SsE at hc
    have hpt:=QaZ s x.var (skT tk fr ou c0) (by omega) (by omega)
    have hpe:s.put ⟨x.var,skT tk fr ou c0⟩=⟨D9 s.binds ⟨x.var,skT tk fr ou c0⟩⟩:=by
      unfold Sb.put
      rw [Aj (fun h=>by
        have h:pre Bm (fresh Bm tk c0)=x.var:=h
        have:=YA (fresh Bm tk c0)
        rw [h,hvx] at this; cases this)]; rfl
    rw [hpe] at hpt
    rw [Fm.Iw tk fr h9 hp]
    obtain ⟨s1,hs1⟩:∃ s1,s1=D9 s.binds ⟨x.var,skT tk fr ou c0⟩:=⟨_,rfl⟩
    rw [←hs1] at hpt hc
    obtain ⟨e1,he1⟩:∃ e1,e1=Iu e x.var (skT tk fr ou c0):=⟨_,rfl⟩
    rw [←he1] at hc ⊢
    have hsv1:(Sb.mk s1).sv=.agg [.arr (s1.map Bd.d)]:=rfl
    rw [hsv1] at hpt hc
    have hskv:(skT tk fr ou c0).sv=.agg [.str (pre Bm (fresh Bm tk c0)),.arr ((vT (fr++ou)).map Tm.d)]:=rfl
    rw [hskv,hss] at hpt
    rw [hxsk] at hc
    obtain ⟨cf,hcf⟩:∃ cf,cf=fresh Bm tk c0:=⟨_,rfl⟩
    rw [←hcf] at hnx hfr hc hpt ⊢
    obtain ⟨v,hv⟩:∃ v,v=pre Bm cf:=⟨_,rfl⟩
    rw [←hv] at hnx hpt
    obtain ⟨r,hr⟩:∃ r,r=p.sk tk fr ou e1 cf:=⟨_,rfl⟩
    rw [←hr] at hc ⊢
    have hrv:r.1.sv=.agg [.int .i64 r.1.op,.str r.1.atom.name,.arr (r.1.atom.args.map Tm.d),.str r.1.var,.arr (r.1.parts.map Fm.d)]:=rfl
    rw [hrv] at hc ⊢
    have hol:(fr++ou).length≤1000000:=by rw [zE]; omega
    obtain ⟨o,ho⟩:∃ o,o=fr++ou:=⟨_,rfl⟩
    rw [←ho] at hc hpt hol ⊢
    have hvl:(vT o).length=o.length:=z7 _
    refine Ai DT AS (of_decide_eq_true rfl) ?_
    simp (disch:=omega) only [CY,go_sem,Ab,o3,o9,hnx,F6]
    refine go_loop (α:=Int) (fun a=>⟨slots 93 0 [(1,.ptr 0 0),(2,.arr (o.map fun s=>[D.str s])),(4,.ptr 2 0),(7,.ptr 3 0),(8,.ptr 4 0),(9,.ptr 5 0),(10,.int .i64 a)],(if a=0 then [.box 103 [.str Bm,.int .i64 cf,.ref 1],.row 9 1 (tk.map fun s=>[OT.str s]),.box 36 [.int .i64 x.op,.str x.atom.name,.arr (x.atom.args.map Tm.d),.str x.var,.arr (x.parts.map Fm.d)],.box 142 [.arr (s.binds.map Bd.d)],.box 36 [.int .i64 0,.str ⟨#[]⟩,.nil,.str ⟨#[]⟩,.nil],.box 33 [.str v,.nil]] else [.box 103 [.str Bm,.int .i64 cf,.ref 1],.row 9 1 (tk.map fun s=>[OT.str s]),.box 36 [.int .i64 x.op,.str x.atom.name,.arr (x.atom.args.map Tm.d),.str x.var,.arr (x.parts.map Fm.d)],.box 142 [.arr (s.binds.map Bd.d)],.box 36 [.int .i64 0,.str ⟨#[]⟩,.nil,.str ⟨#[]⟩,.nil],.box 33 [.str v,.ref 6],.row 33 2 (((vT o).take a.toNat).map Tm.o)])⟩) (fun a=>∃ k:Nat,a=k∧k≤(o).length) (fun a=>(o).length-(a).toNat) 0 ⟨0,rfl,zI _⟩ (by simp (disch:=omega) only [go_sem,Ab,eq_self,if_true]) ?_
    rintro i ⟨k,hi,hk⟩
    have hni:i.toNat=k:=by omega
    have hni1:(i+1).toNat=k+1:=by omega
    rcases zB k (o).length with hlt | hge
    · have hg:=get_at (fun s=>[D.str s]) hlt
      have hsn:((vT o).take k).map Tm.o++[[OT.str o[k],OT.ow []]]=((vT o).take (k+1)).map Tm.o:=by
        have hlv:k<(vT o).length:=by omega
        rw [List.take_succ_eq_append_getElem hlv,zO]
        rw [zS,zP,Qbs hlt hlv]; rfl
      rcases zN k with h0 | h0
      · subst h0
        obtain rfl:i=0:=hi
        rw [List.take_zero,zP,zQ] at hsn
        simp (disch:=omega) only [go_sem,Ab,hni,hg,eq_self,if_true]
        refine ⟨1,⟨1,rfl,hlt⟩,by omega,?_⟩
        simp (disch:=omega) only [go_sem,Ab,h10,if_false,hsn]
      · have hi0:(i=0)=False:=by simp; omega
        have hi1:(i+1=0)=False:=by simp; omega
        have htl:((vT o).take k).length=k:=by rw [List.length_take]; omega
        simp (disch:=omega) only [go_sem,Ab,hni,hg,hi0,if_false,htl]
        refine ⟨i+1,⟨k+1,by omega,hlt⟩,by omega,?_⟩
        simp (disch:=omega) only [go_sem,Ab,hni1,hi1,if_false,hsn]
    · obtain rfl:k=o.length:=by omega
      have ht:(vT o).take o.length=vT o:=List.take_of_length_le (by omega)
      rcases zN o.length with h0 | h0
      · have hon:o=[]:=zJ h0
        obtain rfl:i=0:=by omega
        have hvn:(vT o).map Tm.d=[]:=by rw [hon]; rfl
        rw [hvn] at hpt
        simp (disch:=omega) only [go_sem,Ab,eq_self,if_true,hg0,hpt,hc,zV,FE,AS]
      · have hi0:(i=0)=False:=by simp; omega
        simp (disch:=omega) only [go_sem,Ab,hni,hi0,if_false,ht,hg0,hpt,hc,zV,FE,AS]
  have o9:dec (x.op=9)=false:=Aj h9
  by_cases h8:x.op=8
  · have o8:dec (x.op=8)=true:=An h8
    obtain ⟨p,hp⟩:=(Fm.BA hfo (by unfold qB; rw [o8]; rfl)).2
    have hone:x.parts.length=1:=by rw [hp]; rfl
    obtain ⟨ou1,hou1⟩:∃ ou1,ou1=ou++[x.var]:=⟨_,rfl⟩
    have hskx:x.sk tk fr ou e c0=(.mk x.op Tm.zero x.var (AE (fun y d=>Fm.sk tk fr y ou1 e d) x.parts c0).1,(AE (fun y d=>Fm.sk tk fr y ou1 e d) x.parts c0).2):=by
      rw [Fm.Ld tk fr h8 hp,hp,h8,hou1]
      simp only [AE]
    have hoL:ou1.length=ou.length+1:=by rw [hou1]; simp
    rw [hskx]
    obtain ⟨o1,ho1⟩:∃ o1,o1=(fr++ou)++[x.var]:=⟨_,rfl⟩
    have hoo:fr++ou1=o1:=by rw [ho1,hou1,zL]
    obtain ⟨o,ho⟩:∃ o,o=fr++ou:=⟨_,rfl⟩
    rw [←ho] at ho1 ⊢
    have hol:o.length=fr.length+ou.length:=by rw [ho,zE]
    have ha1:(o.map fun s=>[OT.str s])++[[OT.str x.var]]=o1.map fun s=>[OT.str s]:=by rw [ho1]; simp
    have hbf:(o.map fun s=>[D.str s]).map (fun x=>x.map D.ot)=o.map fun s=>[OT.str s]:=by rw [zT]; rfl
    have haf:=Di o
    have hadf:=Ep o
    refine Ai DT AS (of_decide_eq_true rfl) ?_
    simp (disch:=omega) only [CY,go_sem,Ab,o3,o8,o9,ha1,hbf,haf,hadf,zQ]
    refine go_loop (α:=Int × (Int) × (List Fm)) (fun a=>⟨slots 93 0 [(1,.ptr 0 0),(2,(if (a.1)=0 then .ref 2 else .any)),(4,(if (a.1)=0 then .ptr 3 0 else .ptr 2 0)),(7,(if (a.1)=0 then .ptr 4 0 else .ptr 3 0)),(8,(if (a.1)=0 then .ptr 5 0 else .ptr 4 0)),(11,(if (a.1)=0 then .ptr 6 0 else .ptr 5 0)),(12,.int .i64 (a.1))],(if (a.1)=0 then [.box 103 [.str Bm,.int .i64 (a.2.1),.ref 1],.row 9 1 (tk.map fun s=>[OT.str s]),.row 9 1 (o1.map fun s=>[OT.str s]),.box 36 [.int .i64 x.op,.str x.atom.name,.arr (x.atom.args.map Tm.d),.str x.var,.arr (x.parts.map Fm.d)],.box 142 [.arr (s.binds.map Bd.d)],.box 36 [.int .i64 0,.str ⟨#[]⟩,.nil,.str ⟨#[]⟩,.nil],.box 36 [.int .i64 x.op,.str ⟨#[]⟩,.nil,.str x.var,.nil]] else [.box 103 [.str Bm,.int .i64 (a.2.1),.ref 1],.row 9 1 (tk.map fun s=>[OT.str s]),.box 36 [.int .i64 x.op,.str x.atom.name,.arr (x.atom.args.map Tm.d),.str x.var,.arr (x.parts.map Fm.d)],.box 142 [.arr (s.binds.map Bd.d)],.box 36 [.int .i64 0,.str ⟨#[]⟩,.nil,.str ⟨#[]⟩,.nil],.box 36 [.int .i64 x.op,.str ⟨#[]⟩,.nil,.str x.var,.ref 6],.row 36 5 ((a.2.2).map Fm.osh)])⟩) (fun a=>∃ k:Nat,a.1=k∧k≤(x.parts).length∧(a.2.2).length=k∧0≤(a.2.1)∧AE (fun y d=>Fm.sk tk fr y ou1 e d) x.parts c0=((a.2.2)++(AE (fun y d=>Fm.sk tk fr y ou1 e d) (x.parts.drop k) (a.2.1)).1,(AE (fun y d=>Fm.sk tk fr y ou1 e d) (x.parts.drop k) (a.2.1)).2)∧(a.2.1)+(Fm.nodeS (x.parts.drop k):Int)*(tk.length+2:Nat)≤1099511000000) (fun a=>(x.parts).length-(a.1).toNat) (0,c0,[]) ⟨0,rfl,zI _,rfl,h0,by rw [zF]; rfl,by rw [zF]; dsimp only; omega⟩ (by simp (disch:=omega) only [go_sem,Ab,eq_self,if_true]) ?_
    rintro ⟨i,c,acc⟩ ⟨k,hi,hk,hR⟩
    dsimp only at hi hR
    have hni:i.toNat=k:=by omega
    have hni1:(i+1).toNat=k+1:=by omega
    rcases zB k (x.parts).length with hlt | hge
    · have hg:=get_at Fm.d hlt
      rw [Fm.d_eq] at hg
      obtain ⟨hR1,hR2,hR3,hR4⟩:=hR
      rw [zA hlt,AE] at hR3
      rw [zA hlt,Fm.nodeS,yE,yM] at hR4
      have hfk:=Fm.Be hx (zG hlt)
      have hcnt:=Fm.J0 tk fr x.parts[k] hfk ou1 e c hR2
      have hge0:(0:Int)≤(Fm.nodeS (x.parts.drop (k+1)):Int)*(tk.length+2:Nat):=yG (by omega) (by omega)
      have hle:=Fm.nodes_le x.parts k hlt
      have hq:=UQ (zG hlt)
      have hc:=ih x.parts[k] (zG hlt) ou1 s e c hs hse he (hq.2 hnd) (fun v hv=>hqe v (hq.1 v hv)) (by omega) (by omega) hR2 (by omega)
      unfold SsE at hc
      rw [hoo,hxsk,hss] at hc
      obtain ⟨y,hy⟩:∃ y,y=x.parts[k].sk tk fr ou1 e c:=⟨_,rfl⟩
      rw [←hy] at hc hcnt hR3
      have hysv:y.1.sv=.agg [.int .i64 y.1.op,.str y.1.atom.name,.arr (y.1.atom.args.map Tm.d),.str y.1.var,.arr (y.1.parts.map Fm.d)]:=rfl
      rw [hysv] at hc
      have hsn:acc.map Fm.osh++[[OT.int y.1.op,OT.str y.1.atom.name,OT.sh (y.1.atom.args.map Tm.d),OT.str y.1.var,OT.sh (y.1.parts.map Fm.d)]]=(acc++[y.1]).map Fm.osh:=by rw [zO,zS,zP,Fm.osh_eq]
      have hR3':AE (fun y c=>Fm.sk tk fr y ou1 e c) x.parts c0=((acc++[y.1])++(AE (fun y c=>Fm.sk tk fr y ou1 e c) (x.parts.drop (k+1)) y.2).1,(AE (fun y c=>Fm.sk tk fr y ou1 e c) (x.parts.drop (k+1)) y.2).2):=by rw [hR3,zL]; rfl
      rcases zN k with h0 | h0
      · subst h0
        obtain rfl:i=0:=hi
        have ha0:acc=[]:=zJ hR1
        subst ha0
        rw [zP,zQ] at hsn
        simp only [yJ] at hR4 hge0 hR3'
        simp (disch:=omega) only [go_sem,Ab,hni,hg,hc,AS,eq_self,if_true,Cp]
        refine ⟨(1,y.2,[]++[y.1]),⟨1,rfl,hlt,rfl,by dsimp only; omega,hR3',by dsimp only; omega⟩,by dsimp only; omega,?_⟩
        simp (disch:=omega) only [go_sem,Ab,h10,if_false,hsn,zQ]
      · exfalso; omega
    · obtain rfl:k=x.parts.length:=by omega
      obtain ⟨hR1,hR2,hR3,hR4⟩:=hR
      rw [zC hge,AE,zM] at hR3
      have hR3:AE (fun y c=>Fm.sk tk fr y ou1 e c) x.parts c0=(acc,c):=hR3
      rw [hR3]
      have hfu:=Fm.osh_full acc
      have her:=Fm.osh_er acc
      rcases zN x.parts.length with h0 | h0
      · have hx:x.parts=[]:=zJ h0
        obtain rfl:i=0:=by omega
        have ha0:acc=[]:=zJ (by rw [hR1]; exact h0)
        subst ha0
        exfalso; omega
      · have hi0:(i=0)=False:=by simp; omega
        simp (disch:=omega) only [go_sem,Ab,hni,hi0,if_false,hfu,her,hrs,hz0,hz1,zP]
  · have o8:dec (x.op=8)=false:=Aj h8
    have hv0:x.var=⟨#[]⟩:=Fm.PI hfo (by unfold qB; rw [o8,o9]; rfl)
    obtain ⟨ou1,hou1⟩:∃ ou1,ou1=ou:=⟨_,rfl⟩
    have hskx:x.sk tk fr ou e c0=(.mk x.op Tm.zero x.var (AE (fun y d=>Fm.sk tk fr y ou1 e d) x.parts c0).1,(AE (fun y d=>Fm.sk tk fr y ou1 e d) x.parts c0).2):=by
      rw [Fm.Gp tk fr h3 h8 h9,hou1,hv0]
    have hoL:ou1.length≤ou.length:=by rw [hou1]; exact yC _
    rw [hskx,← hou1]
    obtain ⟨o,ho⟩:∃ o,o=fr++ou1:=⟨_,rfl⟩
    have hoo:fr++ou1=o:=ho.symm
    rw [hoo]
    refine Ai DT AS (of_decide_eq_true rfl) ?_
    simp (disch:=omega) only [CY,go_sem,Ab,o3,o8,o9]
    refine go_loop (α:=Int × (Int) × (List Fm)) (fun a=>⟨slots 93 0 [(1,.ptr 0 0),(2,.arr (o.map fun s=>[D.str s])),(4,.ptr 2 0),(7,.ptr 3 0),(8,.ptr 4 0),(11,.ptr 5 0),(12,.int .i64 (a.1))],(if (a.1)=0 then [.box 103 [.str Bm,.int .i64 (a.2.1),.ref 1],.row 9 1 (tk.map fun s=>[OT.str s]),.box 36 [.int .i64 x.op,.str x.atom.name,.arr (x.atom.args.map Tm.d),.str x.var,.arr (x.parts.map Fm.d)],.box 142 [.arr (s.binds.map Bd.d)],.box 36 [.int .i64 0,.str ⟨#[]⟩,.nil,.str ⟨#[]⟩,.nil],.box 36 [.int .i64 x.op,.str ⟨#[]⟩,.nil,.str x.var,.nil]] else [.box 103 [.str Bm,.int .i64 (a.2.1),.ref 1],.row 9 1 (tk.map fun s=>[OT.str s]),.box 36 [.int .i64 x.op,.str x.atom.name,.arr (x.atom.args.map Tm.d),.str x.var,.arr (x.parts.map Fm.d)],.box 142 [.arr (s.binds.map Bd.d)],.box 36 [.int .i64 0,.str ⟨#[]⟩,.nil,.str ⟨#[]⟩,.nil],.box 36 [.int .i64 x.op,.str ⟨#[]⟩,.nil,.str x.var,.ref 6],.row 36 5 ((a.2.2).map Fm.osh)])⟩) (fun a=>∃ k:Nat,a.1=k∧k≤(x.parts).length∧(a.2.2).length=k∧0≤(a.2.1)∧AE (fun y d=>Fm.sk tk fr y ou1 e d) x.parts c0=((a.2.2)++(AE (fun y d=>Fm.sk tk fr y ou1 e d) (x.parts.drop k) (a.2.1)).1,(AE (fun y d=>Fm.sk tk fr y ou1 e d) (x.parts.drop k) (a.2.1)).2)∧(a.2.1)+(Fm.nodeS (x.parts.drop k):Int)*(tk.length+2:Nat)≤1099511000000) (fun a=>(x.parts).length-(a.1).toNat) (0,c0,[]) ⟨0,rfl,zI _,rfl,h0,by rw [zF]; rfl,by rw [zF]; dsimp only; omega⟩ (by simp (disch:=omega) only [go_sem,Ab,eq_self,if_true]) ?_
    rintro ⟨i,c,acc⟩ ⟨k,hi,hk,hR⟩
    dsimp only at hi hR
    have hni:i.toNat=k:=by omega
    have hni1:(i+1).toNat=k+1:=by omega
    rcases zB k (x.parts).length with hlt | hge
    · have hg:=get_at Fm.d hlt
      rw [Fm.d_eq] at hg
      obtain ⟨hR1,hR2,hR3,hR4⟩:=hR
      rw [zA hlt,AE] at hR3
      rw [zA hlt,Fm.nodeS,yE,yM] at hR4
      have hfk:=Fm.Be hx (zG hlt)
      have hcnt:=Fm.J0 tk fr x.parts[k] hfk ou1 e c hR2
      have hge0:(0:Int)≤(Fm.nodeS (x.parts.drop (k+1)):Int)*(tk.length+2:Nat):=yG (by omega) (by omega)
      have hle:=Fm.nodes_le x.parts k hlt
      have hq:=UQ (zG hlt)
      have hc:=ih x.parts[k] (zG hlt) ou1 s e c hs hse he (hq.2 hnd) (fun v hv=>hqe v (hq.1 v hv)) (by omega) (by omega) hR2 (by omega)
      unfold SsE at hc
      rw [hoo,hxsk,hss] at hc
      obtain ⟨y,hy⟩:∃ y,y=x.parts[k].sk tk fr ou1 e c:=⟨_,rfl⟩
      rw [←hy] at hc hcnt hR3
      have hysv:y.1.sv=.agg [.int .i64 y.1.op,.str y.1.atom.name,.arr (y.1.atom.args.map Tm.d),.str y.1.var,.arr (y.1.parts.map Fm.d)]:=rfl
      rw [hysv] at hc
      have hsn:acc.map Fm.osh++[[OT.int y.1.op,OT.str y.1.atom.name,OT.sh (y.1.atom.args.map Tm.d),OT.str y.1.var,OT.sh (y.1.parts.map Fm.d)]]=(acc++[y.1]).map Fm.osh:=by rw [zO,zS,zP,Fm.osh_eq]
      have hR3':AE (fun y c=>Fm.sk tk fr y ou1 e c) x.parts c0=((acc++[y.1])++(AE (fun y c=>Fm.sk tk fr y ou1 e c) (x.parts.drop (k+1)) y.2).1,(AE (fun y c=>Fm.sk tk fr y ou1 e c) (x.parts.drop (k+1)) y.2).2):=by rw [hR3,zL]; rfl
      rcases zN k with h0 | h0
      · subst h0
        obtain rfl:i=0:=hi
        have ha0:acc=[]:=zJ hR1
        subst ha0
        rw [zP,zQ] at hsn
        simp only [yJ] at hR4 hge0 hR3'
        simp (disch:=omega) only [go_sem,Ab,hni,hg,hc,AS,eq_self,if_true,Cp]
        refine ⟨(1,y.2,[]++[y.1]),⟨1,rfl,hlt,rfl,by dsimp only; omega,hR3',by dsimp only; omega⟩,by dsimp only; omega,?_⟩
        simp (disch:=omega) only [go_sem,Ab,h10,if_false,hsn,zQ]
      · have hi0:(i=0)=False:=by simp; omega
        have hi1:(i+1=0)=False:=by simp; omega
        simp (disch:=omega) only [go_sem,Ab,hni,hg,hc,AS,hi0,if_false]
        refine ⟨(i+1,y.2,acc++[y.1]),⟨k+1,by dsimp only; omega,hlt,by simp [hR1],by dsimp only; omega,hR3',by dsimp only; omega⟩,by dsimp only; omega,?_⟩
        simp (disch:=omega) only [go_sem,Ab,hi1,if_false,hsn]
    · obtain rfl:k=x.parts.length:=by omega
      obtain ⟨hR1,hR2,hR3,hR4⟩:=hR
      rw [zC hge,AE,zM] at hR3
      have hR3:AE (fun y c=>Fm.sk tk fr y ou1 e c) x.parts c0=(acc,c):=hR3
      rw [hR3]
      have hfu:=Fm.osh_full acc
      have her:=Fm.osh_er acc
      rcases zN x.parts.length with h0 | h0
      · have hx:x.parts=[]:=zJ h0
        obtain rfl:i=0:=by omega
        have ha0:acc=[]:=zJ (by rw [hR1]; exact h0)
        subst ha0
        simp (disch:=omega) only [go_sem,Ab,hni,hx,eq_self,if_true,zP,zR,hrs,hz0,hz1]
      · have hi0:(i=0)=False:=by simp; omega
        simp (disch:=omega) only [go_sem,Ab,hni,hi0,if_false,hfu,her,hrs,hz0,hz1,zP]
theorem PR (tk fr:List ByteArray) (x:Fm) (hx:x.forms=true):SsC tk fr x :=
 UR tk fr x hx fun y hy=>PR tk fr y (Fm.Be hx hy)
termination_by SizeOf.sizeOf x
decreasing_by exact Fm.lt_of_mem hy
theorem WP:(Sb.mk []).fine:=⟨fun j k hj hk=>by
 have:k<0:=hk
 omega,fun b hb=>by cases hb⟩
theorem WQ (m:ByteArray):(Sb.mk []).look m=none:=Sb.LO (x:=⟨[]⟩) rfl
end Go.Proofs.YtepbennkcbmgoaaGreatDoor
