/-
  Texts of this claim, one behind the other, each built on those ahead of it. No condition.
-/
import Derived.Test.YtfgkiemoglcppaaGreatK28b
import Derived.Test.YtfgkiemoglcppaaGreatK28c
set_option maxHeartbeats 16000000
open Bool renaming false_and → zB, and_eq_true → zC, true_and → zG, and_true → yC, and_false → yD, or_true → yE, or_eq_true → yH, eq_false_iff → yN
open List renaming map_cons → zD, length_replicate → zE, map_nil → zI, drop_eq_getElem_cons → zJ, replicate → zK, getElem?_cons_zero → zL, getElem?_cons_succ → zM, length_nil → zN, length_cons → zO, getElem_mem → zP, drop_eq_nil_of_le → zQ, drop_zero → zS, mem_cons → zU, eq_nil_of_length_eq_zero → zV, cons_append → zX, length_append → zZ, foldl_cons → z6, mem_singleton → z7, pairwise_cons → z8, map_append → yA, getLast?_append → yF, nil_append → yG, length_pos_iff → yI, reverse_append → yJ, map_map → yK, append_assoc → yM, not_mem_nil → yP, mem_append → yR, length → yS
open Nat renaming lt_or_ge → zF, eq_zero_or_pos → zR, zero_le → zT, le_refl → zW, pow_le_pow_right → yB
open ByteArray renaming size_append → zH
open Int renaming toNat_zero → zY
open Option renaming isSome_some → yL, getD_some → yQ
open Prod.mk renaming injEq → yO
open Option.some renaming injEq → yT
set_option maxRecDepth 100000
set_option linter.unusedSimpArgs false
set_option linter.unusedVariables false
set_option linter.unusedSectionVars false
namespace Go.Proofs.YtfgkiemoglcppaaGreat
open Go.RowKit
def DD:SC:=(.seq (.reg [⟨some 2,none,.mv (.c (.bool false))⟩]) (.seq (.reg [⟨some 3,none,.mv (.t 0)⟩,⟨some 4,none,.bin .eql false (.t 3) (.c (.int .i64 8))⟩,⟨some 5,none,.mv (.t 4)⟩,⟨(some 6),(some (5,false)),(.mv (.t 0))⟩,⟨(some 7),(some (5,false)),(.bin .eql false (.t 6) (.c (.int .i64 9)))⟩,⟨some 8,none,.pick (.t 5) (.c (.bool true)) (.t 7)⟩,⟨some 2,none,.mv (.t 8)⟩]) .ret))
theorem Fp:codeOf Tryz.prog 70=some ⟨9,DD,[(.tmp 2)]⟩:=by kernel_rfl
theorem Ac:modes 70=⟨[],.asis,none,false⟩:=by unfold modes; rfl
def HD:SC:=(.seq (.reg [⟨some 2,none,.mv (.c (.bool false))⟩]) (.seq (.reg [⟨some 3,none,.mv (.t 0)⟩,⟨some 4,none,.bin .eql false (.t 3) (.c (.int .i64 5))⟩,⟨some 5,none,.mv (.t 4)⟩,⟨(some 6),(some (5,false)),(.mv (.t 0))⟩,⟨(some 7),(some (5,false)),(.bin .eql false (.t 6) (.c (.int .i64 6)))⟩,⟨some 8,none,.pick (.t 5) (.c (.bool true)) (.t 7)⟩,⟨some 9,none,.mv (.t 8)⟩,⟨(some 10),(some (9,false)),(.mv (.t 0))⟩,⟨(some 11),(some (9,false)),(.bin .eql false (.t 10) (.c (.int .i64 7)))⟩,⟨some 12,none,.pick (.t 9) (.c (.bool true)) (.t 11)⟩,⟨some 2,none,.mv (.t 12)⟩]) .ret))
theorem Ly:codeOf Tryz.prog 114=some ⟨13,HD,[(.tmp 2)]⟩:=by kernel_rfl
theorem Ah:modes 114=⟨[],.asis,none,false⟩:=by unfold modes; rfl
def Ej:SC:=(.seq (.reg [⟨some 1,none,.boxv 30 2 (.t 0)⟩,⟨some 2,none,.mv (.c (.bool false))⟩]) (.seq (.reg [⟨some 3,none,.faddr 0 (.t 1)⟩,⟨some 4,none,.load false 1 (.t 3)⟩,⟨(some 5),none,(.bin .eql false (.t 4) (.c (.str ⟨#[]⟩)))⟩,⟨some 6,none,.mv (.t 5)⟩,⟨(some 7),(some (6,true)),(.faddr 1 (.t 1))⟩,⟨(some 8),(some (6,true)),(.load false 1 (.t 7))⟩,⟨(some 9),(some (6,true)),(.len false (.t 8))⟩,⟨(some 10),(some (6,true)),(.bin .eql false (.t 9) (.c (.int .i64 0)))⟩,⟨some 11,none,.pick (.t 6) (.t 10) (.c (.bool false))⟩,⟨some 2,none,.mv (.t 11)⟩]) .ret))
theorem Gu:codeOf Tryz.prog 116=some ⟨12,Ej,[(.tmp 2)]⟩:=by kernel_rfl
theorem Af:modes 116=⟨[],.asis,none,false⟩:=by unfold modes; rfl
def GC:SC:=(.seq (.reg [⟨some 1,none,.boxv 30 2 (.t 0)⟩,⟨some 2,none,.mv (.c (.bool false))⟩]) (.seq (.reg [⟨some 3,none,.faddr 0 (.t 1)⟩,⟨some 4,none,.load false 1 (.t 3)⟩,⟨(some 5),none,(.bin .eql false (.t 4) (.c (.str ⟨#[]⟩)))⟩,⟨some 6,none,.mv (.t 5)⟩,⟨(some 7),(some (6,true)),(.faddr 1 (.t 1))⟩,⟨(some 8),(some (6,true)),(.load false 1 (.t 7))⟩,⟨(some 9),(some (6,true)),(.len false (.t 8))⟩,⟨(some 10),(some (6,true)),(.bin .eql false (.t 9) (.c (.int .i64 0)))⟩,⟨some 11,none,.pick (.t 6) (.t 10) (.c (.bool false))⟩,⟨some 2,none,.mv (.t 11)⟩]) .ret))
theorem IX:codeOf Tryz.prog 150=some ⟨12,GC,[(.tmp 2)]⟩:=by kernel_rfl
theorem Ak:modes 150=⟨[],.asis,none,false⟩:=by unfold modes; rfl
def BR:SC:=(.seq (.reg [⟨some 4,none,.mv (.c (.int .i64 0))⟩]) (.seq (.seq (.reg [⟨some 6,none,.mv (.t 0)⟩,⟨some 7,none,.len false (.t 6)⟩,⟨some 8,none,.mv (.c (.int .i64 0))⟩]) (.block 0 (.loop [1,1,0,0,0,0,0,1,1,0,0,0,0,0,0,0,0,0,0] (.seq (.reg [⟨some 9,none,.bin .lss false (.t 8) (.t 7)⟩]) (.seq (.cond (.t 9) .skip (.exit 0)) (.seq (.block 1 (.seq (.reg [⟨some 10,none,.mv (.t 8)⟩,⟨some 5,none,.mv (.t 10)⟩]) (.seq (.reg [⟨some 11,none,.mv (.t 1)⟩,⟨some 12,none,.mv (.t 0)⟩,⟨some 13,none,.mv (.t 5)⟩,⟨some 14,none,.iaddr 5 (.t 12) (.t 13)⟩,⟨some 15,none,.load true 5 (.t 14)⟩,⟨some 16,none,.callv (.t 11) [(.t 15)]⟩]) (.cond (.t 16) (.seq (.reg [⟨some 17,none,.mv (.t 5)⟩,⟨some 4,none,.mv (.t 17)⟩]) .ret) .skip)))) (.reg [⟨some 18,none,.bin .add false (.t 8) (.c (.int .i64 1))⟩,⟨some 8,none,.mv (.t 18)⟩]))))))) (.seq (.reg [⟨some 4,none,.mv (.c (.int .i64 (-(0+1))))⟩]) .ret)))
theorem CO:codeOf Tryz.prog 120=some ⟨19,BR,[(.tmp 4)]⟩:=by kernel_rfl
theorem BS:modes 120=⟨[],.asis,none,false⟩:=by unfold modes; rfl
def BI:SC:=(.seq (.reg [⟨some 4,none,.mv (.c (.bool false))⟩]) (.seq (.reg [⟨some 5,none,.mv (.t 0)⟩,⟨some 6,none,.mv (.t 1)⟩,⟨some 7,none,.call 120 [(.t 5),(.t 6)]⟩,⟨some 8,none,.bin .geq false (.t 7) (.c (.int .i64 0))⟩,⟨some 4,none,.mv (.t 8)⟩]) .ret))
theorem CG:codeOf Tryz.prog 72=some ⟨9,BI,[(.tmp 4)]⟩:=by kernel_rfl
theorem Aa:modes 72=⟨[],.asis,none,false⟩:=by unfold modes; rfl
theorem Lz (fid:Nat) (p:Fm→Bool) (xs:List Fm) (hl:xs.length≤1099511627776) (hg:JA Tryz.prog fid=true) (hm:(modes fid).hand=[]) (hE:∀ x∈xs,E fid [x.sv] []=some (.bool (p x),[])):E 120 [.arr (xs.map Fm.d),.fn fid []] []=some (.int .i64 (G5 p xs 0),[]):=by
 refine Ai CO BS (of_decide_eq_true rfl) ?_
 simp (disch:=omega) only [BR,go_sem,Ab]
 refine go_loop (α:=Int) (fun a=>⟨slots 19 0 [(0,.arr (xs.map Fm.d)),(1,.fn fid []),(7,.int .i64 xs.length),(8,.int .i64 a)],[]⟩) (fun a=>∃ k:Nat,a=k∧k≤(xs).length∧G5 p (xs.drop k) a=G5 p xs 0) (fun a=>(xs).length-(a).toNat) 0 ⟨0,rfl,zT _,by rw [zS]⟩ (by simp (disch:=omega) only [go_sem,Ab]) ?_
 rintro i ⟨k,hi,hk,hR⟩
 have hni:i.toNat=k:=by omega
 have hni1:(i+1).toNat=k+1:=by omega
 rcases zF k (xs).length with hlt | hge
 ·have hg':=get_at Fm.d hlt
  rw [Fm.d_eq] at hg'
  have hc:=hE xs[k] (zP hlt)
  rw [zJ hlt,G5] at hR
  cases hp:p xs[k] with
  | true =>
   rw [hp] at hc hR
   simp (disch:=omega) only [go_sem,Ab,hni,hg',hc,hg,hm]
   simpa using hR
  | false =>
   rw [hp] at hc hR
   simp (disch:=omega) only [go_sem,Ab,hni,hg',hc,hg,hm]
   exact ⟨i+1,⟨k+1,by omega,hlt,by simpa using hR⟩,by omega,by first | trivial | rfl⟩
 ·rw [zQ hge,G5] at hR
  simp (disch:=omega) only [go_sem,Ab,hni]
  exact hR
theorem Jw (fid:Nat) (p:Fm→Bool) (xs:List Fm) (hl:xs.length≤1099511627776) (hg:JA Tryz.prog fid=true) (hm:(modes fid).hand=[]) (hE:∀ x∈xs,E fid [x.sv] []=some (.bool (p x),[])):E 72 [.arr (xs.map Fm.d),.fn fid []] []=some (.bool (xs.any p),[]):=by
 have h:=Lz fid p xs hl hg hm hE
 refine Ai CG Aa (of_decide_eq_true rfl) ?_
 simp (disch:=omega) only [BI,go_sem,Ab,h,BS]
 rw [M6]
def A6:SC:=(.seq (.reg [⟨some 1,none,.boxv 33 5 (.t 0)⟩,⟨some 2,none,.mv (.c (.bool false))⟩]) (.seq (.reg [⟨some 3,none,.mv (.c (.int .i64 0))⟩]) (.seq (.block 0 (.seq (.seq (.reg [⟨some 5,none,.faddr 0 (.t 1)⟩,⟨some 6,none,.load false 1 (.t 5)⟩,⟨some 7,none,.bin .eql false (.t 6) (.c (.int .i64 1))⟩,⟨some 4,none,.mv (.t 7)⟩]) (.cond (.t 4) .skip (.seq (.reg [⟨some 8,none,.faddr 0 (.t 1)⟩,⟨some 9,none,.load false 1 (.t 8)⟩,⟨some 10,none,.bin .eql false (.t 9) (.c (.int .i64 2))⟩,⟨some 4,none,.mv (.t 10)⟩]) (.cond (.t 4) .skip (.reg [⟨some 11,none,.faddr 0 (.t 1)⟩,⟨some 12,none,.load false 1 (.t 11)⟩,⟨some 13,none,.bin .eql false (.t 12) (.c (.int .i64 3))⟩,⟨some 4,none,.mv (.t 13)⟩]))))) (.cond (.t 4) .skip (.seq (.seq (.reg [⟨some 15,none,.faddr 0 (.t 1)⟩,⟨some 16,none,.load false 1 (.t 15)⟩,⟨some 17,none,.bin .eql false (.t 16) (.c (.int .i64 4))⟩,⟨some 14,none,.mv (.t 17)⟩]) (.cond (.t 14) .skip (.reg [⟨some 18,none,.faddr 0 (.t 1)⟩,⟨some 19,none,.load false 1 (.t 18)⟩,⟨some 20,none,.call 70 [(.t 19)]⟩,⟨some 14,none,.mv (.t 20)⟩]))) (.cond (.t 14) (.reg [⟨some 3,none,.mv (.c (.int .i64 1))⟩]) (.seq (.reg [⟨some 22,none,.faddr 0 (.t 1)⟩,⟨some 23,none,.load false 1 (.t 22)⟩,⟨some 24,none,.call 114 [(.t 23)]⟩,⟨some 21,none,.mv (.t 24)⟩]) (.cond (.t 21) (.reg [⟨some 3,none,.mv (.c (.int .i64 2))⟩]) (.seq (.reg [⟨some 2,none,.mv (.c (.bool false))⟩]) .ret)))))))) (.seq (.seq (.reg [⟨some 25,none,.faddr 4 (.t 1)⟩,⟨some 26,none,.load false 1 (.t 25)⟩,⟨some 27,none,.len false (.t 26)⟩,⟨some 28,none,.mv (.t 3)⟩,⟨some 29,none,.bin .neq false (.t 27) (.t 28)⟩,⟨some 30,none,.mv (.t 29)⟩,⟨(some 31),(some (30,false)),(.faddr 0 (.t 1))⟩,⟨(some 32),(some (30,false)),(.load false 1 (.t 31))⟩,⟨(some 33),(some (30,false)),(.call 70 [(.t 32)])⟩,⟨(some 34),(some (30,false)),(.mv (.t 33))⟩,⟨(some 35),(some (34,true)),(.faddr 3 (.t 1))⟩,⟨(some 36),(some (34,true)),(.load false 1 (.t 35))⟩,⟨(some 37),(some (34,true)),(.call 59 [(.t 36)])⟩,⟨(some 38),(some (34,true)),(.un .not (.t 37))⟩,⟨(some 39),(some (30,false)),(.pick (.t 34) (.t 38) (.c (.bool false)))⟩,⟨some 40,none,.pick (.t 30) (.c (.bool true)) (.t 39)⟩,⟨some 41,none,.mv (.t 40)⟩,⟨(some 42),(some (41,false)),(.faddr 0 (.t 1))⟩,⟨(some 43),(some (41,false)),(.load false 1 (.t 42))⟩,⟨(some 44),(some (41,false)),(.call 70 [(.t 43)])⟩,⟨(some 45),(some (41,false)),(.un .not (.t 44))⟩,⟨(some 46),(some (41,false)),(.mv (.t 45))⟩,⟨(some 47),(some (46,true)),(.faddr 3 (.t 1))⟩,⟨(some 48),(some (46,true)),(.load false 1 (.t 47))⟩,⟨(some 49),(some (46,true)),(.bin .neq false (.t 48) (.c (.str ⟨#[]⟩)))⟩,⟨(some 50),(some (41,false)),(.pick (.t 46) (.t 49) (.c (.bool false)))⟩,⟨some 51,none,.pick (.t 41) (.c (.bool true)) (.t 50)⟩]) (.cond (.t 51) (.seq (.reg [⟨some 2,none,.mv (.c (.bool false))⟩]) .ret) .skip)) (.seq (.seq (.reg [⟨some 52,none,.faddr 0 (.t 1)⟩,⟨some 53,none,.load false 1 (.t 52)⟩,⟨some 54,none,.bin .eql false (.t 53) (.c (.int .i64 3))⟩,⟨some 55,none,.mv (.t 54)⟩,⟨(some 56),(some (55,true)),(.faddr 1 (.t 1))⟩,⟨(some 57),(some (55,true)),(.load true 2 (.t 56))⟩,⟨(some 58),(some (55,true)),(.call 115 [(.t 57)])⟩,⟨(some 59),(some (55,true)),(.un .not (.t 58))⟩,⟨some 60,none,.pick (.t 55) (.t 59) (.c (.bool false))⟩,⟨some 61,none,.mv (.t 60)⟩,⟨(some 62),(some (61,false)),(.faddr 0 (.t 1))⟩,⟨(some 63),(some (61,false)),(.load false 1 (.t 62))⟩,⟨(some 64),(some (61,false)),(.bin .neq false (.t 63) (.c (.int .i64 3)))⟩,⟨(some 65),(some (61,false)),(.mv (.t 64))⟩,⟨(some 66),(some (65,true)),(.faddr 1 (.t 1))⟩,⟨(some 67),(some (65,true)),(.load true 2 (.t 66))⟩,⟨(some 68),(some (65,true)),(.call 116 [(.t 67)])⟩,⟨(some 69),(some (65,true)),(.un .not (.t 68))⟩,⟨(some 70),(some (61,false)),(.pick (.t 65) (.t 69) (.c (.bool false)))⟩,⟨some 71,none,.pick (.t 61) (.c (.bool true)) (.t 70)⟩]) (.cond (.t 71) (.seq (.reg [⟨some 2,none,.mv (.c (.bool false))⟩]) .ret) .skip)) (.seq (.reg [⟨some 72,none,.faddr 4 (.t 1)⟩,⟨some 73,none,.load false 1 (.t 72)⟩,⟨some 74,none,.call 72 [(.t 73),(.c (.fn 117 []))]⟩,⟨some 75,none,.un .not (.t 74)⟩,⟨some 2,none,.mv (.t 75)⟩]) .ret))))))
theorem A9:codeOf Tryz.prog 68=some ⟨76,A6,[(.tmp 2)]⟩:=by kernel_rfl
theorem A2:modes 68=⟨[],.asis,none,false⟩:=by unfold modes; rfl
def Hf:SC:=(.seq (.reg [⟨some 1,none,.boxv 33 5 (.t 0)⟩,⟨some 2,none,.mv (.c (.bool false))⟩]) (.seq (.reg [⟨some 3,none,.load true 5 (.t 1)⟩,⟨some 4,none,.call 68 [(.t 3)]⟩,⟨some 5,none,.un .not (.t 4)⟩,⟨some 2,none,.mv (.t 5)⟩]) .ret))
theorem KG:codeOf Tryz.prog 117=some ⟨6,Hf,[(.tmp 2)]⟩:=by kernel_rfl
theorem Hg:modes 117=⟨[],.asis,none,false⟩:=by unfold modes; rfl
theorem KH:JA Tryz.prog 117=true:=by kernel_rfl
def AW:SC:=(.seq (.reg [⟨some 1,none,.boxv 33 5 (.t 0)⟩,⟨some 2,none,.mv (.c (.bool false))⟩]) (.seq (.reg [⟨some 4,none,.faddr 4 (.t 1)⟩,⟨some 5,none,.load false 1 (.t 4)⟩,⟨some 6,none,.len false (.t 5)⟩,⟨some 3,none,.mv (.t 6)⟩]) (.seq (.seq (.reg [⟨some 7,none,.faddr 0 (.t 1)⟩,⟨some 8,none,.load false 1 (.t 7)⟩]) (.block 0 (.seq (.seq (.reg [⟨some 10,none,.bin .eql false (.t 8) (.c (.int .i64 1))⟩,⟨some 9,none,.mv (.t 10)⟩]) (.cond (.t 9) .skip (.reg [⟨some 11,none,.bin .eql false (.t 8) (.c (.int .i64 2))⟩,⟨some 9,none,.mv (.t 11)⟩]))) (.cond (.t 9) (.seq (.reg [⟨some 12,none,.mv (.t 3)⟩,⟨some 13,none,.bin .eql false (.t 12) (.c (.int .i64 0))⟩,⟨some 14,none,.mv (.t 13)⟩,⟨(some 15),(some (14,true)),(.faddr 1 (.t 1))⟩,⟨(some 16),(some (14,true)),(.load true 2 (.t 15))⟩,⟨(some 17),(some (14,true)),(.call 150 [(.t 16)])⟩,⟨some 18,none,.pick (.t 14) (.t 17) (.c (.bool false))⟩,⟨some 19,none,.mv (.t 18)⟩,⟨(some 20),(some (19,true)),(.faddr 3 (.t 1))⟩,⟨(some 21),(some (19,true)),(.load false 1 (.t 20))⟩,⟨(some 22),(some (19,true)),(.bin .eql false (.t 21) (.c (.str ⟨#[]⟩)))⟩,⟨some 23,none,.pick (.t 19) (.t 22) (.c (.bool false))⟩,⟨some 2,none,.mv (.t 23)⟩]) .ret) (.seq (.reg [⟨some 25,none,.bin .eql false (.t 8) (.c (.int .i64 3))⟩,⟨some 24,none,.mv (.t 25)⟩]) (.cond (.t 24) (.seq (.reg [⟨some 26,none,.mv (.t 3)⟩,⟨some 27,none,.bin .eql false (.t 26) (.c (.int .i64 0))⟩,⟨some 28,none,.mv (.t 27)⟩,⟨(some 29),(some (28,true)),(.faddr 1 (.t 1))⟩,⟨(some 30),(some (28,true)),(.load true 2 (.t 29))⟩,⟨(some 31),(some (28,true)),(.call 151 [(.t 30)])⟩,⟨some 32,none,.pick (.t 28) (.t 31) (.c (.bool false))⟩,⟨some 33,none,.mv (.t 32)⟩,⟨(some 34),(some (33,true)),(.faddr 3 (.t 1))⟩,⟨(some 35),(some (33,true)),(.load false 1 (.t 34))⟩,⟨(some 36),(some (33,true)),(.bin .eql false (.t 35) (.c (.str ⟨#[]⟩)))⟩,⟨some 37,none,.pick (.t 33) (.t 36) (.c (.bool false))⟩,⟨some 2,none,.mv (.t 37)⟩]) .ret) (.seq (.reg [⟨some 39,none,.bin .eql false (.t 8) (.c (.int .i64 4))⟩,⟨some 38,none,.mv (.t 39)⟩]) (.cond (.t 38) (.seq (.reg [⟨some 40,none,.mv (.t 3)⟩,⟨some 41,none,.bin .eql false (.t 40) (.c (.int .i64 1))⟩,⟨some 42,none,.mv (.t 41)⟩,⟨(some 43),(some (42,true)),(.faddr 1 (.t 1))⟩,⟨(some 44),(some (42,true)),(.load true 2 (.t 43))⟩,⟨(some 45),(some (42,true)),(.call 150 [(.t 44)])⟩,⟨some 46,none,.pick (.t 42) (.t 45) (.c (.bool false))⟩,⟨some 47,none,.mv (.t 46)⟩,⟨(some 48),(some (47,true)),(.faddr 3 (.t 1))⟩,⟨(some 49),(some (47,true)),(.load false 1 (.t 48))⟩,⟨(some 50),(some (47,true)),(.bin .eql false (.t 49) (.c (.str ⟨#[]⟩)))⟩,⟨some 51,none,.pick (.t 47) (.t 50) (.c (.bool false))⟩,⟨some 2,none,.mv (.t 51)⟩]) .ret) (.seq (.seq (.reg [⟨some 53,none,.bin .eql false (.t 8) (.c (.int .i64 5))⟩,⟨some 52,none,.mv (.t 53)⟩]) (.cond (.t 52) .skip (.seq (.reg [⟨some 54,none,.bin .eql false (.t 8) (.c (.int .i64 6))⟩,⟨some 52,none,.mv (.t 54)⟩]) (.cond (.t 52) .skip (.reg [⟨some 55,none,.bin .eql false (.t 8) (.c (.int .i64 7))⟩,⟨some 52,none,.mv (.t 55)⟩]))))) (.cond (.t 52) (.seq (.reg [⟨some 56,none,.mv (.t 3)⟩,⟨some 57,none,.bin .eql false (.t 56) (.c (.int .i64 2))⟩,⟨some 58,none,.mv (.t 57)⟩,⟨(some 59),(some (58,true)),(.faddr 1 (.t 1))⟩,⟨(some 60),(some (58,true)),(.load true 2 (.t 59))⟩,⟨(some 61),(some (58,true)),(.call 150 [(.t 60)])⟩,⟨some 62,none,.pick (.t 58) (.t 61) (.c (.bool false))⟩,⟨some 63,none,.mv (.t 62)⟩,⟨(some 64),(some (63,true)),(.faddr 3 (.t 1))⟩,⟨(some 65),(some (63,true)),(.load false 1 (.t 64))⟩,⟨(some 66),(some (63,true)),(.bin .eql false (.t 65) (.c (.str ⟨#[]⟩)))⟩,⟨some 67,none,.pick (.t 63) (.t 66) (.c (.bool false))⟩,⟨some 2,none,.mv (.t 67)⟩]) .ret) (.seq (.seq (.reg [⟨some 69,none,.bin .eql false (.t 8) (.c (.int .i64 8))⟩,⟨some 68,none,.mv (.t 69)⟩]) (.cond (.t 68) .skip (.reg [⟨some 70,none,.bin .eql false (.t 8) (.c (.int .i64 9))⟩,⟨some 68,none,.mv (.t 70)⟩]))) (.cond (.t 68) (.seq (.reg [⟨some 71,none,.mv (.t 3)⟩,⟨some 72,none,.bin .eql false (.t 71) (.c (.int .i64 1))⟩,⟨some 73,none,.mv (.t 72)⟩,⟨(some 74),(some (73,true)),(.faddr 1 (.t 1))⟩,⟨(some 75),(some (73,true)),(.load true 2 (.t 74))⟩,⟨(some 76),(some (73,true)),(.call 150 [(.t 75)])⟩,⟨some 77,none,.pick (.t 73) (.t 76) (.c (.bool false))⟩,⟨some 78,none,.mv (.t 77)⟩,⟨(some 79),(some (78,true)),(.faddr 3 (.t 1))⟩,⟨(some 80),(some (78,true)),(.load false 1 (.t 79))⟩,⟨(some 81),(some (78,true)),(.call 77 [(.t 80)])⟩,⟨some 82,none,.pick (.t 78) (.t 81) (.c (.bool false))⟩,⟨some 2,none,.mv (.t 82)⟩]) .ret) .skip)))))))))))) (.seq (.reg [⟨some 2,none,.mv (.c (.bool false))⟩]) .ret))))
theorem Bb:codeOf Tryz.prog 124=some ⟨83,AW,[(.tmp 2)]⟩:=by kernel_rfl
theorem AR:modes 124=⟨[],.asis,none,false⟩:=by unfold modes; rfl
def FZ:SC:=(.seq (.reg [⟨some 1,none,.boxv 33 5 (.t 0)⟩,⟨some 2,none,.mv (.c (.bool false))⟩]) (.seq (.seq (.reg [⟨some 4,none,.load true 5 (.t 1)⟩,⟨some 5,none,.call 124 [(.t 4)]⟩,⟨some 6,none,.un .not (.t 5)⟩]) (.cond (.t 6) (.seq (.reg [⟨some 2,none,.mv (.c (.bool false))⟩]) .ret) .skip)) (.seq (.seq (.reg [⟨some 3,none,.mv (.c (.int .i64 0))⟩]) (.block 0 (.loop [0,1,0,1,0,0,0,0,0,0,0,0,0,0,0,0,0,0,0,0,0] (.seq (.seq (.reg [⟨some 7,none,.mv (.t 3)⟩,⟨some 8,none,.faddr 4 (.t 1)⟩,⟨some 9,none,.load false 1 (.t 8)⟩,⟨some 10,none,.len false (.t 9)⟩,⟨some 11,none,.bin .lss false (.t 7) (.t 10)⟩]) (.cond (.t 11) .skip (.exit 0))) (.seq (.block 1 (.seq (.reg [⟨some 14,none,.faddr 4 (.t 1)⟩,⟨some 15,none,.load false 1 (.t 14)⟩,⟨some 16,none,.mv (.t 3)⟩,⟨some 17,none,.iaddr 5 (.t 15) (.t 16)⟩,⟨some 18,none,.load true 5 (.t 17)⟩,⟨some 19,none,.call 79 [(.t 18)]⟩,⟨some 20,none,.un .not (.t 19)⟩]) (.cond (.t 20) (.seq (.reg [⟨some 2,none,.mv (.c (.bool false))⟩]) .ret) .skip))) (.reg [⟨some 12,none,.mv (.t 3)⟩,⟨some 13,none,.bin .add false (.t 12) (.c (.int .i64 1))⟩,⟨some 3,none,.mv (.t 13)⟩])))))) (.seq (.reg [⟨some 2,none,.mv (.c (.bool true))⟩]) .ret))))
theorem Io:codeOf Tryz.prog 79=some ⟨21,FZ,[(.tmp 2)]⟩:=by kernel_rfl
theorem CP:modes 79=⟨[],.asis,none,false⟩:=by unfold modes; rfl
def Dt:SC:=(.seq (.reg [⟨some 1,none,.boxv 33 5 (.t 0)⟩,⟨some 2,none,.mv (.c (.bool false))⟩]) (.seq (.reg [⟨some 3,none,.load true 5 (.t 1)⟩,⟨some 4,none,.call 51 [(.t 3)]⟩,⟨some 5,none,.bin .leq false (.t 4) (.c (.int .i64 40))⟩,⟨some 6,none,.mv (.t 5)⟩,⟨(some 7),(some (6,true)),(.load true 5 (.t 1))⟩,⟨(some 8),(some (6,true)),(.call 68 [(.t 7)])⟩,⟨some 9,none,.pick (.t 6) (.t 8) (.c (.bool false))⟩,⟨some 2,none,.mv (.t 9)⟩]) .ret))
theorem Es:codeOf Tryz.prog 30=some ⟨10,Dt,[(.tmp 2)]⟩:=by kernel_rfl
theorem Aw:modes 30=⟨[],.asis,none,false⟩:=by unfold modes; rfl
def GD:SC:=(.seq (.reg [⟨some 1,none,.boxv 33 5 (.t 0)⟩,⟨some 2,none,.mv (.c (.bool false))⟩]) (.seq (.reg [⟨some 3,none,.load true 5 (.t 1)⟩,⟨some 4,none,.call 78 [(.t 3),(.c (.int .i64 40))]⟩,⟨some 5,none,.bin .leq false (.t 4) (.c (.int .i64 40))⟩,⟨some 6,none,.mv (.t 5)⟩,⟨(some 7),(some (6,true)),(.load true 5 (.t 1))⟩,⟨(some 8),(some (6,true)),(.call 79 [(.t 7)])⟩,⟨some 9,none,.pick (.t 6) (.t 8) (.c (.bool false))⟩,⟨some 2,none,.mv (.t 9)⟩]) .ret))
theorem IY:codeOf Tryz.prog 35=some ⟨10,GD,[(.tmp 2)]⟩:=by kernel_rfl
theorem GE:modes 35=⟨[],.asis,none,false⟩:=by unfold modes; rfl
theorem C6 (n:Int):E 70 [.int .i64 n] []=some (.bool (dec (n=8) || dec (n=9)),[]):=by
 cases h1:dec (n=8) with
 | true =>
  refine Ai Fp Ac (of_decide_eq_true rfl) ?_
  simp (disch:=omega) only [DD,go_sem,Ab,h1]
 | false =>
  refine Ai Fp Ac (of_decide_eq_true rfl) ?_
  simp (disch:=omega) only [DD,go_sem,Ab,h1]
theorem E8 (n:Int):E 114 [.int .i64 n] []=some (.bool (dec (n=5) || dec (n=6) || dec (n=7)),[]):=by
 cases h1:dec (n=5) <;> cases h2:dec (n=6)
 all_goals
  refine Ai Ly Ah (of_decide_eq_true rfl) ?_
  simp (disch:=omega) only [HD,go_sem,Ab,h1,h2]
theorem F2 (x:Tm):E 116 [x.sv] []=some (.bool x.isZ,[]):=by
 unfold Tm.isZ
 have hl:dec ((x.args.length:Int)=0)=(x.args.length == 0):=by
  rw [Jm]
  cases x.args <;> simp <;> omega
 cases h1:dec (x.name=⟨#[]⟩) with
 | true =>
  refine Ai Gu Af (of_decide_eq_true rfl) ?_
  simp (disch:=omega) only [Ej,go_sem,Ab,h1]
  try rw [hl]
 | false =>
  refine Ai Gu Af (of_decide_eq_true rfl) ?_
  simp (disch:=omega) only [Ej,go_sem,Ab,h1]
theorem Kd (x:Tm):E 150 [x.sv] []=some (.bool x.isZ,[]):=by
 unfold Tm.isZ
 have hl:dec ((x.args.length:Int)=0)=(x.args.length == 0):=by
  rw [Jm]
  cases x.args <;> simp <;> omega
 cases h1:dec (x.name=⟨#[]⟩) with
 | true =>
  refine Ai IX Ak (of_decide_eq_true rfl) ?_
  simp (disch:=omega) only [GC,go_sem,Ab,h1]
  try rw [hl]
 | false =>
  refine Ai IX Ak (of_decide_eq_true rfl) ?_
  simp (disch:=omega) only [GC,go_sem,Ab,h1]
theorem QS (x:Fm) (hn:x.atom.nodes≤1099511627776) (ho:x.op=1∨x.op=2):E 124 [x.sv] []=some (.bool x.form,[]):=by
 have hf:x.form=(x.parts.length == 0&&x.atom.isZ&&dec (x.var=⟨#[]⟩)):=by unfold Fm.form; rcases ho with ho | ho <;> simp [ho]
 rcases ho with ho | ho
 all_goals
  first
   |(have o1:dec (x.op=1)=true:=Ax ho)
   |(have o1:dec (x.op=1)=false:=An (by omega))
  first
   |(have o2:dec (x.op=2)=true:=Ax ho)
   |(have o2:dec (x.op=2)=false:=An (by omega))
  have o3:dec (x.op=3)=false:=An (by omega)
  have o4:dec (x.op=4)=false:=An (by omega)
  have o5:dec (x.op=5)=false:=An (by omega)
  have o6:dec (x.op=6)=false:=An (by omega)
  have o7:dec (x.op=7)=false:=An (by omega)
  have o8:dec (x.op=8)=false:=An (by omega)
  have o9:dec (x.op=9)=false:=An (by omega)
  have ha:=Kd x.atom
  have hv:=I9 x.var
  rw [hf]
  by_cases hl:x.parts.length=0
  ·have hl2:dec ((x.parts.length:Int)=0)=true:=Ax (by omega)
   rw [hl,beq_self_eq_true,zG]
   cases hq:x.atom.isZ with
   | true =>
    rw [hq] at ha
    rw [zG]
    refine Ai Bb AR (of_decide_eq_true rfl) ?_
    simp (disch:=omega) only [AW,go_sem,o1,o2,o3,o4,o5,o6,o7,o8,o9,hl2,ha,hv,Aj,Ak,Am]
    repeat ((first | (refine AF ?_ ?_; (focus (simp (disch:=omega) only [go_sem,o1,o2,o3,o4,o5,o6,o7,o8,o9,hl2,ha,hv,Aj,Ak,Am]; done))) | (refine AG ?_ ?_; (focus (simp (disch:=omega) only [go_sem,o1,o2,o3,o4,o5,o6,o7,o8,o9,hl2,ha,hv,Aj,Ak,Am]; done)))); (try simp (disch:=omega) only [go_sem,o1,o2,o3,o4,o5,o6,o7,o8,o9,hl2,ha,hv,Aj,Ak,Am]))
   | false =>
    rw [hq] at ha
    rw [zB]
    refine Ai Bb AR (of_decide_eq_true rfl) ?_
    simp (disch:=omega) only [AW,go_sem,o1,o2,o3,o4,o5,o6,o7,o8,o9,hl2,ha,hv,Aj,Ak,Am]
    repeat ((first | (refine AF ?_ ?_; (focus (simp (disch:=omega) only [go_sem,o1,o2,o3,o4,o5,o6,o7,o8,o9,hl2,ha,hv,Aj,Ak,Am]; done))) | (refine AG ?_ ?_; (focus (simp (disch:=omega) only [go_sem,o1,o2,o3,o4,o5,o6,o7,o8,o9,hl2,ha,hv,Aj,Ak,Am]; done)))); (try simp (disch:=omega) only [go_sem,o1,o2,o3,o4,o5,o6,o7,o8,o9,hl2,ha,hv,Aj,Ak,Am]))
  ·have hl2:dec ((x.parts.length:Int)=0)=false:=An (by omega)
   have hl3:(x.parts.length == 0)=false:=by simpa using hl
   rw [hl3,zB,zB]
   refine Ai Bb AR (of_decide_eq_true rfl) ?_
   simp (disch:=omega) only [AW,go_sem,o1,o2,o3,o4,o5,o6,o7,o8,o9,hl2,ha,hv,Aj,Ak,Am]
   repeat ((first | (refine AF ?_ ?_; (focus (simp (disch:=omega) only [go_sem,o1,o2,o3,o4,o5,o6,o7,o8,o9,hl2,ha,hv,Aj,Ak,Am]; done))) | (refine AG ?_ ?_; (focus (simp (disch:=omega) only [go_sem,o1,o2,o3,o4,o5,o6,o7,o8,o9,hl2,ha,hv,Aj,Ak,Am]; done)))); (try simp (disch:=omega) only [go_sem,o1,o2,o3,o4,o5,o6,o7,o8,o9,hl2,ha,hv,Aj,Ak,Am]))
theorem VU (x:Fm) (hn:x.atom.nodes≤1099511627776) (ho:x.op=3):E 124 [x.sv] []=some (.bool x.form,[]):=by
 have hf:x.form=(x.parts.length == 0&&x.atom.atom&&dec (x.var=⟨#[]⟩)):=by unfold Fm.form; rcases ho with ho <;> simp [ho]
 rcases ho with ho
 all_goals
  have o1:dec (x.op=1)=false:=An (by omega)
  have o2:dec (x.op=2)=false:=An (by omega)
  have o3:dec (x.op=3)=true:=Ax ho
  have o4:dec (x.op=4)=false:=An (by omega)
  have o5:dec (x.op=5)=false:=An (by omega)
  have o6:dec (x.op=6)=false:=An (by omega)
  have o7:dec (x.op=7)=false:=An (by omega)
  have o8:dec (x.op=8)=false:=An (by omega)
  have o9:dec (x.op=9)=false:=An (by omega)
  have ha:=VG x.atom (by omega)
  have hv:=I9 x.var
  rw [hf]
  by_cases hl:x.parts.length=0
  ·have hl2:dec ((x.parts.length:Int)=0)=true:=Ax (by omega)
   rw [hl,beq_self_eq_true,zG]
   cases hq:x.atom.atom with
   | true =>
    rw [hq] at ha
    rw [zG]
    refine Ai Bb AR (of_decide_eq_true rfl) ?_
    simp (disch:=omega) only [AW,go_sem,o1,o2,o3,o4,o5,o6,o7,o8,o9,hl2,ha,hv,Aj,Ak,Am]
    repeat ((first | (refine AF ?_ ?_; (focus (simp (disch:=omega) only [go_sem,o1,o2,o3,o4,o5,o6,o7,o8,o9,hl2,ha,hv,Aj,Ak,Am]; done))) | (refine AG ?_ ?_; (focus (simp (disch:=omega) only [go_sem,o1,o2,o3,o4,o5,o6,o7,o8,o9,hl2,ha,hv,Aj,Ak,Am]; done)))); (try simp (disch:=omega) only [go_sem,o1,o2,o3,o4,o5,o6,o7,o8,o9,hl2,ha,hv,Aj,Ak,Am]))
   | false =>
    rw [hq] at ha
    rw [zB]
    refine Ai Bb AR (of_decide_eq_true rfl) ?_
    simp (disch:=omega) only [AW,go_sem,o1,o2,o3,o4,o5,o6,o7,o8,o9,hl2,ha,hv,Aj,Ak,Am]
    repeat ((first | (refine AF ?_ ?_; (focus (simp (disch:=omega) only [go_sem,o1,o2,o3,o4,o5,o6,o7,o8,o9,hl2,ha,hv,Aj,Ak,Am]; done))) | (refine AG ?_ ?_; (focus (simp (disch:=omega) only [go_sem,o1,o2,o3,o4,o5,o6,o7,o8,o9,hl2,ha,hv,Aj,Ak,Am]; done)))); (try simp (disch:=omega) only [go_sem,o1,o2,o3,o4,o5,o6,o7,o8,o9,hl2,ha,hv,Aj,Ak,Am]))
  ·have hl2:dec ((x.parts.length:Int)=0)=false:=An (by omega)
   have hl3:(x.parts.length == 0)=false:=by simpa using hl
   rw [hl3,zB,zB]
   refine Ai Bb AR (of_decide_eq_true rfl) ?_
   simp (disch:=omega) only [AW,go_sem,o1,o2,o3,o4,o5,o6,o7,o8,o9,hl2,ha,hv,Aj,Ak,Am]
   repeat ((first | (refine AF ?_ ?_; (focus (simp (disch:=omega) only [go_sem,o1,o2,o3,o4,o5,o6,o7,o8,o9,hl2,ha,hv,Aj,Ak,Am]; done))) | (refine AG ?_ ?_; (focus (simp (disch:=omega) only [go_sem,o1,o2,o3,o4,o5,o6,o7,o8,o9,hl2,ha,hv,Aj,Ak,Am]; done)))); (try simp (disch:=omega) only [go_sem,o1,o2,o3,o4,o5,o6,o7,o8,o9,hl2,ha,hv,Aj,Ak,Am]))
theorem VV (x:Fm) (hn:x.atom.nodes≤1099511627776) (ho:x.op=4):E 124 [x.sv] []=some (.bool x.form,[]):=by
 have hf:x.form=(x.parts.length == 1&&x.atom.isZ&&dec (x.var=⟨#[]⟩)):=by unfold Fm.form; rcases ho with ho <;> simp [ho]
 rcases ho with ho
 all_goals
  have o1:dec (x.op=1)=false:=An (by omega)
  have o2:dec (x.op=2)=false:=An (by omega)
  have o3:dec (x.op=3)=false:=An (by omega)
  have o4:dec (x.op=4)=true:=Ax ho
  have o5:dec (x.op=5)=false:=An (by omega)
  have o6:dec (x.op=6)=false:=An (by omega)
  have o7:dec (x.op=7)=false:=An (by omega)
  have o8:dec (x.op=8)=false:=An (by omega)
  have o9:dec (x.op=9)=false:=An (by omega)
  have ha:=Kd x.atom
  have hv:=I9 x.var
  rw [hf]
  by_cases hl:x.parts.length=1
  ·have hl2:dec ((x.parts.length:Int)=1)=true:=Ax (by omega)
   rw [hl,beq_self_eq_true,zG]
   cases hq:x.atom.isZ with
   | true =>
    rw [hq] at ha
    rw [zG]
    refine Ai Bb AR (of_decide_eq_true rfl) ?_
    simp (disch:=omega) only [AW,go_sem,o1,o2,o3,o4,o5,o6,o7,o8,o9,hl2,ha,hv,Aj,Ak,Am]
    repeat ((first | (refine AF ?_ ?_; (focus (simp (disch:=omega) only [go_sem,o1,o2,o3,o4,o5,o6,o7,o8,o9,hl2,ha,hv,Aj,Ak,Am]; done))) | (refine AG ?_ ?_; (focus (simp (disch:=omega) only [go_sem,o1,o2,o3,o4,o5,o6,o7,o8,o9,hl2,ha,hv,Aj,Ak,Am]; done)))); (try simp (disch:=omega) only [go_sem,o1,o2,o3,o4,o5,o6,o7,o8,o9,hl2,ha,hv,Aj,Ak,Am]))
   | false =>
    rw [hq] at ha
    rw [zB]
    refine Ai Bb AR (of_decide_eq_true rfl) ?_
    simp (disch:=omega) only [AW,go_sem,o1,o2,o3,o4,o5,o6,o7,o8,o9,hl2,ha,hv,Aj,Ak,Am]
    repeat ((first | (refine AF ?_ ?_; (focus (simp (disch:=omega) only [go_sem,o1,o2,o3,o4,o5,o6,o7,o8,o9,hl2,ha,hv,Aj,Ak,Am]; done))) | (refine AG ?_ ?_; (focus (simp (disch:=omega) only [go_sem,o1,o2,o3,o4,o5,o6,o7,o8,o9,hl2,ha,hv,Aj,Ak,Am]; done)))); (try simp (disch:=omega) only [go_sem,o1,o2,o3,o4,o5,o6,o7,o8,o9,hl2,ha,hv,Aj,Ak,Am]))
  ·have hl2:dec ((x.parts.length:Int)=1)=false:=An (by omega)
   have hl3:(x.parts.length == 1)=false:=by simpa using hl
   rw [hl3,zB,zB]
   refine Ai Bb AR (of_decide_eq_true rfl) ?_
   simp (disch:=omega) only [AW,go_sem,o1,o2,o3,o4,o5,o6,o7,o8,o9,hl2,ha,hv,Aj,Ak,Am]
   repeat ((first | (refine AF ?_ ?_; (focus (simp (disch:=omega) only [go_sem,o1,o2,o3,o4,o5,o6,o7,o8,o9,hl2,ha,hv,Aj,Ak,Am]; done))) | (refine AG ?_ ?_; (focus (simp (disch:=omega) only [go_sem,o1,o2,o3,o4,o5,o6,o7,o8,o9,hl2,ha,hv,Aj,Ak,Am]; done)))); (try simp (disch:=omega) only [go_sem,o1,o2,o3,o4,o5,o6,o7,o8,o9,hl2,ha,hv,Aj,Ak,Am]))
theorem MO (x:Fm) (hn:x.atom.nodes≤1099511627776) (ho:x.op=5∨x.op=6∨x.op=7):E 124 [x.sv] []=some (.bool x.form,[]):=by
 have hf:x.form=(x.parts.length == 2&&x.atom.isZ&&dec (x.var=⟨#[]⟩)):=by unfold Fm.form; rcases ho with ho | ho | ho <;> simp [ho]
 rcases ho with ho | ho | ho
 all_goals
  have o1:dec (x.op=1)=false:=An (by omega)
  have o2:dec (x.op=2)=false:=An (by omega)
  have o3:dec (x.op=3)=false:=An (by omega)
  have o4:dec (x.op=4)=false:=An (by omega)
  first
   |(have o5:dec (x.op=5)=true:=Ax ho)
   |(have o5:dec (x.op=5)=false:=An (by omega))
  first
   |(have o6:dec (x.op=6)=true:=Ax ho)
   |(have o6:dec (x.op=6)=false:=An (by omega))
  first
   |(have o7:dec (x.op=7)=true:=Ax ho)
   |(have o7:dec (x.op=7)=false:=An (by omega))
  have o8:dec (x.op=8)=false:=An (by omega)
  have o9:dec (x.op=9)=false:=An (by omega)
  have ha:=Kd x.atom
  have hv:=I9 x.var
  rw [hf]
  by_cases hl:x.parts.length=2
  ·have hl2:dec ((x.parts.length:Int)=2)=true:=Ax (by omega)
   rw [hl,beq_self_eq_true,zG]
   cases hq:x.atom.isZ with
   | true =>
    rw [hq] at ha
    rw [zG]
    refine Ai Bb AR (of_decide_eq_true rfl) ?_
    simp (disch:=omega) only [AW,go_sem,o1,o2,o3,o4,o5,o6,o7,o8,o9,hl2,ha,hv,Aj,Ak,Am]
    repeat ((first | (refine AF ?_ ?_; (focus (simp (disch:=omega) only [go_sem,o1,o2,o3,o4,o5,o6,o7,o8,o9,hl2,ha,hv,Aj,Ak,Am]; done))) | (refine AG ?_ ?_; (focus (simp (disch:=omega) only [go_sem,o1,o2,o3,o4,o5,o6,o7,o8,o9,hl2,ha,hv,Aj,Ak,Am]; done)))); (try simp (disch:=omega) only [go_sem,o1,o2,o3,o4,o5,o6,o7,o8,o9,hl2,ha,hv,Aj,Ak,Am]))
   | false =>
    rw [hq] at ha
    rw [zB]
    refine Ai Bb AR (of_decide_eq_true rfl) ?_
    simp (disch:=omega) only [AW,go_sem,o1,o2,o3,o4,o5,o6,o7,o8,o9,hl2,ha,hv,Aj,Ak,Am]
    repeat ((first | (refine AF ?_ ?_; (focus (simp (disch:=omega) only [go_sem,o1,o2,o3,o4,o5,o6,o7,o8,o9,hl2,ha,hv,Aj,Ak,Am]; done))) | (refine AG ?_ ?_; (focus (simp (disch:=omega) only [go_sem,o1,o2,o3,o4,o5,o6,o7,o8,o9,hl2,ha,hv,Aj,Ak,Am]; done)))); (try simp (disch:=omega) only [go_sem,o1,o2,o3,o4,o5,o6,o7,o8,o9,hl2,ha,hv,Aj,Ak,Am]))
  ·have hl2:dec ((x.parts.length:Int)=2)=false:=An (by omega)
   have hl3:(x.parts.length == 2)=false:=by simpa using hl
   rw [hl3,zB,zB]
   refine Ai Bb AR (of_decide_eq_true rfl) ?_
   simp (disch:=omega) only [AW,go_sem,o1,o2,o3,o4,o5,o6,o7,o8,o9,hl2,ha,hv,Aj,Ak,Am]
   repeat ((first | (refine AF ?_ ?_; (focus (simp (disch:=omega) only [go_sem,o1,o2,o3,o4,o5,o6,o7,o8,o9,hl2,ha,hv,Aj,Ak,Am]; done))) | (refine AG ?_ ?_; (focus (simp (disch:=omega) only [go_sem,o1,o2,o3,o4,o5,o6,o7,o8,o9,hl2,ha,hv,Aj,Ak,Am]; done)))); (try simp (disch:=omega) only [go_sem,o1,o2,o3,o4,o5,o6,o7,o8,o9,hl2,ha,hv,Aj,Ak,Am]))
theorem QT (x:Fm) (hn:x.atom.nodes≤1099511627776) (ho:x.op=8∨x.op=9):E 124 [x.sv] []=some (.bool x.form,[]):=by
 have hf:x.form=(x.parts.length == 1&&x.atom.isZ&&Cf x.var):=by unfold Fm.form; rcases ho with ho | ho <;> simp [ho]
 rcases ho with ho | ho
 all_goals
  have o1:dec (x.op=1)=false:=An (by omega)
  have o2:dec (x.op=2)=false:=An (by omega)
  have o3:dec (x.op=3)=false:=An (by omega)
  have o4:dec (x.op=4)=false:=An (by omega)
  have o5:dec (x.op=5)=false:=An (by omega)
  have o6:dec (x.op=6)=false:=An (by omega)
  have o7:dec (x.op=7)=false:=An (by omega)
  first
   |(have o8:dec (x.op=8)=true:=Ax ho)
   |(have o8:dec (x.op=8)=false:=An (by omega))
  first
   |(have o9:dec (x.op=9)=true:=Ax ho)
   |(have o9:dec (x.op=9)=false:=An (by omega))
  have ha:=Kd x.atom
  have hv:=I9 x.var
  rw [hf]
  by_cases hl:x.parts.length=1
  ·have hl2:dec ((x.parts.length:Int)=1)=true:=Ax (by omega)
   rw [hl,beq_self_eq_true,zG]
   cases hq:x.atom.isZ with
   | true =>
    rw [hq] at ha
    rw [zG]
    refine Ai Bb AR (of_decide_eq_true rfl) ?_
    simp (disch:=omega) only [AW,go_sem,o1,o2,o3,o4,o5,o6,o7,o8,o9,hl2,ha,hv,Aj,Ak,Am]
    repeat ((first | (refine AF ?_ ?_; (focus (simp (disch:=omega) only [go_sem,o1,o2,o3,o4,o5,o6,o7,o8,o9,hl2,ha,hv,Aj,Ak,Am]; done))) | (refine AG ?_ ?_; (focus (simp (disch:=omega) only [go_sem,o1,o2,o3,o4,o5,o6,o7,o8,o9,hl2,ha,hv,Aj,Ak,Am]; done)))); (try simp (disch:=omega) only [go_sem,o1,o2,o3,o4,o5,o6,o7,o8,o9,hl2,ha,hv,Aj,Ak,Am]))
   | false =>
    rw [hq] at ha
    rw [zB]
    refine Ai Bb AR (of_decide_eq_true rfl) ?_
    simp (disch:=omega) only [AW,go_sem,o1,o2,o3,o4,o5,o6,o7,o8,o9,hl2,ha,hv,Aj,Ak,Am]
    repeat ((first | (refine AF ?_ ?_; (focus (simp (disch:=omega) only [go_sem,o1,o2,o3,o4,o5,o6,o7,o8,o9,hl2,ha,hv,Aj,Ak,Am]; done))) | (refine AG ?_ ?_; (focus (simp (disch:=omega) only [go_sem,o1,o2,o3,o4,o5,o6,o7,o8,o9,hl2,ha,hv,Aj,Ak,Am]; done)))); (try simp (disch:=omega) only [go_sem,o1,o2,o3,o4,o5,o6,o7,o8,o9,hl2,ha,hv,Aj,Ak,Am]))
  ·have hl2:dec ((x.parts.length:Int)=1)=false:=An (by omega)
   have hl3:(x.parts.length == 1)=false:=by simpa using hl
   rw [hl3,zB,zB]
   refine Ai Bb AR (of_decide_eq_true rfl) ?_
   simp (disch:=omega) only [AW,go_sem,o1,o2,o3,o4,o5,o6,o7,o8,o9,hl2,ha,hv,Aj,Ak,Am]
   repeat ((first | (refine AF ?_ ?_; (focus (simp (disch:=omega) only [go_sem,o1,o2,o3,o4,o5,o6,o7,o8,o9,hl2,ha,hv,Aj,Ak,Am]; done))) | (refine AG ?_ ?_; (focus (simp (disch:=omega) only [go_sem,o1,o2,o3,o4,o5,o6,o7,o8,o9,hl2,ha,hv,Aj,Ak,Am]; done)))); (try simp (disch:=omega) only [go_sem,o1,o2,o3,o4,o5,o6,o7,o8,o9,hl2,ha,hv,Aj,Ak,Am]))
theorem VW (x:Fm) (hn:x.atom.nodes≤1099511627776):E 124 [x.sv] []=some (.bool x.form,[]):=by
 rcases ME x.op with h | h | h | h | h | h | h | h | h | h
 ·exact QS x hn (.inl h)
 ·exact QS x hn (.inr h)
 ·exact VU x hn h
 ·exact VV x hn h
 ·exact MO x hn (.inl h)
 ·exact MO x hn (.inr (.inl h))
 ·exact MO x hn (.inr (.inr h))
 ·exact QT x hn (.inl h)
 ·exact QT x hn (.inr h)
 ·obtain ⟨h1,h2,h3,h4,h5,h6,h7,h8,h9⟩:=h
  have hf:x.form=false:=by unfold Fm.form; simp [h1,h2,h3,h4,h5,h6,h7,h8,h9]
  have o1:=An h1
  have o2:=An h2
  have o3:=An h3
  have o4:=An h4
  have o5:=An h5
  have o6:=An h6
  have o7:=An h7
  have o8:=An h8
  have o9:=An h9
  rw [hf]
  refine Ai Bb AR (of_decide_eq_true rfl) ?_
  simp (disch:=omega) only [AW,go_sem,o1,o2,o3,o4,o5,o6,o7,o8,o9]
  repeat ((first | (refine AF ?_ ?_; (focus (simp (disch:=omega) only [go_sem,o1,o2,o3,o4,o5,o6,o7,o8,o9]; done))) | (refine AG ?_ ?_; (focus (simp (disch:=omega) only [go_sem,o1,o2,o3,o4,o5,o6,o7,o8,o9]; done)))); (try simp (disch:=omega) only [go_sem,o1,o2,o3,o4,o5,o6,o7,o8,o9]))
theorem Sj (x:Fm) (ht:x.tame) (hn:x.nodes≤1099511627776) (ih:∀ y∈x.parts,E 79 [y.sv] []=some (.bool y.forms,[])):E 79 [x.sv] []=some (.bool x.forms,[]):=by
 have hl:=Fm.length_le x.parts
 have hx:=Fm.nodes_eq x
 have hf:=VW x (Fm.H0 ht)
 rw [Fm.DJ]
 cases hq:x.form with
 | false =>
  rw [hq] at hf
  rw [zB]
  refine Ai Io CP (of_decide_eq_true rfl) ?_
  simp (disch:=omega) only [FZ,go_sem,Ab,hf,AR]
 | true =>
  rw [hq] at hf
  rw [zG]
  refine Ai Io CP (of_decide_eq_true rfl) ?_
  simp (disch:=omega) only [FZ,go_sem,Ab,hf,AR]
  refine go_loop (α:=Int) (fun a=>⟨slots 21 0 [(1,.ptr 0 0),(3,.int .i64 a)],[.box 33 [.int .i64 x.op,.str x.atom.name,.arr (x.atom.args.map Tm.d),.str x.var,.arr (x.parts.map Fm.d)]]⟩) (fun a=>∃ k:Nat,a=k∧k≤(x.parts).length∧Fm.He (x.parts.drop k)=Fm.He x.parts) (fun a=>(x.parts).length-(a).toNat) 0 ⟨0,rfl,zT _,by rw [zS]⟩ (by simp (disch:=omega) only [go_sem,Ab]) ?_
  rintro i ⟨k,hi,hk,hR⟩
  have hni:i.toNat=k:=by omega
  have hni1:(i+1).toNat=k+1:=by omega
  rcases zF k (x.parts).length with hlt | hge
  ·have hg:=get_at Fm.d hlt
   rw [Fm.d_eq] at hg
   have hc:=ih x.parts[k] (zP hlt)
   rw [zJ hlt,Fm.He] at hR
   cases hp:x.parts[k].forms with
   | true =>
    rw [hp] at hc hR
    rw [zG] at hR
    simp (disch:=omega) only [go_sem,Ab,hni,hg,hc,CP]
    exact ⟨i+1,⟨k+1,by omega,hlt,hR⟩,by omega,by first | trivial | rfl⟩
   | false =>
    rw [hp] at hc hR
    rw [zB] at hR
    simp (disch:=omega) only [go_sem,Ab,hni,hg,hc,CP]
    exact hR
  ·rw [zQ hge,Fm.He] at hR
   simp (disch:=omega) only [go_sem,Ab,hni]
   exact hR
theorem O9 (x:Fm) (ht:x.tame) (hn:x.nodes≤1099511627776):E 79 [x.sv] []=some (.bool x.forms,[]) :=
 Sj x ht hn fun y hy=>O9 y (Fm.IC ht hy) (by have:=Fm.nodes_mem hy; have:=Fm.nodes_eq x; omega)
termination_by SizeOf.sizeOf x
decreasing_by exact Fm.lt_of_mem hy
theorem OA (x:Fm) (hn:x.atom.nodes≤1099511627776) (hl0:x.parts.length≤1099511627776) (ho:x.op=1∨x.op=2) (h2:E 72 [.arr (x.parts.map Fm.d),.fn 117 []] []=some (.bool (x.parts.any fun y=>!y.forms),[])):E 68 [x.sv] []=some (.bool x.forms,[]):=by
 have hf:x.form=(x.parts.length == 0&&x.atom.isZ&&dec (x.var=⟨#[]⟩)):=by unfold Fm.form; rcases ho with ho | ho <;> simp [ho]
 rcases ho with ho | ho
 all_goals
  first
   |(have o1:dec (x.op=1)=true:=Ax ho)
   |(have o1:dec (x.op=1)=false:=An (by omega))
  first
   |(have o2:dec (x.op=2)=true:=Ax ho)
   |(have o2:dec (x.op=2)=false:=An (by omega))
  have o3:dec (x.op=3)=false:=An (by omega)
  have o4:dec (x.op=4)=false:=An (by omega)
  have o5:dec (x.op=5)=false:=An (by omega)
  have o6:dec (x.op=6)=false:=An (by omega)
  have o7:dec (x.op=7)=false:=An (by omega)
  have o8:dec (x.op=8)=false:=An (by omega)
  have o9:dec (x.op=9)=false:=An (by omega)
  have ha:=F2 x.atom
  have hv:=CW x.var
  have hb:=E8 x.op
  have hu:=C6 x.op
  rw [o5,o6,o7] at hb
  rw [o8,o9] at hu
  rw [Fm.DJ,hf,← Fm.any_not]
  by_cases hl:x.parts.length=0
  ·have hl2:dec ((x.parts.length:Int)=0)=true:=Ax (by omega)
   rw [hl,beq_self_eq_true,zG]
   cases hw:dec (x.var=⟨#[]⟩) with
   | false =>
    try rw [hw] at hv
    rw [yD,zB]
    refine Ai A9 A2 (of_decide_eq_true rfl) ?_
    simp (disch:=omega) only [A6,go_sem,o1,o2,o3,o4,o5,o6,o7,o8,o9,hl2,ha,hv,hb,hu,hw,h2,Ad,Af,Ae,Ac,Ah,Aa]
    repeat ((first | (refine AF ?_ ?_; (focus (simp (disch:=omega) only [go_sem,o1,o2,o3,o4,o5,o6,o7,o8,o9,hl2,ha,hv,hb,hu,hw,h2,Ad,Af,Ae,Ac,Ah,Aa]; done))) | (refine AG ?_ ?_; (focus (simp (disch:=omega) only [go_sem,o1,o2,o3,o4,o5,o6,o7,o8,o9,hl2,ha,hv,hb,hu,hw,h2,Ad,Af,Ae,Ac,Ah,Aa]; done)))); (try simp (disch:=omega) only [go_sem,o1,o2,o3,o4,o5,o6,o7,o8,o9,hl2,ha,hv,hb,hu,hw,h2,Ad,Af,Ae,Ac,Ah,Aa]))
   | true =>
    try rw [hw] at hv
    rw [yC]
    cases hq:x.atom.isZ with
    | true =>
     rw [hq] at ha
     rw [zG]
     refine Ai A9 A2 (of_decide_eq_true rfl) ?_
     simp (disch:=omega) only [A6,go_sem,o1,o2,o3,o4,o5,o6,o7,o8,o9,hl2,ha,hv,hb,hu,hw,h2,Ad,Af,Ae,Ac,Ah,Aa]
     repeat ((first | (refine AF ?_ ?_; (focus (simp (disch:=omega) only [go_sem,o1,o2,o3,o4,o5,o6,o7,o8,o9,hl2,ha,hv,hb,hu,hw,h2,Ad,Af,Ae,Ac,Ah,Aa]; done))) | (refine AG ?_ ?_; (focus (simp (disch:=omega) only [go_sem,o1,o2,o3,o4,o5,o6,o7,o8,o9,hl2,ha,hv,hb,hu,hw,h2,Ad,Af,Ae,Ac,Ah,Aa]; done)))); (try simp (disch:=omega) only [go_sem,o1,o2,o3,o4,o5,o6,o7,o8,o9,hl2,ha,hv,hb,hu,hw,h2,Ad,Af,Ae,Ac,Ah,Aa]))
    | false =>
     rw [hq] at ha
     rw [zB]
     refine Ai A9 A2 (of_decide_eq_true rfl) ?_
     simp (disch:=omega) only [A6,go_sem,o1,o2,o3,o4,o5,o6,o7,o8,o9,hl2,ha,hv,hb,hu,hw,h2,Ad,Af,Ae,Ac,Ah,Aa]
     repeat ((first | (refine AF ?_ ?_; (focus (simp (disch:=omega) only [go_sem,o1,o2,o3,o4,o5,o6,o7,o8,o9,hl2,ha,hv,hb,hu,hw,h2,Ad,Af,Ae,Ac,Ah,Aa]; done))) | (refine AG ?_ ?_; (focus (simp (disch:=omega) only [go_sem,o1,o2,o3,o4,o5,o6,o7,o8,o9,hl2,ha,hv,hb,hu,hw,h2,Ad,Af,Ae,Ac,Ah,Aa]; done)))); (try simp (disch:=omega) only [go_sem,o1,o2,o3,o4,o5,o6,o7,o8,o9,hl2,ha,hv,hb,hu,hw,h2,Ad,Af,Ae,Ac,Ah,Aa]))
  ·have hl2:dec ((x.parts.length:Int)=0)=false:=An (by omega)
   have hl3:(x.parts.length == 0)=false:=by simpa using hl
   rw [hl3,zB,zB,zB]
   refine Ai A9 A2 (of_decide_eq_true rfl) ?_
   simp (disch:=omega) only [A6,go_sem,o1,o2,o3,o4,o5,o6,o7,o8,o9,hl2,ha,hv,hb,hu, h2,Ad,Af,Ae,Ac,Ah,Aa]
   repeat ((first | (refine AF ?_ ?_; (focus (simp (disch:=omega) only [go_sem,o1,o2,o3,o4,o5,o6,o7,o8,o9,hl2,ha,hv,hb,hu, h2,Ad,Af,Ae,Ac,Ah,Aa]; done))) | (refine AG ?_ ?_; (focus (simp (disch:=omega) only [go_sem,o1,o2,o3,o4,o5,o6,o7,o8,o9,hl2,ha,hv,hb,hu, h2,Ad,Af,Ae,Ac,Ah,Aa]; done)))); (try simp (disch:=omega) only [go_sem,o1,o2,o3,o4,o5,o6,o7,o8,o9,hl2,ha,hv,hb,hu, h2,Ad,Af,Ae,Ac,Ah,Aa]))
theorem Uj (x:Fm) (hn:x.atom.nodes≤1099511627776) (hl0:x.parts.length≤1099511627776) (ho:x.op=3) (h2:E 72 [.arr (x.parts.map Fm.d),.fn 117 []] []=some (.bool (x.parts.any fun y=>!y.forms),[])):E 68 [x.sv] []=some (.bool x.forms,[]):=by
 have hf:x.form=(x.parts.length == 0&&x.atom.atom&&dec (x.var=⟨#[]⟩)):=by unfold Fm.form; rcases ho with ho <;> simp [ho]
 rcases ho with ho
 all_goals
  have o1:dec (x.op=1)=false:=An (by omega)
  have o2:dec (x.op=2)=false:=An (by omega)
  have o3:dec (x.op=3)=true:=Ax ho
  have o4:dec (x.op=4)=false:=An (by omega)
  have o5:dec (x.op=5)=false:=An (by omega)
  have o6:dec (x.op=6)=false:=An (by omega)
  have o7:dec (x.op=7)=false:=An (by omega)
  have o8:dec (x.op=8)=false:=An (by omega)
  have o9:dec (x.op=9)=false:=An (by omega)
  have ha:=Ny x.atom (by omega)
  have hv:=CW x.var
  have hb:=E8 x.op
  have hu:=C6 x.op
  rw [o5,o6,o7] at hb
  rw [o8,o9] at hu
  rw [Fm.DJ,hf,← Fm.any_not]
  by_cases hl:x.parts.length=0
  ·have hl2:dec ((x.parts.length:Int)=0)=true:=Ax (by omega)
   rw [hl,beq_self_eq_true,zG]
   cases hw:dec (x.var=⟨#[]⟩) with
   | false =>
    try rw [hw] at hv
    rw [yD,zB]
    refine Ai A9 A2 (of_decide_eq_true rfl) ?_
    simp (disch:=omega) only [A6,go_sem,o1,o2,o3,o4,o5,o6,o7,o8,o9,hl2,ha,hv,hb,hu,hw,h2,Ad,Af,Ae,Ac,Ah,Aa]
    repeat ((first | (refine AF ?_ ?_; (focus (simp (disch:=omega) only [go_sem,o1,o2,o3,o4,o5,o6,o7,o8,o9,hl2,ha,hv,hb,hu,hw,h2,Ad,Af,Ae,Ac,Ah,Aa]; done))) | (refine AG ?_ ?_; (focus (simp (disch:=omega) only [go_sem,o1,o2,o3,o4,o5,o6,o7,o8,o9,hl2,ha,hv,hb,hu,hw,h2,Ad,Af,Ae,Ac,Ah,Aa]; done)))); (try simp (disch:=omega) only [go_sem,o1,o2,o3,o4,o5,o6,o7,o8,o9,hl2,ha,hv,hb,hu,hw,h2,Ad,Af,Ae,Ac,Ah,Aa]))
   | true =>
    try rw [hw] at hv
    rw [yC]
    cases hq:x.atom.atom with
    | true =>
     rw [hq] at ha
     rw [zG]
     refine Ai A9 A2 (of_decide_eq_true rfl) ?_
     simp (disch:=omega) only [A6,go_sem,o1,o2,o3,o4,o5,o6,o7,o8,o9,hl2,ha,hv,hb,hu,hw,h2,Ad,Af,Ae,Ac,Ah,Aa]
     repeat ((first | (refine AF ?_ ?_; (focus (simp (disch:=omega) only [go_sem,o1,o2,o3,o4,o5,o6,o7,o8,o9,hl2,ha,hv,hb,hu,hw,h2,Ad,Af,Ae,Ac,Ah,Aa]; done))) | (refine AG ?_ ?_; (focus (simp (disch:=omega) only [go_sem,o1,o2,o3,o4,o5,o6,o7,o8,o9,hl2,ha,hv,hb,hu,hw,h2,Ad,Af,Ae,Ac,Ah,Aa]; done)))); (try simp (disch:=omega) only [go_sem,o1,o2,o3,o4,o5,o6,o7,o8,o9,hl2,ha,hv,hb,hu,hw,h2,Ad,Af,Ae,Ac,Ah,Aa]))
    | false =>
     rw [hq] at ha
     rw [zB]
     refine Ai A9 A2 (of_decide_eq_true rfl) ?_
     simp (disch:=omega) only [A6,go_sem,o1,o2,o3,o4,o5,o6,o7,o8,o9,hl2,ha,hv,hb,hu,hw,h2,Ad,Af,Ae,Ac,Ah,Aa]
     repeat ((first | (refine AF ?_ ?_; (focus (simp (disch:=omega) only [go_sem,o1,o2,o3,o4,o5,o6,o7,o8,o9,hl2,ha,hv,hb,hu,hw,h2,Ad,Af,Ae,Ac,Ah,Aa]; done))) | (refine AG ?_ ?_; (focus (simp (disch:=omega) only [go_sem,o1,o2,o3,o4,o5,o6,o7,o8,o9,hl2,ha,hv,hb,hu,hw,h2,Ad,Af,Ae,Ac,Ah,Aa]; done)))); (try simp (disch:=omega) only [go_sem,o1,o2,o3,o4,o5,o6,o7,o8,o9,hl2,ha,hv,hb,hu,hw,h2,Ad,Af,Ae,Ac,Ah,Aa]))
  ·have hl2:dec ((x.parts.length:Int)=0)=false:=An (by omega)
   have hl3:(x.parts.length == 0)=false:=by simpa using hl
   rw [hl3,zB,zB,zB]
   refine Ai A9 A2 (of_decide_eq_true rfl) ?_
   simp (disch:=omega) only [A6,go_sem,o1,o2,o3,o4,o5,o6,o7,o8,o9,hl2,ha,hv,hb,hu, h2,Ad,Af,Ae,Ac,Ah,Aa]
   repeat ((first | (refine AF ?_ ?_; (focus (simp (disch:=omega) only [go_sem,o1,o2,o3,o4,o5,o6,o7,o8,o9,hl2,ha,hv,hb,hu, h2,Ad,Af,Ae,Ac,Ah,Aa]; done))) | (refine AG ?_ ?_; (focus (simp (disch:=omega) only [go_sem,o1,o2,o3,o4,o5,o6,o7,o8,o9,hl2,ha,hv,hb,hu, h2,Ad,Af,Ae,Ac,Ah,Aa]; done)))); (try simp (disch:=omega) only [go_sem,o1,o2,o3,o4,o5,o6,o7,o8,o9,hl2,ha,hv,hb,hu, h2,Ad,Af,Ae,Ac,Ah,Aa]))
theorem Uk (x:Fm) (hn:x.atom.nodes≤1099511627776) (hl0:x.parts.length≤1099511627776) (ho:x.op=4) (h2:E 72 [.arr (x.parts.map Fm.d),.fn 117 []] []=some (.bool (x.parts.any fun y=>!y.forms),[])):E 68 [x.sv] []=some (.bool x.forms,[]):=by
 have hf:x.form=(x.parts.length == 1&&x.atom.isZ&&dec (x.var=⟨#[]⟩)):=by unfold Fm.form; rcases ho with ho <;> simp [ho]
 rcases ho with ho
 all_goals
  have o1:dec (x.op=1)=false:=An (by omega)
  have o2:dec (x.op=2)=false:=An (by omega)
  have o3:dec (x.op=3)=false:=An (by omega)
  have o4:dec (x.op=4)=true:=Ax ho
  have o5:dec (x.op=5)=false:=An (by omega)
  have o6:dec (x.op=6)=false:=An (by omega)
  have o7:dec (x.op=7)=false:=An (by omega)
  have o8:dec (x.op=8)=false:=An (by omega)
  have o9:dec (x.op=9)=false:=An (by omega)
  have ha:=F2 x.atom
  have hv:=CW x.var
  have hb:=E8 x.op
  have hu:=C6 x.op
  rw [o5,o6,o7] at hb
  rw [o8,o9] at hu
  rw [Fm.DJ,hf,← Fm.any_not]
  by_cases hl:x.parts.length=1
  ·have hl2:dec ((x.parts.length:Int)=1)=true:=Ax (by omega)
   rw [hl,beq_self_eq_true,zG]
   cases hw:dec (x.var=⟨#[]⟩) with
   | false =>
    try rw [hw] at hv
    rw [yD,zB]
    refine Ai A9 A2 (of_decide_eq_true rfl) ?_
    simp (disch:=omega) only [A6,go_sem,o1,o2,o3,o4,o5,o6,o7,o8,o9,hl2,ha,hv,hb,hu,hw,h2,Ad,Af,Ae,Ac,Ah,Aa]
    repeat ((first | (refine AF ?_ ?_; (focus (simp (disch:=omega) only [go_sem,o1,o2,o3,o4,o5,o6,o7,o8,o9,hl2,ha,hv,hb,hu,hw,h2,Ad,Af,Ae,Ac,Ah,Aa]; done))) | (refine AG ?_ ?_; (focus (simp (disch:=omega) only [go_sem,o1,o2,o3,o4,o5,o6,o7,o8,o9,hl2,ha,hv,hb,hu,hw,h2,Ad,Af,Ae,Ac,Ah,Aa]; done)))); (try simp (disch:=omega) only [go_sem,o1,o2,o3,o4,o5,o6,o7,o8,o9,hl2,ha,hv,hb,hu,hw,h2,Ad,Af,Ae,Ac,Ah,Aa]))
   | true =>
    try rw [hw] at hv
    rw [yC]
    cases hq:x.atom.isZ with
    | true =>
     rw [hq] at ha
     rw [zG]
     refine Ai A9 A2 (of_decide_eq_true rfl) ?_
     simp (disch:=omega) only [A6,go_sem,o1,o2,o3,o4,o5,o6,o7,o8,o9,hl2,ha,hv,hb,hu,hw,h2,Ad,Af,Ae,Ac,Ah,Aa]
     repeat ((first | (refine AF ?_ ?_; (focus (simp (disch:=omega) only [go_sem,o1,o2,o3,o4,o5,o6,o7,o8,o9,hl2,ha,hv,hb,hu,hw,h2,Ad,Af,Ae,Ac,Ah,Aa]; done))) | (refine AG ?_ ?_; (focus (simp (disch:=omega) only [go_sem,o1,o2,o3,o4,o5,o6,o7,o8,o9,hl2,ha,hv,hb,hu,hw,h2,Ad,Af,Ae,Ac,Ah,Aa]; done)))); (try simp (disch:=omega) only [go_sem,o1,o2,o3,o4,o5,o6,o7,o8,o9,hl2,ha,hv,hb,hu,hw,h2,Ad,Af,Ae,Ac,Ah,Aa]))
    | false =>
     rw [hq] at ha
     rw [zB]
     refine Ai A9 A2 (of_decide_eq_true rfl) ?_
     simp (disch:=omega) only [A6,go_sem,o1,o2,o3,o4,o5,o6,o7,o8,o9,hl2,ha,hv,hb,hu,hw,h2,Ad,Af,Ae,Ac,Ah,Aa]
     repeat ((first | (refine AF ?_ ?_; (focus (simp (disch:=omega) only [go_sem,o1,o2,o3,o4,o5,o6,o7,o8,o9,hl2,ha,hv,hb,hu,hw,h2,Ad,Af,Ae,Ac,Ah,Aa]; done))) | (refine AG ?_ ?_; (focus (simp (disch:=omega) only [go_sem,o1,o2,o3,o4,o5,o6,o7,o8,o9,hl2,ha,hv,hb,hu,hw,h2,Ad,Af,Ae,Ac,Ah,Aa]; done)))); (try simp (disch:=omega) only [go_sem,o1,o2,o3,o4,o5,o6,o7,o8,o9,hl2,ha,hv,hb,hu,hw,h2,Ad,Af,Ae,Ac,Ah,Aa]))
  ·have hl2:dec ((x.parts.length:Int)=1)=false:=An (by omega)
   have hl3:(x.parts.length == 1)=false:=by simpa using hl
   rw [hl3,zB,zB,zB]
   refine Ai A9 A2 (of_decide_eq_true rfl) ?_
   simp (disch:=omega) only [A6,go_sem,o1,o2,o3,o4,o5,o6,o7,o8,o9,hl2,ha,hv,hb,hu, h2,Ad,Af,Ae,Ac,Ah,Aa]
   repeat ((first | (refine AF ?_ ?_; (focus (simp (disch:=omega) only [go_sem,o1,o2,o3,o4,o5,o6,o7,o8,o9,hl2,ha,hv,hb,hu, h2,Ad,Af,Ae,Ac,Ah,Aa]; done))) | (refine AG ?_ ?_; (focus (simp (disch:=omega) only [go_sem,o1,o2,o3,o4,o5,o6,o7,o8,o9,hl2,ha,hv,hb,hu, h2,Ad,Af,Ae,Ac,Ah,Aa]; done)))); (try simp (disch:=omega) only [go_sem,o1,o2,o3,o4,o5,o6,o7,o8,o9,hl2,ha,hv,hb,hu, h2,Ad,Af,Ae,Ac,Ah,Aa]))
theorem KI (x:Fm) (hn:x.atom.nodes≤1099511627776) (hl0:x.parts.length≤1099511627776) (ho:x.op=5∨x.op=6∨x.op=7) (h2:E 72 [.arr (x.parts.map Fm.d),.fn 117 []] []=some (.bool (x.parts.any fun y=>!y.forms),[])):E 68 [x.sv] []=some (.bool x.forms,[]):=by
 have hf:x.form=(x.parts.length == 2&&x.atom.isZ&&dec (x.var=⟨#[]⟩)):=by unfold Fm.form; rcases ho with ho | ho | ho <;> simp [ho]
 rcases ho with ho | ho | ho
 all_goals
  have o1:dec (x.op=1)=false:=An (by omega)
  have o2:dec (x.op=2)=false:=An (by omega)
  have o3:dec (x.op=3)=false:=An (by omega)
  have o4:dec (x.op=4)=false:=An (by omega)
  first
   |(have o5:dec (x.op=5)=true:=Ax ho)
   |(have o5:dec (x.op=5)=false:=An (by omega))
  first
   |(have o6:dec (x.op=6)=true:=Ax ho)
   |(have o6:dec (x.op=6)=false:=An (by omega))
  first
   |(have o7:dec (x.op=7)=true:=Ax ho)
   |(have o7:dec (x.op=7)=false:=An (by omega))
  have o8:dec (x.op=8)=false:=An (by omega)
  have o9:dec (x.op=9)=false:=An (by omega)
  have ha:=F2 x.atom
  have hv:=CW x.var
  have hb:=E8 x.op
  have hu:=C6 x.op
  rw [o5,o6,o7] at hb
  rw [o8,o9] at hu
  rw [Fm.DJ,hf,← Fm.any_not]
  by_cases hl:x.parts.length=2
  ·have hl2:dec ((x.parts.length:Int)=2)=true:=Ax (by omega)
   rw [hl,beq_self_eq_true,zG]
   cases hw:dec (x.var=⟨#[]⟩) with
   | false =>
    try rw [hw] at hv
    rw [yD,zB]
    refine Ai A9 A2 (of_decide_eq_true rfl) ?_
    simp (disch:=omega) only [A6,go_sem,o1,o2,o3,o4,o5,o6,o7,o8,o9,hl2,ha,hv,hb,hu,hw,h2,Ad,Af,Ae,Ac,Ah,Aa]
    repeat ((first | (refine AF ?_ ?_; (focus (simp (disch:=omega) only [go_sem,o1,o2,o3,o4,o5,o6,o7,o8,o9,hl2,ha,hv,hb,hu,hw,h2,Ad,Af,Ae,Ac,Ah,Aa]; done))) | (refine AG ?_ ?_; (focus (simp (disch:=omega) only [go_sem,o1,o2,o3,o4,o5,o6,o7,o8,o9,hl2,ha,hv,hb,hu,hw,h2,Ad,Af,Ae,Ac,Ah,Aa]; done)))); (try simp (disch:=omega) only [go_sem,o1,o2,o3,o4,o5,o6,o7,o8,o9,hl2,ha,hv,hb,hu,hw,h2,Ad,Af,Ae,Ac,Ah,Aa]))
   | true =>
    try rw [hw] at hv
    rw [yC]
    cases hq:x.atom.isZ with
    | true =>
     rw [hq] at ha
     rw [zG]
     refine Ai A9 A2 (of_decide_eq_true rfl) ?_
     simp (disch:=omega) only [A6,go_sem,o1,o2,o3,o4,o5,o6,o7,o8,o9,hl2,ha,hv,hb,hu,hw,h2,Ad,Af,Ae,Ac,Ah,Aa]
     repeat ((first | (refine AF ?_ ?_; (focus (simp (disch:=omega) only [go_sem,o1,o2,o3,o4,o5,o6,o7,o8,o9,hl2,ha,hv,hb,hu,hw,h2,Ad,Af,Ae,Ac,Ah,Aa]; done))) | (refine AG ?_ ?_; (focus (simp (disch:=omega) only [go_sem,o1,o2,o3,o4,o5,o6,o7,o8,o9,hl2,ha,hv,hb,hu,hw,h2,Ad,Af,Ae,Ac,Ah,Aa]; done)))); (try simp (disch:=omega) only [go_sem,o1,o2,o3,o4,o5,o6,o7,o8,o9,hl2,ha,hv,hb,hu,hw,h2,Ad,Af,Ae,Ac,Ah,Aa]))
    | false =>
     rw [hq] at ha
     rw [zB]
     refine Ai A9 A2 (of_decide_eq_true rfl) ?_
     simp (disch:=omega) only [A6,go_sem,o1,o2,o3,o4,o5,o6,o7,o8,o9,hl2,ha,hv,hb,hu,hw,h2,Ad,Af,Ae,Ac,Ah,Aa]
     repeat ((first | (refine AF ?_ ?_; (focus (simp (disch:=omega) only [go_sem,o1,o2,o3,o4,o5,o6,o7,o8,o9,hl2,ha,hv,hb,hu,hw,h2,Ad,Af,Ae,Ac,Ah,Aa]; done))) | (refine AG ?_ ?_; (focus (simp (disch:=omega) only [go_sem,o1,o2,o3,o4,o5,o6,o7,o8,o9,hl2,ha,hv,hb,hu,hw,h2,Ad,Af,Ae,Ac,Ah,Aa]; done)))); (try simp (disch:=omega) only [go_sem,o1,o2,o3,o4,o5,o6,o7,o8,o9,hl2,ha,hv,hb,hu,hw,h2,Ad,Af,Ae,Ac,Ah,Aa]))
  ·have hl2:dec ((x.parts.length:Int)=2)=false:=An (by omega)
   have hl3:(x.parts.length == 2)=false:=by simpa using hl
   rw [hl3,zB,zB,zB]
   refine Ai A9 A2 (of_decide_eq_true rfl) ?_
   simp (disch:=omega) only [A6,go_sem,o1,o2,o3,o4,o5,o6,o7,o8,o9,hl2,ha,hv,hb,hu, h2,Ad,Af,Ae,Ac,Ah,Aa]
   repeat ((first | (refine AF ?_ ?_; (focus (simp (disch:=omega) only [go_sem,o1,o2,o3,o4,o5,o6,o7,o8,o9,hl2,ha,hv,hb,hu, h2,Ad,Af,Ae,Ac,Ah,Aa]; done))) | (refine AG ?_ ?_; (focus (simp (disch:=omega) only [go_sem,o1,o2,o3,o4,o5,o6,o7,o8,o9,hl2,ha,hv,hb,hu, h2,Ad,Af,Ae,Ac,Ah,Aa]; done)))); (try simp (disch:=omega) only [go_sem,o1,o2,o3,o4,o5,o6,o7,o8,o9,hl2,ha,hv,hb,hu, h2,Ad,Af,Ae,Ac,Ah,Aa]))
theorem OB (x:Fm) (hn:x.atom.nodes≤1099511627776) (hl0:x.parts.length≤1099511627776) (ho:x.op=8∨x.op=9) (h2:E 72 [.arr (x.parts.map Fm.d),.fn 117 []] []=some (.bool (x.parts.any fun y=>!y.forms),[])):E 68 [x.sv] []=some (.bool x.forms,[]):=by
 have hf:x.form=(x.parts.length == 1&&x.atom.isZ&&Cf x.var):=by unfold Fm.form; rcases ho with ho | ho <;> simp [ho]
 rcases ho with ho | ho
 all_goals
  have o1:dec (x.op=1)=false:=An (by omega)
  have o2:dec (x.op=2)=false:=An (by omega)
  have o3:dec (x.op=3)=false:=An (by omega)
  have o4:dec (x.op=4)=false:=An (by omega)
  have o5:dec (x.op=5)=false:=An (by omega)
  have o6:dec (x.op=6)=false:=An (by omega)
  have o7:dec (x.op=7)=false:=An (by omega)
  first
   |(have o8:dec (x.op=8)=true:=Ax ho)
   |(have o8:dec (x.op=8)=false:=An (by omega))
  first
   |(have o9:dec (x.op=9)=true:=Ax ho)
   |(have o9:dec (x.op=9)=false:=An (by omega))
  have ha:=F2 x.atom
  have hv:=CW x.var
  have hb:=E8 x.op
  have hu:=C6 x.op
  rw [o5,o6,o7] at hb
  rw [o8,o9] at hu
  rw [Fm.DJ,hf,← Fm.any_not]
  by_cases hl:x.parts.length=1
  ·have hl2:dec ((x.parts.length:Int)=1)=true:=Ax (by omega)
   rw [hl,beq_self_eq_true,zG]
   cases hw:Cf x.var with
   | false =>
    try rw [hw] at hv
    rw [yD,zB]
    refine Ai A9 A2 (of_decide_eq_true rfl) ?_
    simp (disch:=omega) only [A6,go_sem,o1,o2,o3,o4,o5,o6,o7,o8,o9,hl2,ha,hv,hb,hu, h2,Ad,Af,Ae,Ac,Ah,Aa]
    repeat ((first | (refine AF ?_ ?_; (focus (simp (disch:=omega) only [go_sem,o1,o2,o3,o4,o5,o6,o7,o8,o9,hl2,ha,hv,hb,hu, h2,Ad,Af,Ae,Ac,Ah,Aa]; done))) | (refine AG ?_ ?_; (focus (simp (disch:=omega) only [go_sem,o1,o2,o3,o4,o5,o6,o7,o8,o9,hl2,ha,hv,hb,hu, h2,Ad,Af,Ae,Ac,Ah,Aa]; done)))); (try simp (disch:=omega) only [go_sem,o1,o2,o3,o4,o5,o6,o7,o8,o9,hl2,ha,hv,hb,hu, h2,Ad,Af,Ae,Ac,Ah,Aa]))
   | true =>
    try rw [hw] at hv
    rw [yC]
    cases hq:x.atom.isZ with
    | true =>
     rw [hq] at ha
     rw [zG]
     refine Ai A9 A2 (of_decide_eq_true rfl) ?_
     simp (disch:=omega) only [A6,go_sem,o1,o2,o3,o4,o5,o6,o7,o8,o9,hl2,ha,hv,hb,hu, h2,Ad,Af,Ae,Ac,Ah,Aa]
     repeat ((first | (refine AF ?_ ?_; (focus (simp (disch:=omega) only [go_sem,o1,o2,o3,o4,o5,o6,o7,o8,o9,hl2,ha,hv,hb,hu, h2,Ad,Af,Ae,Ac,Ah,Aa]; done))) | (refine AG ?_ ?_; (focus (simp (disch:=omega) only [go_sem,o1,o2,o3,o4,o5,o6,o7,o8,o9,hl2,ha,hv,hb,hu, h2,Ad,Af,Ae,Ac,Ah,Aa]; done)))); (try simp (disch:=omega) only [go_sem,o1,o2,o3,o4,o5,o6,o7,o8,o9,hl2,ha,hv,hb,hu, h2,Ad,Af,Ae,Ac,Ah,Aa]))
    | false =>
     rw [hq] at ha
     rw [zB]
     refine Ai A9 A2 (of_decide_eq_true rfl) ?_
     simp (disch:=omega) only [A6,go_sem,o1,o2,o3,o4,o5,o6,o7,o8,o9,hl2,ha,hv,hb,hu, h2,Ad,Af,Ae,Ac,Ah,Aa]
     repeat ((first | (refine AF ?_ ?_; (focus (simp (disch:=omega) only [go_sem,o1,o2,o3,o4,o5,o6,o7,o8,o9,hl2,ha,hv,hb,hu, h2,Ad,Af,Ae,Ac,Ah,Aa]; done))) | (refine AG ?_ ?_; (focus (simp (disch:=omega) only [go_sem,o1,o2,o3,o4,o5,o6,o7,o8,o9,hl2,ha,hv,hb,hu, h2,Ad,Af,Ae,Ac,Ah,Aa]; done)))); (try simp (disch:=omega) only [go_sem,o1,o2,o3,o4,o5,o6,o7,o8,o9,hl2,ha,hv,hb,hu, h2,Ad,Af,Ae,Ac,Ah,Aa]))
  ·have hl2:dec ((x.parts.length:Int)=1)=false:=An (by omega)
   have hl3:(x.parts.length == 1)=false:=by simpa using hl
   rw [hl3,zB,zB,zB]
   refine Ai A9 A2 (of_decide_eq_true rfl) ?_
   simp (disch:=omega) only [A6,go_sem,o1,o2,o3,o4,o5,o6,o7,o8,o9,hl2,ha,hv,hb,hu, h2,Ad,Af,Ae,Ac,Ah,Aa]
   repeat ((first | (refine AF ?_ ?_; (focus (simp (disch:=omega) only [go_sem,o1,o2,o3,o4,o5,o6,o7,o8,o9,hl2,ha,hv,hb,hu, h2,Ad,Af,Ae,Ac,Ah,Aa]; done))) | (refine AG ?_ ?_; (focus (simp (disch:=omega) only [go_sem,o1,o2,o3,o4,o5,o6,o7,o8,o9,hl2,ha,hv,hb,hu, h2,Ad,Af,Ae,Ac,Ah,Aa]; done)))); (try simp (disch:=omega) only [go_sem,o1,o2,o3,o4,o5,o6,o7,o8,o9,hl2,ha,hv,hb,hu, h2,Ad,Af,Ae,Ac,Ah,Aa]))
theorem Sk (x:Fm) (ht:x.tame) (hn:x.nodes≤1099511627776) (ih:∀ y∈x.parts,E 68 [y.sv] []=some (.bool y.forms,[])):E 68 [x.sv] []=some (.bool x.forms,[]):=by
 have hl:=Fm.length_le x.parts
 have hx:=Fm.nodes_eq x
 have ha:=Fm.H0 ht
 have h1:∀ y∈x.parts,E 117 [y.sv] []=some (.bool (!y.forms),[]):=fun y hy=>by
  have h:=ih y hy
  refine Ai KG Hg (of_decide_eq_true rfl) ?_
  simp (disch:=omega) only [Hf,go_sem,Ab,h,A2]
 have h2:=Jw 117 (fun y=>!y.forms) x.parts (by omega) KH (by rw [Hg]) h1
 rcases ME x.op with h | h | h | h | h | h | h | h | h | h
 ·exact OA x ha (by omega) (.inl h) h2
 ·exact OA x ha (by omega) (.inr h) h2
 ·exact Uj x ha (by omega) h h2
 ·exact Uk x ha (by omega) h h2
 ·exact KI x ha (by omega) (.inl h) h2
 ·exact KI x ha (by omega) (.inr (.inl h)) h2
 ·exact KI x ha (by omega) (.inr (.inr h)) h2
 ·exact OB x ha (by omega) (.inl h) h2
 ·exact OB x ha (by omega) (.inr h) h2
 ·obtain ⟨k1,k2,k3,k4,k5,k6,k7,k8,k9⟩:=h
  have hf:x.form=false:=by unfold Fm.form; simp [k1,k2,k3,k4,k5,k6,k7,k8,k9]
  have o1:=An k1
  have o2:=An k2
  have o3:=An k3
  have o4:=An k4
  have o5:=An k5
  have o6:=An k6
  have o7:=An k7
  have o8:=An k8
  have o9:=An k9
  have hb:=E8 x.op
  have hu:=C6 x.op
  rw [o5,o6,o7] at hb
  rw [o8,o9] at hu
  rw [Fm.DJ,hf,zB]
  refine Ai A9 A2 (of_decide_eq_true rfl) ?_
  simp (disch:=omega) only [A6,go_sem,o1,o2,o3,o4,o5,o6,o7,o8,o9,hb,hu,Ac,Ah]
  repeat ((first | (refine AF ?_ ?_; (focus (simp (disch:=omega) only [go_sem,o1,o2,o3,o4,o5,o6,o7,o8,o9,hb,hu,Ac,Ah]; done))) | (refine AG ?_ ?_; (focus (simp (disch:=omega) only [go_sem,o1,o2,o3,o4,o5,o6,o7,o8,o9,hb,hu,Ac,Ah]; done)))); (try simp (disch:=omega) only [go_sem,o1,o2,o3,o4,o5,o6,o7,o8,o9,hb,hu,Ac,Ah]))
theorem OC (x:Fm) (ht:x.tame) (hn:x.nodes≤1099511627776):E 68 [x.sv] []=some (.bool x.forms,[]) :=
 Sk x ht hn fun y hy=>OC y (Fm.IC ht hy) (by have:=Fm.nodes_mem hy; have:=Fm.nodes_eq x; omega)
termination_by SizeOf.sizeOf x
decreasing_by exact Fm.lt_of_mem hy
theorem BF (x:Fm) (ht:x.tame) (hn:x.nodes≤1099511627776):E 30 [x.sv] []=some (.bool x.valid,[]):=by
 have h1:=P2 x hn
 have h2:=OC x ht hn
 have h3:=Fm.cap_spec x
 unfold Fm.valid
 rcases zF 40 x.nodes with h5 | h5
 ·rw [decide_eq_false (by omega),zB]
  have d:dec (x.cap≤40)=false:=An (by omega)
  refine Ai Es Aw (of_decide_eq_true rfl) ?_
  simp (disch:=omega) only [Dt,go_sem,Ab,h1,h2,d,Dq,A2]
 ·rw [decide_eq_true h5,zG]
  have d:dec (x.cap≤40)=true:=Ax (by omega)
  refine Ai Es Aw (of_decide_eq_true rfl) ?_
  simp (disch:=omega) only [Dt,go_sem,Ab,h1,h2,d,Dq,A2]
theorem VX (x:Fm) (ht:x.tame) (hn:x.nodes≤1099511627776):E 35 [x.sv] []=some (.bool x.valid,[]):=by
 have h1:=Tg x 40 (by omega) (by omega) hn
 have h2:=O9 x ht hn
 have h3:=Fm.many_spec x 40
 unfold Fm.valid
 rcases zF 40 x.nodes with h5 | h5
 ·rw [decide_eq_false (by omega),zB]
  have d:dec ((x.many 40)≤40)=false:=An (by omega)
  refine Ai IY GE (of_decide_eq_true rfl) ?_
  simp (disch:=omega) only [GD,go_sem,Ab,h1,h2,d,DK,CP]
 ·rw [decide_eq_true h5,zG]
  have d:dec ((x.many 40)≤40)=true:=Ax (by omega)
  refine Ai IY GE (of_decide_eq_true rfl) ?_
  simp (disch:=omega) only [GD,go_sem,Ab,h1,h2,d,DK,CP]
def E9:SC:=(.seq (.reg [⟨some 2,none,.mv (.c .nil)⟩]) (.seq (.seq (.reg [⟨some 6,none,.mv (.t 0)⟩,⟨some 7,none,.len false (.t 6)⟩,⟨some 8,none,.bin .eql false (.t 7) (.c (.int .i64 0))⟩]) (.cond (.t 8) (.seq (.reg [⟨some 2,none,.mv (.c .nil)⟩]) .ret) .skip)) (.seq (.reg [⟨some 9,none,.mv (.t 0)⟩,⟨some 10,none,.len false (.t 9)⟩,⟨(some 11),none,(.mkslice 30 2 40 [(.str ⟨#[]⟩),.nil] (.t 10))⟩,⟨some 3,none,.mv (.t 11)⟩]) (.seq (.seq (.reg [⟨some 12,none,.mv (.t 0)⟩,⟨some 13,none,.len false (.t 12)⟩,⟨some 14,none,.mv (.c (.int .i64 0))⟩]) (.block 0 (.loop [0,0,0,1,0,0,0,0,0,0,0,0,1,1,1,0,0,0,0,0,0,0,0,0,0,0] (.seq (.reg [⟨some 15,none,.bin .lss false (.t 14) (.t 13)⟩]) (.seq (.cond (.t 15) .skip (.exit 0)) (.seq (.block 1 (.seq (.reg [⟨some 16,none,.mv (.t 14)⟩,⟨some 17,none,.iaddr 2 (.t 12) (.t 14)⟩,⟨some 18,none,.load true 2 (.t 17)⟩,⟨(some 5),none,(.alloc 30 [(.str ⟨#[]⟩),.nil])⟩,⟨some 4,none,.mv (.t 16)⟩,⟨none,none,(.store 2 (.t 5) (.t 18))⟩]) (.reg [⟨some 19,none,.mv (.t 3)⟩,⟨some 20,none,.mv (.t 4)⟩,⟨some 21,none,.load true 2 (.t 5)⟩,⟨some 22,none,.call 171 [(.t 21)]⟩,⟨some 23,none,.iaddr 2 (.t 19) (.t 20)⟩,⟨none,none,(.store 2 (.t 23) (.t 22))⟩]))) (.reg [⟨some 24,none,.bin .add false (.t 14) (.c (.int .i64 1))⟩,⟨some 14,none,.mv (.t 24)⟩]))))))) (.seq (.reg [⟨some 25,none,.mv (.t 3)⟩,⟨some 2,none,.mv (.t 25)⟩]) .ret)))))
theorem Hh:codeOf Tryz.prog 191=some ⟨26,E9,[(.tmp 2)]⟩:=by kernel_rfl
theorem EA:modes 191=⟨[],.own [some (30,2)],none,false⟩:=by unfold modes; rfl
def HE:SC:=(.seq (.reg [⟨some 1,none,.boxv 30 2 (.t 0)⟩,⟨(some 2),none,(.alloc 30 [(.str ⟨#[]⟩),.nil])⟩]) (.seq (.dreg [[],[0],[],[2],[3,2],[1,0,4,3,2],[5,1,0,4,3,2]] [⟨some 3,none,.faddr 0 (.t 1)⟩,⟨some 4,none,.load false 1 (.t 3)⟩,⟨some 5,none,.faddr 1 (.t 1)⟩,⟨some 6,none,.load false 1 (.t 5)⟩,⟨some 7,none,.call 191 [(.t 6)]⟩,⟨(some 8),none,(.build [(.str ⟨#[]⟩),.nil] [(0,(1,(.t 4))),(1,(1,(.t 7)))])⟩,⟨none,none,(.store 2 (.t 2) (.t 8))⟩]) .ret))
theorem L1:codeOf Tryz.prog 171=some ⟨9,HE,[(.cell 2 true 2)]⟩:=by kernel_rfl
theorem Fg:modes 171=⟨[],.asis,none,false⟩:=by unfold modes; rfl
theorem P3 (xs:List Tm) (hl:xs.length≤1099511627776) (h:∀ x∈xs,E 171 [x.sv] []=some (x.osv,x.obs)):E 191 [.arr (xs.map Tm.d)] []=some (.ref 0,[.row 30 2 (xs.map Tm.o)]):=by
 cases xs with
 | nil =>
  refine Ai Hh EA (of_decide_eq_true rfl) ?_
  simp (disch:=omega) only [E9,go_sem,Ab]
 | cons x0 xs0 =>
 generalize hxs:x0 :: xs0=xs at *
 have hpos:0<xs.length:=by rw [←hxs]; simp
 refine Ai Hh EA (of_decide_eq_true rfl) ?_
 simp (disch:=omega) only [E9,go_sem,Ab]
 refine go_loop (α:=Int) (fun a=>⟨slots 26 0 [(3,.ref 0),(12,.arr (xs.map Tm.d)),(13,.int .i64 xs.length),(14,.int .i64 a)],[.row 30 2 (HA Tm.o [.str ⟨#[]⟩,.ow []] xs a.toNat)]⟩) (fun a=>∃ k:Nat,a=k∧k≤(xs).length) (fun a=>(xs).length-(a).toNat) 0 ⟨0,rfl,zT _⟩ (by simp (disch:=omega) only [go_sem,Ab,Sa,zY]) ?_
 rintro i ⟨k,hi,hk⟩
 have hni:i.toNat=k:=by omega
 have hni1:(i+1).toNat=k+1:=by omega
 rcases zF k (xs).length with hlt | hge
 ·have hg:=get_at Tm.d hlt
  rw [Tm.d_eq] at hg
  have hz:=TX Tm.o [.str ⟨#[]⟩,.ow []] hlt
  have hc:=h xs[k] (zP hlt)
  have hs:=TY Tm.o [.str ⟨#[]⟩,.ow []] hlt
  rw [Tm.o_eq] at hs
  simp (disch:=omega) only [go_sem,Ab,hni,hg,hc,hz,TV,Fg,Tm.osv,Tm.obs]
  refine ⟨i+1,⟨k+1,by omega,hlt⟩,by omega,?_⟩
  simp (disch:=omega) only [go_sem,Ab,hni1,hs]
 ·obtain rfl:k=xs.length:=by omega
  simp (disch:=omega) only [go_sem,Ab,hni,TW]
theorem QU (x:Tm) (h:E 191 [.arr (x.args.map Tm.d)] []=some (.ref 0,[.row 30 2 (x.args.map Tm.o)])):E 171 [x.sv] []=some (x.osv,x.obs):=by
 refine Ai L1 Fg (of_decide_eq_true rfl) ?_
 simp (disch:=omega) only [HE,go_sem,Ab,h,EA]
theorem MP (x:Tm) (hn:x.nodes≤1099511627776):E 171 [x.sv] []=some (x.osv,x.obs) :=
 QU x (P3 x.args (by have:=Tm.nodes_eq x; have:=Tm.length_le x.args; omega) fun y hy=>MP y (by have:=Tm.nodes_mem hy; have:=Tm.nodes_eq x; omega))
termination_by SizeOf.sizeOf x
decreasing_by exact Tm.lt_of_mem hy
theorem Fm.eta (x:Fm):Fm.mk x.op x.atom x.var x.parts=x:=by
 obtain ⟨a,b,c,d⟩:=x
 rfl
def HF:SC:=(.seq (.reg [⟨some 2,none,.boxv 33 5 (.t 0)⟩,⟨(some 4),none,(.alloc 33 [(.int .i64 0),(.str ⟨#[]⟩),.nil,(.str ⟨#[]⟩),.nil])⟩]) (.seq (.dreg [[],[0],[],[2],[3,2],[],[5],[1,0,4,3,2,6,5],[],[8,7,1,0,4,3,2,6,5]] [⟨some 8,none,.faddr 0 (.t 2)⟩,⟨some 9,none,.load false 1 (.t 8)⟩,⟨some 10,none,.faddr 1 (.t 2)⟩,⟨some 11,none,.load true 2 (.t 10)⟩,⟨some 12,none,.call 171 [(.t 11)]⟩,⟨some 13,none,.faddr 3 (.t 2)⟩,⟨some 14,none,.load false 1 (.t 13)⟩,⟨(some 15),none,(.build [(.int .i64 0),(.str ⟨#[]⟩),.nil,(.str ⟨#[]⟩),.nil] [(0,(1,(.t 9))),(1,(2,(.t 12))),(3,(1,(.t 14)))])⟩,⟨(some 5),none,(.alloc 33 [(.int .i64 0),(.str ⟨#[]⟩),.nil,(.str ⟨#[]⟩),.nil])⟩,⟨none,none,(.store 5 (.t 5) (.t 15))⟩]) (.seq (.seq (.reg [⟨some 16,none,.faddr 4 (.t 2)⟩,⟨some 17,none,.load false 1 (.t 16)⟩,⟨some 18,none,.len false (.t 17)⟩,⟨some 19,none,.mv (.c (.int .i64 0))⟩]) (.block 0 (.loop [0,1,0,0,1,1,0,0,0,0,0,0,0,0,0,0,0,1,1,1,0,0,0,0,0,0,0,0,0,0,0,0,0] (.seq (.reg [⟨some 20,none,.bin .lss false (.t 19) (.t 18)⟩]) (.seq (.cond (.t 20) .skip (.exit 0)) (.seq (.block 1 (.seq (.reg [⟨some 21,none,.iaddr 5 (.t 17) (.t 19)⟩,⟨some 22,none,.load true 5 (.t 21)⟩,⟨(some 7),none,(.alloc 33 [(.int .i64 0),(.str ⟨#[]⟩),.nil,(.str ⟨#[]⟩),.nil])⟩,⟨none,none,(.store 5 (.t 7) (.t 22))⟩]) (.dreg [[],[0],[],[],[2,3],[4,2,3],[1,0,5,4,2,3],[0,1,2,3,4,5,6],[7,0,1,2,3,4,5,6]] [⟨some 23,none,.faddr 4 (.t 5)⟩,⟨some 24,none,.load false 1 (.t 23)⟩,⟨some 25,none,.mv (.t 1)⟩,⟨some 26,none,.load true 5 (.t 7)⟩,⟨some 27,none,.callv (.t 25) [(.t 26)]⟩,⟨(some 28),none,(.mkrow 33 5 [(.int .i64 0),(.str ⟨#[]⟩),.nil,(.str ⟨#[]⟩),.nil] 1 [(0,(.t 27))])⟩,⟨(some 29),none,(.append 33 5 88 [(.int .i64 0),(.str ⟨#[]⟩),.nil,(.str ⟨#[]⟩),.nil] (.t 24) (.t 28))⟩,⟨some 30,none,.faddr 4 (.t 5)⟩,⟨none,none,(.store 1 (.t 30) (.t 29))⟩]))) (.reg [⟨some 31,none,.bin .add false (.t 19) (.c (.int .i64 1))⟩,⟨some 19,none,.mv (.t 31)⟩]))))))) (.seq (.reg [⟨some 32,none,.load true 5 (.t 5)⟩,⟨none,none,(.store 5 (.t 4) (.t 32))⟩]) .ret))))
theorem L2:codeOf Tryz.prog 137=some ⟨33,HF,[(.cell 4 true 5)]⟩:=by kernel_rfl
theorem HG:modes 137=⟨[],.own [none,none,some (30,2),none,some (33,5)],none,false⟩:=by unfold modes; rfl
def Ga:SC:=(.seq (.reg [⟨some 1,none,.boxv 33 5 (.t 0)⟩,⟨(some 2),none,(.alloc 33 [(.int .i64 0),(.str ⟨#[]⟩),.nil,(.str ⟨#[]⟩),.nil])⟩]) (.seq (.reg [⟨some 3,none,.load true 5 (.t 1)⟩,⟨some 4,none,.call 137 [(.t 3),(.c (.fn 100 []))]⟩,⟨none,none,(.store 5 (.t 2) (.t 4))⟩]) .ret))
theorem Jy:codeOf Tryz.prog 100=some ⟨5,Ga,[(.cell 2 true 5)]⟩:=by kernel_rfl
theorem DX:modes 100=⟨[],.own [none,none,some (30,2),none,some (33,5)],none,false⟩:=by unfold modes; rfl
theorem Jz:JA Tryz.prog 100=true:=by kernel_rfl
theorem QV (fid:Nat) (g:Fm→Fm) (x:Fm) (hl:x.parts.length≤1099511627776) (hat:x.atom.nodes≤1099511627776) (hg:JA Tryz.prog fid=true) (hm:(modes fid).hand=[]) (hr:∀ r,Gk (modes fid).res r=r) (hE:∀ y∈x.parts,E fid [y.sv] []=some ((g y).osv,(g y).obs)):E 137 [x.sv,.fn fid []] []=some ((Fm.mk x.op x.atom x.var (x.parts.map g)).osv,(Fm.mk x.op x.atom x.var (x.parts.map g)).obs):=by
 have hct:=MP x.atom hat
 have h10:((1:Int)=0)=False:=by simp
 have hmm:∀ ys:List Fm,(ys.map g).map Fm.o=ys.map fun y=>Fm.o (g y):=fun ys=>by rw [yK]; rfl
 show _=some (SV.agg [.int .i64 x.op,.str x.atom.name,.ref 0,.str x.var,.ref 1],[Ob.row 30 2 (x.atom.args.map Tm.o),.row 33 5 ((x.parts.map g).map Fm.o)])
 rw [hmm]
 refine Ai L2 HG (of_decide_eq_true rfl) ?_
 simp (disch:=omega) only [HF,go_sem,Ab,hct,Fg,Tm.osv,Tm.obs]
 refine go_loop (α:=Int) (fun a=>⟨slots 33 0 [(1,.fn fid []),(4,.ptr 0 0),(5,.ptr 1 0),(17,.arr (x.parts.map Fm.d)),(18,.int .i64 x.parts.length),(19,.int .i64 a)],(if a=0 then [.box 33 [.int .i64 0,.str ⟨#[]⟩,.nil,.str ⟨#[]⟩,.nil],.box 33 [.int .i64 x.op,.str x.atom.name,.ref 2,.str x.var,.nil],.row 30 2 (x.atom.args.map Tm.o)] else [.box 33 [.int .i64 0,.str ⟨#[]⟩,.nil,.str ⟨#[]⟩,.nil],.box 33 [.int .i64 x.op,.str x.atom.name,.ref 2,.str x.var,.ref 3],.row 30 2 (x.atom.args.map Tm.o),.row 33 5 ((x.parts.take a.toNat).map fun y=>Fm.o (g y))])⟩) (fun a=>∃ k:Nat,a=k∧k≤(x.parts).length) (fun a=>(x.parts).length-(a).toNat) 0 ⟨0,rfl,zT _⟩ (by simp (disch:=omega) only [go_sem,Ab,eq_self,if_true]) ?_
 rintro i ⟨k,hi,hk⟩
 have hni:i.toNat=k:=by omega
 have hni1:(i+1).toNat=k+1:=by omega
 rcases zF k (x.parts).length with hlt | hge
 ·have hgt:=get_at Fm.d hlt
  rw [Fm.d_eq] at hgt
  have hc:=hE x.parts[k] (zP hlt)
  have hs:=V8 (fun y=>Fm.o (g y)) hlt
  rw [Fm.o_eq] at hs
  rcases zR k with h0 | h0
  ·subst h0
   obtain rfl:i=0:=hi
   rw [List.take_zero,zI,yG] at hs
   simp (disch:=omega) only [go_sem,Ab,hni,hgt,hc,hg,hm,hr,Fm.osv,Fm.obs,eq_self,if_true]
   refine ⟨1,⟨1,rfl,hlt⟩,by omega,?_⟩
   simp (disch:=omega) only [go_sem,Ab,h10,if_false,hs]
  ·have hi0:(i=0)=False:=by simp; omega
   have hi1:(i+1=0)=False:=by simp; omega
   have htl:(x.parts.take k).length=k:=by rw [List.length_take]; omega
   simp (disch:=omega) only [go_sem,Ab,hni,hgt,hc,hg,hm,hr,Fm.osv,Fm.obs,hi0,if_false,htl]
   refine ⟨i+1,⟨k+1,by omega,hlt⟩,by omega,?_⟩
   simp (disch:=omega) only [go_sem,Ab,hni1,hi1,if_false,hs]
 ·obtain rfl:k=x.parts.length:=by omega
  have ht:x.parts.take x.parts.length=x.parts:=List.take_length
  rcases zR x.parts.length with h0 | h0
  ·have hx:x.parts=[]:=zV h0
   obtain rfl:i=0:=by omega
   simp (disch:=omega) only [go_sem,Ab,hni,hx,eq_self,if_true,zI,zN]
  ·have hi0:(i=0)=False:=by simp; omega
   simp (disch:=omega) only [go_sem,Ab,hni,hi0,if_false,ht]
theorem MQ (x:Fm) (ht:x.tame) (hn:x.nodes≤1099511627776) (ih:∀ y∈x.parts,E 100 [y.sv] []=some (y.osv,y.obs)):E 100 [x.sv] []=some (x.osv,x.obs):=by
 have hx:=Fm.nodes_eq x
 have hl:=Fm.length_le x.parts
 have hat:=Fm.H0 ht
 have h:=QV 100 (fun y=>y) x (by omega) (by omega) Jz (by rw [DX]) (fun r=>by rw [DX]; rfl) ih
 rw [List.map_id',Fm.eta] at h
 refine Ai Jy DX (of_decide_eq_true rfl) ?_
 simp (disch:=omega) only [Ga,go_sem,Ab,h,HG,Fm.osv,Fm.obs]
theorem IZ (x:Fm) (ht:x.tame) (hn:x.nodes≤1099511627776):E 100 [x.sv] []=some (x.osv,x.obs) :=
 MQ x ht hn fun y hy=>IZ y (Fm.IC ht hy) (by have:=Fm.nodes_mem hy; have:=Fm.nodes_eq x; omega)
termination_by SizeOf.sizeOf x
decreasing_by exact Fm.lt_of_mem hy
def Gv:SC:=(.seq (.reg [⟨some 5,none,.boxv 33 5 (.t 2)⟩,⟨(some 6),none,(.alloc 33 [(.int .i64 0),(.str ⟨#[]⟩),.nil,(.str ⟨#[]⟩),.nil])⟩]) (.seq (.reg [⟨some 7,none,.mv (.t 0)⟩,⟨some 8,none,.mv (.t 1)⟩,⟨some 9,none,.load true 5 (.t 5)⟩,⟨(some 10),none,(.mkrow 33 5 [(.int .i64 0),(.str ⟨#[]⟩),.nil,(.str ⟨#[]⟩),.nil] 1 [(0,(.t 9))])⟩,⟨(some 11),none,(.build [(.int .i64 0),(.str ⟨#[]⟩),.nil,(.str ⟨#[]⟩),.nil] [(0,(1,(.t 7))),(3,(1,(.t 8))),(4,(1,(.t 10)))])⟩,⟨none,none,(.store 5 (.t 6) (.t 11))⟩]) .ret))
theorem Ke:codeOf Tryz.prog 93=some ⟨12,Gv,[(.cell 6 true 5)]⟩:=by kernel_rfl
theorem AY:modes 93=⟨[false,false,true],.own [none,none,some (30,2),none,some (33,5)],none,false⟩:=by unfold modes; rfl
theorem H1 (op:Int) (v:ByteArray) (y:Fm):E 93 [.int .i64 op,.str v,y.osv] y.obs=some (.agg [.int .i64 op,.str ⟨#[]⟩,.ref 2,.str v,.ref 3],[.gone,.gone,.row 30 2 [],.row 33 5 [y.o]]):=by
 have ho:[[OT.int y.op,OT.str y.atom.name,OT.ow (y.atom.args.map Tm.o),OT.str y.var,OT.ow (y.parts.map Fm.o)]]=[y.o]:=by rw [Fm.o_eq]
 refine Ai Ke AY (of_decide_eq_true rfl) ?_
 simp (disch:=omega) only [Gv,go_sem,Ab,Fm.osv,Fm.obs,ho]
def MR:SC:=(.seq (.reg [⟨some 1,none,.boxv 33 5 (.t 0)⟩,⟨(some 2),none,(.alloc 33 [(.int .i64 0),(.str ⟨#[]⟩),.nil,(.str ⟨#[]⟩),.nil])⟩]) (.seq (.reg [⟨some 3,none,.load true 5 (.t 1)⟩,⟨(some 4),none,(.mkrow 33 5 [(.int .i64 0),(.str ⟨#[]⟩),.nil,(.str ⟨#[]⟩),.nil] 1 [(0,(.t 3))])⟩,⟨(some 5),none,(.build [(.int .i64 0),(.str ⟨#[]⟩),.nil,(.str ⟨#[]⟩),.nil] [(0,(1,(.c (.int .i64 4)))),(4,(1,(.t 4)))])⟩,⟨none,none,(.store 5 (.t 2) (.t 5))⟩]) .ret))
theorem Sl:codeOf Tryz.prog 94=some ⟨6,MR,[(.cell 2 true 5)]⟩:=by kernel_rfl
theorem Cw:modes 94=⟨[true],.own [none,none,some (30,2),none,some (33,5)],none,false⟩:=by unfold modes; rfl
theorem Zt (y:Fm):E 94 [.agg [.int .i64 y.op,.str y.atom.name,.ref 0,.str y.var,.ref 1]] [.row 30 2 (y.atom.args.map Tm.o),.row 33 5 (y.parts.map Fm.o)]=some (.agg [.int .i64 4,.str ⟨#[]⟩,.ref 2,.str ⟨#[]⟩,.ref 3],[.gone,.gone,.row 30 2 [],.row 33 5 [Fm.o y]]):=by
 have ho:=Fm.o_eq y
 rw [ho]
 refine Ai Sl Cw (of_decide_eq_true rfl) ?_
 simp (disch:=omega) only [MR,go_sem,Ab,Fm.osv,Fm.obs]
def Ja:SC:=(.seq (.reg [⟨some 4,none,.boxv 33 5 (.t 1)⟩,⟨some 5,none,.boxv 33 5 (.t 2)⟩,⟨(some 6),none,(.alloc 33 [(.int .i64 0),(.str ⟨#[]⟩),.nil,(.str ⟨#[]⟩),.nil])⟩]) (.seq (.reg [⟨some 7,none,.mv (.t 0)⟩,⟨some 8,none,.load true 5 (.t 4)⟩,⟨some 9,none,.load true 5 (.t 5)⟩,⟨(some 10),none,(.mkrow 33 5 [(.int .i64 0),(.str ⟨#[]⟩),.nil,(.str ⟨#[]⟩),.nil] 2 [(0,(.t 8)),(1,(.t 9))])⟩,⟨(some 11),none,(.build [(.int .i64 0),(.str ⟨#[]⟩),.nil,(.str ⟨#[]⟩),.nil] [(0,(1,(.t 7))),(4,(1,(.t 10)))])⟩,⟨none,none,(.store 5 (.t 6) (.t 11))⟩]) .ret))
theorem N4:codeOf Tryz.prog 131=some ⟨12,Ja,[(.cell 6 true 5)]⟩:=by kernel_rfl
theorem Cm:modes 131=⟨[false,true,true],.own [none,none,some (30,2),none,some (33,5)],none,false⟩:=by unfold modes; rfl
theorem VY (op:Int) (y z:Fm):E 131 [.int .i64 op,.agg [.int .i64 y.op,.str y.atom.name,.ref 0,.str y.var,.ref 1],.agg [.int .i64 z.op,.str z.atom.name,.ref 2,.str z.var,.ref 3]] [.row 30 2 (y.atom.args.map Tm.o),.row 33 5 (y.parts.map Fm.o),.row 30 2 (z.atom.args.map Tm.o),.row 33 5 (z.parts.map Fm.o)]=some (.agg [.int .i64 op,.str ⟨#[]⟩,.ref 4,.str ⟨#[]⟩,.ref 5],[.gone,.gone,.gone,.gone,.row 30 2 [],.row 33 5 [Fm.o y,Fm.o z]]):=by
 have ho:=Fm.o_eq y
 have ho2:=Fm.o_eq z
 rw [ho,ho2]
 refine Ai N4 Cm (of_decide_eq_true rfl) ?_
 simp (disch:=omega) only [Ja,go_sem,Ab,Fm.osv,Fm.obs]
def Jb:SC:=(.seq (.reg [⟨some 1,none,.boxv 30 2 (.t 0)⟩,⟨(some 2),none,(.alloc 33 [(.int .i64 0),(.str ⟨#[]⟩),.nil,(.str ⟨#[]⟩),.nil])⟩]) (.seq (.reg [⟨some 3,none,.load true 2 (.t 1)⟩,⟨(some 4),none,(.build [(.int .i64 0),(.str ⟨#[]⟩),.nil,(.str ⟨#[]⟩),.nil] [(0,(1,(.c (.int .i64 3)))),(1,(2,(.t 3)))])⟩,⟨none,none,(.store 5 (.t 2) (.t 4))⟩]) .ret))
theorem N5:codeOf Tryz.prog 97=some ⟨5,Jb,[(.cell 2 true 5)]⟩:=by kernel_rfl
theorem BE:modes 97=⟨[true],.own [none,none,some (30,2),none,some (33,5)],none,false⟩:=by unfold modes; rfl
theorem QW (y:Tm):E 97 [y.osv] y.obs=some (.agg [.int .i64 3,.str y.name,.ref 0,.str ⟨#[]⟩,.ref 1],[.row 30 2 (y.args.map Tm.o),.row 33 5 []]):=by
 refine Ai N5 BE (of_decide_eq_true rfl) ?_
 simp (disch:=omega) only [Jb,go_sem,Ab,Tm.osv,Tm.obs]
theorem YO (s:ByteArray) (i:Nat) (hi:i≤s.size) (hs:s.size≤1048576):E 91 [.ptr 0 0] [psr s i true]=some (.str ⟨#[]⟩,[psr s (Bj s i) true]):=by
 refine Ai FT Av (of_decide_eq_true rfl) ?_
 simp (disch:=omega) only [DW,go_sem,Ab]
 refine go_loop (α:=Nat) (fun j=>⟨slots 98 0 [(0,.ptr 0 0),(3,.int .i64 (i:Int))],[psr s j true]⟩) (fun j=>i≤j∧j≤s.size∧Bj s j=Bj s i) (fun j=>s.size-j) i ⟨zW _,hi,rfl⟩ (by simp (disch:=omega) only [go_sem,Ab]) ?_
 rintro j ⟨h1,h2,h3⟩
 have hj:((j:Nat):Int).toNat=j:=Int.toNat_natCast j
 rcases zF j s.size with hlt | hge
 ·have hw:=@KD s j hlt
  have hx:Cx (AV s j)=false→Bj s j=j:=fun h=>E5 (fun k=>by rw [h] at k; exact absurd k.2 (by simp))
  have a1:=QD (AV s j)
  have a2:=QE (AV s j)
  have a3:=QF (AV s j)
  unfold Cx at hw hx
  generalize hg1:(dec (97≤AV s j)&&dec (AV s j≤122))=q1 at *
  generalize hg2:(dec (65≤AV s j)&&dec (AV s j≤90))=q2 at *
  generalize hg3:(dec (48≤AV s j)&&dec (AV s j≤57))=q3 at *
  generalize hg4:dec (AV s j=95)=q4 at *
  cases q1 <;> cases q2 <;> cases q3 <;> cases q4
  all_goals
   simp only [yE,Bool.or_false,Bool.true_or,Bool.false_or,true_implies,Bool.true_eq_false,Bool.false_eq_true,false_implies] at hw hx
  case false.false.false.false =>
   have e:Bj s i=j:=by rw [←h3,hx]
   rw [e]
   simp (disch:=omega) only [go_sem,Ab,hj,a1,a2,a3,hg4,C2,BN,C3]
  all_goals
   simp (disch:=omega) only [go_sem,Ab,hj,a1,a2,a3,hg4,C2,BN,C3]
   exact ⟨j+1,⟨by omega,by omega,by omega⟩,by omega,by first | trivial | (simp only [psr,Int.natCast_add,Int.natCast_one]) | rfl⟩
 ·have e:Bj s i=j:=by rw [←h3]; exact E5 (by omega)
  rw [e]
  simp (disch:=omega) only [go_sem,Ab,hj]
theorem YP (s:ByteArray) (i:Nat) (hi:i≤s.size) (hs:s.size≤1048576):E 132 [.ptr 0 0] [psr s i true]=some (.agg [.str ⟨#[]⟩,.ref 1],[psr s (Bj s i) true,.row 30 2 []]):=by
 have h1:=YO s i hi hs
 have h2:=FU s (Bj s i) ⟨#[40]⟩
 refine Ai FV B6 (of_decide_eq_true rfl) ?_
 simp (disch:=omega) only [C4,go_sem,Ab,h1,h2,Av,Ao,Ap]
theorem YQ (s:ByteArray) (i:Nat) (hi:i≤s.size) (hs:s.size≤1048576):E 96 [.ptr 0 0] [psr s i true]=some (.agg [.str ⟨#[]⟩,.ref 1],[psr s (Bj s i) true,.row 30 2 []]):=by
 have h1:=YP s i hi hs
 have h2:=FU s (Bj s i) ⟨#[32,61,32]⟩
 refine Ai FY AJ (of_decide_eq_true rfl) ?_
 simp (disch:=omega) only [C5,go_sem,Ab,h1,h2,B6,Ao]
theorem Kf (s:ByteArray) (i:Nat) (fl:Bool) (x:ByteArray) (hs:s.size≤1048576) (hi:i≤s.size):∃ (j:Nat) (b:Bool),E 92 [.ptr 0 0,.str x] [psr s i fl]=some (.tup [],[psr s j b])∧i≤j∧j≤s.size∧(b=false→fl=false∧j=i+x.size∧hasB s i x=true)∧(fl=false→hasB s i x=true→b=false):=by
 cases fl with
 | true=>exact ⟨i,true,VN s i x,zW _,hi,(fun h=>by cases h),(fun h=>by cases h)⟩
 | false =>
  cases h:hasB s i x with
  | false=>exact ⟨i,true,Tc s i x hi h,zW _,hi,(fun h=>by cases h),(fun _ h=>by cases h)⟩
  | true =>
   have hz:=((Cq hi).1 h).1
   exact ⟨i+x.size,false,QH s i x (by omega) hi h,by omega,hz,(fun _=>⟨rfl,rfl,rfl⟩),(fun _ _=>rfl)⟩
abbrev Ul (x:Fm):SV:=.agg [.int .i64 x.op,.str x.atom.name,.ref 1,.str x.var,.ref 2]
abbrev P4 (x:Fm):Ob:=.row 30 2 (x.atom.args.map Tm.o)
abbrev P5 (x:Fm):Ob:=.row 33 5 (x.parts.map Fm.o)
def Zu (s:ByteArray) (i:Nat) (x:Fm) (j:Nat) (fl:Bool):Prop :=
 ∀ (f:Fm) (e:Nat),f.forms=true→e≤s.size→i≤e→((seg s i e=f.fmt∧Kb s e)∨seg s i e=40 :: (f.fmt++[41]))→fl=false∧x=f∧j=e
def OD (s:ByteArray) (i:Nat) (fl0:Bool) (out:SV × List Ob):Prop :=
 ∃ (x:Fm) (j:Nat) (fl:Bool),out=(Ul x,[psr s j fl,P4 x,P5 x])∧i≤j∧j≤s.size∧(fl=false→fl0=false∧x.nodes+i≤j∧x.tame)∧(fl0=false→Zu s i x j fl)
def XG (s:ByteArray) (i:Nat) (out:SV × List Ob):Prop :=
 ∃ (x:Fm) (j:Nat) (fl:Bool),out=(Ul x,[psr s j fl,P4 x,P5 x])∧i≤j∧j≤s.size∧(fl=false→x.nodes+i≤j∧x.tame) ∧
  (∀ (f:Fm) (e:Nat),f.forms=true→e≤s.size→i≤e→seg s i e=f.fmt++[41]→fl=false∧x=f∧j=e) ∧
  ∀ (op:Int) (p q:Fm) (e:Nat),(op=5∨op=6∨op=7)→p.forms=true→q.forms=true→e≤s.size→i≤e→seg s i e=p.fmt++(sgn op++(q.fmt++[41]))→fl=false∧x=.mk op Tm.zero ⟨#[]⟩ [p,q]∧j=e
def AA:SC:=(.seq (.reg [⟨(some 2),none,(.alloc 33 [(.int .i64 0),(.str ⟨#[]⟩),.nil,(.str ⟨#[]⟩),.nil])⟩]) (.seq (.block 0 (.seq (.reg [⟨some 7,none,.mv (.t 0)⟩,⟨(some 8),none,(.call 90 [(.t 7),(.c (.str ⟨#[97,108,108,32]⟩))])⟩,⟨some 6,none,.mv (.t 8)⟩]) (.cond (.t 6) (.seq (.reg [⟨some 9,none,.mv (.t 0)⟩,⟨some 10,none,.call 91 [(.t 9)]⟩,⟨some 3,none,.mv (.t 10)⟩]) (.seq (.reg [⟨some 11,none,.mv (.t 0)⟩,⟨(some 12),none,(.call 92 [(.t 11),(.c (.str ⟨#[46]⟩))])⟩]) (.seq (.reg [⟨some 13,none,.mv (.t 3)⟩,⟨some 14,none,.mv (.t 0)⟩,⟨some 15,none,.call 45 [(.t 14)]⟩,⟨some 16,none,.call 93 [(.c (.int .i64 8)),(.t 13),(.t 15)]⟩,⟨none,none,(.store 5 (.t 2) (.t 16))⟩]) .ret))) (.seq (.reg [⟨some 18,none,.mv (.t 0)⟩,⟨(some 19),none,(.call 90 [(.t 18),(.c (.str ⟨#[115,111,109,101,32]⟩))])⟩,⟨some 17,none,.mv (.t 19)⟩]) (.cond (.t 17) (.seq (.reg [⟨some 20,none,.mv (.t 0)⟩,⟨some 21,none,.call 91 [(.t 20)]⟩,⟨some 4,none,.mv (.t 21)⟩]) (.seq (.reg [⟨some 22,none,.mv (.t 0)⟩,⟨(some 23),none,(.call 92 [(.t 22),(.c (.str ⟨#[46]⟩))])⟩]) (.seq (.reg [⟨some 24,none,.mv (.t 4)⟩,⟨some 25,none,.mv (.t 0)⟩,⟨some 26,none,.call 45 [(.t 25)]⟩,⟨some 27,none,.call 93 [(.c (.int .i64 9)),(.t 24),(.t 26)]⟩,⟨none,none,(.store 5 (.t 2) (.t 27))⟩]) .ret))) (.seq (.reg [⟨some 29,none,.mv (.t 0)⟩,⟨(some 30),none,(.call 90 [(.t 29),(.c (.str ⟨#[126]⟩))])⟩,⟨some 28,none,.mv (.t 30)⟩]) (.cond (.t 28) (.seq (.reg [⟨some 31,none,.mv (.t 0)⟩,⟨some 32,none,.call 45 [(.t 31)]⟩,⟨some 33,none,.call 94 [(.t 32)]⟩,⟨none,none,(.store 5 (.t 2) (.t 33))⟩]) .ret) (.seq (.reg [⟨some 35,none,.mv (.t 0)⟩,⟨(some 36),none,(.call 90 [(.t 35),(.c (.str ⟨#[40]⟩))])⟩,⟨some 34,none,.mv (.t 36)⟩]) (.cond (.t 34) (.seq (.reg [⟨some 37,none,.mv (.t 0)⟩,⟨some 38,none,.call 95 [(.t 37)]⟩,⟨none,none,(.store 5 (.t 2) (.t 38))⟩]) .ret) .skip))))))))) (.seq (.reg [⟨some 39,none,.mv (.t 0)⟩,⟨some 40,none,.call 96 [(.t 39)]⟩,⟨(some 5),none,(.alloc 30 [(.str ⟨#[]⟩),.nil])⟩,⟨none,none,(.store 2 (.t 5) (.t 40))⟩]) (.seq (.block 1 (.seq (.reg [⟨some 42,none,.faddr 0 (.t 5)⟩,⟨some 43,none,.load false 1 (.t 42)⟩,⟨(some 44),none,(.bin .eql false (.t 43) (.c (.str ⟨#[116,114,117,101]⟩)))⟩,⟨some 45,none,.mv (.t 44)⟩,⟨(some 46),(some (45,true)),(.faddr 1 (.t 5))⟩,⟨(some 47),(some (45,true)),(.load false 1 (.t 46))⟩,⟨(some 48),(some (45,true)),(.len false (.t 47))⟩,⟨(some 49),(some (45,true)),(.bin .eql false (.t 48) (.c (.int .i64 0)))⟩,⟨some 50,none,.pick (.t 45) (.t 49) (.c (.bool false))⟩,⟨some 41,none,.mv (.t 50)⟩]) (.cond (.t 41) (.seq (.reg [⟨(some 51),none,(.build [(.int .i64 0),(.str ⟨#[]⟩),.nil,(.str ⟨#[]⟩),.nil] [(0,(1,(.c (.int .i64 1))))])⟩,⟨none,none,(.store 5 (.t 2) (.t 51))⟩]) .ret) (.seq (.reg [⟨some 53,none,.faddr 0 (.t 5)⟩,⟨some 54,none,.load false 1 (.t 53)⟩,⟨(some 55),none,(.bin .eql false (.t 54) (.c (.str ⟨#[102,97,108,115,101]⟩)))⟩,⟨some 56,none,.mv (.t 55)⟩,⟨(some 57),(some (56,true)),(.faddr 1 (.t 5))⟩,⟨(some 58),(some (56,true)),(.load false 1 (.t 57))⟩,⟨(some 59),(some (56,true)),(.len false (.t 58))⟩,⟨(some 60),(some (56,true)),(.bin .eql false (.t 59) (.c (.int .i64 0)))⟩,⟨some 61,none,.pick (.t 56) (.t 60) (.c (.bool false))⟩,⟨some 52,none,.mv (.t 61)⟩]) (.cond (.t 52) (.seq (.reg [⟨(some 62),none,(.build [(.int .i64 0),(.str ⟨#[]⟩),.nil,(.str ⟨#[]⟩),.nil] [(0,(1,(.c (.int .i64 2))))])⟩,⟨none,none,(.store 5 (.t 2) (.t 62))⟩]) .ret) .skip))))) (.seq (.reg [⟨some 63,none,.load true 2 (.t 5)⟩,⟨some 64,none,.call 97 [(.t 63)]⟩,⟨none,none,(.store 5 (.t 2) (.t 64))⟩]) .ret)))))
theorem AH:codeOf Tryz.prog 45=some ⟨65,AA,[(.cell 2 true 5)]⟩:=by kernel_rfl
theorem Al:modes 45=⟨[],.own [none,none,some (30,2),none,some (33,5)],none,false⟩:=by unfold modes; rfl
def DE:SC:=(.seq (.reg [⟨(some 2),none,(.alloc 33 [(.int .i64 0),(.str ⟨#[]⟩),.nil,(.str ⟨#[]⟩),.nil])⟩]) (.seq (.reg [⟨some 6,none,.mv (.t 0)⟩,⟨some 7,none,.call 45 [(.t 6)]⟩,⟨(some 3),none,(.alloc 33 [(.int .i64 0),(.str ⟨#[]⟩),.nil,(.str ⟨#[]⟩),.nil])⟩,⟨none,none,(.store 5 (.t 3) (.t 7))⟩]) (.seq (.seq (.reg [⟨some 8,none,.call 89 []⟩,⟨some 9,none,.mkit (.t 8)⟩]) (.block 0 (.mloop [1,0,1,1,0,0,0,0,0,1,0,0,0,0,0,0,0,0,0,0,0,0,0,0,0,0] [1,0,1,1,0,0,0,0,0,0,0,0,0,0,0,0,0,0,0,0,0,0,0,0,0,0] (.t 9) 10 11 (.seq (.cond (.t 11) .skip (.exit 0)) (.block 1 (.seq (.reg [⟨some 12,none,.mcur (.t 9)⟩,⟨some 13,none,.ext (.t 12) 0⟩,⟨some 14,none,.ext (.t 12) 1⟩,⟨some 4,none,.mv (.t 13)⟩,⟨some 5,none,.mv (.t 14)⟩]) (.seq (.reg [⟨some 15,none,.mv (.t 0)⟩,⟨some 16,none,.mv (.t 5)⟩,⟨some 17,none,.call 90 [(.t 15),(.t 16)]⟩]) (.cond (.t 17) (.seq (.dreg [[],[],[],[2],[0,1,3,2],[4,0,1,3,2]] [⟨some 18,none,.mv (.t 4)⟩,⟨some 19,none,.load true 5 (.t 3)⟩,⟨some 20,none,.mv (.t 0)⟩,⟨some 21,none,.call 45 [(.t 20)]⟩,⟨some 22,none,.call 131 [(.t 18),(.t 19),(.t 21)]⟩,⟨none,none,(.store 5 (.t 3) (.t 22))⟩]) (.exit 0)) .skip)))))))) (.seq (.reg [⟨some 23,none,.mv (.t 0)⟩,⟨(some 24),none,(.call 92 [(.t 23),(.c (.str ⟨#[41]⟩))])⟩]) (.seq (.reg [⟨some 25,none,.load true 5 (.t 3)⟩,⟨none,none,(.store 5 (.t 2) (.t 25))⟩]) .ret)))))
theorem Fq:codeOf Tryz.prog 95=some ⟨26,DE,[(.cell 2 true 5)]⟩:=by kernel_rfl
theorem AB:modes 95=⟨[],.own [none,none,some (30,2),none,some (33,5)],none,false⟩:=by unfold modes; rfl
theorem Um (s:ByteArray) (i:Nat) (hi:i≤s.size) (hs:s.size≤1048576):∃ out,E 45 [.ptr 0 0] [psr s i true]=some out∧OD s i true out:=by
 have h1:=FU s i ⟨#[97,108,108,32]⟩
 have h2:=FU s i ⟨#[115,111,109,101,32]⟩
 have h3:=FU s i ⟨#[126]⟩
 have h4:=FU s i ⟨#[40]⟩
 have h5:=YQ s i hi hs
 have h6:=QW (.mk ⟨#[]⟩ [])
 have e1:((⟨#[]⟩:ByteArray)=⟨#[116,114,117,101]⟩)=False:=by simp
 have e2:((⟨#[]⟩:ByteArray)=⟨#[102,97,108,115,101]⟩)=False:=by simp
 have w1:=Gn s i
 have w2:=F7 s i hi
 have e3:(Tm.mk ⟨#[]⟩ []).osv=.agg [.str ⟨#[]⟩,.ref 0]:=rfl
 have e4:(Tm.mk ⟨#[]⟩ []).obs=[.row 30 2 []]:=rfl
 have e5:(Tm.mk ⟨#[]⟩ []).name=⟨#[]⟩:=rfl
 have e6:(Tm.mk ⟨#[]⟩ []).args.map Tm.o=[]:=rfl
 rw [e3,e4,e5,e6] at h6
 refine A7 AH Al (of_decide_eq_true rfl) ?_
 simp (disch:=omega) only [AA,go_sem,Ab,h1,h2,h3,h4,h5,h6,e1,e2,Ao,Av,Ap,Al,AB,AJ,AY,Cw,BE,Fm.osv,Fm.obs,Tm.osv,Tm.obs]
 exact ⟨_,rfl,.mk 3 Tm.zero ⟨#[]⟩ [],Bj s i,true,rfl,w1,w2,(fun h=>by cases h),fun h=>by cases h⟩
theorem OE {s:ByteArray} {i e:Nat} {l:List UInt8} (hl:l≠[]) (hw:∀ c∈l,Cx (c.toNat:Int)=true) (h:seg s i e=l) (he:e≤s.size) (hi:i≤e) (hs:Kb s e):Ik ⟨#[32,61,32]⟩ s (s.size+1) i=some (.mk ⟨l.toArray⟩ [],e):=by
 have hz:=congrArg yS h
 rw [CX he] at hz
 have hp:0<l.length:=yI.2 hl
 have hwe:Bj s i=e:=FQ l i e h hi he hw fun ⟨k1,k2⟩=>by
  rcases hs.1 with h1 | ⟨_,h1,_⟩
  ·omega
  ·rw [h1] at k2; cases k2
 have ha:Dj s e 40=false:=by
  cases hq:Dj s e 40 with
  | false=>rfl
  | true =>
   obtain ⟨k1,k2⟩:=C1.1 hq
   rcases hs.1 with h1 | ⟨_,_,h1⟩
   ·omega
   ·exact absurd k2 h1
 have hx:s.extract i e=⟨l.toArray⟩:=Bk (by rw [toList_extract,h,BK])
 unfold Ik
 rw [rd,hwe,An (by omega),cond_false,ha,cond_false,hx]
 simp only [hs.2,cond_false]
theorem QX {t:Tm} (h:t.atom=true) {n:ByteArray} (hn:DB n=false) (hn2:n≠⟨#[61]⟩):t.name≠n:=fun e=>by
 unfold Tm.atom at h
 split at h
 ·rename_i he
  unfold Tm.eqn at he
  exact hn2 (e.symm.trans (At.1 he))
 ·rw [e,hn] at h; cases h
theorem Sm (s:ByteArray) (hs:s.size≤1048576) (i:Nat) (hi:i≤s.size) (ihF:∀ i',i<i'→i'≤s.size→∀ fl,∃ out,E 45 [.ptr 0 0] [psr s i' fl]=some out∧OD s i' fl out)
  (ihI:i+1≤s.size→∃ out,E 95 [.ptr 0 0] [psr s (i+1) false]=some out∧XG s (i+1) out):∃ out,E 45 [.ptr 0 0] [psr s i false]=some out∧OD s i false out:=by
 cases hA:hasB s i ⟨#[97,108,108,32]⟩ with
 | true =>
  have ht:E 90 [.ptr 0 0,.str ⟨#[97,108,108,32]⟩] [psr s i false]=some (.bool true,[psr s (i+4) false]):=EZ s i ⟨#[97,108,108,32]⟩ (by show i+4≤_; omega) hi hA
  have hz:i+4≤s.size:=((Cq hi).1 hA).1
  have hw:=Sg s (i+4) hz hs
  obtain ⟨w,hwd⟩:∃ w,w=Bj s (i+4):=⟨_,rfl⟩
  obtain ⟨b,hbd⟩:∃ b,b=dec (Bj s (i+4)=i+4):=⟨_,rfl⟩
  have hw1:=Gn s (i+4)
  have hw2:=F7 s (i+4) hz
  obtain ⟨v,hv⟩:∃ v,v=(bif dec (Bj s (i+4)=i+4) then (⟨#[]⟩:ByteArray) else s.extract (i+4) (Bj s (i+4))):=⟨_,rfl⟩
  rw [←hv,← hbd,← hwd] at hw
  rw [←hwd] at hw1 hw2
  obtain ⟨j1,b1,hm,g1,g2,g3,g4⟩:=Kf s w b ⟨#[46]⟩ hs hw2
  obtain ⟨out,hF,p,j,fl,rfl,k1,k2,k3,k4⟩:=ihF j1 (by omega) g2 b1
  have hqt:=H1 8 v p
  refine A7 AH Al (of_decide_eq_true rfl) ?_
  simp (disch:=omega) only [AA,go_sem,Ab,ht,hw,hm,hF,hqt,Ao,Av,Ap,Al,AB,AJ,AY,Cw,BE,Fm.osv,Fm.obs,Tm.osv,Tm.obs]
  refine ⟨_,rfl,.mk 8 Tm.zero v [p],j,fl,rfl,by omega,k2,fun h=>?_,fun _ f e hf he hie hsg=>?_⟩
  ·obtain ⟨h1,h2,h3⟩:=k3 h
   obtain ⟨_,h5,_⟩:=g3 h1
   have h5:j1=w+1:=h5
   refine ⟨rfl,?_,?_⟩
   ·rw [Fm.nodes_eq]; show 1+Fm.nodeS [p]+i≤j; rw [Fm.nodeS,Fm.nodeS]; omega
   ·rw [Fm.DR]
    refine ⟨?_,?_⟩
    ·show Tm.zero.nodes≤_
     rw [Tm.nodes_eq]; show 1+Tm.nodeS []≤_; rw [Tm.nodeS]; omega
    ·show Fm.BQ [p]
     rw [Fm.BQ,Fm.BQ]; exact ⟨h3,trivial⟩
  ·rcases hsg with ⟨hsg,hst⟩ | hsg
   ·have hl:=(Kc hf hsg he hie hst).1
    rw [hA] at hl
    have ho:f.op=8:=At.1 hl.symm
    obtain ⟨p0,e0⟩:=Fm.GB (Fm.By hf) (by omega)
    have hvv:=(Fm.Dc (Fm.By hf) (by unfold qB; rw [ho]; first | rw [Ax rfl]; rfl | rw [Ax (p:=(9:Int)=9) rfl,yE])).1
    rw [ho] at e0
    have hp0:p0.forms=true:=Fm.Cv hf (by rw [e0]; exact z7.2 rfl)
    have hfm:f.fmt=P0++(f.var.toList++46 :: p0.fmt):=by rw [e0]; exact QN _ _ _
    rw [hfm] at hsg
    obtain ⟨s1,s2,s3⟩:=Cb hsg he hie
    have s1:i+4≤e:=s1
    have s3:seg s (i+4) e=f.var.toList++46 :: p0.fmt:=s3
    obtain ⟨u1,u2,u3⟩:=Cb s3 he s1
    obtain ⟨t1,t2,t3⟩:=AZ u3 he
    obtain ⟨wd1,wd2⟩:=Pv hvv
    have hpos:0<f.var.toList.length:=yI.2 wd1
    have hwe:Bj s (i+4)=i+4+f.var.toList.length:=FQ f.var.toList _ _ u2 (by omega) (by omega) wd2 fun ⟨_,k⟩=>by
     rw [t2] at k
     have h2:Cx ((46:UInt8).toNat:Int)=false:=by
      unfold Cx
      have e:((46:UInt8).toNat:Int)=46:=rfl
      rw [e,An (p:=(97:Int)≤46) (by omega),An (p:=(65:Int)≤46) (by omega),An (p:=(48:Int)≤46) (by omega),An (p:=(46:Int)=95) (by omega)]
      rfl
     rw [h2] at k; cases k
    rw [hwe] at hwd hbd hv
    have hbf:b=false:=by rw [hbd]; exact An (by omega)
    have hvf:v=f.var:=by rw [hv,An (by omega),cond_false]; exact Bk (by rw [toList_extract,u2])
    have hdot:hasB s w ⟨#[46]⟩=true:=EG (r:=p0.fmt) (by rw [P1,hwd]; exact u3) he (by omega)
    have hb1:=g4 hbf hdot
    obtain ⟨_,q2,_⟩:=g3 hb1
    have q2:j1=w+1:=q2
    obtain ⟨r1,r2,r3⟩:=k4 hb1 p0 e hp0 he (by omega) (.inl ⟨by rw [q2,hwd]; exact t3,hst⟩)
    exact ⟨r1,by rw [e0,r2,hvf],r3⟩
   ·obtain ⟨_,hb2,_⟩:=AZ hsg he
    have:=(Gt MJ hi hA).2
    rw [hb2] at this
    exact absurd this (by decide)
 | false =>
  cases hS:hasB s i ⟨#[115,111,109,101,32]⟩ with
  | true =>
   have hno:=F0 s i ⟨#[97,108,108,32]⟩ hi hA
   have ht:E 90 [.ptr 0 0,.str ⟨#[115,111,109,101,32]⟩] [psr s i false]=some (.bool true,[psr s (i+5) false]):=EZ s i ⟨#[115,111,109,101,32]⟩ (by show i+5≤_; omega) hi hS
   have hz:i+5≤s.size:=((Cq hi).1 hS).1
   have hw:=Sg s (i+5) hz hs
   obtain ⟨w,hwd⟩:∃ w,w=Bj s (i+5):=⟨_,rfl⟩
   obtain ⟨b,hbd⟩:∃ b,b=dec (Bj s (i+5)=i+5):=⟨_,rfl⟩
   have hw1:=Gn s (i+5)
   have hw2:=F7 s (i+5) hz
   obtain ⟨v,hv⟩:∃ v,v=(bif dec (Bj s (i+5)=i+5) then (⟨#[]⟩:ByteArray) else s.extract (i+5) (Bj s (i+5))):=⟨_,rfl⟩
   rw [←hv,← hbd,← hwd] at hw
   rw [←hwd] at hw1 hw2
   obtain ⟨j1,b1,hm,g1,g2,g3,g4⟩:=Kf s w b ⟨#[46]⟩ hs hw2
   obtain ⟨out,hF,p,j,fl,rfl,k1,k2,k3,k4⟩:=ihF j1 (by omega) g2 b1
   have hqt:=H1 9 v p
   refine A7 AH Al (of_decide_eq_true rfl) ?_
   simp (disch:=omega) only [AA,go_sem,Ab,ht,hno,hw,hm,hF,hqt,Ao,Av,Ap,Al,AB,AJ,AY,Cw,BE,Fm.osv,Fm.obs,Tm.osv,Tm.obs]
   refine ⟨_,rfl,.mk 9 Tm.zero v [p],j,fl,rfl,by omega,k2,fun h=>?_,fun _ f e hf he hie hsg=>?_⟩
   ·obtain ⟨h1,h2,h3⟩:=k3 h
    obtain ⟨_,h5,_⟩:=g3 h1
    have h5:j1=w+1:=h5
    refine ⟨rfl,?_,?_⟩
    ·rw [Fm.nodes_eq]; show 1+Fm.nodeS [p]+i≤j; rw [Fm.nodeS,Fm.nodeS]; omega
    ·rw [Fm.DR]
     refine ⟨?_,?_⟩
     ·show Tm.zero.nodes≤_
      rw [Tm.nodes_eq]; show 1+Tm.nodeS []≤_; rw [Tm.nodeS]; omega
     ·show Fm.BQ [p]
      rw [Fm.BQ,Fm.BQ]; exact ⟨h3,trivial⟩
   ·rcases hsg with ⟨hsg,hst⟩ | hsg
    ·have hl:=(Kc hf hsg he hie hst).2.1
     rw [hS] at hl
     have ho:f.op=9:=At.1 hl.symm
     obtain ⟨p0,e0⟩:=Fm.GB (Fm.By hf) (by omega)
     have hvv:=(Fm.Dc (Fm.By hf) (by unfold qB; rw [ho]; first | rw [Ax rfl]; rfl | rw [Ax (p:=(9:Int)=9) rfl,yE])).1
     rw [ho] at e0
     have hp0:p0.forms=true:=Fm.Cv hf (by rw [e0]; exact z7.2 rfl)
     have hfm:f.fmt=JX++(f.var.toList++46 :: p0.fmt):=by rw [e0]; exact QO _ _ _
     rw [hfm] at hsg
     obtain ⟨s1,s2,s3⟩:=Cb hsg he hie
     have s1:i+5≤e:=s1
     have s3:seg s (i+5) e=f.var.toList++46 :: p0.fmt:=s3
     obtain ⟨u1,u2,u3⟩:=Cb s3 he s1
     obtain ⟨t1,t2,t3⟩:=AZ u3 he
     obtain ⟨wd1,wd2⟩:=Pv hvv
     have hpos:0<f.var.toList.length:=yI.2 wd1
     have hwe:Bj s (i+5)=i+5+f.var.toList.length:=FQ f.var.toList _ _ u2 (by omega) (by omega) wd2 fun ⟨_,k⟩=>by
      rw [t2] at k
      have h2:Cx ((46:UInt8).toNat:Int)=false:=by
       unfold Cx
       have e:((46:UInt8).toNat:Int)=46:=rfl
       rw [e,An (p:=(97:Int)≤46) (by omega),An (p:=(65:Int)≤46) (by omega),An (p:=(48:Int)≤46) (by omega),An (p:=(46:Int)=95) (by omega)]
       rfl
      rw [h2] at k; cases k
     rw [hwe] at hwd hbd hv
     have hbf:b=false:=by rw [hbd]; exact An (by omega)
     have hvf:v=f.var:=by rw [hv,An (by omega),cond_false]; exact Bk (by rw [toList_extract,u2])
     have hdot:hasB s w ⟨#[46]⟩=true:=EG (r:=p0.fmt) (by rw [P1,hwd]; exact u3) he (by omega)
     have hb1:=g4 hbf hdot
     obtain ⟨_,q2,_⟩:=g3 hb1
     have q2:j1=w+1:=q2
     obtain ⟨r1,r2,r3⟩:=k4 hb1 p0 e hp0 he (by omega) (.inl ⟨by rw [q2,hwd]; exact t3,hst⟩)
     exact ⟨r1,by rw [e0,r2,hvf],r3⟩
    ·obtain ⟨_,hb2,_⟩:=AZ hsg he
     have:=(Gt Ka hi hS).2
     rw [hb2] at this
     exact absurd this (by decide)
  | false =>
   have hn1:=F0 s i ⟨#[97,108,108,32]⟩ hi hA
   have hn2:=F0 s i ⟨#[115,111,109,101,32]⟩ hi hS
   cases hN:hasB s i ⟨#[126]⟩ with
   | true =>
    have ht:E 90 [.ptr 0 0,.str ⟨#[126]⟩] [psr s i false]=some (.bool true,[psr s (i+1) false]):=EZ s i ⟨#[126]⟩ (by show i+1≤_; omega) hi hN
    have hz:i+1≤s.size:=((Cq hi).1 hN).1
    obtain ⟨out,hF,p,j,fl,rfl,k1,k2,k3,k4⟩:=ihF (i+1) (by omega) hz false
    have hnt:=Zt p
    refine A7 AH Al (of_decide_eq_true rfl) ?_
    simp (disch:=omega) only [AA,go_sem,Ab,hn1,hn2,ht,hF,hnt,Ao,Av,Ap,Al,AB,AJ,AY,Cw,BE,Fm.osv,Fm.obs,Tm.osv,Tm.obs]
    refine ⟨_,rfl,.mk 4 Tm.zero ⟨#[]⟩ [p],j,fl,rfl,by omega,k2,fun h=>?_,fun _ f e hf he hie hsg=>?_⟩
    ·obtain ⟨_,h2,h3⟩:=k3 h
     refine ⟨rfl,?_,?_⟩
     ·rw [Fm.nodes_eq]; show 1+Fm.nodeS [p]+i≤j; rw [Fm.nodeS,Fm.nodeS]; omega
     ·rw [Fm.DR]
      refine ⟨?_,?_⟩
      ·show Tm.zero.nodes≤_
       rw [Tm.nodes_eq]; show 1+Tm.nodeS []≤_; rw [Tm.nodeS]; omega
      ·show Fm.BQ [p]
       rw [Fm.BQ,Fm.BQ]; exact ⟨h3,trivial⟩
    ·rcases hsg with ⟨hsg,hst⟩ | hsg
     ·have hl:=(Kc hf hsg he hie hst).2.2.1
      rw [hN] at hl
      obtain ⟨p0,e0⟩:=Fm.Il (Fm.By hf) (At.1 hl.symm)
      have hp0:p0.forms=true:=Fm.Cv hf (by rw [e0]; exact z7.2 rfl)
      rw [e0,O6] at hsg
      cases hq:p0.atom.eqn with
      | true =>
       rw [hq,cond_true] at hsg
       obtain ⟨t1,_,t3⟩:=AZ hsg he
       obtain ⟨r1,r2,r3⟩:=k4 rfl p0 e hp0 he t1 (.inr t3)
       exact ⟨r1,by rw [e0,r2],r3⟩
      | false =>
       rw [hq,cond_false] at hsg
       obtain ⟨t1,_,t3⟩:=AZ hsg he
       obtain ⟨r1,r2,r3⟩:=k4 rfl p0 e hp0 he t1 (.inl ⟨t3,hst⟩)
       exact ⟨r1,by rw [e0,r2],r3⟩
     ·obtain ⟨_,hb2,_⟩:=AZ hsg he
      have:=(Gt ML hi hN).2
      rw [hb2] at this
      exact absurd this (by decide)
   | false =>
    have hn3:=F0 s i ⟨#[126]⟩ hi hN
    cases hP:hasB s i ⟨#[40]⟩ with
    | true =>
     have ht:E 90 [.ptr 0 0,.str ⟨#[40]⟩] [psr s i false]=some (.bool true,[psr s (i+1) false]):=EZ s i ⟨#[40]⟩ (by show i+1≤_; omega) hi hP
     have hz:i+1≤s.size:=((Cq hi).1 hP).1
     obtain ⟨out,hI,p,j,fl,rfl,k1,k2,k3,k4,k5⟩:=ihI hz
     refine A7 AH Al (of_decide_eq_true rfl) ?_
     simp (disch:=omega) only [AA,go_sem,Ab,hn1,hn2,hn3,ht,hI,Ao,Av,Ap,Al,AB,AJ,AY,Cw,BE,Fm.osv,Fm.obs,Tm.osv,Tm.obs]
     refine ⟨_,rfl,p,j,fl,rfl,by omega,k2,fun h=>⟨rfl,by have:=(k3 h).1; omega,(k3 h).2⟩,fun _ f e hf he hie hsg=>?_⟩
     rcases hsg with ⟨hsg,hst⟩ | hsg
     ·have hl:=(Kc hf hsg he hie hst).2.2.2
      rw [hP] at hl
      have ho:=At.1 hl.symm
      obtain ⟨p0,q0,e0⟩:=Fm.FX (Fm.By hf) ho
      have hp0:p0.forms=true:=Fm.Cv hf (by rw [e0]; simp [Fm.parts])
      have hq0:q0.forms=true:=Fm.Cv hf (by rw [e0]; simp [Fm.parts])
      rw [e0,QP ho] at hsg
      obtain ⟨t1,_,t3⟩:=AZ hsg he
      obtain ⟨r1,r2,r3⟩:=k5 f.op p0 q0 e ho hp0 hq0 he t1 t3
      exact ⟨r1,by rw [e0]; exact r2,r3⟩
     ·obtain ⟨t1,_,t3⟩:=AZ hsg he
      exact k4 f e hf he t1 t3
    | false =>
     have hn4:=F0 s i ⟨#[40]⟩ hi hP
     obtain ⟨out,hT,t,j,fl,rfl,k1,k2,k3⟩:=XF s hs i hi
     have nob:∀ (f:Fm) (e:Nat),e≤s.size→seg s i e=40 :: (f.fmt++[41])→False:=fun f e he hsg=>by
      have:hasB s i ⟨#[40]⟩=true:=EG (r:=f.fmt++[41]) (by rw [MM]; exact hsg) he (by have:=(AZ hsg he).1; omega)
      rw [hP] at this; cases this
     have ops:∀ (f:Fm) (e:Nat),f.forms=true→e≤s.size→i≤e→seg s i e=f.fmt→Kb s e→f.op=1∨f.op=2∨f.op=3:=fun f e hf he hie hsg hst=>by
      obtain ⟨l1,l2,l3,l4⟩:=Kc hf hsg he hie hst
      rw [hA] at l1
      rw [hS] at l2
      rw [hN] at l3
      rw [hP] at l4
      have d1:=DO.1 l1.symm
      have d2:=DO.1 l2.symm
      have d3:=DO.1 l3.symm
      have d4:=DO.1 l4.symm
      rcases Fm.Im (Fm.By hf) with h | h | h | h | h | h | h | h | h
      ·exact .inl h
      ·exact .inr (.inl h)
      ·exact .inr (.inr h)
      all_goals omega
     have read3:∀ (f:Fm) (e:Nat),f.forms=true→e≤s.size→i≤e→seg s i e=f.fmt→Kb s e→fl=false∧j=e∧((f.op=1∧f=.mk 1 Tm.zero ⟨#[]⟩ []∧t=.mk ⟨#[116,114,117,101]⟩ [])∨(f.op=2∧f=.mk 2 Tm.zero ⟨#[]⟩ []∧t=.mk ⟨#[102,97,108,115,101]⟩ [])∨(f=.mk 3 t ⟨#[]⟩ []∧t.atom=true)):=fun f e hf he hie hsg hst=>by
      rcases ops f e hf he hie hsg hst with ho | ho | ho
      ·have e0:=Fm.Dp (Fm.By hf) (.inl ho)
       rw [ho] at e0
       rw [e0,QK] at hsg
       have hr:=OE (l:=bTrue) (by decide) (fun c hc=>by
        simp only [bTrue,zU,yP,or_false] at hc
        rcases hc with rfl | rfl | rfl | rfl <;> exact F8 (by decide +kernel)) hsg he hie hst
       rw [hr] at k3
       exact ⟨k3.2.2,k3.2.1,.inl ⟨ho,e0,k3.1⟩⟩
      ·have e0:=Fm.Dp (Fm.By hf) (.inr ho)
       rw [ho] at e0
       rw [e0,QL] at hsg
       have hr:=OE (l:=bFalse) (by decide) (fun c hc=>by
        simp only [bFalse,zU,yP,or_false] at hc
        rcases hc with rfl | rfl | rfl | rfl | rfl <;> exact F8 (by decide +kernel)) hsg he hie hst
       rw [hr] at k3
       exact ⟨k3.2.2,k3.2.1,.inr (.inl ⟨ho,e0,k3.1⟩)⟩
      ·obtain ⟨hpp,hat,hvv⟩:=Fm.E7 (Fm.By hf) ho
       have e0:f=.mk 3 f.atom ⟨#[]⟩ []:=by
        obtain ⟨op,a,v,ps⟩:=f
        have ho:op=3:=ho
        have hpp:ps=[]:=hpp
        have hvv:v=⟨#[]⟩:=hvv
        subst ho hpp hvv
        rfl
       rw [e0,QM] at hsg
       have hr:=(QR hat hsg he hie hst).1
       rw [hr] at k3
       obtain ⟨k31,k32,k33⟩:=k3
       exact ⟨k33,k32,.inr (.inr ⟨by rw [k31]; exact e0,by rw [k31]; exact hat⟩)⟩
     have bnd:fl=false→i<j∧t.nodes≤2*s.size+1:=fun h=>by
      cases hr:Ik ⟨#[32,61,32]⟩ s (s.size+1) i with
      | none=>rw [hr] at k3; have k3:fl=true:=k3; rw [h] at k3; cases k3
      | some q =>
       obtain ⟨t0,e⟩:=q
       have hn:=QJ hr YL
       rw [hr] at k3
       obtain ⟨rfl,rfl,_⟩:=k3
       refine ⟨?_,hn⟩
       unfold Ik at hr
       cases h1:rd s (s.size+1) i with
       | none=>rw [h1] at hr; cases hr
       | some q =>
        obtain ⟨a,e0⟩:=q
        have r1:=(SZ _ _ _ _ hi h1)
        rw [h1] at hr
        simp only at hr
        cases hh:hasB s e0 ⟨#[32,61,32]⟩ with
        | false=>rw [hh] at hr; simp only [cond_false,yT,yO] at hr; omega
        | true =>
         have hz:=((Cq r1.2.1).1 hh).1
         rw [hh] at hr
         simp only [cond_true] at hr
         cases h2:rd s (s.size+1) (e0+(⟨#[32,61,32]⟩:ByteArray).size) with
         | none=>rw [h2] at hr; cases hr
         | some q =>
          obtain ⟨b,e2⟩:=q
          have r2:=(SZ _ _ _ _ hz h2)
          rw [h2] at hr
          simp only [yT,yO] at hr
          omega
     have ntr:(⟨#[116,114,117,101]⟩:ByteArray)≠⟨#[102,97,108,115,101]⟩:=by simp
     have one:∀ (op:Int) (a:Tm),1≤(Fm.mk op a ⟨#[]⟩ []).nodes∧(Fm.mk op a ⟨#[]⟩ []).nodes=1:=fun op a=>by
      rw [Fm.nodes_eq]; show 1≤1+Fm.nodeS []∧1+Fm.nodeS []=1; rw [Fm.nodeS]; omega
     have tmz:∀ (op:Int) (a:Tm),a.nodes≤1099511627776→(Fm.mk op a ⟨#[]⟩ []).tame:=fun op a ha=>by
      rw [Fm.DR]
      refine ⟨ha,?_⟩
      show Fm.BQ []
      rw [Fm.BQ]; trivial
     have z1:Tm.zero.nodes≤1099511627776:=by rw [Tm.nodes_eq]; show 1+Tm.nodeS []≤_; rw [Tm.nodeS]; omega
     have hat:=QW t
     by_cases hl:t.args.length=0
     ·have ql:((t.args.length:Int)=0)=True:=eq_true (by omega)
      have ha0:t.args=[]:=zV hl
      by_cases n1:t.name=⟨#[116,114,117,101]⟩
      ·have q1:(t.name=⟨#[116,114,117,101]⟩)=True:=eq_true n1
       refine A7 AH Al (of_decide_eq_true rfl) ?_
       simp (disch:=omega) only [AA,go_sem,Ab,hn1,hn2,hn3,hn4,hT,hat,ql,q1,Ao,Av,Ap,Al,AB,AJ,AY,Cw,BE,Fm.osv,Fm.obs,Tm.osv,Tm.obs]
       refine ⟨_,rfl,.mk 1 Tm.zero ⟨#[]⟩ [],j,fl,rfl,k1,k2,fun h=>⟨rfl,by have:=(one 1 Tm.zero).2; have:=(bnd h).1; omega,tmz _ _ z1⟩,fun _ f e hf he hie hsg=>?_⟩
       rcases hsg with ⟨hsg,hst⟩ | hsg
       ·obtain ⟨r1,r2,⟨_,r3,_⟩ | ⟨_,_,r4⟩ | ⟨_,r4⟩⟩:=read3 f e hf he hie hsg hst
        ·exact ⟨r1,r3.symm,r2⟩
        ·rw [r4] at n1; exact absurd n1.symm ntr
        ·exact absurd n1 (QX r4 (by decide +kernel) (by simp))
       ·exact (nob f e he hsg).elim
      ·have q1:(t.name=⟨#[116,114,117,101]⟩)=False:=eq_false n1
       by_cases n2:t.name=⟨#[102,97,108,115,101]⟩
       ·have q2:(t.name=⟨#[102,97,108,115,101]⟩)=True:=eq_true n2
        refine A7 AH Al (of_decide_eq_true rfl) ?_
        simp (disch:=omega) only [AA,go_sem,Ab,hn1,hn2,hn3,hn4,hT,hat,ql,q1,q2,Ao,Av,Ap,Al,AB,AJ,AY,Cw,BE,Fm.osv,Fm.obs,Tm.osv,Tm.obs]
        refine ⟨_,rfl,.mk 2 Tm.zero ⟨#[]⟩ [],j,fl,rfl,k1,k2,fun h=>⟨rfl,by have:=(one 2 Tm.zero).2; have:=(bnd h).1; omega,tmz _ _ z1⟩,fun _ f e hf he hie hsg=>?_⟩
        rcases hsg with ⟨hsg,hst⟩ | hsg
        ·obtain ⟨r1,r2,⟨_,_,r4⟩ | ⟨_,r3,_⟩ | ⟨_,r4⟩⟩:=read3 f e hf he hie hsg hst
         ·rw [r4] at n2; exact absurd n2 ntr
         ·exact ⟨r1,r3.symm,r2⟩
         ·exact absurd n2 (QX r4 (by decide +kernel) (by simp))
        ·exact (nob f e he hsg).elim
       ·have q2:(t.name=⟨#[102,97,108,115,101]⟩)=False:=eq_false n2
        refine A7 AH Al (of_decide_eq_true rfl) ?_
        simp (disch:=omega) only [AA,go_sem,Ab,hn1,hn2,hn3,hn4,hT,hat,ql,q1,q2,Ao,Av,Ap,Al,AB,AJ,AY,Cw,BE,Fm.osv,Fm.obs,Tm.osv,Tm.obs]
        refine ⟨_,rfl,.mk 3 t ⟨#[]⟩ [],j,fl,rfl,k1,k2,fun h=>⟨rfl,by have:=(one 3 t).2; have:=(bnd h).1; omega,tmz _ _ (by have:=(bnd h).2; omega)⟩,fun _ f e hf he hie hsg=>?_⟩
        rcases hsg with ⟨hsg,hst⟩ | hsg
        ·obtain ⟨r1,r2,⟨_,_,r4⟩ | ⟨_,_,r4⟩ | ⟨r3,_⟩⟩:=read3 f e hf he hie hsg hst
         ·exact absurd (by rw [r4]; rfl) n1
         ·exact absurd (by rw [r4]; rfl) n2
         ·exact ⟨r1,r3.symm,r2⟩
        ·exact (nob f e he hsg).elim
     ·have ql:((t.args.length:Int)=0)=False:=eq_false (by omega)
      have fin3:OD s i false (Ul (.mk 3 t ⟨#[]⟩ []),[psr s j fl,P4 (.mk 3 t ⟨#[]⟩ []),P5 (.mk 3 t ⟨#[]⟩ [])]):=by
       refine ⟨.mk 3 t ⟨#[]⟩ [],j,fl,rfl,k1,k2,fun h=>⟨rfl,by have:=(one 3 t).2; have:=(bnd h).1; omega,tmz _ _ (by have:=(bnd h).2; omega)⟩,fun _ f e hf he hie hsg=>?_⟩
       rcases hsg with ⟨hsg,hst⟩ | hsg
       ·obtain ⟨r1,r2,⟨_,_,r4⟩ | ⟨_,_,r4⟩ | ⟨r3,_⟩⟩:=read3 f e hf he hie hsg hst
        ·exact absurd (by rw [r4]; rfl) hl
        ·exact absurd (by rw [r4]; rfl) hl
        ·exact ⟨r1,r3.symm,r2⟩
       ·exact (nob f e he hsg).elim
      by_cases n1:t.name=⟨#[116,114,117,101]⟩
      ·have q1:(t.name=⟨#[116,114,117,101]⟩)=True:=eq_true n1
       have q2:(t.name=⟨#[102,97,108,115,101]⟩)=False:=eq_false (by rw [n1]; exact ntr)
       refine A7 AH Al (of_decide_eq_true rfl) ?_
       simp (disch:=omega) only [AA,go_sem,Ab,hn1,hn2,hn3,hn4,hT,hat,ql,q1,q2,Ao,Av,Ap,Al,AB,AJ,AY,Cw,BE,Fm.osv,Fm.obs,Tm.osv,Tm.obs]
       exact ⟨_,rfl,fin3⟩
      ·have q1:(t.name=⟨#[116,114,117,101]⟩)=False:=eq_false n1
       by_cases n2:t.name=⟨#[102,97,108,115,101]⟩
       ·have q2:(t.name=⟨#[102,97,108,115,101]⟩)=True:=eq_true n2
        refine A7 AH Al (of_decide_eq_true rfl) ?_
        simp (disch:=omega) only [AA,go_sem,Ab,hn1,hn2,hn3,hn4,hT,hat,ql,q1,q2,Ao,Av,Ap,Al,AB,AJ,AY,Cw,BE,Fm.osv,Fm.obs,Tm.osv,Tm.obs]
        exact ⟨_,rfl,fin3⟩
       ·have q2:(t.name=⟨#[102,97,108,115,101]⟩)=False:=eq_false n2
        refine A7 AH Al (of_decide_eq_true rfl) ?_
        simp (disch:=omega) only [AA,go_sem,Ab,hn1,hn2,hn3,hn4,hT,hat,ql,q1,q2,Ao,Av,Ap,Al,AB,AJ,AY,Cw,BE,Fm.osv,Fm.obs,Tm.osv,Tm.obs]
        exact ⟨_,rfl,fin3⟩
def sgB (op:Int):ByteArray:=⟨(sgn op).toArray⟩
theorem Gb (op:Int):(sgB op).toList=sgn op:=BK _
theorem Zv:sgB 5=⟨#[32,38,32]⟩:=rfl
theorem Zw:sgB 6=⟨#[32,124,32]⟩:=rfl
theorem Zx:sgB 7=⟨#[32,61,62,32]⟩:=rfl
theorem Hi {op:Int} (h:op=5∨op=6∨op=7):3≤(sgB op).size∧(sgB op).size≤4:=by
 rcases h with rfl | rfl | rfl
 ·rw [Zv]; exact ⟨zW 3,by show 3≤4; omega⟩
 ·rw [Zw]; exact ⟨zW 3,by show 3≤4; omega⟩
 ·rw [Zx]; exact ⟨by show 3≤4; omega,zW 4⟩
noncomputable def sgM:MF
 | .int n=>if n=5∨n=6∨n=7 then some (false,[D.str (sgB n)]) else none
 | .str _=>none
theorem MS {k:MK} {v:MV} (h:sgM k=some v):∃ n,k=.int n∧(n=5∨n=6∨n=7)∧v=(false,[D.str (sgB n)]):=by
 cases k with
 | str s=>cases h
 | int n =>
  have h:(if n=5∨n=6∨n=7 then some (false,[D.str (sgB n)]) else none)=some v:=h
  by_cases e:n=5∨n=6∨n=7
  ·rw [if_pos e] at h
   exact ⟨n,rfl,e,(Option.some.inj h).symm⟩
  ·rw [if_neg e] at h; cases h
theorem Iq {n:Int} (h:n=5∨n=6∨n=7):sgM (.int n)=some (false,[D.str (sgB n)]):=by
 show (if n=5∨n=6∨n=7 then some (false,[D.str (sgB n)]) else none)=_
 rw [if_pos h]
theorem YR:Ks (Ks (Ks nomap (.int 5) (false,[D.str ⟨#[32,38,32]⟩])) (.int 6) (false,[D.str ⟨#[32,124,32]⟩])) (.int 7) (false,[D.str ⟨#[32,61,62,32]⟩])=sgM:=by
 funext k
 by_cases h7:k=.int 7
 ·subst h7; rw [Ev,Iq (by omega)]; rfl
 ·rw [Fv h7]
  by_cases h6:k=.int 6
  ·subst h6; rw [Ev,Iq (by omega)]; rfl
  ·rw [Fv h6]
   by_cases h5:k=.int 5
   ·subst h5; rw [Ev,Iq (by omega)]; rfl
   ·rw [Fv h5]
    cases k with
    | str s=>rfl
    | int n =>
     have:¬ (n=5∨n=6∨n=7):=fun h=>by
      rcases h with rfl | rfl | rfl
      ·exact h5 rfl
      ·exact h6 rfl
      ·exact h7 rfl
     show none=(if n=5∨n=6∨n=7 then _ else none)
     rw [if_neg this]
theorem QY:∃ l,Enum sgM l:=by
 refine ⟨[(.int 5,(false,[D.str (sgB 5)])),(.int 6,(false,[D.str (sgB 6)])),(.int 7,(false,[D.str (sgB 7)]))],by simp,fun k v=>⟨fun h=>?_,fun h=>?_⟩⟩
 ·simp only [zU,yP,or_false,yO] at h
  rcases h with ⟨rfl,rfl⟩ | ⟨rfl,rfl⟩ | ⟨rfl,rfl⟩ <;> exact Iq (by omega)
 ·obtain ⟨n,rfl,hn,rfl⟩:=MS h
  rcases hn with rfl | rfl | rfl <;> simp
def Kg:SC:=(.seq (.reg [⟨some 0,none,.mv (.c (.mp true nomap))⟩]) (.seq (.reg [⟨some 1,none,.mkmap false none⟩,⟨none,none,(.mset false (.t 1) (.c (.int .i64 5)) (.c (.str ⟨#[32,38,32]⟩)))⟩,⟨none,none,(.mset false (.t 1) (.c (.int .i64 6)) (.c (.str ⟨#[32,124,32]⟩)))⟩,⟨none,none,(.mset false (.t 1) (.c (.int .i64 7)) (.c (.str ⟨#[32,61,62,32]⟩)))⟩,⟨some 2,none,.mv (.t 1)⟩,⟨some 0,none,.mv (.t 2)⟩]) .ret))
theorem P6:codeOf Tryz.prog 89=some ⟨3,Kg,[(.tmp 0)]⟩:=by kernel_rfl
theorem Bg:modes 89=⟨[],.frz,none,false⟩:=by unfold modes; rfl
theorem LF:E 89 [] []=some (.mp false sgM,[]):=by
 have h:=YR
 refine Ai P6 Bg (of_decide_eq_true rfl) ?_
 simp (disch:=omega) only [Kg,go_sem,Ab,h]
theorem QZ {s:ByteArray} {j:Nat} {a b:Int} (ha:a=5∨a=6∨a=7) (hb:b=5∨b=6∨b=7) (hj:j≤s.size) (h:hasB s j (sgB a)=true) (k:hasB s j (sgB b)=true):a=b:=by
 obtain ⟨h1,h2⟩:=(Cq hj).1 h
 obtain ⟨k1,k2⟩:=(Cq hj).1 k
 rw [Gb] at h2 k2
 have z1:=Hi ha
 have z2:=Hi hb
 have two:∀ {c:Int} {e:Nat},(c=5∨c=6∨c=7)→e≤s.size→seg s j e=sgn c→AV s (j+1)=(if c=5 then 38 else if c=6 then 124 else 61):=fun {c e} hc he hs=>by
  rcases hc with rfl | rfl | rfl
  ·have hs:seg s j e=[32,38,32]:=hs
   obtain ⟨_,_,h3⟩:=AZ hs he
   obtain ⟨_,h4,_⟩:=AZ h3 he
   rw [h4]; decide
  ·have hs:seg s j e=[32,124,32]:=hs
   obtain ⟨_,_,h3⟩:=AZ hs he
   obtain ⟨_,h4,_⟩:=AZ h3 he
   rw [h4]; decide
  ·have hs:seg s j e=[32,61,62,32]:=hs
   obtain ⟨_,_,h3⟩:=AZ hs he
   obtain ⟨_,h4,_⟩:=AZ h3 he
   rw [h4]; decide
 have e1:=two ha h1 h2
 have e2:=two hb k1 k2
 rw [e1] at e2
 rcases ha with rfl | rfl | rfl <;> rcases hb with rfl | rfl | rfl <;> first | rfl | exact absurd e2 (by decide)
theorem Ra (s:ByteArray) (i:Nat) (fl:Bool) (x:ByteArray) (hi:i≤s.size) (h:fl=true∨hasB s i x=false):E 90 [.ptr 0 0,.str x] [psr s i fl]=some (.bool false,[psr s i fl]):=by
 cases fl with
 | true=>exact FU s i x
 | false =>
  rcases h with h | h
  ·cases h
  ·exact F0 s i x hi h
theorem VZ (s:ByteArray) (hs:s.size≤1048576) (i:Nat) (hi:i≤s.size) (ihF:∀ i',i≤i'→i'≤s.size→∀ fl,∃ out,E 45 [.ptr 0 0] [psr s i' fl]=some out∧OD s i' fl out):∃ out,E 95 [.ptr 0 0] [psr s i false]=some out∧XG s i out:=by
 obtain ⟨out,hF,x,j,fl,rfl,k1,k2,k3,k4⟩:=ihF i (zW _) hi false
 have k4:=k4 rfl
 have hsg:=LF
 have one:∀ (f:Fm) (e:Nat),f.forms=true→e≤s.size→i≤e→seg s i e=f.fmt++[41]→fl=false∧x=f∧j<e∧AV s j=41∧e=j+1:=fun f e hf he hie h=>by
  obtain ⟨h1,h2,h3⟩:=Cb h he hie
  obtain ⟨g1,g2,g3⟩:=AZ h3 he
  have hl:=congrArg yS g3
  rw [CX he] at hl
  have hl:e-(i+f.fmt.length+1)=0:=hl
  obtain ⟨r1,r2,r3⟩:=k4 f (i+f.fmt.length) hf (by omega) (by omega) (.inl ⟨h2,O7 (by omega) g2⟩)
  refine ⟨r1,r2,by omega,by rw [r3]; exact g2,by omega⟩
 have two:∀ (op:Int) (p q:Fm) (e:Nat),(op=5∨op=6∨op=7)→p.forms=true→q.forms=true→e≤s.size→i≤e→seg s i e=p.fmt++(sgn op++(q.fmt++[41]))→fl=false∧x=p∧hasB s j (sgB op)=true∧j+(sgB op).size≤e∧seg s (j+(sgB op).size) e=q.fmt++[41]:=fun op p q e ho hp hq he hie h=>by
  obtain ⟨h1,h2,h3⟩:=Cb h he hie
  obtain ⟨r1,r2,r3⟩:=k4 p (i+p.fmt.length) hp (by omega) (by omega) (.inl ⟨h2,Uh h3 he⟩)
  obtain ⟨g1,g2,g3⟩:=Cb h3 he h1
  have e1:(sgn op).length=(sgB op).size:=by rw [←AD,Gb]
  rw [e1] at g1 g3
  refine ⟨r1,r2,?_,by rw [r3]; exact g1,by rw [r3]; exact g3⟩
  rw [r3]
  exact EG (r:=q.fmt++[41]) (by rw [Gb]; exact h3) he h1
 by_cases hm:fl=false∧∃ op,(op=5∨op=6∨op=7)∧hasB s j (sgB op)=true
 ·obtain ⟨rfl,op,ho,hh⟩:=hm
  have hz:=((Cq k2).1 hh).1
  have hsz:=Hi ho
  obtain ⟨out,hF2,y,j2,fl2,rfl,g1,g2,g3,g4⟩:=ihF (j+(sgB op).size) (by omega) hz false
  have g4:=g4 rfl
  have hb:=VY op x y
  obtain ⟨j3,b3,hmu,m1,m2,m3,m4⟩:=Kf s j2 fl2 ⟨#[41]⟩ hs g2
  obtain ⟨n1,n2⟩:=k3 rfl
  have hty:=EZ s j (sgB op) (by omega) k2 hh
  have fin:XG s i (Ul (.mk op Tm.zero ⟨#[]⟩ [x,y]),[psr s j3 b3,P4 (.mk op Tm.zero ⟨#[]⟩ [x,y]),P5 (.mk op Tm.zero ⟨#[]⟩ [x,y])]):=by
   refine ⟨.mk op Tm.zero ⟨#[]⟩ [x,y],j3,b3,rfl,by omega,m2,fun h=>?_,fun f e hf he hie h=>?_,fun op' p q e ho' hp hq he hie h=>?_⟩
   ·obtain ⟨h1,h2,h3⟩:=m3 h
    obtain ⟨_,y1,y2⟩:=g3 h1
    have h2:j3=j2+1:=h2
    refine ⟨?_,?_⟩
    ·rw [Fm.nodes_eq]; show 1+Fm.nodeS [x,y]+i≤j3; rw [Fm.nodeS,Fm.nodeS,Fm.nodeS]; omega
    ·rw [Fm.DR]
     refine ⟨?_,?_⟩
     ·show Tm.zero.nodes≤_
      rw [Tm.nodes_eq]; show 1+Tm.nodeS []≤_; rw [Tm.nodeS]; omega
     ·show Fm.BQ [x,y]
      rw [Fm.BQ,Fm.BQ,Fm.BQ]; exact ⟨n2.2,y2,trivial⟩
   ·obtain ⟨_,_,_,h4,_⟩:=one f e hf he hie h
    obtain ⟨b,q,hs1,_⟩:=O8 op
    have:=(Gt (by rw [Gb]; exact hs1) k2 hh).2
    rw [h4] at this
    exact absurd this (by decide)
   ·obtain ⟨_,h2,h3,h4,h5⟩:=two op' p q e ho' hp hq he hie h
    obtain rfl:=QZ ho ho' k2 hh h3
    obtain ⟨u1,u2,u3⟩:=Cb h5 he h4
    obtain ⟨t1,t2,t3⟩:=AZ u3 he
    have hl:=congrArg yS t3
    rw [CX he] at hl
    have hl:e-(j+(sgB op).size+q.fmt.length+1)=0:=hl
    obtain ⟨r1,r2,r3⟩:=g4 q _ hq (by omega) (by omega) (.inl ⟨u2,O7 (by omega) t2⟩)
    have hp:hasB s j2 ⟨#[41]⟩=true:=EG (r:=[]) (by rw [Si,r3]; exact u3) he (by omega)
    have hb3:=m4 r1 hp
    have h6:j3=j2+1:=(m3 hb3).2.1
    exact ⟨hb3,by rw [h2,r2],by omega⟩
  refine A7 Fq AB (of_decide_eq_true rfl) ?_
  simp (disch:=omega) only [DE,go_sem,Ab,hF,hsg,Ao,Ap,Al,Cm,Bg,Fm.osv,Fm.obs,ER,ES,ET]
  refine Ot sgM QY (.exit 0,⟨slots 26 0 [(0,.ptr 0 0),(2,.ptr 1 0),(3,.ptr 2 0)],[psr s j2 fl2,.box 33 [.int .i64 0,.str ⟨#[]⟩,.nil,.str ⟨#[]⟩,.nil],.box 33 [.int .i64 op,.str ⟨#[]⟩,.ref 3,.str ⟨#[]⟩,.ref 4],.row 30 2 [],.row 33 5 [x.o,y.o]]⟩) ?_ (fun p=>⟨slots 26 0 [(0,.ptr 0 0),(2,.ptr 1 0),(3,.ptr 2 0),(9,.ptr 3 0)],[psr s j false,.box 33 [.int .i64 0,.str ⟨#[]⟩,.nil,.str ⟨#[]⟩,.nil],.box 33 [.int .i64 x.op,.str x.atom.name,.ref 4,.str x.var,.ref 5],.it false sgM (p.map (·.1)).reverse p.getLast?,P4 x,P5 x]⟩) (fun p=>∀ v,(MK.int op,v) ∉ p) (fun v h=>by cases h) 3 false (by simp (disch:=omega) only [go_sem,Ab]; first | exact ⟨rfl,rfl⟩ | rfl) (fun p=>by simp (disch:=omega) only [go_sem,Ab]) (fun p k v hok _ _ hk _=>?_) (fun p hok hp=>?_)
  ·simp (disch:=omega) only [go_sem,Ab,hmu,Ao,Ap,Al,Cm,Bg,Fm.osv,Fm.obs,ER,ES,ET]
   exact ⟨_,rfl,fin⟩
  ·obtain ⟨n,rfl,hn,rfl⟩:=MS hk
   by_cases e:n=op
   ·subst e
    simp (disch:=omega) only [go_sem,Ab,hty,hF2,hb,yF,yA,yJ,Ao,Ap,Al,Cm,Bg,Fm.osv,Fm.obs,ER,ES,ET]
    first | done | trivial
   ·have hno:=Ra s j false (sgB n) k2 (.inr (by
     cases hq:hasB s j (sgB n) with
     | false=>rfl
     | true=>exact absurd (QZ hn ho k2 hq hh) e))
    simp (disch:=omega) only [go_sem,Ab,hno,yF,yA,yJ,Ao,Ap,Al,Cm,Bg,Fm.osv,Fm.obs,ER,ES,ET]
    refine ⟨fun v h=>?_,by first | rfl | trivial | exact ⟨rfl,rfl⟩⟩
    rcases yR.1 h with h | h
    ·exact hok v h
    ·simp only [z7,yO,MK.int.injEq] at h
     exact e h.1.symm
  ·exact absurd ((hp.mem (.int op) _).2 (Iq ho)) (hok _)
 ·have hno:∀ n,(n=5∨n=6∨n=7)→E 90 [.ptr 0 0,.str (sgB n)] [psr s j fl]=some (.bool false,[psr s j fl]):=fun n hn=>Ra s j fl (sgB n) k2 (by
   cases hf:fl with
   | true=>exact .inl rfl
   | false =>
    right
    cases hq:hasB s j (sgB n) with
    | false=>rfl
    | true=>exact absurd ⟨hf,n,hn,hq⟩ hm)
  obtain ⟨j3,b3,hmu,m1,m2,m3,m4⟩:=Kf s j fl ⟨#[41]⟩ hs k2
  have fin:XG s i (Ul x,[psr s j3 b3,P4 x,P5 x]):=by
   refine ⟨x,j3,b3,rfl,by omega,m2,fun h=>?_,fun f e hf he hie h=>?_,fun op' p q e ho' hp hq he hie h=>?_⟩
   ·obtain ⟨h1,h2,h3⟩:=m3 h
    obtain ⟨_,y1,y2⟩:=k3 h1
    exact ⟨by omega,y2⟩
   ·obtain ⟨h1,h2,h3,h4,h5⟩:=one f e hf he hie h
    have hj:hasB s j ⟨#[41]⟩=true:=by
     rw [Ii k2]
     exact C1.2 ⟨by omega,h4⟩
    have hb3:=m4 h1 hj
    have h6:j3=j+1:=(m3 hb3).2.1
    exact ⟨hb3,h2,by omega⟩
   ·obtain ⟨h1,_,h3,_,_⟩:=two op' p q e ho' hp hq he hie h
    exact absurd ⟨h1,op',ho',h3⟩ hm
  refine A7 Fq AB (of_decide_eq_true rfl) ?_
  simp (disch:=omega) only [DE,go_sem,Ab,hF,hsg,Ao,Ap,Al,Cm,Bg,Fm.osv,Fm.obs,ER,ES,ET]
  refine Ot sgM QY (.exit 0,⟨slots 26 0 [(0,.ptr 0 0),(2,.ptr 1 0),(3,.ptr 2 0)],[psr s j fl,.box 33 [.int .i64 0,.str ⟨#[]⟩,.nil,.str ⟨#[]⟩,.nil],.box 33 [.int .i64 x.op,.str x.atom.name,.ref 3,.str x.var,.ref 4],P4 x,P5 x]⟩) ?_ (fun p=>⟨slots 26 0 [(0,.ptr 0 0),(2,.ptr 1 0),(3,.ptr 2 0),(9,.ptr 3 0)],[psr s j fl,.box 33 [.int .i64 0,.str ⟨#[]⟩,.nil,.str ⟨#[]⟩,.nil],.box 33 [.int .i64 x.op,.str x.atom.name,.ref 4,.str x.var,.ref 5],.it false sgM (p.map (·.1)).reverse p.getLast?,P4 x,P5 x]⟩) (fun _=>True) trivial 3 false (by simp (disch:=omega) only [go_sem,Ab]; first | exact ⟨rfl,rfl⟩ | rfl) (fun p=>by simp (disch:=omega) only [go_sem,Ab]) (fun p k v hok _ _ hk _=>?_) (fun p hok hp=>?_)
  ·simp (disch:=omega) only [go_sem,Ab,hmu,Ao,Ap,Al,Cm,Bg,Fm.osv,Fm.obs,ER,ES,ET]
   exact ⟨_,rfl,fin⟩
  ·obtain ⟨n,rfl,hn,rfl⟩:=MS hk
   have hno:=hno n hn
   simp (disch:=omega) only [go_sem,Ab,hno,yF,yA,yJ,Ao,Ap,Al,Cm,Bg,Fm.osv,Fm.obs,ER,ES,ET]
   first | rfl | exact ⟨trivial,rfl⟩
  ·simp (disch:=omega) only [go_sem,Ab,Ao,Ap,Al,Cm,Bg,Fm.osv,Fm.obs,ER,ES,ET]
   first | done | rfl | trivial
theorem Gw (s:ByteArray) (hs:s.size≤1048576):∀ (n i:Nat),i≤s.size→s.size-i<n→∀ fl,∃ out,E 45 [.ptr 0 0] [psr s i fl]=some out∧OD s i fl out
 | 0,i,_,h,_=>absurd h (by omega)
 | n+1,i,hi,hn,true=>Um s i hi hs
 | n+1,i,hi,hn,false=>Sm s hs i hi (fun i' h1 h2 fl=>Gw s hs n i' h2 (by omega) fl) fun h1=>VZ s hs (i+1) h1 fun i' h2 h3 fl=>Gw s hs n i' h3 (by omega) fl
theorem Th (op:Int):(sgn op).length≤4:=by
 unfold sgn
 by_cases h5:op=5
 ·rw [if_pos h5]; decide
 ·rw [if_neg h5]
  by_cases h6:op=6
  ·rw [if_pos h6]; decide
  ·rw [if_neg h6]; decide
theorem Fm.fmt_len (x:Fm) (hx:x.forms=true):x.fmt.length≤4010*x.nodes:=by
 have ih:∀ y∈x.parts,y.fmt.length≤4010*y.nodes:=fun y hy=>Fm.fmt_len y (Fm.Cv hx hy)
 have hf:=Fm.By hx
 have hp:=Fm.nodes_pos x
 rcases Fm.Im hf with ho | ho | ho | ho | ho | ho | ho | ho | ho
 ·have e0:=Fm.Dp hf (.inl ho)
  rw [ho] at e0
  rw [e0,QK]
  have:(Fm.mk 1 Tm.zero ⟨#[]⟩ []).nodes=x.nodes:=by rw [←e0]
  show 4≤_; omega
 ·have e0:=Fm.Dp hf (.inr ho)
  rw [ho] at e0
  rw [e0,QL]
  have:(Fm.mk 2 Tm.zero ⟨#[]⟩ []).nodes=x.nodes:=by rw [←e0]
  show 5≤_; omega
 ·obtain ⟨_,hat,_⟩:=Fm.E7 hf ho
  have e0:x.fmt=x.atom.fmtA:=by
   obtain ⟨op,a,v,ps⟩:=x
   have ho:op=3:=ho
   subst ho
   exact QM a v ps
  have:=VQ hat
  rw [←AD,Tm.CU] at this
  rw [e0]; omega
 ·obtain ⟨p,e0⟩:=Fm.Il hf ho
  have hi:=ih p (by rw [e0]; simp [Fm.parts])
  have hn:x.nodes=1+p.nodes:=by rw [Fm.nodes_eq,e0]; show 1+Fm.nodeS [p]=_; rw [Fm.nodeS,Fm.nodeS]; omega
  rw [hn,e0,O6]
  cases p.atom.eqn with
  | true=>simp only [cond_true,zO,zZ,zN]; omega
  | false=>simp only [cond_false,zO]; omega
 iterate 3
  ·obtain ⟨p,q,e0⟩:=Fm.FX hf (by omega)
   have h1:=ih p (by rw [e0]; simp [Fm.parts])
   have h2:=ih q (by rw [e0]; simp [Fm.parts])
   have hn:x.nodes=1+p.nodes+q.nodes:=by rw [Fm.nodes_eq,e0]; show 1+Fm.nodeS [p,q]=_; rw [Fm.nodeS,Fm.nodeS,Fm.nodeS]; omega
   have hs:=Th x.op
   have e1:x.fmt=40 :: (p.fmt++(sgn x.op++(q.fmt++[41]))):=by
    have:=QP (op:=x.op) (by omega) Tm.zero ⟨#[]⟩ p q
    rwa [←e0] at this
   rw [hn,e1]
   simp only [zO,zZ,zN]; omega
 ·obtain ⟨p,e0⟩:=Fm.GB hf (.inl ho)
  rw [ho] at e0
  have hi:=ih p (by rw [e0]; simp [Fm.parts])
  have hv:=E6 (Fm.Dc hf (by unfold qB; rw [ho,Ax rfl]; rfl)).1
  have hn:x.nodes=1+p.nodes:=by rw [Fm.nodes_eq,e0]; show 1+Fm.nodeS [p]=_; rw [Fm.nodeS,Fm.nodeS]; omega
  have e1:x.fmt=P0++(x.var.toList++46 :: p.fmt):=by
   have:=QN Tm.zero x.var p
   rwa [←e0] at this
  rw [hn,e1]
  simp only [zZ,zO,AD,P0,zN]; omega
 ·obtain ⟨p,e0⟩:=Fm.GB hf (.inr ho)
  rw [ho] at e0
  have hi:=ih p (by rw [e0]; simp [Fm.parts])
  have hv:=E6 (Fm.Dc hf (by unfold qB; rw [ho,Ax (p:=(9:Int)=9) rfl,yE])).1
  have hn:x.nodes=1+p.nodes:=by rw [Fm.nodes_eq,e0]; show 1+Fm.nodeS [p]=_; rw [Fm.nodeS,Fm.nodeS]; omega
  have e1:x.fmt=JX++(x.var.toList++46 :: p.fmt):=by
   have:=QO Tm.zero x.var p
   rwa [←e0] at this
  rw [hn,e1]
  simp only [zZ,zO,AD,JX,zN]; omega
termination_by SizeOf.sizeOf x
decreasing_by exact Fm.lt_of_mem hy
theorem Fm.txt_size (x:Fm):x.txt.size=x.fmt.length:=by rw [←AD,Fm.txt_toList]
theorem Zy (a:Tm) (v:ByteArray) (p:Fm) (h:p.atom.eqn=false):(⟨#[126]⟩:ByteArray)++p.txt=(Fm.mk 4 a v [p]).txt:=Bk (by rw [Bx,Fm.txt_toList,Fm.txt_toList,O6,h,ML]; rfl)
theorem YS (a:Tm) (v:ByteArray) (p:Fm) (h:p.atom.eqn=true):(⟨#[126,40]⟩:ByteArray)++p.txt++⟨#[41]⟩=(Fm.mk 4 a v [p]).txt:=Bk (by
 have e:(⟨#[126,40]⟩:ByteArray).toList=[126,40]:=BK [126,40]
 rw [Bx,Bx,Fm.txt_toList,Fm.txt_toList,O6,h,e,Si]; rfl)
theorem Zz (a:Tm) (v:ByteArray) (p:Fm):(⟨#[97,108,108,32]⟩:ByteArray)++v++⟨#[46]⟩++p.txt=(Fm.mk 8 a v [p]).txt:=Bk (by
 rw [Bx,Bx,Bx,Fm.txt_toList,Fm.txt_toList,QN,MJ,P1]
 simp only [P0,yM,zX,yG])
theorem Z0 (a:Tm) (v:ByteArray) (p:Fm):(⟨#[115,111,109,101,32]⟩:ByteArray)++v++⟨#[46]⟩++p.txt=(Fm.mk 9 a v [p]).txt:=Bk (by
 rw [Bx,Bx,Bx,Fm.txt_toList,Fm.txt_toList,QO,Ka,P1]
 simp only [JX,yM,zX,yG])
theorem Wa {op:Int} (ho:op=5∨op=6∨op=7) (a:Tm) (v:ByteArray) (p q:Fm):(⟨#[40]⟩:ByteArray)++p.txt++sgB op++q.txt++⟨#[41]⟩=(Fm.mk op a v [p,q]).txt:=Bk (by
 rw [Bx,Bx,Bx,Bx,Fm.txt_toList,Fm.txt_toList,Fm.txt_toList,QP ho,MM,Si,Gb]
 simp only [yM,zX,yG])
theorem Z1 (a:Tm) (v:ByteArray) (ps:List Fm):(Fm.mk 3 a v ps).txt=a.txtA:=Bk (by rw [Fm.txt_toList,Tm.CU,QM])
theorem Z2 (a:Tm) (v:ByteArray) (ps:List Fm):(Fm.mk 1 a v ps).txt=⟨#[116,114,117,101]⟩:=Bk (by rw [Fm.txt_toList,QK]; exact (BK bTrue).symm)
theorem Z3 (a:Tm) (v:ByteArray) (ps:List Fm):(Fm.mk 2 a v ps).txt=⟨#[102,97,108,115,101]⟩:=Bk (by rw [Fm.txt_toList,QL]; exact (BK bFalse).symm)
def AN:SC:=(.seq (.reg [⟨some 1,none,.boxv 33 5 (.t 0)⟩,⟨(some 2),none,(.mv (.c (.str ⟨#[]⟩)))⟩]) (.seq (.seq (.reg [⟨some 3,none,.faddr 0 (.t 1)⟩,⟨some 4,none,.load false 1 (.t 3)⟩]) (.block 0 (.seq (.reg [⟨some 6,none,.bin .eql false (.t 4) (.c (.int .i64 1))⟩,⟨some 5,none,.mv (.t 6)⟩]) (.cond (.t 5) (.seq (.reg [⟨(some 2),none,(.mv (.c (.str ⟨#[116,114,117,101]⟩)))⟩]) .ret) (.seq (.reg [⟨some 8,none,.bin .eql false (.t 4) (.c (.int .i64 2))⟩,⟨some 7,none,.mv (.t 8)⟩]) (.cond (.t 7) (.seq (.reg [⟨(some 2),none,(.mv (.c (.str ⟨#[102,97,108,115,101]⟩)))⟩]) .ret) (.seq (.reg [⟨some 10,none,.bin .eql false (.t 4) (.c (.int .i64 3))⟩,⟨some 9,none,.mv (.t 10)⟩]) (.cond (.t 9) (.seq (.reg [⟨some 11,none,.faddr 1 (.t 1)⟩,⟨some 12,none,.load true 2 (.t 11)⟩,⟨some 13,none,.call 87 [(.t 12)]⟩,⟨some 2,none,.mv (.t 13)⟩]) .ret) (.seq (.reg [⟨some 15,none,.bin .eql false (.t 4) (.c (.int .i64 4))⟩,⟨some 14,none,.mv (.t 15)⟩]) (.cond (.t 14) (.seq (.seq (.reg [⟨some 16,none,.faddr 4 (.t 1)⟩,⟨some 17,none,.load false 1 (.t 16)⟩,⟨some 18,none,.iaddr 5 (.t 17) (.c (.int .i64 0))⟩,⟨some 19,none,.faddr 1 (.t 18)⟩,⟨some 20,none,.load true 2 (.t 19)⟩,⟨some 21,none,.call 88 [(.t 20)]⟩]) (.cond (.t 21) (.seq (.reg [⟨some 22,none,.faddr 4 (.t 1)⟩,⟨some 23,none,.load false 1 (.t 22)⟩,⟨some 24,none,.iaddr 5 (.t 23) (.c (.int .i64 0))⟩,⟨some 25,none,.load true 5 (.t 24)⟩,⟨some 26,none,.call 44 [(.t 25)]⟩,⟨(some 27),none,(.bin .add false (.c (.str ⟨#[126,40]⟩)) (.t 26))⟩,⟨(some 28),none,(.bin .add false (.t 27) (.c (.str ⟨#[41]⟩)))⟩,⟨some 2,none,.mv (.t 28)⟩]) .ret) .skip)) (.seq (.reg [⟨some 29,none,.faddr 4 (.t 1)⟩,⟨some 30,none,.load false 1 (.t 29)⟩,⟨some 31,none,.iaddr 5 (.t 30) (.c (.int .i64 0))⟩,⟨some 32,none,.load true 5 (.t 31)⟩,⟨some 33,none,.call 44 [(.t 32)]⟩,⟨(some 34),none,(.bin .add false (.c (.str ⟨#[126]⟩)) (.t 33))⟩,⟨some 2,none,.mv (.t 34)⟩]) .ret)) (.seq (.reg [⟨some 36,none,.bin .eql false (.t 4) (.c (.int .i64 8))⟩,⟨some 35,none,.mv (.t 36)⟩]) (.cond (.t 35) (.seq (.dreg [[],[0],[1,0],[2,1,0],[],[4],[5,4],[6,5,4],[7,6,5,4],[3,2,1,0,8,7,6,5,4],[9,3,2,1,0,8,7,6,5,4]] [⟨some 37,none,.faddr 3 (.t 1)⟩,⟨some 38,none,.load false 1 (.t 37)⟩,⟨(some 39),none,(.bin .add false (.c (.str ⟨#[97,108,108,32]⟩)) (.t 38))⟩,⟨(some 40),none,(.bin .add false (.t 39) (.c (.str ⟨#[46]⟩)))⟩,⟨some 41,none,.faddr 4 (.t 1)⟩,⟨some 42,none,.load false 1 (.t 41)⟩,⟨some 43,none,.iaddr 5 (.t 42) (.c (.int .i64 0))⟩,⟨some 44,none,.load true 5 (.t 43)⟩,⟨some 45,none,.call 44 [(.t 44)]⟩,⟨some 46,none,.bin .add false (.t 40) (.t 45)⟩,⟨some 2,none,.mv (.t 46)⟩]) .ret) (.seq (.reg [⟨some 48,none,.bin .eql false (.t 4) (.c (.int .i64 9))⟩,⟨some 47,none,.mv (.t 48)⟩]) (.cond (.t 47) (.seq (.dreg [[],[0],[1,0],[2,1,0],[],[4],[5,4],[6,5,4],[7,6,5,4],[3,2,1,0,8,7,6,5,4],[9,3,2,1,0,8,7,6,5,4]] [⟨some 49,none,.faddr 3 (.t 1)⟩,⟨some 50,none,.load false 1 (.t 49)⟩,⟨(some 51),none,(.bin .add false (.c (.str ⟨#[115,111,109,101,32]⟩)) (.t 50))⟩,⟨(some 52),none,(.bin .add false (.t 51) (.c (.str ⟨#[46]⟩)))⟩,⟨some 53,none,.faddr 4 (.t 1)⟩,⟨some 54,none,.load false 1 (.t 53)⟩,⟨some 55,none,.iaddr 5 (.t 54) (.c (.int .i64 0))⟩,⟨some 56,none,.load true 5 (.t 55)⟩,⟨some 57,none,.call 44 [(.t 56)]⟩,⟨some 58,none,.bin .add false (.t 52) (.t 57)⟩,⟨some 2,none,.mv (.t 58)⟩]) .ret) .skip)))))))))))))) (.seq (.dreg [[],[0],[1,0],[2,1,0],[3,2,1,0],[4,3,2,1,0],[4,3,2,1,0],[],[7],[6,4,3,2,1,0,8,7],[5,4,3,2,1,0,9,6,8,7],[],[11],[12,11],[13,12,11],[14,13,12,11,6,4,3,2,1,0],[10,5,4,3,2,1,0,9,6,8,7,15,14,13,12,11],[16,10,5,4,3,2,1,0,9,6,8,7,15,14,13,12,11],[17,16,10,5,4,3,2,1,0,9,6,8,7,15,14,13,12,11]] [⟨some 59,none,.faddr 4 (.t 1)⟩,⟨some 60,none,.load false 1 (.t 59)⟩,⟨some 61,none,.iaddr 5 (.t 60) (.c (.int .i64 0))⟩,⟨some 62,none,.load true 5 (.t 61)⟩,⟨some 63,none,.call 44 [(.t 62)]⟩,⟨(some 64),none,(.bin .add false (.c (.str ⟨#[40]⟩)) (.t 63))⟩,⟨some 65,none,.call 89 []⟩,⟨some 66,none,.faddr 0 (.t 1)⟩,⟨some 67,none,.load false 1 (.t 66)⟩,⟨(some 68),none,(.mget false false false [(.str ⟨#[]⟩)] (.t 65) (.t 67))⟩,⟨some 69,none,.bin .add false (.t 64) (.t 68)⟩,⟨some 70,none,.faddr 4 (.t 1)⟩,⟨some 71,none,.load false 1 (.t 70)⟩,⟨some 72,none,.iaddr 5 (.t 71) (.c (.int .i64 1))⟩,⟨some 73,none,.load true 5 (.t 72)⟩,⟨some 74,none,.call 44 [(.t 73)]⟩,⟨some 75,none,.bin .add false (.t 69) (.t 74)⟩,⟨(some 76),none,(.bin .add false (.t 75) (.c (.str ⟨#[41]⟩)))⟩,⟨some 2,none,.mv (.t 76)⟩]) .ret)))
theorem AX:codeOf Tryz.prog 44=some ⟨77,AN,[(.tmp 2)]⟩:=by kernel_rfl
theorem Ar:modes 44=⟨[],.asis,none,false⟩:=by unfold modes; rfl
theorem KJ (x:Fm) (hx:x.forms=true) (hn:x.nodes≤1000) (ih:∀ y∈x.parts,E 44 [y.sv] []=some (.str y.txt,[])):E 44 [x.sv] []=some (.str x.txt,[]):=by
 have hf:=Fm.By hx
 have ln:∀ y∈x.parts,y.txt.size≤4010000:=fun y hy=>by
  have h1:=Fm.fmt_len y (Fm.Cv hx hy)
  have h2:=Fm.nodes_mem hy
  have h3:=Fm.nodes_eq x
  rw [Fm.txt_size]; omega
 rcases Fm.Im hf with ho | ho | ho | ho | ho | ho | ho | ho | ho
 ·have e0:=Fm.Dp hf (.inl ho)
  rw [ho] at e0
  rw [e0,Z2]
  show E 44 [.agg [.int .i64 1,.str ⟨#[]⟩,.arr [],.str ⟨#[]⟩,.arr []]] []=_
  refine Ai AX Ar (of_decide_eq_true rfl) ?_
  simp (disch:=omega) only [AN,go_sem,Ab]
 ·have e0:=Fm.Dp hf (.inr ho)
  rw [ho] at e0
  rw [e0,Z3]
  show E 44 [.agg [.int .i64 2,.str ⟨#[]⟩,.arr [],.str ⟨#[]⟩,.arr []]] []=_
  refine Ai AX Ar (of_decide_eq_true rfl) ?_
  simp (disch:=omega) only [AN,go_sem,Ab]
 ·obtain ⟨_,hat,_⟩:=Fm.E7 hf ho
  have e0:x.txt=x.atom.txtA:=by
   obtain ⟨op,a,v,ps⟩:=x
   have ho:op=3:=ho
   subst ho
   exact Z1 a v ps
  have hc:=Ui x.atom hat
  rw [e0]
  have q1:(x.op=1)=False:=eq_false (by omega)
  have q2:(x.op=2)=False:=eq_false (by omega)
  have q3:(x.op=3)=True:=eq_true ho
  refine Ai AX Ar (of_decide_eq_true rfl) ?_
  simp (disch:=omega) only [AN,go_sem,Ab,q1,q2,q3,hc,AO,A5,Ar,Bg]
 ·obtain ⟨p,e0⟩:=Fm.Il hf ho
  have hp:p∈x.parts:=by rw [e0]; simp [Fm.parts]
  have c0:=ih p hp
  have lp:=ln p hp
  have he:=Ef p.atom
  have g0:([p].map Fm.d)[(0:Nat)]?=some [D.int p.op,D.str p.atom.name,D.arr (p.atom.args.map Tm.d),D.str p.var,D.arr (p.parts.map Fm.d)]:=by simp only [zD,zI,zL,zM]; rw [Fm.d_eq]
  have s1:((⟨#[126,40]⟩:ByteArray)++p.txt).size=2+p.txt.size:=by rw [zH]; rfl
  have s2:(⟨#[126,40]⟩:ByteArray).size=2:=rfl
  have s3:(⟨#[126]⟩:ByteArray).size=1:=rfl
  have s4:(⟨#[41]⟩:ByteArray).size=1:=rfl
  cases hq:p.atom.eqn with
  | true =>
   rw [hq] at he
   have ht:=YS Tm.zero ⟨#[]⟩ p hq
   rw [e0]
   show E 44 [.agg [.int .i64 4,.str ⟨#[]⟩,.arr [],.str ⟨#[]⟩,.arr ([p].map Fm.d)]] []=_
   obtain ⟨ds,hds⟩:∃ ds,ds=[p].map Fm.d:=⟨_,rfl⟩
   rw [←hds] at g0 ⊢
   refine Ai AX Ar (of_decide_eq_true rfl) ?_
   simp (disch:=omega) only [AN,go_sem,Ab,g0,c0,he,s1,s2,s3,s4,ht,zY,AO,A5,Ar,Bg]
  | false =>
   rw [hq] at he
   have ht:=Zy Tm.zero ⟨#[]⟩ p hq
   rw [e0]
   show E 44 [.agg [.int .i64 4,.str ⟨#[]⟩,.arr [],.str ⟨#[]⟩,.arr ([p].map Fm.d)]] []=_
   obtain ⟨ds,hds⟩:∃ ds,ds=[p].map Fm.d:=⟨_,rfl⟩
   rw [←hds] at g0 ⊢
   refine Ai AX Ar (of_decide_eq_true rfl) ?_
   simp (disch:=omega) only [AN,go_sem,Ab,g0,c0,he,s1,s2,s3,s4,ht,zY,AO,A5,Ar,Bg]
 ·obtain ⟨p,q,e0⟩:=Fm.FX hf (by omega)
  rw [ho] at e0
  have hp:p∈x.parts:=by rw [e0]; simp [Fm.parts]
  have hq:q∈x.parts:=by rw [e0]; simp [Fm.parts]
  have c0:=ih p hp
  have c1:=ih q hq
  have lp:=ln p hp
  have lq:=ln q hq
  have ht:=Wa (op:=5) (by omega) Tm.zero ⟨#[]⟩ p q
  have hsg:=LF
  have hsm:=Iq (n:=5) (by omega)
  have z0:=Hi (op:=5) (by omega)
  have g0:([p,q].map Fm.d)[(0:Nat)]?=some [D.int p.op,D.str p.atom.name,D.arr (p.atom.args.map Tm.d),D.str p.var,D.arr (p.parts.map Fm.d)]:=by simp only [zD,zI,zL,zM]; rw [Fm.d_eq]
  have g1:([p,q].map Fm.d)[(1:Nat)]?=some [D.int q.op,D.str q.atom.name,D.arr (q.atom.args.map Tm.d),D.str q.var,D.arr (q.parts.map Fm.d)]:=by simp only [zD,zI,zL,zM]; rw [Fm.d_eq]
  rw [e0]
  show E 44 [.agg [.int .i64 5,.str ⟨#[]⟩,.arr [],.str ⟨#[]⟩,.arr ([p,q].map Fm.d)]] []=_
  obtain ⟨ds,hds⟩:∃ ds,ds=[p,q].map Fm.d:=⟨_,rfl⟩
  rw [←hds] at g0 g1 ⊢
  have s1:((⟨#[40]⟩:ByteArray)++p.txt).size=1+p.txt.size:=by rw [zH]; rfl
  have s2:((⟨#[40]⟩:ByteArray)++p.txt++sgB 5).size=1+p.txt.size+(sgB 5).size:=by rw [zH,s1]
  have s3:((⟨#[40]⟩:ByteArray)++p.txt++sgB 5++q.txt).size=1+p.txt.size+(sgB 5).size+q.txt.size:=by rw [zH,s2]
  have s4:(⟨#[40]⟩:ByteArray).size=1:=rfl
  have s5:(⟨#[41]⟩:ByteArray).size=1:=rfl
  refine Ai AX Ar (of_decide_eq_true rfl) ?_
  simp (disch:=omega) only [AN,go_sem,Ab,g0,g1,c0,c1,hsg,hsm,s1,s2,s3,s4,s5,ht,zY,Int.toNat_one,yQ,yL,AO,A5,Ar,Bg]
 ·obtain ⟨p,q,e0⟩:=Fm.FX hf (by omega)
  rw [ho] at e0
  have hp:p∈x.parts:=by rw [e0]; simp [Fm.parts]
  have hq:q∈x.parts:=by rw [e0]; simp [Fm.parts]
  have c0:=ih p hp
  have c1:=ih q hq
  have lp:=ln p hp
  have lq:=ln q hq
  have ht:=Wa (op:=6) (by omega) Tm.zero ⟨#[]⟩ p q
  have hsg:=LF
  have hsm:=Iq (n:=6) (by omega)
  have z0:=Hi (op:=6) (by omega)
  have g0:([p,q].map Fm.d)[(0:Nat)]?=some [D.int p.op,D.str p.atom.name,D.arr (p.atom.args.map Tm.d),D.str p.var,D.arr (p.parts.map Fm.d)]:=by simp only [zD,zI,zL,zM]; rw [Fm.d_eq]
  have g1:([p,q].map Fm.d)[(1:Nat)]?=some [D.int q.op,D.str q.atom.name,D.arr (q.atom.args.map Tm.d),D.str q.var,D.arr (q.parts.map Fm.d)]:=by simp only [zD,zI,zL,zM]; rw [Fm.d_eq]
  rw [e0]
  show E 44 [.agg [.int .i64 6,.str ⟨#[]⟩,.arr [],.str ⟨#[]⟩,.arr ([p,q].map Fm.d)]] []=_
  obtain ⟨ds,hds⟩:∃ ds,ds=[p,q].map Fm.d:=⟨_,rfl⟩
  rw [←hds] at g0 g1 ⊢
  have s1:((⟨#[40]⟩:ByteArray)++p.txt).size=1+p.txt.size:=by rw [zH]; rfl
  have s2:((⟨#[40]⟩:ByteArray)++p.txt++sgB 6).size=1+p.txt.size+(sgB 6).size:=by rw [zH,s1]
  have s3:((⟨#[40]⟩:ByteArray)++p.txt++sgB 6++q.txt).size=1+p.txt.size+(sgB 6).size+q.txt.size:=by rw [zH,s2]
  have s4:(⟨#[40]⟩:ByteArray).size=1:=rfl
  have s5:(⟨#[41]⟩:ByteArray).size=1:=rfl
  refine Ai AX Ar (of_decide_eq_true rfl) ?_
  simp (disch:=omega) only [AN,go_sem,Ab,g0,g1,c0,c1,hsg,hsm,s1,s2,s3,s4,s5,ht,zY,Int.toNat_one,yQ,yL,AO,A5,Ar,Bg]
 ·obtain ⟨p,q,e0⟩:=Fm.FX hf (by omega)
  rw [ho] at e0
  have hp:p∈x.parts:=by rw [e0]; simp [Fm.parts]
  have hq:q∈x.parts:=by rw [e0]; simp [Fm.parts]
  have c0:=ih p hp
  have c1:=ih q hq
  have lp:=ln p hp
  have lq:=ln q hq
  have ht:=Wa (op:=7) (by omega) Tm.zero ⟨#[]⟩ p q
  have hsg:=LF
  have hsm:=Iq (n:=7) (by omega)
  have z0:=Hi (op:=7) (by omega)
  have g0:([p,q].map Fm.d)[(0:Nat)]?=some [D.int p.op,D.str p.atom.name,D.arr (p.atom.args.map Tm.d),D.str p.var,D.arr (p.parts.map Fm.d)]:=by simp only [zD,zI,zL,zM]; rw [Fm.d_eq]
  have g1:([p,q].map Fm.d)[(1:Nat)]?=some [D.int q.op,D.str q.atom.name,D.arr (q.atom.args.map Tm.d),D.str q.var,D.arr (q.parts.map Fm.d)]:=by simp only [zD,zI,zL,zM]; rw [Fm.d_eq]
  rw [e0]
  show E 44 [.agg [.int .i64 7,.str ⟨#[]⟩,.arr [],.str ⟨#[]⟩,.arr ([p,q].map Fm.d)]] []=_
  obtain ⟨ds,hds⟩:∃ ds,ds=[p,q].map Fm.d:=⟨_,rfl⟩
  rw [←hds] at g0 g1 ⊢
  have s1:((⟨#[40]⟩:ByteArray)++p.txt).size=1+p.txt.size:=by rw [zH]; rfl
  have s2:((⟨#[40]⟩:ByteArray)++p.txt++sgB 7).size=1+p.txt.size+(sgB 7).size:=by rw [zH,s1]
  have s3:((⟨#[40]⟩:ByteArray)++p.txt++sgB 7++q.txt).size=1+p.txt.size+(sgB 7).size+q.txt.size:=by rw [zH,s2]
  have s4:(⟨#[40]⟩:ByteArray).size=1:=rfl
  have s5:(⟨#[41]⟩:ByteArray).size=1:=rfl
  refine Ai AX Ar (of_decide_eq_true rfl) ?_
  simp (disch:=omega) only [AN,go_sem,Ab,g0,g1,c0,c1,hsg,hsm,s1,s2,s3,s4,s5,ht,zY,Int.toNat_one,yQ,yL,AO,A5,Ar,Bg]
 ·obtain ⟨p,e0⟩:=Fm.GB hf (by omega)
  rw [ho] at e0
  have hp:p∈x.parts:=by rw [e0]; simp [Fm.parts]
  have hv:=E6 (Fm.Dc hf (by unfold qB; rw [ho]; first | rw [Ax rfl]; rfl | rw [Ax (p:=(9:Int)=9) rfl,yE])).1
  have c0:=ih p hp
  have lp:=ln p hp
  have ht:=Zz Tm.zero x.var p
  have g0:([p].map Fm.d)[(0:Nat)]?=some [D.int p.op,D.str p.atom.name,D.arr (p.atom.args.map Tm.d),D.str p.var,D.arr (p.parts.map Fm.d)]:=by simp only [zD,zI,zL,zM]; rw [Fm.d_eq]
  obtain ⟨v,hvv⟩:∃ v,v=x.var:=⟨_,rfl⟩
  rw [←hvv] at ht hv e0
  rw [e0]
  show E 44 [.agg [.int .i64 8,.str ⟨#[]⟩,.arr [],.str v,.arr ([p].map Fm.d)]] []=_
  obtain ⟨ds,hds⟩:∃ ds,ds=[p].map Fm.d:=⟨_,rfl⟩
  rw [←hds] at g0 ⊢
  have s1:((⟨#[97,108,108,32]⟩:ByteArray)++v).size=4+v.size:=by rw [zH]; rfl
  have s2:((⟨#[97,108,108,32]⟩:ByteArray)++v++⟨#[46]⟩).size=4+v.size+1:=by rw [zH,s1]; rfl
  have s3:(⟨#[97,108,108,32]⟩:ByteArray).size=4:=rfl
  have s4:(⟨#[46]⟩:ByteArray).size=1:=rfl
  refine Ai AX Ar (of_decide_eq_true rfl) ?_
  simp (disch:=omega) only [AN,go_sem,Ab,g0,c0,s1,s2,s3,s4,ht,zY,AO,A5,Ar,Bg]
 ·obtain ⟨p,e0⟩:=Fm.GB hf (by omega)
  rw [ho] at e0
  have hp:p∈x.parts:=by rw [e0]; simp [Fm.parts]
  have hv:=E6 (Fm.Dc hf (by unfold qB; rw [ho]; first | rw [Ax rfl]; rfl | rw [Ax (p:=(9:Int)=9) rfl,yE])).1
  have c0:=ih p hp
  have lp:=ln p hp
  have ht:=Z0 Tm.zero x.var p
  have g0:([p].map Fm.d)[(0:Nat)]?=some [D.int p.op,D.str p.atom.name,D.arr (p.atom.args.map Tm.d),D.str p.var,D.arr (p.parts.map Fm.d)]:=by simp only [zD,zI,zL,zM]; rw [Fm.d_eq]
  obtain ⟨v,hvv⟩:∃ v,v=x.var:=⟨_,rfl⟩
  rw [←hvv] at ht hv e0
  rw [e0]
  show E 44 [.agg [.int .i64 9,.str ⟨#[]⟩,.arr [],.str v,.arr ([p].map Fm.d)]] []=_
  obtain ⟨ds,hds⟩:∃ ds,ds=[p].map Fm.d:=⟨_,rfl⟩
  rw [←hds] at g0 ⊢
  have s1:((⟨#[115,111,109,101,32]⟩:ByteArray)++v).size=5+v.size:=by rw [zH]; rfl
  have s2:((⟨#[115,111,109,101,32]⟩:ByteArray)++v++⟨#[46]⟩).size=5+v.size+1:=by rw [zH,s1]; rfl
  have s3:(⟨#[115,111,109,101,32]⟩:ByteArray).size=5:=rfl
  have s4:(⟨#[46]⟩:ByteArray).size=1:=rfl
  refine Ai AX Ar (of_decide_eq_true rfl) ?_
  simp (disch:=omega) only [AN,go_sem,Ab,g0,c0,s1,s2,s3,s4,ht,zY,AO,A5,Ar,Bg]
theorem Fh (x:Fm) (hx:x.forms=true) (hn:x.nodes≤1000):E 44 [x.sv] []=some (.str x.txt,[]) :=
 KJ x hx hn fun y hy=>Fh y (Fm.Cv hx hy) (by have:=Fm.nodes_mem hy; have:=Fm.nodes_eq x; omega)
termination_by SizeOf.sizeOf x
decreasing_by exact Fm.lt_of_mem hy
def P7 (s:ByteArray) (f:Fm):Prop:=f.valid=true∧f.txt=s
noncomputable def XH (s:ByteArray):Bool:=dec (s.size≤4000∧∃ f,P7 s f)
open Classical in
noncomputable def Sn (s:ByteArray):Fm:=if h:s.size≤4000∧∃ f,P7 s f then h.2.choose else Fm.zero
theorem F9 {s:ByteArray} (hs:s.size≤1048576) {f:Fm} (h:P7 s f) {x:Fm} {j:Nat} {fl:Bool} (hc:Zu s 0 x j fl):fl=false∧x=f∧j=s.size :=
 hc f s.size (CF h.1).2 (zW _) (zT _) (.inl ⟨by rw [X5,← h.2,Fm.txt_toList],Ug s⟩)
theorem Un {s:ByteArray} (hs:s.size≤1048576) {f g:Fm} (h:P7 s f) (k:P7 s g):f=g:=by
 obtain ⟨out,_,x,j,fl,_,_,_,_,hc⟩:=Gw s hs (s.size+1) 0 (zT _) (by omega) false
 exact (F9 hs h (hc rfl)).2.1.symm.trans (F9 hs k (hc rfl)).2.1
theorem Wc {s:ByteArray} (hs:s.size≤4000) {f:Fm} (h:P7 s f):XH s=true∧Sn s=f:=by
 have he:s.size≤4000∧∃ f,P7 s f:=⟨hs,f,h⟩
 refine ⟨Ax he,?_⟩
 unfold Sn
 rw [dif_pos he]
 exact Un (by omega) he.2.choose_spec h
theorem Rb {s:ByteArray} (h:s.size≤4000→∀ f,¬ P7 s f):XH s=false∧Sn s=Fm.zero:=by
 have he:¬ (s.size≤4000∧∃ f,P7 s f):=fun ⟨h1,f,hf⟩=>h h1 f hf
 refine ⟨An he,?_⟩
 unfold Sn
 rw [dif_neg he]
def BH:SC:=(.seq (.reg [⟨(some 2),none,(.alloc 33 [(.int .i64 0),(.str ⟨#[]⟩),.nil,(.str ⟨#[]⟩),.nil])⟩,⟨some 3,none,.mv (.c (.bool false))⟩]) (.seq (.seq (.reg [⟨some 6,none,.mv (.t 0)⟩,⟨some 7,none,.len true (.t 6)⟩,⟨some 8,none,.bin .gtr false (.t 7) (.c (.int .i64 4000))⟩]) (.cond (.t 8) (.seq (.reg [⟨(some 9),none,(.build [(.int .i64 0),(.str ⟨#[]⟩),.nil,(.str ⟨#[]⟩),.nil] [])⟩,⟨none,none,(.store 5 (.t 2) (.t 9))⟩,⟨some 3,none,.mv (.c (.bool false))⟩]) .ret) .skip)) (.seq (.reg [⟨some 10,none,.mv (.t 0)⟩,⟨(some 11),none,(.build [(.str ⟨#[]⟩),(.int .i64 0),(.bool false)] [(0,(1,(.t 10)))])⟩,⟨some 12,none,.boxv 83 3 (.t 11)⟩,⟨some 4,none,.mv (.t 12)⟩]) (.seq (.reg [⟨some 13,none,.mv (.t 4)⟩,⟨some 14,none,.call 45 [(.t 13)]⟩,⟨(some 5),none,(.alloc 33 [(.int .i64 0),(.str ⟨#[]⟩),.nil,(.str ⟨#[]⟩),.nil])⟩,⟨none,none,(.store 5 (.t 5) (.t 14))⟩]) (.seq (.seq (.reg [⟨some 15,none,.mv (.t 4)⟩,⟨some 16,none,.call 46 [(.t 15)]⟩,⟨some 17,none,.un .not (.t 16)⟩,⟨some 18,none,.mv (.t 17)⟩,⟨(some 19),(some (18,false)),(.load true 5 (.t 5))⟩,⟨(some 20),(some (18,false)),(.call 30 [(.t 19)])⟩,⟨(some 21),(some (18,false)),(.un .not (.t 20))⟩,⟨some 22,none,.pick (.t 18) (.c (.bool true)) (.t 21)⟩,⟨some 23,none,.mv (.t 22)⟩,⟨(some 24),(some (23,false)),(.load true 5 (.t 5))⟩,⟨(some 25),(some (23,false)),(.call 44 [(.t 24)])⟩,⟨(some 26),(some (23,false)),(.mv (.t 0))⟩,⟨(some 27),(some (23,false)),(.bin .neq false (.t 25) (.t 26))⟩,⟨some 28,none,.pick (.t 23) (.c (.bool true)) (.t 27)⟩]) (.cond (.t 28) (.seq (.reg [⟨(some 29),none,(.build [(.int .i64 0),(.str ⟨#[]⟩),.nil,(.str ⟨#[]⟩),.nil] [])⟩,⟨none,none,(.store 5 (.t 2) (.t 29))⟩,⟨some 3,none,.mv (.c (.bool false))⟩]) .ret) .skip)) (.seq (.reg [⟨some 30,none,.load true 5 (.t 5)⟩,⟨none,none,(.store 5 (.t 2) (.t 30))⟩,⟨some 3,none,.mv (.c (.bool true))⟩]) .ret))))))
theorem Cc:codeOf Tryz.prog 19=some ⟨31,BH,[(.cell 2 true 5),(.tmp 3)]⟩:=by kernel_rfl
theorem AT:modes 19=⟨[],.own [none,none,some (30,2),none,some (33,5),none],none,false⟩:=by unfold modes; rfl
theorem Gc (s:ByteArray) (hs:s.size≤1048576):E 19 [.str s] []=some (.tup [(Sn s).osv,.bool (XH s)],(Sn s).obs):=by
 have hz1:Fm.zero.osv=.agg [.int .i64 0,.str ⟨#[]⟩,.ref 0,.str ⟨#[]⟩,.ref 1]:=rfl
 have hz2:Fm.zero.obs=[.row 30 2 [],.row 33 5 []]:=rfl
 rcases zF 4000 s.size with h4 | h4
 ·have hq:((4000:Int)<(s.size:Int))=True:=eq_true (by omega)
  obtain ⟨q1,q2⟩:=Rb (s:=s) fun h=>absurd h (by omega)
  rw [q1,q2,hz1,hz2]
  refine Ai Cc AT (of_decide_eq_true rfl) ?_
  simp (disch:=omega) only [BH,go_sem,Ab,hq]
 ·have hq:((4000:Int)<(s.size:Int))=False:=eq_false (by omega)
  obtain ⟨out,h1,x,j,fl,rfl,_,hj,hb,hc⟩:=Gw s hs (s.size+1) 0 (zT _) (by omega) false
  have hc:=hc rfl
  have h1:E 45 [.ptr 0 0] [.box 83 [.str s,.int .i64 0,.bool false]]=some (Ul x,[psr s j fl,P4 x,P5 x]):=h1
  cases fl with
  | true =>
   have he:=XB s j
   obtain ⟨q1,q2⟩:=Rb (s:=s) fun _ u hu=>by have:=(F9 hs hu hc).1; cases this
   rw [q1,q2,hz1,hz2]
   refine Ai Cc AT (of_decide_eq_true rfl) ?_
   simp (disch:=omega) only [BH,go_sem,Ab,hq,h1,he,Aw,Ar,Al,BG]
  | false =>
   obtain ⟨_,hn,htm⟩:=hb rfl
   have he:=XC s j
   have hv1:=BF x htm (by omega)
   by_cases h0:j=s.size
   ·rw [Ax h0] at he
    cases hv:x.valid with
    | true =>
     rw [hv] at hv1
     obtain ⟨v1,v2⟩:=CF hv
     have hf:=Fh x v2 (by omega)
     by_cases hx:x.txt=s
     ·obtain ⟨q1,q2⟩:=Wc h4 (f:=x) ⟨hv,hx⟩
      rw [q1,q2]
      have hx':(x.txt=s)=True:=eq_true hx
      refine Ai Cc AT (of_decide_eq_true rfl) ?_
      simp (disch:=omega) only [BH,go_sem,Ab,hq,h1,he,hv1,hf,hx',Fm.osv,Fm.obs,Aw,Ar,Al,BG]
     ·obtain ⟨q1,q2⟩:=Rb (s:=s) fun _ u hu=>by
       obtain ⟨_,h2,_⟩:=F9 hs hu hc
       exact hx (by rw [h2]; exact hu.2)
      rw [q1,q2,hz1,hz2]
      have hx':(x.txt=s)=False:=eq_false hx
      refine Ai Cc AT (of_decide_eq_true rfl) ?_
      simp (disch:=omega) only [BH,go_sem,Ab,hq,h1,he,hv1,hf,hx',Fm.osv,Fm.obs,Aw,Ar,Al,BG]
    | false =>
     rw [hv] at hv1
     obtain ⟨q1,q2⟩:=Rb (s:=s) fun _ u hu=>by
      obtain ⟨_,h2,_⟩:=F9 hs hu hc
      rw [h2,hu.1] at hv; cases hv
     rw [q1,q2,hz1,hz2]
     refine Ai Cc AT (of_decide_eq_true rfl) ?_
     simp (disch:=omega) only [BH,go_sem,Ab,hq,h1,he,hv1,Aw,Ar,Al,BG]
   ·rw [An h0] at he
    obtain ⟨q1,q2⟩:=Rb (s:=s) fun _ u hu=>h0 (F9 hs hu hc).2.2
    rw [q1,q2,hz1,hz2]
    refine Ai Cc AT (of_decide_eq_true rfl) ?_
    simp (disch:=omega) only [BH,go_sem,Ab,hq,h1,he,Aw,Ar,Al,BG]
def EB:SC:=(.seq (.reg [⟨some 1,none,.boxv 33 5 (.t 0)⟩,⟨(some 2),none,(.alloc 33 [(.int .i64 0),(.str ⟨#[]⟩),.nil,(.str ⟨#[]⟩),.nil])⟩,⟨some 3,none,.mv (.c (.bool false))⟩]) (.seq (.seq (.reg [⟨some 4,none,.load true 5 (.t 1)⟩,⟨some 5,none,.call 30 [(.t 4)]⟩,⟨some 6,none,.un .not (.t 5)⟩]) (.cond (.t 6) (.seq (.reg [⟨(some 7),none,(.build [(.int .i64 0),(.str ⟨#[]⟩),.nil,(.str ⟨#[]⟩),.nil] [])⟩,⟨none,none,(.store 5 (.t 2) (.t 7))⟩,⟨some 3,none,.mv (.c (.bool false))⟩]) .ret) .skip)) (.seq (.reg [⟨some 8,none,.load true 5 (.t 1)⟩,⟨none,none,(.store 5 (.t 2) (.t 8))⟩,⟨some 3,none,.mv (.c (.bool true))⟩]) .ret)))
theorem Hj:codeOf Tryz.prog 49=some ⟨9,EB,[(.cell 2 true 5),(.tmp 3)]⟩:=by kernel_rfl
theorem CQ:modes 49=⟨[true],.own [none,none,some (30,2),none,some (33,5),none],none,false⟩:=by unfold modes; rfl
theorem N6 (y:Fm) (hy:y.tame) (hn:y.nodes≤1099511627776) (hv:y.valid=true):E 49 [y.osv] y.obs=some (.tup [y.osv,.bool true],y.obs):=by
 have h:=BF y hy hn
 rw [hv] at h
 refine Ai Hj CQ (of_decide_eq_true rfl) ?_
 simp (disch:=omega) only [EB,go_sem,Ab,h,Aw,Fm.osv,Fm.obs,Tm.erss,Tm.noss,Fm.erss,Fm.noss]
theorem P8 (y:Fm) (hy:y.tame) (hn:y.nodes≤1099511627776) (hv:y.valid=false):E 49 [y.osv] y.obs=some (.tup [.agg [.int .i64 0,.str ⟨#[]⟩,.ref 2,.str ⟨#[]⟩,.ref 3],.bool false],[.row 30 2 (y.atom.args.map Tm.o),.row 33 5 (y.parts.map Fm.o),.row 30 2 [],.row 33 5 []]):=by
 have h:=BF y hy hn
 rw [hv] at h
 refine Ai Hj CQ (of_decide_eq_true rfl) ?_
 simp (disch:=omega) only [EB,go_sem,Ab,h,Aw,Fm.osv,Fm.obs,Tm.erss,Tm.noss,Fm.erss,Fm.noss]
def Jc (s:ByteArray):Bool:=decide (0<s.size)&&(Mv (H7 s 0) == Cf s)
mutual
def Tm.cok:Tm→Bool
 | .mk n xs=>Jc n&&Tm.So xs
def Tm.So:List Tm→Bool
 | []=>true
 | x :: xs=>Tm.cok x&&Tm.So xs
end
theorem Tm.Sp (x:Tm):x.cok=(Jc x.name&&Tm.So x.args):=by
 obtain ⟨n,xs⟩:=x
 rw [Tm.cok]; rfl
theorem Tm.Wd {xs:List Tm} (h:Tm.So xs=true) {y:Tm} (hy:y∈xs):y.cok=true:=by
 induction xs with
 | nil=>cases hy
 | cons x xs ih =>
  rw [Tm.So,zC] at h
  rcases zU.1 hy with rfl | hy
  ·exact h.1
  ·exact ih h.2 hy
structure Ord3 {α:Type} (c:α→α→Int) (a b d:α):Prop where
 anti:c b a=- c a b
 zero:c a b=0 ↔ a=b
 trans:c a b<0→c b d<0→c a d<0
theorem J0 {p:Nat→Int→Bool} {s:ByteArray} (h:Ea p s s.size=true) (hs:0<s.size):p 0 (H7 s 0)=true:=by
 unfold Ea at h
 rw [List.all_eq_true] at h
 exact h 0 (List.mem_range.2 hs)
theorem Uo {s:ByteArray} (h:Cf s=true):Jc s=true:=by
 have h0:=h
 unfold Cf inB at h
 rw [zC,zC,decide_eq_true_eq,decide_eq_true_eq] at h
 have hs:0<s.size:=by omega
 have h1:=J0 h.1 hs
 unfold H8 at h1
 unfold Jc
 rw [h0]
 simp at h1
 simp [hs,h1]
theorem OF {s:ByteArray} (hs:0<s.size) (h:Mv (H7 s 0)=false):Jc s=true:=by
 have hv:Cf s=false:=by
  rw [yN]
  intro hv
  unfold Cf at hv
  rw [zC] at hv
  have h1:=J0 hv.1 hs
  unfold H8 at h1
  rw [h] at h1
  simp at h1
 unfold Jc
 rw [hv,h]
 simp [hs]
theorem Up {s:ByteArray} (h:DB s=true):Jc s=true:=by
 unfold DB inB at h
 rw [zC,zC,zC,decide_eq_true_eq,decide_eq_true_eq] at h
 have hs:0<s.size:=by omega
 refine OF hs ?_
 have h1:=J0 h.1.1 hs
 unfold Ia at h1
 simp at h1
 have h2:=h1.1
 unfold Nt at h2
 unfold Mv
 simp at h2 ⊢
 omega
theorem Uq {s:ByteArray} (h:s.toList=[61]):Jc s=true:=by
 have hs:s.size=1:=by
  have:=congrArg yS h
  rw [ByteArray.toList_eq] at this
  simpa using this
 refine OF (by omega) ?_
 unfold H7
 rw [h]
 rfl
mutual
theorem Tm.KK:∀ x:Tm,x.names=true→x.cok=true
 | .mk n xs,h=>by
  rw [Tm.names] at h
  rw [Tm.cok,zC]
  split at h
  ·rename_i hv
   have:xs=[]:=by
    rw [beq_iff_eq] at h
    exact zV h
   subst this
   exact ⟨Uo hv,rfl⟩
  ·rw [zC,zC] at h
   exact ⟨Up h.1.1,Tm.J1 xs h.2⟩
theorem Tm.J1:∀ xs:List Tm,Tm.FN xs=true→Tm.So xs=true
 | [],_=>rfl
 | x :: xs,h=>by
  rw [Tm.FN,zC] at h
  rw [Tm.So,zC]
  exact ⟨Tm.KK x h.1,Tm.J1 xs h.2⟩
end
theorem Tm.We {x:Tm} (h:x.atom=true):x.cok=true:=by
 unfold Tm.atom at h
 rcases he:x.eqn with _ | _
 ·rw [he,if_neg (by simp),zC] at h
  unfold Tm.valid at h
  rw [zC] at h
  exact Tm.KK x h.2.2
 ·rw [he,if_pos rfl,zC,zC] at h
  unfold Tm.eqn at he
  rw [At] at he
  rw [Tm.Sp,zC]
  exact ⟨Uq (by rw [he,ByteArray.toList_eq]),Tm.J1 _ h.2⟩
theorem Ur {s:ByteArray} {k:Nat} (h:k<s.size):AV s k=H7 s k:=by
 rw [←E3 h]
 unfold AV
 rw [show s[k]?=some s[k] from getElem?_pos s k h]; rfl
theorem Us {s:ByteArray} (h:Jc s=true):0<s.size∧(dec (65≤AV s 0)&&dec (AV s 0≤90))=Cf s:=by
 unfold Jc at h
 rw [zC,decide_eq_true_eq,beq_iff_eq] at h
 refine ⟨h.1,?_⟩
 rw [←h.2,Ur h.1,Jm,Jm]
 unfold Mv
 rfl
theorem Sq (a:ByteArray):strLt a a=false:=by
 unfold strLt
 have key:∀ l:List UInt8,Op.bytesLess l l=false:=by
  intro l
  induction l with
  | nil=>rfl
  | cons x l ih=>simp [Op.bytesLess,ih]
 exact key _
def Kh:SC:=(.seq (.reg [⟨some 1,none,.boxv 30 2 (.t 0)⟩,⟨some 2,none,.mv (.c (.bool false))⟩]) (.seq (.reg [⟨some 3,none,.faddr 0 (.t 1)⟩,⟨some 4,none,.load false 1 (.t 3)⟩,⟨some 5,none,.idx (.t 4) (.c (.int .i64 0))⟩,⟨some 6,none,.call 107 [(.t 5)]⟩,⟨some 2,none,.mv (.t 6)⟩]) .ret))
theorem P9:codeOf Tryz.prog 148=some ⟨7,Kh,[(.tmp 2)]⟩:=by kernel_rfl
theorem F3:modes 148=⟨[],.asis,none,false⟩:=by unfold modes; rfl
theorem Ut (n:Int):E 107 [.int .u8 n] []=some (.bool (dec (65≤n)&&dec (n≤90)),[]):=by
 cases h1:dec (65≤n)
 ·refine Ai Eg BN (of_decide_eq_true rfl) ?_
  simp (disch:=omega) only [D0,go_sem,Ab,h1]
 ·refine Ai Eg BN (of_decide_eq_true rfl) ?_
  simp (disch:=omega) only [D0,go_sem,Ab,h1]
theorem XI (x:Tm) (h:x.cok=true):E 148 [x.sv] []=some (.bool (Cf x.name),[]):=by
 rw [Tm.Sp,zC] at h
 obtain ⟨h1,h2⟩:=Us h.1
 have h3:=Ut (AV x.name 0)
 rw [h2] at h3
 refine Ai P9 F3 (of_decide_eq_true rfl) ?_
 simp (disch:=omega) only [Kh,go_sem,Ab,h3,BN]
theorem Tm.KL {x:Tm} (h:x.atom=true):(Cf x.name=true→x.args=[])∧∀ y∈x.args,y.names=true:=by
 unfold Tm.atom at h
 cases he:x.eqn with
 | true =>
  rw [he,if_pos rfl,zC,zC] at h
  have h2:=h.2
  rw [Tm.F6,List.all_eq_true] at h2
  refine ⟨fun hv=>?_,h2⟩
  have hn:=At.1 he
  have hnv0:Cf ⟨#[61]⟩=false:=by kernel_rfl
  rw [hn,hnv0] at hv
  cases hv
 | false =>
  rw [he,if_neg (by simp),zC] at h
  have hnm:x.names=true:=by have h3:=h.2; unfold Tm.valid at h3; rw [zC] at h3; exact h3.2
  exact ⟨fun hv=>Tm.Ov hnm hv,fun y hy=>Tm.Hd hnm hy⟩
theorem Tm.Wg (x:Tm):x.vs=bif Cf x.name then [x.name] else Tm.vsL x.args:=by
 obtain ⟨n,a⟩:=x
 rw [Tm.vs]; rfl
theorem Tm.Ti {v:ByteArray}:∀ {xs:List Tm},v∈Tm.vsL xs ↔ ∃ x∈xs,v∈x.vs
 | []=>by simp [Tm.vsL]
 | x :: xs=>by rw [Tm.vsL,yR,Tm.Ti (xs:=xs)]; simp
theorem Tm.Tj:∀ xs:List Tm,(∀ x∈xs,x.vs.length≤x.nodes)→(Tm.vsL xs).length≤Tm.nodeS xs
 | [],_=>by simp [Tm.vsL]
 | x :: xs,h=>by
  have h1:=h x (by simp)
  have h2:=Tm.Tj xs fun y hy=>h y (by simp [hy])
  rw [Tm.vsL,Tm.nodeS,zZ]; omega
theorem Tm.MT (x:Tm):x.vs.length≤x.nodes:=by
 have h:=Tm.Tj x.args fun y hy=>Tm.MT y
 rw [Tm.Wg,Tm.nodes_eq]
 cases Cf x.name with
 | true=>simp
 | false=>simp only [cond_false]; omega
termination_by SizeOf.sizeOf x
decreasing_by exact Tm.lt_of_mem hy
noncomputable def H2 (l:List ByteArray) (n:ByteArray):List ByteArray:=bif dec (n∈l) then l else l++[n]
theorem Wh (l:List ByteArray) (n:ByteArray):(H2 l n).length≤l.length+1:=by
 unfold H2
 cases dec (n∈l) <;> simp
theorem Wi {l:List ByteArray} {n m:ByteArray}:m∈H2 l n ↔ m∈l∨m=n:=by
 unfold H2
 by_cases h:n∈l
 ·rw [Ax h,cond_true]
  exact ⟨.inl,fun h'=>h'.elim id fun e=>e▸h⟩
 ·rw [An h,cond_false]
  simp
theorem Sr {l:List ByteArray} {n:ByteArray} (h:l.Nodup):(H2 l n).Nodup:=by
 unfold H2
 by_cases k:n∈l
 ·rw [Ax k]; exact h
 ·rw [An k,cond_false,List.nodup_append]
  exact ⟨h,by simp,fun a ha b hb e=>by simp at hb; subst hb; subst e; exact k ha⟩
noncomputable def Cz (l ns:List ByteArray):List ByteArray:=ns.foldl H2 l
theorem Hk:∀ (ns l:List ByteArray),(Cz l ns).length≤l.length+ns.length
 | [],l=>by simp [Cz]
 | n :: ns,l=>by
  have h:=Hk ns (H2 l n)
  have h2:=Wh l n
  simp only [Cz,z6,zO] at h ⊢
  omega
theorem Rc:∀ {ns l:List ByteArray} {m:ByteArray},m∈Cz l ns ↔ m∈l∨m∈ns
 | [],l,m=>by simp [Cz]
 | n :: ns,l,m=>by
  have h:=Rc (ns:=ns) (l:=H2 l n) (m:=m)
  simp only [Cz,z6] at h ⊢
  rw [h,Wi]
  simp only [zU]
  exact or_assoc
theorem MU:∀ {ns l:List ByteArray},l.Nodup→(Cz l ns).Nodup
 | [],l,h=>h
 | n :: ns,l,h=>MU (ns:=ns) (Sr h)
theorem MW (l a b:List ByteArray):Cz l (a++b)=Cz (Cz l a) b:=List.foldl_append
def Dm:SC:=(.seq (.reg [⟨some 4,none,.mv (.c (.int .i64 0))⟩]) (.seq (.seq (.reg [⟨some 6,none,.mv (.t 0)⟩,⟨some 7,none,.len false (.t 6)⟩,⟨some 8,none,.mv (.c (.int .i64 0))⟩]) (.block 0 (.loop [1,1,0,0,0,0,0,1,1,0,0,0,0,0,0,0,0,0,0] (.seq (.reg [⟨some 9,none,.bin .lss false (.t 8) (.t 7)⟩]) (.seq (.cond (.t 9) .skip (.exit 0)) (.seq (.block 1 (.seq (.reg [⟨some 10,none,.mv (.t 8)⟩,⟨some 5,none,.mv (.t 10)⟩]) (.seq (.reg [⟨some 11,none,.mv (.t 1)⟩,⟨some 12,none,.mv (.t 0)⟩,⟨some 13,none,.mv (.t 5)⟩,⟨some 14,none,.iaddr 1 (.t 12) (.t 13)⟩,⟨some 15,none,.load false 1 (.t 14)⟩,⟨some 16,none,.bin .eql false (.t 11) (.t 15)⟩]) (.cond (.t 16) (.seq (.reg [⟨some 17,none,.mv (.t 5)⟩,⟨some 4,none,.mv (.t 17)⟩]) .ret) .skip)))) (.reg [⟨some 18,none,.bin .add false (.t 8) (.c (.int .i64 1))⟩,⟨some 8,none,.mv (.t 18)⟩]))))))) (.seq (.reg [⟨some 4,none,.mv (.c (.int .i64 (-(0+1))))⟩]) .ret)))
theorem Fi:codeOf Tryz.prog 121=some ⟨19,Dm,[(.tmp 4)]⟩:=by kernel_rfl
theorem Dn:modes 121=⟨[],.asis,none,false⟩:=by unfold modes; rfl
def CL:SC:=(.seq (.reg [⟨some 4,none,.mv (.c (.bool false))⟩]) (.seq (.reg [⟨some 5,none,.mv (.t 0)⟩,⟨some 6,none,.mv (.t 1)⟩,⟨some 7,none,.call 121 [(.t 5),(.t 6)]⟩,⟨some 8,none,.bin .geq false (.t 7) (.c (.int .i64 0))⟩,⟨some 4,none,.mv (.t 8)⟩]) .ret))
theorem Ep:codeOf Tryz.prog 74=some ⟨9,CL,[(.tmp 4)]⟩:=by kernel_rfl
theorem AU:modes 74=⟨[],.asis,none,false⟩:=by unfold modes; rfl
theorem Wj (xs:List ByteArray) (n:ByteArray) (hl:xs.length≤1099511627776):E 121 [.arr (xs.map fun s=>[D.str s]),.str n] []=some (.int .i64 (G5 (fun s=>dec (n=s)) xs 0),[]):=by
 refine Ai Fi Dn (of_decide_eq_true rfl) ?_
 simp (disch:=omega) only [Dm,go_sem,Ab]
 refine go_loop (α:=Int) (fun a=>⟨slots 19 0 [(0,.arr (xs.map fun s=>[D.str s])),(1,.str n),(7,.int .i64 xs.length),(8,.int .i64 a)],[]⟩) (fun a=>∃ k:Nat,a=k∧k≤(xs).length∧G5 (fun s=>dec (n=s)) (xs.drop k) a=G5 (fun s=>dec (n=s)) xs 0) (fun a=>(xs).length-(a).toNat) 0 ⟨0,rfl,zT _,by rw [zS]⟩ (by simp (disch:=omega) only [go_sem,Ab]) ?_
 rintro i ⟨k,hi,hk,hR⟩
 have hni:i.toNat=k:=by omega
 have hni1:(i+1).toNat=k+1:=by omega
 rcases zF k (xs).length with hlt | hge
 ·have hg:=get_at (fun s=>[D.str s]) hlt
  rw [zJ hlt,G5] at hR
  cases hp:dec (n=xs[k]) with
  | true =>
   rw [hp] at hR
   simp (disch:=omega) only [go_sem,Ab,hni,hg,hp]
   simpa using hR
  | false =>
   rw [hp] at hR
   simp (disch:=omega) only [go_sem,Ab,hni,hg,hp]
   exact ⟨i+1,⟨k+1,by omega,hlt,by simpa using hR⟩,by omega,by first | trivial | rfl⟩
 ·rw [zQ hge,G5] at hR
  simp (disch:=omega) only [go_sem,Ab,hni]
  exact hR
theorem Ir (xs:List ByteArray) (n:ByteArray) (hl:xs.length≤1099511627776):E 74 [.arr (xs.map fun s=>[D.str s]),.str n] []=some (.bool (dec (n∈xs)),[]):=by
 have h:=Wj xs n hl
 have e:dec (n∈xs)=dec (0≤G5 (fun s=>dec (n=s)) xs 0):=by
  rw [M6]
  by_cases hm:n∈xs
  ·rw [Ax hm]
   exact (List.any_eq_true.2 ⟨n,hm,Ax rfl⟩).symm
  ·rw [An hm]
   refine Eq.symm (yN.2 fun h=>?_)
   obtain ⟨x,h1,h2⟩:=List.any_eq_true.1 h
   have e:=At.1 h2
   subst e
   exact hm h1
 rw [e]
 refine Ai Ep AU (of_decide_eq_true rfl) ?_
 simp (disch:=omega) only [CL,go_sem,Ab,h,Dn]
theorem ID:∀ (ns l:List ByteArray),l.length≤(Cz l ns).length
 | [],l=>by simp [Cz]
 | n :: ns,l=>by
  have h:=ID ns (H2 l n)
  have h2:l.length≤(H2 l n).length:=by unfold H2; cases dec (n∈l) <;> simp
  simp only [Cz,z6] at h ⊢
  omega
def D1:SC:=(.seq (.reg [⟨some 3,none,.boxv 30 2 (.t 1)⟩,⟨some 4,none,.mv (.c .nil)⟩]) (.seq (.seq (.reg [⟨some 7,none,.faddr 1 (.t 3)⟩,⟨some 8,none,.load false 1 (.t 7)⟩,⟨some 9,none,.len false (.t 8)⟩,⟨some 10,none,.bin .eql false (.t 9) (.c (.int .i64 0))⟩,⟨some 11,none,.mv (.t 10)⟩,⟨(some 12),(some (11,true)),(.load true 2 (.t 3))⟩,⟨(some 13),(some (11,true)),(.call 148 [(.t 12)])⟩,⟨some 14,none,.pick (.t 11) (.t 13) (.c (.bool false))⟩]) (.cond (.t 14) (.seq (.seq (.reg [⟨some 15,none,.mv (.t 0)⟩,⟨some 16,none,.faddr 0 (.t 3)⟩,⟨some 17,none,.load false 1 (.t 16)⟩,⟨some 18,none,.call 74 [(.t 15),(.t 17)]⟩,⟨some 19,none,.un .not (.t 18)⟩]) (.cond (.t 19) (.reg [⟨some 20,none,.mv (.t 0)⟩,⟨some 21,none,.faddr 0 (.t 3)⟩,⟨some 22,none,.load false 1 (.t 21)⟩,⟨(some 23),none,(.mkrow 9 1 [(.str ⟨#[]⟩)] 1 [(0,(.t 22))])⟩,⟨(some 24),none,(.append 9 1 16 [(.str ⟨#[]⟩)] (.t 20) (.t 23))⟩,⟨some 0,none,.mv (.t 24)⟩]) .skip)) (.seq (.reg [⟨some 25,none,.mv (.t 0)⟩,⟨some 4,none,.mv (.t 25)⟩]) .ret)) .skip)) (.seq (.seq (.reg [⟨some 26,none,.faddr 1 (.t 3)⟩,⟨some 27,none,.load false 1 (.t 26)⟩,⟨some 28,none,.len false (.t 27)⟩,⟨some 29,none,.mv (.c (.int .i64 0))⟩]) (.block 0 (.loop [1,0,0,0,0,0,0,0,0,0,0,0,0,0,0,0,0,0,0,0,0,0,0,0,0,0,0,1,1,1,0,0,0,0,0,0,0,0] (.seq (.reg [⟨some 30,none,.bin .lss false (.t 29) (.t 28)⟩]) (.seq (.cond (.t 30) .skip (.exit 0)) (.seq (.block 1 (.seq (.reg [⟨some 31,none,.iaddr 2 (.t 27) (.t 29)⟩,⟨some 32,none,.load true 2 (.t 31)⟩,⟨(some 6),none,(.alloc 30 [(.str ⟨#[]⟩),.nil])⟩,⟨none,none,(.store 2 (.t 6) (.t 32))⟩]) (.reg [⟨some 33,none,.mv (.t 0)⟩,⟨some 34,none,.load true 2 (.t 6)⟩,⟨some 35,none,.call 159 [(.t 33),(.t 34)]⟩,⟨some 0,none,.mv (.t 35)⟩]))) (.reg [⟨some 36,none,.bin .add false (.t 29) (.c (.int .i64 1))⟩,⟨some 29,none,.mv (.t 36)⟩]))))))) (.seq (.reg [⟨some 37,none,.mv (.t 0)⟩,⟨some 4,none,.mv (.t 37)⟩]) .ret))))
theorem Ek:codeOf Tryz.prog 159=some ⟨38,D1,[(.tmp 4)]⟩:=by kernel_rfl
theorem C7:modes 159=⟨[true],.asis,none,false⟩:=by unfold modes; rfl
abbrev Wk (x:Tm):Prop:=∀ l:List ByteArray,l.length+x.nodes≤1048576→E 159 [.ref 0,x.sv] [.row 9 1 (l.map fun s=>[OT.str s])]=some ((bif dec (l.length<(Cz l x.vs).length) then .ref 1 else .ref 0),(bif dec (l.length<(Cz l x.vs).length) then [.gone,.row 9 1 ((Cz l x.vs).map fun s=>[OT.str s])] else [.row 9 1 ((Cz l x.vs).map fun s=>[OT.str s])]))
theorem MX (x:Tm) (hva:Cf x.name=true→x.args=[]) (hc:x.cok=true) (ih:∀ y∈x.args,Wk y):Wk x:=by
 intro l hn
 have hl:=Tm.length_le x.args
 have hne:=Tm.nodes_eq x
 have hv:=XI x hc
 have hvs:=Tm.Wg x
 rcases zR x.args.length with h0 | h0
 ·have hx0:x.args=[]:=zV h0
  have hz:((x.args.length:Int)=0)=True:=by rw [hx0]; simp
  cases hvv:Cf x.name with
  | true =>
   rw [hvv] at hv hvs
   have h1:=Ir l x.name (by omega)
   rw [hvs]
   cases hm:dec (x.name∈l) with
   | true =>
    have e:Cz l [x.name]=l:=by simp only [Cz,z6,List.foldl_nil,H2,hm,cond_true]
    rw [hm] at h1
    simp only [cond_true,e]
    refine Ai Ek C7 (of_decide_eq_true rfl) ?_
    simp (disch:=omega) only [D1,go_sem,Ab,hz,hv,h1,F3,AU]
   | false =>
    have e:Cz l [x.name]=l++[x.name]:=by simp only [Cz,z6,List.foldl_nil,H2,hm,cond_false]
    have hg:l.length<(l++[x.name]).length:=by simp
    rw [hm] at h1
    simp only [cond_true,e,Ax hg]
    refine Ai Ek C7 (of_decide_eq_true rfl) ?_
    simp (disch:=omega) only [D1,go_sem,Ab,hz,hv,h1,F3,AU]
    simp only [yA,zD,zI]
  | false =>
   rw [hvv] at hv hvs
   have e:Cz l x.vs=l:=by rw [hvs,hx0]; simp only [cond_false,Tm.vsL]; rfl
   rw [e]
   refine Ai Ek C7 (of_decide_eq_true rfl) ?_
   simp (disch:=omega) only [D1,go_sem,Ab,hz,hv,F3]
   refine go_loop (α:=Int) (fun a=>⟨slots 38 0 [(0,.ref 0),(27,.arr (x.args.map Tm.d)),(28,.int .i64 x.args.length),(29,.int .i64 a)],[.row 9 1 (l.map fun s=>[OT.str s])]⟩) (fun a=>∃ k:Nat,a=k∧k≤(x.args).length) (fun a=>(x.args).length-(a).toNat) 0 ⟨0,rfl,zT _⟩ (by simp (disch:=omega) only [go_sem,Ab]) ?_
   rintro i ⟨k,hi,hk⟩
   have hni:i.toNat=k:=by omega
   have hni1:(i+1).toNat=k+1:=by omega
   rcases zF k (x.args).length with hlt | hge
   ·omega
   ·simp (disch:=omega) only [go_sem,Ab,hni]
 ·have hz:((x.args.length:Int)=0)=False:=eq_false (by omega)
  have hvv:Cf x.name=false:=by
   cases h:Cf x.name with
   | false=>rfl
   | true=>rw [hva h] at h0; simp at h0
  rw [hvv] at hvs
  simp only [cond_false] at hvs
  rw [hvs]
  refine Ai Ek C7 (of_decide_eq_true rfl) ?_
  simp (disch:=omega) only [D1,go_sem,Ab,hz]
  refine go_loop (α:=Int × (List ByteArray)) (fun a=>⟨slots 38 0 [(0,(bif dec (l.length<(a.2).length) then .ref 1 else .ref 0)),(27,.arr (x.args.map Tm.d)),(28,.int .i64 x.args.length),(29,.int .i64 (a.1))],(bif dec (l.length<(a.2).length) then [.gone,.row 9 1 ((a.2).map fun s=>[OT.str s])] else [.row 9 1 ((a.2).map fun s=>[OT.str s])])⟩) (fun a=>∃ k:Nat,a.1=k∧k≤(x.args).length∧Cz (a.2) (Tm.vsL (x.args.drop k))=Cz l (Tm.vsL x.args)∧(a.2).length+Tm.nodeS (x.args.drop k)≤1048576∧l.length≤(a.2).length) (fun a=>(x.args).length-(a.1).toNat) (0,l) ⟨0,rfl,zT _,by rw [zS],by rw [zS]; dsimp only; omega,zW _⟩ (by simp (disch:=omega) only [go_sem,Ab]) ?_
  rintro ⟨i,acc⟩ ⟨k,hi,hk,hR⟩
  dsimp only at hi hR
  have hni:i.toNat=k:=by omega
  have hni1:(i+1).toNat=k+1:=by omega
  rcases zF k (x.args).length with hlt | hge
  ·have hg:=get_at Tm.d hlt
   rw [Tm.d_eq] at hg
   obtain ⟨hR1,hR2,hR3⟩:=hR
   rw [zJ hlt,Tm.vsL,MW] at hR1
   rw [zJ hlt,Tm.nodeS] at hR2
   have hc:=ih x.args[k] (zP hlt) acc (by omega)
   have hlen:=Hk x.args[k].vs acc
   have hgr:=ID x.args[k].vs acc
   have hvl:=Tm.MT x.args[k]
   obtain ⟨acc2,ha2⟩:∃ a,a=Cz acc x.args[k].vs:=⟨_,rfl⟩
   rw [←ha2] at hc hlen hgr hR1
   rcases zF l.length acc.length with q1 | q1 <;> rcases zF acc.length acc2.length with q2 | q2
   all_goals
    first
     |rw [Ax q2] at hc
     |rw [An (Nat.not_lt.2 q2)] at hc
    simp only [cond_true,cond_false] at hc
    simp (disch:=omega) only [go_sem,Ab,hni,hg,hc,C7]
    refine ⟨(i+1,acc2),⟨k+1,by dsimp only; omega,hlt,hR1,by dsimp only; omega,by dsimp only; omega⟩,by dsimp only; omega,?_⟩
    first | done | simp (disch:=omega) only [go_sem,Ab]
  ·rw [zQ hge,Tm.vsL] at hR
   obtain ⟨hR1,hR2,hR3⟩:=hR
   have hR1:acc=Cz l (Tm.vsL x.args):=hR1
   rw [←hR1]
   rcases zF l.length acc.length with q1 | q1
   ·simp (disch:=omega) only [go_sem,Ab,hni]
   ·simp (disch:=omega) only [go_sem,Ab,hni]
theorem OG (x:Tm) (hx:x.names=true) (hc:x.cok=true):Wk x :=
 MX x (fun h=>Tm.Ov hx h) hc fun y hy=>OG y (Tm.Hd hx hy) (by rw [Tm.Sp,zC] at hc; exact Tm.Wd hc.2 hy)
termination_by SizeOf.sizeOf x
decreasing_by exact Tm.lt_of_mem hy
noncomputable def PC (l:List ByteArray):List ByteArray:=(srt (l.map (·.toList))).map fun x=>⟨x.toArray⟩
theorem Uu (l:List ByteArray):(PC l).Perm l:=by
 unfold PC
 have h:(srt (l.map (·.toList))).Perm (l.map (·.toList)):=List.mergeSort_perm _ _
 have h2:=h.map fun x:List UInt8=>(⟨x.toArray⟩:ByteArray)
 rw [yK] at h2
 have e:((fun x:List UInt8=>(⟨x.toArray⟩:ByteArray)) ∘ fun x:ByteArray=>x.toList)=id:=by
  funext x
  exact Js x
 rw [e,List.map_id] at h2
 exact h2
theorem Bz:modes 99=⟨[true],.asis,some sortStr,false⟩:=by unfold modes; rfl
theorem Tk (l:List ByteArray) (hl:l.length≤1099511627776):E 99 [.ref 0] [.row 9 1 (l.map fun s=>[OT.str s])]=some (.tup [],[.row 9 1 ((PC l).map fun s=>[OT.str s])]):=by
 rw [Pr (g:=sortStr) (congrArg FM.ext Bz)]
 unfold sortStr
 simp only
 rw [Ax ⟨by first | trivial | rfl,fun e he=>by obtain ⟨s,_,rfl⟩:=List.mem_map.1 he; exact ⟨s,rfl⟩,by simpa using hl⟩,cond_true]
 have e1:(l.map fun s=>[OT.str s]).map (fun e=>(RO e).toList)=l.map (·.toList):=by rw [yK]; rfl
 rw [e1]
 unfold PC
 rw [yK]
 rfl
noncomputable def Tm.vars (x:Tm):List ByteArray:=PC (Cz [] x.vs)
def EC:SC:=(.seq (.reg [⟨some 1,none,.boxv 30 2 (.t 0)⟩,⟨some 2,none,.mv (.c .nil)⟩]) (.seq (.reg [⟨(some 4),none,(.mkrow 9 1 [(.str ⟨#[]⟩)] 0 [])⟩,⟨some 5,none,.load true 2 (.t 1)⟩,⟨some 6,none,.call 159 [(.t 4),(.t 5)]⟩,⟨some 3,none,.mv (.t 6)⟩]) (.seq (.reg [⟨some 7,none,.mv (.t 3)⟩,⟨some 8,none,.call 99 [(.t 7)]⟩]) (.seq (.reg [⟨some 9,none,.mv (.t 3)⟩,⟨some 2,none,.mv (.t 9)⟩]) .ret))))
theorem Hm:codeOf Tryz.prog 133=some ⟨10,EC,[(.tmp 2)]⟩:=by kernel_rfl
theorem ED:modes 133=⟨[],.asis,none,false⟩:=by unfold modes; rfl
theorem PD (x:Tm) (hcol:Wk x) (hn:x.nodes≤1048576):E 133 [x.sv] []=some (.ref 0,[.row 9 1 (x.vars.map fun s=>[OT.str s])]):=by
 have h1:=hcol [] (by simpa using hn)
 have hl:=Hk x.vs []
 have hv:=Tm.MT x
 rw [zN,Nat.zero_add] at hl
 have h2:=Tk (Cz [] x.vs) (by omega)
 rw [zI,zN] at h1
 unfold Tm.vars
 rcases zF 0 (Cz [] x.vs).length with q | q
 ·rw [Ax q] at h1
  simp only [cond_true] at h1
  refine Ai Hm ED (of_decide_eq_true rfl) ?_
  simp (disch:=omega) only [EC,go_sem,Ab,h1,h2,C7,Bz]
 ·rw [An (by omega)] at h1
  simp only [cond_false] at h1
  refine Ai Hm ED (of_decide_eq_true rfl) ?_
  simp (disch:=omega) only [EC,go_sem,Ab,h1,h2,C7,Bz]
theorem Ss (x:Tm) (h:x.atom=true):Wk x :=
 MX x (Tm.KL h).1 (Tm.We h) fun y hy=>OG y ((Tm.KL h).2 y hy) (Tm.KK y ((Tm.KL h).2 y hy))
theorem MY:∀ {xs:List ByteArray} {n m:ByteArray},m∈JP xs n ↔ m∈xs∨m=n
 | [],n,m=>by simp [JP]
 | x :: xs,n,m=>by
  rw [JP]
  cases strLt x n with
  | true=>rw [cond_true,zU,MY,zU,or_assoc]
  | false =>
   rw [cond_false]
   by_cases h:x=n
   ·rw [Ax h,cond_true]
    exact ⟨.inl,fun h'=>h'.elim id fun e=>by subst e; subst h; simp⟩
   ·rw [An h,cond_false,zU]
    exact or_comm
theorem Rd:∀ (xs:List ByteArray) (n:ByteArray),(JP xs n).length≤xs.length+1
 | [],n=>by simp [JP]
 | x :: xs,n=>by
  have h:=Rd xs n
  rw [JP]
  cases strLt x n with
  | true=>simp only [cond_true,zO]; omega
  | false =>
   rw [cond_false]
   cases dec (x=n) with
   | true=>simp only [cond_true,zO]; omega
   | false=>simp only [cond_false,zO]; omega
theorem Ki:∀ (ns l:List ByteArray),(HI l ns).length≤l.length+ns.length
 | [],l=>by simp [HI]
 | n :: ns,l=>by
  have h:=Ki ns (JP l n)
  have h2:=Rd l n
  simp only [HI,z6,zO] at h ⊢
  omega
theorem Kj:∀ {ns l:List ByteArray} {m:ByteArray},m∈HI l ns ↔ m∈l∨m∈ns
 | [],l,m=>by simp [HI]
 | n :: ns,l,m=>by
  have h:=Kj (ns:=ns) (l:=JP l n) (m:=m)
  simp only [HI,z6] at h ⊢
  rw [h,MY]
  simp only [zU]
  exact or_assoc
theorem MZ:∀ x y:List UInt8,Op.bytesLess x y=true→Op.bytesLess y x=false
 | [],[],h=>by simp [Op.bytesLess] at h
 | [],_ :: _,_=>rfl
 | _ :: _,[],h=>by simp [Op.bytesLess] at h
 | a :: x,b :: y,h=>by
  simp only [Op.bytesLess,yH,decide_eq_true_eq,zC,beq_iff_eq] at h
  simp only [Op.bytesLess,Bool.or_eq_false_iff,decide_eq_false_iff_not]
  rcases h with h | ⟨rfl,h⟩
  ·have h2:¬ b<a:=by intro h3; exact absurd (UInt8.lt_trans h h3) (UInt8.lt_irrefl _)
   have h3:(b == a)=false:=by
    rw [beq_eq_false_iff_ne]; rintro rfl; exact UInt8.lt_irrefl _ h
   exact ⟨h2,by rw [h3]; rfl⟩
  ·exact ⟨UInt8.lt_irrefl _,by rw [MZ x y h]; simp⟩
theorem Na:∀ x y:List UInt8,Op.bytesLess x y=false→Op.bytesLess y x=false→x=y
 | [],[],_,_=>rfl
 | [],_ :: _,h,_=>by simp [Op.bytesLess] at h
 | _ :: _,[],_,h=>by simp [Op.bytesLess] at h
 | a :: x,b :: y,h,k=>by
  simp only [Op.bytesLess,Bool.or_eq_false_iff,decide_eq_false_iff_not] at h k
  have hab:a=b:=by
   have h1:=h.1; have h2:=k.1
   rw [UInt8.lt_iff_toNat_lt] at h1 h2
   exact UInt8.toNat_inj.1 (by omega)
  subst hab
  have h1:Op.bytesLess x y=false:=by simpa using h.2
  have h2:Op.bytesLess y x=false:=by simpa using k.2
  rw [Na x y h1 h2]
theorem Re {a b:ByteArray} (h:strLt a b=true):strLt b a=false:=MZ _ _ h
theorem Lq {a b:ByteArray} (h:strLt a b=false) (h':strLt b a=false):a=b:=Bk (Na _ _ h h')
theorem Nb:∀ x y z:List UInt8,Op.bytesLess x y=true→Op.bytesLess y z=true→Op.bytesLess x z=true
 | _,_,[],_,h=>by simp [Op.bytesLess] at h
 | [],[],_ :: _,h,_=>by simp [Op.bytesLess] at h
 | [],_ :: _,_ :: _,_,_=>rfl
 | _ :: _,[],_ :: _,h,_=>by simp [Op.bytesLess] at h
 | a :: x,b :: y,c :: z,h,k=>by
  simp only [Op.bytesLess,yH,decide_eq_true_eq,zC,beq_iff_eq] at h k ⊢
  rcases h with h | ⟨rfl,h⟩
  ·rcases k with k | ⟨rfl,k⟩
   ·exact .inl (UInt8.lt_trans h k)
   ·exact .inl h
  ·rcases k with k | ⟨rfl,k⟩
   ·exact .inl k
   ·exact .inr ⟨rfl,Nb x y z h k⟩
theorem Rf {a b c:ByteArray} (h:strLt a b=true) (k:strLt b c=true):strLt a c=true:=Nb _ _ _ h k
theorem Tn:∀ x y:List UInt8,Op.bytesLess x y=true ↔ x<y
 | [],[]=>by simp [Op.bytesLess]
 | [],b :: y=>by simp [Op.bytesLess]
 | a :: x,[]=>by simp [Op.bytesLess]
 | a :: x,b :: y=>by
  have h:=Tn x y
  rw [List.cons_lt_cons_iff,← h]
  simp only [Op.bytesLess,yH,decide_eq_true_eq,zC,beq_iff_eq]
theorem Wl (a b:ByteArray):strLt a b=true ↔ a.toList<b.toList:=Tn _ _
theorem OH (n:ByteArray):∀ xs:List ByteArray,xs.Pairwise (fun x y=>strLt x y=true)→(JP xs n).Pairwise fun x y=>strLt x y=true
 | [],_=>by simp [JP]
 | x :: xs,h=>by
  rw [JP]
  rw [z8] at h
  cases hq:strLt x n with
  | true =>
   rw [cond_true,z8]
   refine ⟨fun y hy=>?_,OH n xs h.2⟩
   rcases MY.1 hy with hy | rfl
   ·exact h.1 y hy
   ·exact hq
  | false =>
   rw [cond_false]
   by_cases he:x=n
   ·rw [Ax he,cond_true,z8]; exact h
   ·rw [An he,cond_false,z8,z8]
    have hn:strLt n x=true:=by
     cases hh:strLt n x with
     | true=>rfl
     | false=>exact absurd (Lq hq hh) he
    refine ⟨fun y hy=>?_,h⟩
    rcases zU.1 hy with rfl | hy
    ·exact hn
    ·exact Rf hn (h.1 y hy)
theorem OI:∀ (ns xs:List ByteArray),xs.Pairwise (fun x y=>strLt x y=true)→(HI xs ns).Pairwise fun x y=>strLt x y=true
 | [],xs,h=>h
 | n :: ns,xs,h=>OI ns (JP xs n) (OH n xs h)
theorem Su {xs:List ByteArray} (h:xs.Pairwise fun x y=>strLt x y=true):xs.Nodup :=
 h.imp fun {a b} hab e=>by rw [e,Sq] at hab; cases hab
theorem Uv (l:List ByteArray):(PC l).Pairwise fun x y=>strLt y x=false:=by
 unfold PC srt
 rw [List.pairwise_map]
 have h:=List.pairwise_mergeSort (le:=fun x y:List UInt8=>decide (x≤y)) (fun a b c h k=>by
  rw [decide_eq_true_eq] at h k ⊢; exact List.le_trans h k) (fun a b=>by
  rw [yH,decide_eq_true_eq,decide_eq_true_eq]; exact List.le_total a b) (l.map (·.toList))
 refine h.imp fun {a b} hab=>?_
 rw [decide_eq_true_eq] at hab
 rw [yN]
 intro hh
 have:=(Wl _ _).1 hh
 rw [ByteArray.toList_eq,ByteArray.toList_eq] at this
 exact absurd this (List.not_lt.2 hab)
theorem OJ (ns:List ByteArray):PC (Cz [] ns)=HI [] ns:=by
 have h1:=OI ns [] List.Pairwise.nil
 have n1:=Su h1
 have n2:(Cz [] ns).Nodup:=MU List.nodup_nil
 have hp:(PC (Cz [] ns)).Perm (HI [] ns):=(Uu _).trans ((List.perm_ext_iff_of_nodup n2 n1).2 fun a=>by rw [Rc,Kj])
 refine List.Perm.eq_of_pairwise (le:=fun x y=>strLt y x=false) (fun a b _ _ h k=>Lq k h) (Uv _) (h1.imp fun h=>Re h) hp
theorem Fm.OK (x:Fm) (b:List ByteArray):x.fv b=bif dec (x.op=3) then (HI [] x.atom.vs).filter (fun n=>!dec (n∈b)) else Fm.fvL x.parts (bif qB x.op then b++[x.var] else b):=by
 obtain ⟨op,atom,var,parts⟩:=x
 rw [Fm.fv]; rfl
theorem Fm.Kk {m:ByteArray} {b:List ByteArray}:∀ {xs:List Fm},m∈Fm.fvL xs b ↔ ∃ x∈xs,m∈x.fv b
 | []=>by simp [Fm.fvL]
 | x :: xs=>by rw [Fm.fvL,yR,Fm.Kk (xs:=xs)]; simp
theorem Fm.KM (m:ByteArray) (x:Fm):∀ b:List ByteArray,m∈x.fv b ↔ m∈x.fv []∧¬ m∈b:=by
 intro b
 rw [Fm.OK,Fm.OK]
 cases dec (x.op=3) with
 | true =>
  simp only [cond_true,List.mem_filter]
  have e:(!dec (m∈([]:List ByteArray)))=true:=by rw [An (by simp)]; rfl
  rw [e]
  constructor
  ·rintro ⟨h1,h2⟩
   refine ⟨⟨h1,rfl⟩,fun h=>?_⟩
   rw [Ax h] at h2
   cases h2
  ·rintro ⟨⟨h1,_⟩,h2⟩
   exact ⟨h1,by rw [An h2]; rfl⟩
 | false =>
  simp only [cond_false]
  have key:∀ c c0:List ByteArray,(∀ k,k∈c ↔ k∈c0∨k∈b)→(m∈Fm.fvL x.parts c ↔ m∈Fm.fvL x.parts c0∧¬ m∈b):=fun c c0 hc=>by
   rw [Fm.Kk,Fm.Kk]
   constructor
   ·rintro ⟨y,hy,h⟩
    have h1:=(Fm.KM m y c).1 h
    exact ⟨⟨y,hy,(Fm.KM m y c0).2 ⟨h1.1,fun h2=>h1.2 ((hc m).2 (.inl h2))⟩⟩,fun h2=>h1.2 ((hc m).2 (.inr h2))⟩
   ·rintro ⟨⟨y,hy,h⟩,h2⟩
    have h1:=(Fm.KM m y c0).1 h
    exact ⟨y,hy,(Fm.KM m y c).2 ⟨h1.1,fun h3=>((hc m).1 h3).elim h1.2 h2⟩⟩
  cases qB x.op with
  | true=>exact key _ _ fun k=>by simp [or_comm]
  | false=>exact key _ _ fun k=>by simp
termination_by SizeOf.sizeOf x
decreasing_by all_goals exact Fm.lt_of_mem hy
theorem Fm.To (b:List ByteArray):∀ xs:List Fm,(∀ x∈xs,(x.fv b).length≤x.vn)→(Fm.fvL xs b).length≤Fm.vnS xs
 | [],_=>by simp [Fm.fvL]
 | x :: xs,h=>by
  have h1:=h x (by simp)
  have h2:=Fm.To b xs fun y hy=>h y (by simp [hy])
  rw [Fm.fvL,Fm.vnS,zZ]; omega
theorem Fm.Nc (x:Fm):∀ b:List ByteArray,(x.fv b).length≤x.vn:=by
 intro b
 rw [Fm.OK,Fm.HC]
 cases dec (x.op=3) with
 | true =>
  simp only [cond_true]
  have h1:=List.length_filter_le (fun n=>!dec (n∈b)) (HI [] x.atom.vs)
  have h2:=Ki x.atom.vs []
  have h3:=Tm.MT x.atom
  simp only [zN] at h2
  omega
 | false =>
  simp only [cond_false]
  have h:=Fm.To (bif qB x.op then b++[x.var] else b) x.parts fun y hy=>Fm.Nc y _
  omega
termination_by SizeOf.sizeOf x
decreasing_by exact Fm.lt_of_mem hy
theorem Fm.Wm:∀ xs:List Fm,(∀ x∈xs,x.vn≤30*x.nodes)→Fm.vnS xs≤30*Fm.nodeS xs
 | [],_=>by simp [Fm.vnS]
 | x :: xs,h=>by
  have h1:=h x (by simp)
  have h2:=Fm.Wm xs fun y hy=>h y (by simp [hy])
  rw [Fm.vnS,Fm.nodeS]; omega
theorem Fm.Wn (x:Fm) (h:x.forms=true):x.vn≤30*x.nodes:=by
 have h1:=Fm.Wm x.parts fun y hy=>Fm.Wn y (Fm.Cv h hy)
 have h2:=Fm.Pz (Fm.By h)
 rw [Fm.HC,Fm.nodes_eq]; omega
termination_by SizeOf.sizeOf x
decreasing_by exact Fm.lt_of_mem hy
theorem Fm.Rg (x:Fm) (n:ByteArray):n∈x.free ↔ n∈x.fv []:=by unfold Fm.free; rw [Kj]; simp
theorem Wo (xs:List ByteArray) (h:xs.length≤1048576):E 134 [.arr (xs.map fun s=>[D.str s])] []=some (.ref 0,[.row 9 1 (xs.map fun s=>[OT.str s])]):=by
 rw [Pr (g:=KA) (by unfold modes; rfl)]
 unfold KA
 simp only
 rw [Ax ⟨fun e he=>by obtain ⟨s,_,rfl⟩:=List.mem_map.1 he; exact ⟨s,rfl⟩,by simpa using h⟩,cond_true,yK]
 rfl
theorem Fj:modes 134=⟨[],.asis,some KA,false⟩:=by unfold modes; rfl
theorem PE {x:Fm} (h:x.form=true) (ho:x.op=3):E 133 [x.atom.sv] []=some (.ref 0,[.row 9 1 ((HI [] x.atom.vs).map fun s=>[OT.str s])]):=by
 have ha:=(Fm.E7 h ho).2.1
 have hn:=Tm.MG ha
 have h1:=PD x.atom (Ss x.atom ha) (by omega)
 have e:x.atom.vars=HI [] x.atom.vs:=OJ _
 rw [e] at h1
 exact h1
theorem Rh (b acc:List ByteArray) (n:ByteArray) (ns:List ByteArray):Cz acc ((n :: ns).filter fun m=>!dec (m∈b))=Cz (bif dec (n∈b) then acc else H2 acc n) (ns.filter fun m=>!dec (m∈b)):=by
 rw [List.filter_cons]
 cases dec (n∈b) with
 | true=>rfl
 | false=>rfl
def EH:SC:=(.seq (.reg [⟨some 4,none,.boxv 33 5 (.t 1)⟩,⟨some 6,none,.mv (.c .nil)⟩]) (.seq (.seq (.reg [⟨some 11,none,.faddr 0 (.t 4)⟩,⟨some 12,none,.load false 1 (.t 11)⟩,⟨some 13,none,.bin .eql false (.t 12) (.c (.int .i64 3))⟩]) (.cond (.t 13) (.seq (.seq (.reg [⟨some 14,none,.faddr 1 (.t 4)⟩,⟨some 15,none,.load true 2 (.t 14)⟩,⟨some 16,none,.call 133 [(.t 15)]⟩,⟨some 17,none,.len false (.t 16)⟩,⟨some 18,none,.mv (.c (.int .i64 0))⟩]) (.block 0 (.loop [1,0,1,0,0,0,0,0,0,0,0,0,0,0,0,0,1,1,1,0,0,0,0,0,0,0,0,0,0,0,0,0,0,0,0,0,0,0,0,0,0,0,0,0,0,0,0,0,0,0,0,0,0,0,0,0,0,0,0,0] (.seq (.reg [⟨some 19,none,.bin .lss false (.t 18) (.t 17)⟩]) (.seq (.cond (.t 19) .skip (.exit 0)) (.seq (.block 1 (.seq (.reg [⟨some 20,none,.iaddr 1 (.t 16) (.t 18)⟩,⟨some 21,none,.load false 1 (.t 20)⟩,⟨some 8,none,.mv (.t 21)⟩]) (.seq (.reg [⟨some 22,none,.mv (.t 2)⟩,⟨some 23,none,.mv (.t 8)⟩,⟨some 24,none,.call 74 [(.t 22),(.t 23)]⟩,⟨some 25,none,.un .not (.t 24)⟩,⟨some 26,none,.mv (.t 25)⟩,⟨(some 27),(some (26,true)),(.mv (.t 0))⟩,⟨(some 28),(some (26,true)),(.mv (.t 8))⟩,⟨(some 29),(some (26,true)),(.call 74 [(.t 27),(.t 28)])⟩,⟨(some 30),(some (26,true)),(.un .not (.t 29))⟩,⟨some 31,none,.pick (.t 26) (.t 30) (.c (.bool false))⟩]) (.cond (.t 31) (.reg [⟨some 32,none,.mv (.t 0)⟩,⟨some 33,none,.mv (.t 8)⟩,⟨(some 34),none,(.mkrow 9 1 [(.str ⟨#[]⟩)] 1 [(0,(.t 33))])⟩,⟨(some 35),none,(.append 9 1 16 [(.str ⟨#[]⟩)] (.t 32) (.t 34))⟩,⟨some 0,none,.mv (.t 35)⟩]) .skip)))) (.reg [⟨some 36,none,.bin .add false (.t 18) (.c (.int .i64 1))⟩,⟨some 18,none,.mv (.t 36)⟩]))))))) (.seq (.reg [⟨some 37,none,.mv (.t 0)⟩,⟨some 6,none,.mv (.t 37)⟩]) .ret)) .skip)) (.seq (.seq (.reg [⟨some 38,none,.faddr 0 (.t 4)⟩,⟨some 39,none,.load false 1 (.t 38)⟩,⟨some 40,none,.call 70 [(.t 39)]⟩]) (.cond (.t 40) (.dreg [[],[0],[],[2],[3,2],[1,0,4,3,2],[5,1,0,4,3,2]] [⟨some 41,none,.mv (.t 2)⟩,⟨some 42,none,.call 134 [(.t 41)]⟩,⟨some 43,none,.faddr 3 (.t 4)⟩,⟨some 44,none,.load false 1 (.t 43)⟩,⟨(some 45),none,(.mkrow 9 1 [(.str ⟨#[]⟩)] 1 [(0,(.t 44))])⟩,⟨(some 46),none,(.append 9 1 16 [(.str ⟨#[]⟩)] (.t 42) (.t 45))⟩,⟨some 2,none,.mv (.t 46)⟩]) .skip)) (.seq (.seq (.reg [⟨some 47,none,.faddr 4 (.t 4)⟩,⟨some 48,none,.load false 1 (.t 47)⟩,⟨some 49,none,.len false (.t 48)⟩,⟨some 50,none,.mv (.c (.int .i64 0))⟩]) (.block 2 (.loop [1,0,1,0,0,0,0,0,0,0,0,0,0,0,0,0,0,0,0,0,0,0,0,0,0,0,0,0,0,0,0,0,0,0,0,0,0,0,0,0,0,0,0,0,0,0,0,0,1,1,1,0,0,0,0,0,0,0,0,0] (.seq (.reg [⟨some 51,none,.bin .lss false (.t 50) (.t 49)⟩]) (.seq (.cond (.t 51) .skip (.exit 2)) (.seq (.block 3 (.seq (.reg [⟨some 52,none,.iaddr 5 (.t 48) (.t 50)⟩,⟨some 53,none,.load true 5 (.t 52)⟩,⟨(some 10),none,(.alloc 33 [(.int .i64 0),(.str ⟨#[]⟩),.nil,(.str ⟨#[]⟩),.nil])⟩,⟨none,none,(.store 5 (.t 10) (.t 53))⟩]) (.reg [⟨some 54,none,.mv (.t 0)⟩,⟨some 55,none,.load true 5 (.t 10)⟩,⟨some 56,none,.mv (.t 2)⟩,⟨some 57,none,.call 98 [(.t 54),(.t 55),(.t 56)]⟩,⟨some 0,none,.mv (.t 57)⟩]))) (.reg [⟨some 58,none,.bin .add false (.t 50) (.c (.int .i64 1))⟩,⟨some 50,none,.mv (.t 58)⟩]))))))) (.seq (.reg [⟨some 59,none,.mv (.t 0)⟩,⟨some 6,none,.mv (.t 59)⟩]) .ret)))))
theorem GF:codeOf Tryz.prog 98=some ⟨60,EH,[(.tmp 6)]⟩:=by kernel_rfl
theorem CJ:modes 98=⟨[true],.asis,none,false⟩:=by unfold modes; rfl
def Is:SC:=(.seq (.reg [⟨some 1,none,.boxv 33 5 (.t 0)⟩,⟨some 2,none,.mv (.c .nil)⟩]) (.seq (.reg [⟨(some 4),none,(.mkrow 9 1 [(.str ⟨#[]⟩)] 0 [])⟩,⟨some 5,none,.load true 5 (.t 1)⟩,⟨some 6,none,.call 98 [(.t 4),(.t 5),(.c .nil)]⟩,⟨some 3,none,.mv (.t 6)⟩]) (.seq (.reg [⟨some 7,none,.mv (.t 3)⟩,⟨some 8,none,.call 99 [(.t 7)]⟩]) (.seq (.reg [⟨some 9,none,.mv (.t 3)⟩,⟨some 2,none,.mv (.t 9)⟩]) .ret))))
theorem Lr:codeOf Tryz.prog 48=some ⟨10,Is,[(.tmp 2)]⟩:=by kernel_rfl
theorem It:modes 48=⟨[],.frz,none,false⟩:=by unfold modes; rfl
abbrev YT (x:Fm):Prop:=∀ l b:List ByteArray,l.length+x.vn≤1048576→b.length+x.nodes≤1048576→E 98 [.ref 0,x.sv,.arr (b.map fun s=>[D.str s])] [.row 9 1 (l.map fun s=>[OT.str s])]=some ((bif dec (l.length<(Cz l (x.fv b)).length) then .ref 1 else .ref 0),(bif dec (l.length<(Cz l (x.fv b)).length) then [.gone,.row 9 1 ((Cz l (x.fv b)).map fun s=>[OT.str s])] else [.row 9 1 ((Cz l (x.fv b)).map fun s=>[OT.str s])]))
theorem Uw (x:Fm) (hx:x.forms=true) (ih:∀ y∈x.parts,YT y):YT x:=by
 intro l b hn hb
 have hfo:=Fm.By hx
 have hvn:=Fm.HC x
 have hnd:=Fm.nodes_eq x
 have hpl:=Fm.length_le x.parts
 have hfv:=Fm.OK x b
 have hat:=Fm.Pz hfo
 have hgl:dec (l.length<l.length)=false:=An (by omega)
 have hxs:x.sv=.agg [.int .i64 x.op,.str x.atom.name,.arr (x.atom.args.map Tm.d),.str x.var,.arr (x.parts.map Fm.d)]:=rfl
 have has:x.atom.sv=.agg [.str x.atom.name,.arr (x.atom.args.map Tm.d)]:=rfl
 cases ho:dec (x.op=3) with
 | true =>
  rw [ho] at hfv
  simp only [cond_true] at hfv
  have hv:=PE hfo (At.1 ho)
  have hil:=Ki x.atom.vs []
  have hvl:=Tm.MT x.atom
  simp only [zN] at hil
  obtain ⟨ns,hns⟩:∃ ns,ns=HI [] x.atom.vs:=⟨_,rfl⟩
  rw [←hns] at hv hfv hil
  rw [hfv]
  refine Ai GF CJ (of_decide_eq_true rfl) ?_
  simp (disch:=omega) only [EH,go_sem,Ab,ho,hv,ED]
  refine go_loop (α:=Int × (List ByteArray)) (fun a=>⟨slots 60 0 [(0,(bif dec (l.length<(a.2).length) then .ref 1 else .ref 0)),(2,.arr (b.map fun s=>[D.str s])),(16,(bif dec (l.length<(a.2).length) then .ref 2 else .ref 1)),(17,.int .i64 ns.length),(18,.int .i64 (a.1))],(bif dec (l.length<(a.2).length) then [.gone,.row 9 1 ((a.2).map fun s=>[OT.str s]),.row 9 1 (ns.map fun s=>[OT.str s])] else [.row 9 1 ((a.2).map fun s=>[OT.str s]),.row 9 1 (ns.map fun s=>[OT.str s])])⟩) (fun a=>∃ k:Nat,a.1=k∧k≤(ns).length∧Cz (a.2) ((ns.drop k).filter fun m=>!dec (m∈b))=Cz l (ns.filter fun m=>!dec (m∈b))∧(a.2).length+(ns.length-k)≤1048576∧l.length≤(a.2).length) (fun a=>(ns).length-(a.1).toNat) (0,l) ⟨0,rfl,zT _,by rw [zS],by dsimp only; omega,zW _⟩ (by simp (disch:=omega) only [go_sem,Ab,hgl]) ?_
  rintro ⟨i,acc⟩ ⟨k,hi,hk,hR⟩
  dsimp only at hi hR
  have hni:i.toNat=k:=by omega
  have hni1:(i+1).toNat=k+1:=by omega
  rcases zF k (ns).length with hlt | hge
  ·have hg:(ns.map fun s=>[OT.str s])[k]?=some [OT.str ns[k]]:=by rw [List.getElem?_map,List.getElem?_eq_getElem hlt]; rfl
   obtain ⟨hR1,hR2,hR3⟩:=hR
   rw [zJ hlt,Rh] at hR1
   have c1:=Ir b ns[k] (by omega)
   have c2:=Ir acc ns[k] (by omega)
   rcases zF l.length acc.length with q1 | q1
   all_goals
    cases hq:dec (ns[k]∈b) with
    | true =>
     rw [hq] at c1 hR1
     simp only [cond_true] at hR1
     simp (disch:=omega) only [go_sem,Ab,hni,hg,c1,c2,AU]
     refine ⟨(i+1,acc),⟨k+1,by dsimp only; omega,hlt,hR1,by dsimp only; omega,by dsimp only; omega⟩,by dsimp only; omega,?_⟩
     first | done | simp (disch:=omega) only [go_sem,Ab]
    | false =>
     rw [hq] at c1 hR1
     simp only [cond_false] at hR1
     cases hm:dec (ns[k]∈acc) with
     | true =>
      have e2:H2 acc ns[k]=acc:=by unfold H2; rw [hm]; rfl
      rw [hm] at c2
      rw [e2] at hR1
      simp (disch:=omega) only [go_sem,Ab,hni,hg,c1,c2,AU]
      refine ⟨(i+1,acc),⟨k+1,by dsimp only; omega,hlt,hR1,by dsimp only; omega,by dsimp only; omega⟩,by dsimp only; omega,?_⟩
      first | done | simp (disch:=omega) only [go_sem,Ab]
     | false =>
      have e2:H2 acc ns[k]=acc++[ns[k]]:=by unfold H2; rw [hm]; rfl
      have hl1:(acc.map fun s=>[OT.str s])++[[OT.str ns[k]]]=(acc++[ns[k]]).map fun s=>[OT.str s]:=by simp
      have q2:dec (l.length<(acc++[ns[k]]).length)=true:=Ax (by simp; omega)
      rw [hm] at c2
      rw [e2] at hR1
      simp (disch:=omega) only [go_sem,Ab,hni,hg,c1,c2,hl1,AU]
      refine ⟨(i+1,acc++[ns[k]]),⟨k+1,by dsimp only; omega,hlt,hR1,by simp; omega,by simp; omega⟩,by dsimp only; omega,?_⟩
      first | done | simp (disch:=omega) only [go_sem,Ab,q2,hl1]
  ·rw [zQ hge] at hR
   obtain ⟨hR1,hR2,hR3⟩:=hR
   have hR1:acc=_:=hR1
   rw [←hR1]
   rcases zF l.length acc.length with q1 | q1
   ·simp (disch:=omega) only [go_sem,Ab,hni]
   ·simp (disch:=omega) only [go_sem,Ab,hni]
 | false =>
  rw [ho] at hfv
  simp only [cond_false] at hfv
  have hu:=C6 x.op
  cases hq:qB x.op with
  | false =>
   rw [hq] at hfv
   simp only [cond_false] at hfv
   rw [hfv]
   unfold qB at hq
   rw [hq] at hu
   obtain ⟨b',hb'⟩:∃ b',b'=b:=⟨_,rfl⟩
   have hbl:b'.length≤b.length+1:=by rw [hb']; omega
   rw [←hb']
   refine Ai GF CJ (of_decide_eq_true rfl) ?_
   simp (disch:=omega) only [EH,go_sem,Ab,ho,hu,Ac]
   refine go_loop (α:=Int × (List ByteArray)) (fun a=>⟨slots 60 0 [(0,(bif dec (l.length<(a.2).length) then .ref 1 else .ref 0)),(2,.arr (b'.map fun s=>[D.str s])),(48,.arr (x.parts.map Fm.d)),(49,.int .i64 x.parts.length),(50,.int .i64 (a.1))],(bif dec (l.length<(a.2).length) then [.gone,.row 9 1 ((a.2).map fun s=>[OT.str s])] else [.row 9 1 ((a.2).map fun s=>[OT.str s])])⟩) (fun a=>∃ k:Nat,a.1=k∧k≤(x.parts).length∧Cz (a.2) (Fm.fvL (x.parts.drop k) b')=Cz l (Fm.fvL x.parts b')∧(a.2).length+Fm.vnS (x.parts.drop k)≤1048576∧l.length≤(a.2).length) (fun a=>(x.parts).length-(a.1).toNat) (0,l) ⟨0,rfl,zT _,by rw [zS],by rw [zS]; dsimp only; omega,zW _⟩ (by simp (disch:=omega) only [go_sem,Ab,hgl]) ?_
   rintro ⟨i,acc⟩ ⟨k,hi,hk,hR⟩
   dsimp only at hi hR
   have hni:i.toNat=k:=by omega
   have hni1:(i+1).toNat=k+1:=by omega
   rcases zF k (x.parts).length with hlt | hge
   ·have hg:=get_at Fm.d hlt
    rw [Fm.d_eq] at hg
    obtain ⟨hR1,hR2,hR3⟩:=hR
    rw [zJ hlt,Fm.fvL,MW] at hR1
    rw [zJ hlt,Fm.vnS] at hR2
    have hnm:=Fm.nodes_le x.parts k hlt
    have hc:=ih x.parts[k] (zP hlt) acc b' (by omega) (by omega)
    have hlen:=Hk (x.parts[k].fv b') acc
    have hgr:=ID (x.parts[k].fv b') acc
    have hvl:=Fm.Nc x.parts[k] b'
    obtain ⟨acc2,ha2⟩:∃ a,a=Cz acc (x.parts[k].fv b'):=⟨_,rfl⟩
    rw [←ha2] at hc hlen hgr hR1
    rcases zF l.length acc.length with q1 | q1 <;> rcases zF acc.length acc2.length with q2 | q2
    all_goals
     first
      |rw [Ax q2] at hc
      |rw [An (Nat.not_lt.2 q2)] at hc
     simp only [cond_true,cond_false] at hc
     simp (disch:=omega) only [go_sem,Ab,hni,hg,hc,CJ]
     refine ⟨(i+1,acc2),⟨k+1,by dsimp only; omega,hlt,hR1,by dsimp only; omega,by dsimp only; omega⟩,by dsimp only; omega,?_⟩
     first | done | simp (disch:=omega) only [go_sem,Ab]
   ·rw [zQ hge,Fm.fvL] at hR
    obtain ⟨hR1,hR2,hR3⟩:=hR
    have hR1:acc=_:=hR1
    rw [←hR1]
    rcases zF l.length acc.length with q1 | q1
    ·simp (disch:=omega) only [go_sem,Ab,hni]
    ·simp (disch:=omega) only [go_sem,Ab,hni]
  | true =>
   rw [hq] at hfv
   simp only [cond_true] at hfv
   rw [hfv]
   unfold qB at hq
   rw [hq] at hu
   have hcl:=Wo b (by omega)
   have hl1:(b.map fun s=>[OT.str s])++[[OT.str x.var]]=(b++[x.var]).map fun s=>[OT.str s]:=by simp
   obtain ⟨b',hb'⟩:∃ b',b'=b++[x.var]:=⟨_,rfl⟩
   have hbl:b'.length≤b.length+1:=by rw [hb']; simp
   rw [←hb'] at hl1
   rw [←hb']
   refine Ai GF CJ (of_decide_eq_true rfl) ?_
   simp (disch:=omega) only [EH,go_sem,Ab,ho,hu,hcl,hl1,Ac,Fj]
   refine go_loop (α:=Int × (List ByteArray)) (fun a=>⟨slots 60 0 [(0,(bif dec (l.length<(a.2).length) then .ref 1 else .ref 0)),(2,(bif dec (l.length<(a.2).length) then .ref 2 else .ref 1)),(48,.arr (x.parts.map Fm.d)),(49,.int .i64 x.parts.length),(50,.int .i64 (a.1))],(bif dec (l.length<(a.2).length) then [.gone,.row 9 1 ((a.2).map fun s=>[OT.str s]),.row 9 1 (b'.map fun s=>[OT.str s])] else [.row 9 1 ((a.2).map fun s=>[OT.str s]),.row 9 1 (b'.map fun s=>[OT.str s])])⟩) (fun a=>∃ k:Nat,a.1=k∧k≤(x.parts).length∧Cz (a.2) (Fm.fvL (x.parts.drop k) b')=Cz l (Fm.fvL x.parts b')∧(a.2).length+Fm.vnS (x.parts.drop k)≤1048576∧l.length≤(a.2).length) (fun a=>(x.parts).length-(a.1).toNat) (0,l) ⟨0,rfl,zT _,by rw [zS],by rw [zS]; dsimp only; omega,zW _⟩ (by simp (disch:=omega) only [go_sem,Ab,hgl]) ?_
   rintro ⟨i,acc⟩ ⟨k,hi,hk,hR⟩
   dsimp only at hi hR
   have hni:i.toNat=k:=by omega
   have hni1:(i+1).toNat=k+1:=by omega
   rcases zF k (x.parts).length with hlt | hge
   ·have hg:=get_at Fm.d hlt
    rw [Fm.d_eq] at hg
    obtain ⟨hR1,hR2,hR3⟩:=hR
    rw [zJ hlt,Fm.fvL,MW] at hR1
    rw [zJ hlt,Fm.vnS] at hR2
    have hnm:=Fm.nodes_le x.parts k hlt
    have hc:=ih x.parts[k] (zP hlt) acc b' (by omega) (by omega)
    have hlen:=Hk (x.parts[k].fv b') acc
    have hgr:=ID (x.parts[k].fv b') acc
    have hvl:=Fm.Nc x.parts[k] b'
    obtain ⟨acc2,ha2⟩:∃ a,a=Cz acc (x.parts[k].fv b'):=⟨_,rfl⟩
    rw [←ha2] at hc hlen hgr hR1
    rcases zF l.length acc.length with q1 | q1 <;> rcases zF acc.length acc2.length with q2 | q2
    all_goals
     first
      |rw [Ax q2] at hc
      |rw [An (Nat.not_lt.2 q2)] at hc
     simp only [cond_true,cond_false] at hc
     simp (disch:=omega) only [go_sem,Ab,hni,hg,hc,CJ]
     refine ⟨(i+1,acc2),⟨k+1,by dsimp only; omega,hlt,hR1,by dsimp only; omega,by dsimp only; omega⟩,by dsimp only; omega,?_⟩
     first | done | simp (disch:=omega) only [go_sem,Ab]
   ·rw [zQ hge,Fm.fvL] at hR
    obtain ⟨hR1,hR2,hR3⟩:=hR
    have hR1:acc=_:=hR1
    rw [←hR1]
    rcases zF l.length acc.length with q1 | q1
    ·simp (disch:=omega) only [go_sem,Ab,hni]
    ·simp (disch:=omega) only [go_sem,Ab,hni]
theorem Ri (x:Fm) (hx:x.forms=true):YT x :=
 Uw x hx fun y hy=>Ri y (Fm.Cv hx hy)
termination_by SizeOf.sizeOf x
decreasing_by exact Fm.lt_of_mem hy
theorem Wp (x:Fm) (hx:x.forms=true) (hv:x.vn≤1048576) (hn:x.nodes≤1048576):E 48 [x.sv] []=some (.arr (x.free.map fun s=>[D.str s]),[]):=by
 have h1:=Ri x hx [] [] (by simpa using hv) (by simpa using hn)
 have hl:=Hk (x.fv []) []
 have hfl:=Fm.Nc x []
 rw [zN,Nat.zero_add] at hl
 have h2:=Tk (Cz [] (x.fv [])) (by omega)
 rw [OJ] at h2
 rw [zI,zI,zN] at h1
 unfold Fm.free
 have hxs:x.sv=.agg [.int .i64 x.op,.str x.atom.name,.arr (x.atom.args.map Tm.d),.str x.var,.arr (x.parts.map Fm.d)]:=rfl
 rcases zF 0 (Cz [] (x.fv [])).length with q | q
 ·rw [Ax q] at h1
  simp only [cond_true] at h1
  refine Ai Lr It (of_decide_eq_true rfl) ?_
  simp (disch:=omega) only [Is,go_sem,Ab,h1,h2,CJ,Bz,LB,JQ,OT.erss,OT.AM]
 ·rw [An (by omega)] at h1
  simp only [cond_false] at h1
  refine Ai Lr It (of_decide_eq_true rfl) ?_
  simp (disch:=omega) only [Is,go_sem,Ab,h1,h2,CJ,Bz,LB,JQ,OT.erss,OT.AM]
theorem Tm.Tp (x:Tm):∀ m∈x.vs,Cf m=true:=by
 have ih:∀ y∈x.args,∀ m∈y.vs,Cf m=true:=fun y hy=>Tm.Tp y
 intro m hm
 rw [Tm.Wg] at hm
 cases hv:Cf x.name with
 | true =>
  rw [hv,cond_true,z7] at hm
  rw [hm]; exact hv
 | false =>
  rw [hv,cond_false] at hm
  obtain ⟨y,hy,h⟩:=Tm.Ti.1 hm
  exact ih y hy m h
termination_by SizeOf.sizeOf x
decreasing_by exact Tm.lt_of_mem hy
theorem Fm.Wq (x:Fm):∀ b,∀ m∈x.fv b,Cf m=true:=by
 have ih:∀ y∈x.parts,∀ b,∀ m∈y.fv b,Cf m=true:=fun y hy=>Fm.Wq y
 intro b m hm
 rw [Fm.OK] at hm
 cases h3:dec (x.op=3) with
 | true =>
  rw [h3,cond_true,List.mem_filter] at hm
  exact Tm.Tp _ m ((Kj.1 hm.1).elim (fun h=>by cases h) id)
 | false =>
  rw [h3,cond_false] at hm
  obtain ⟨y,hy,h⟩:=Fm.Kk.1 hm
  exact ih y hy _ m h
termination_by SizeOf.sizeOf x
decreasing_by exact Fm.lt_of_mem hy
theorem Fm.Rj (x:Fm):∀ m∈x.free,Cf m=true:=fun m hm=>Fm.Wq x [] m ((Fm.Rg x m).1 hm)
theorem Sv {m:ByteArray} (h:Cf m=true):m.size≤4:=by
 unfold Cf inB at h
 rw [zC,zC,decide_eq_true_eq,decide_eq_true_eq] at h
 omega
theorem Fm.Nd (x:Fm):x.free.length≤x.vn:=by
 have h2:=Ki (x.fv []) []
 have h3:=Fm.Nc x []
 simp only [zN] at h2
 show (HI [] (x.fv [])).length≤_
 omega
theorem Fm.Kl (n:ByteArray) (ns:List ByteArray) (x:Fm):Fm.cls (n :: ns) x=.all n (Fm.cls ns x):=rfl
theorem Fm.KN (x:Fm):∀ ns,(Fm.cls ns x).nodes=ns.length+x.nodes
 | []=>by show x.nodes=0+x.nodes; omega
 | n :: ns=>by
  rw [Fm.Kl,Fm.nodes_eq]
  show 1+Fm.nodeS [Fm.cls ns x]=_
  rw [Fm.nodeS,Fm.nodeS,Fm.KN x ns,zO]; omega
theorem Fm.Nf {x:Fm} (h:x.tame):∀ ns,(Fm.cls ns x).tame
 | []=>h
 | n :: ns=>by
  rw [Fm.Kl,Fm.DR]
  refine ⟨?_,?_⟩
  ·show (Tm.mk ⟨#[]⟩ []).nodes≤_
   rw [Tm.nodes_eq]; show 1+Tm.nodeS []≤_; rw [Tm.nodeS]; omega
  ·show Fm.BQ [Fm.cls ns x]
   rw [Fm.BQ,Fm.BQ]; exact ⟨Fm.Nf h ns,trivial⟩
noncomputable def J2 (x:Fm):Fm:=Fm.cls x.free x
noncomputable def Ng (x:Fm):Bool:=x.valid&&(J2 x).valid
noncomputable def Nh (x:Fm):Fm:=bif Ng x then J2 x else Fm.zero
theorem EI:modes 50=⟨[],.asis,some Hx,false⟩:=by unfold modes; rfl
theorem Wr (x:Fm) (hx:x.forms=true) (hn:x.nodes≤1048576) (hv:x.vn≤1048576):E 50 [x.sv] []=some ((J2 x).osv,(J2 x).obs):=by
 rw [Pr (g:=Hx) (congrArg FM.ext EI)]
 refine RU x ⟨?_,fun s hs=>Xk ?_,Pn (IZ x (Fm.MH x hx) (by omega)),Pn (Wp x hx hv hn),fun n y=>Pn (H1 8 n y)⟩
 ·have:=Fm.Nd x; omega
 ·have:=Sv (Fm.Rj x s hs); omega
def CM:SC:=(.seq (.reg [⟨some 1,none,.boxv 33 5 (.t 0)⟩,⟨(some 2),none,(.alloc 33 [(.int .i64 0),(.str ⟨#[]⟩),.nil,(.str ⟨#[]⟩),.nil])⟩,⟨some 3,none,.mv (.c (.bool false))⟩]) (.seq (.seq (.reg [⟨some 4,none,.load true 5 (.t 1)⟩,⟨some 5,none,.call 30 [(.t 4)]⟩,⟨some 6,none,.un .not (.t 5)⟩]) (.cond (.t 6) (.seq (.reg [⟨(some 7),none,(.build [(.int .i64 0),(.str ⟨#[]⟩),.nil,(.str ⟨#[]⟩),.nil] [])⟩,⟨none,none,(.store 5 (.t 2) (.t 7))⟩,⟨some 3,none,.mv (.c (.bool false))⟩]) .ret) .skip)) (.seq (.reg [⟨some 8,none,.load true 5 (.t 1)⟩,⟨some 9,none,.call 50 [(.t 8)]⟩,⟨some 10,none,.call 49 [(.t 9)]⟩,⟨some 11,none,.ext (.t 10) 0⟩,⟨some 12,none,.ext (.t 10) 1⟩,⟨none,none,(.store 5 (.t 2) (.t 11))⟩,⟨some 3,none,.mv (.t 12)⟩]) .ret)))
theorem DF:codeOf Tryz.prog 23=some ⟨13,CM,[(.cell 2 true 5),(.tmp 3)]⟩:=by kernel_rfl
theorem Bw:modes 23=⟨[],.own [none,none,some (30,2),none,some (33,5),none],none,false⟩:=by unfold modes; rfl
theorem Ni (x:Fm) (hta:x.tame) (hn:x.nodes≤1099511627776):E 23 [x.sv] []=some (.tup [(Nh x).osv,.bool (Ng x)],(Nh x).obs):=by
 have h1:=BF x hta hn
 have hz1:Fm.zero.osv=.agg [.int .i64 0,.str ⟨#[]⟩,.ref 0,.str ⟨#[]⟩,.ref 1]:=rfl
 have hz2:Fm.zero.obs=[.row 30 2 [],.row 33 5 []]:=rfl
 unfold Nh Ng
 cases hv:x.valid with
 | false =>
  rw [hv] at h1
  rw [zB,cond_false,hz1,hz2]
  refine Ai DF Bw (of_decide_eq_true rfl) ?_
  simp (disch:=omega) only [CM,go_sem,Ab,h1,Aw,EI,CQ]
 | true =>
  rw [hv] at h1
  rw [zG]
  obtain ⟨hva1,hva2⟩:=CF hv
  have hvn:=Fm.Wn x hva2
  have hs:=Wr x hva2 (by omega) (by omega)
  have hp1:=Fm.Nf hta x.free
  have hp2:=Fm.KN x x.free
  have hp3:=Fm.Nd x
  have e0:Fm.cls x.free x=J2 x:=rfl
  rw [e0] at hp1 hp2
  generalize J2 x=y at *
  cases hq:y.valid with
  | true =>
   have hi:=N6 y hp1 (by omega) hq
   rw [cond_true]
   refine Ai DF Bw (of_decide_eq_true rfl) ?_
   simp (disch:=omega) only [CM,go_sem,Ab,h1,hs,hi,Aw,EI,CQ,Fm.osv,Fm.obs]
  | false =>
   have hi:=P8 y hp1 (by omega) hq
   rw [cond_false,hz1,hz2]
   refine Ai DF Bw (of_decide_eq_true rfl) ?_
   simp (disch:=omega) only [CM,go_sem,Ab,h1,hs,hi,Aw,EI,CQ,Fm.osv,Fm.obs]
def El:SC:=(.seq (.reg [⟨some 2,none,.mv (.c (.int .i64 0))⟩]) (.seq (.reg [⟨some 3,none,.mv (.c (.int .i64 0))⟩]) (.seq (.seq (.dreg [[],[0],[1,0],[2,1,0],[],[4],[5,4],[6,5,4],[7,6,5,4],[3,2,1,0,8,7,6,5,4]] [⟨some 4,none,.mv (.t 0)⟩,⟨some 5,none,.nilchk (.t 4)⟩,⟨some 6,none,.faddr 1 (.t 5)⟩,⟨some 7,none,.load false 1 (.t 6)⟩,⟨some 8,none,.mv (.t 0)⟩,⟨some 9,none,.nilchk (.t 8)⟩,⟨some 10,none,.faddr 0 (.t 9)⟩,⟨some 11,none,.load false 1 (.t 10)⟩,⟨some 12,none,.len false (.t 11)⟩,⟨some 13,none,.bin .lss false (.t 7) (.t 12)⟩]) (.cond (.t 13) (.dreg [[],[0],[1,0],[2,1,0],[],[4],[5,4],[6,5,4],[3,2,1,0,7,6,5,4],[8,3,2,1,0,7,6,5,4],[9,8,3,2,1,0,7,6,5,4],[10,9,8,3,2,1,0,7,6,5,4]] [⟨some 14,none,.mv (.t 0)⟩,⟨some 15,none,.nilchk (.t 14)⟩,⟨some 16,none,.faddr 0 (.t 15)⟩,⟨some 17,none,.load false 1 (.t 16)⟩,⟨some 18,none,.mv (.t 0)⟩,⟨some 19,none,.nilchk (.t 18)⟩,⟨some 20,none,.faddr 1 (.t 19)⟩,⟨some 21,none,.load false 1 (.t 20)⟩,⟨some 22,none,.iaddr 1 (.t 17) (.t 21)⟩,⟨some 23,none,.load false 1 (.t 22)⟩,⟨some 24,none,.conv .i64 (.t 23)⟩,⟨some 3,none,.mv (.t 24)⟩]) .skip)) (.seq (.reg [⟨some 25,none,.mv (.t 0)⟩,⟨some 26,none,.nilchk (.t 25)⟩,⟨some 27,none,.faddr 1 (.t 26)⟩,⟨some 28,none,.load false 1 (.t 27)⟩,⟨some 29,none,.bin .add false (.t 28) (.c (.int .i64 1))⟩,⟨some 30,none,.nilchk (.t 25)⟩,⟨some 31,none,.faddr 1 (.t 30)⟩,⟨none,none,(.store 1 (.t 31) (.t 29))⟩]) (.seq (.reg [⟨some 32,none,.mv (.t 0)⟩,⟨some 33,none,.mv (.t 0)⟩,⟨some 34,none,.nilchk (.t 33)⟩,⟨some 35,none,.faddr 2 (.t 34)⟩,⟨some 36,none,.load false 1 (.t 35)⟩,⟨some 37,none,.bin .mul false (.t 36) (.c (.int .u64 6364136223846793005))⟩,⟨some 38,none,.mv (.t 3)⟩,⟨some 39,none,.conv .u64 (.t 38)⟩,⟨some 40,none,.bin .add false (.t 37) (.t 39)⟩,⟨some 41,none,.bin .add false (.t 40) (.c (.int .u64 892892))⟩,⟨some 42,none,.nilchk (.t 32)⟩,⟨some 43,none,.faddr 2 (.t 42)⟩,⟨none,none,(.store 1 (.t 43) (.t 41))⟩]) (.seq (.seq (.dreg [[],[0],[1,0],[2,1,0],[],[4],[5,4],[6,5,4],[7,6,5,4],[3,2,1,0,8,7,6,5,4]] [⟨some 44,none,.mv (.t 0)⟩,⟨some 45,none,.nilchk (.t 44)⟩,⟨some 46,none,.faddr 1 (.t 45)⟩,⟨some 47,none,.load false 1 (.t 46)⟩,⟨some 48,none,.mv (.t 0)⟩,⟨some 49,none,.nilchk (.t 48)⟩,⟨some 50,none,.faddr 0 (.t 49)⟩,⟨some 51,none,.load false 1 (.t 50)⟩,⟨some 52,none,.len false (.t 51)⟩,⟨some 53,none,.bin .leq false (.t 47) (.t 52)⟩]) (.cond (.t 53) (.seq (.reg [⟨some 54,none,.mv (.t 3)⟩,⟨some 2,none,.mv (.t 54)⟩]) .ret) .skip)) (.seq (.reg [⟨some 55,none,.mv (.t 0)⟩,⟨some 56,none,.nilchk (.t 55)⟩,⟨some 57,none,.faddr 2 (.t 56)⟩,⟨some 58,none,.load false 1 (.t 57)⟩,⟨some 59,none,.bin .shr false (.t 58) (.c (.int .u64 40))⟩,⟨some 60,none,.bin .and false (.t 59) (.c (.int .u64 255))⟩,⟨some 61,none,.conv .i64 (.t 60)⟩,⟨some 2,none,.mv (.t 61)⟩]) .ret)))))))
theorem Gx:codeOf Tryz.prog 82=some ⟨62,El,[(.tmp 2)]⟩:=by kernel_rfl
theorem Em:modes 82=⟨[],.asis,none,false⟩:=by unfold modes; rfl
def En:SC:=(.seq (.reg [⟨some 4,none,.mv (.c (.int .i64 0))⟩]) (.seq (.seq (.reg [⟨some 6,none,.mv (.t 1)⟩,⟨some 7,none,.bin .leq false (.t 6) (.c (.int .i64 1))⟩]) (.cond (.t 7) (.seq (.reg [⟨some 4,none,.mv (.c (.int .i64 0))⟩]) .ret) .skip)) (.seq (.reg [⟨some 8,none,.mv (.t 0)⟩,⟨some 9,none,.call 82 [(.t 8)]⟩,⟨some 5,none,.mv (.t 9)⟩]) (.seq (.seq (.reg [⟨some 10,none,.mv (.t 1)⟩,⟨some 11,none,.bin .gtr false (.t 10) (.c (.int .i64 200))⟩]) (.cond (.t 11) (.reg [⟨some 12,none,.mv (.t 5)⟩,⟨some 13,none,.bin .mul false (.t 12) (.c (.int .i64 256))⟩,⟨some 14,none,.mv (.t 0)⟩,⟨some 15,none,.call 82 [(.t 14)]⟩,⟨some 16,none,.bin .add false (.t 13) (.t 15)⟩,⟨some 5,none,.mv (.t 16)⟩]) .skip)) (.seq (.reg [⟨some 17,none,.mv (.t 5)⟩,⟨some 18,none,.mv (.t 1)⟩,⟨some 19,none,.bin .rem false (.t 17) (.t 18)⟩,⟨some 4,none,.mv (.t 19)⟩]) .ret)))))
theorem Gy:codeOf Tryz.prog 37=some ⟨20,En,[(.tmp 4)]⟩:=by kernel_rfl
theorem Aq:modes 37=⟨[],.asis,none,false⟩:=by unfold modes; rfl
def Hn:SC:=(.seq (.reg [⟨some 4,none,.mv (.c (.bool false))⟩]) (.seq (.reg [⟨some 5,none,.mv (.t 0)⟩,⟨some 6,none,.mv (.t 1)⟩,⟨some 7,none,.call 37 [(.t 5),(.t 6)]⟩,⟨some 8,none,.bin .eql false (.t 7) (.c (.int .i64 0))⟩,⟨some 4,none,.mv (.t 8)⟩]) .ret))
theorem KO:codeOf Tryz.prog 38=some ⟨9,Hn,[(.tmp 4)]⟩:=by kernel_rfl
theorem AC:modes 38=⟨[],.asis,none,false⟩:=by unfold modes; rfl
def HH:SC:=(.seq (.reg [⟨(some 4),none,(.mv (.c (.str ⟨#[]⟩)))⟩]) (.seq (.reg [⟨some 5,none,.mv (.t 1)⟩,⟨some 6,none,.mv (.t 0)⟩,⟨some 7,none,.mv (.t 1)⟩,⟨some 8,none,.len false (.t 7)⟩,⟨some 9,none,.call 37 [(.t 6),(.t 8)]⟩,⟨some 10,none,.iaddr 1 (.t 5) (.t 9)⟩,⟨some 11,none,.load false 1 (.t 10)⟩,⟨some 4,none,.mv (.t 11)⟩]) .ret))
theorem L3:codeOf Tryz.prog 54=some ⟨12,HH,[(.tmp 4)]⟩:=by kernel_rfl
theorem Az:modes 54=⟨[],.asis,none,false⟩:=by unfold modes; rfl
def Gd:SC:=(.seq (.reg [⟨some 4,none,.mv (.c (.int .i64 0))⟩]) (.seq (.reg [⟨some 5,none,.mv (.t 1)⟩,⟨some 6,none,.mv (.t 0)⟩,⟨some 7,none,.mv (.t 1)⟩,⟨some 8,none,.len false (.t 7)⟩,⟨some 9,none,.call 37 [(.t 6),(.t 8)]⟩,⟨some 10,none,.iaddr 1 (.t 5) (.t 9)⟩,⟨some 11,none,.load false 1 (.t 10)⟩,⟨some 4,none,.mv (.t 11)⟩]) .ret))
theorem J3:codeOf Tryz.prog 53=some ⟨12,Gd,[(.tmp 4)]⟩:=by kernel_rfl
theorem C8:modes 53=⟨[],.asis,none,false⟩:=by unfold modes; rfl
theorem ZA {α:Type} {a:α} {Q:α→Prop}:(∃ out,a=out∧Q out)=Q a:=propext ⟨fun ⟨o,h,q⟩=>by subst h; exact q,fun q=>⟨a,rfl,q⟩⟩
attribute [go_sem] ZA
abbrev by_ (b:Int):List D:=[D.byte b]
def Bytes (l:List Int):Prop:=∀ b∈l,0≤b∧b≤255
abbrev cur (l:List Int) (p s:Int):Ob:=.box 63 [.arr (l.map by_),.int .i64 p,.int .u64 s]
theorem YU (a:Int):0≤bits .and .u64 a 255∧bits .and .u64 a 255≤255:=by
 have h:(BitVec.ofInt 64 a &&& BitVec.ofInt 64 255).toNat≤255:=by
  rw [BitVec.toNat_and]
  exact Nat.and_le_right
 have e:bits .and .u64 a 255=(((BitVec.ofInt 64 a &&& BitVec.ofInt 64 255).toNat:Nat):Int):=by
  show IntKind.u64.wrap _=_
  refine PQ ⟨?_,?_⟩
  ·show (0:Int)≤_; omega
  ·show _≤(18446744073709551615:Int)
   have:(BitVec.ofInt 64 a &&& BitVec.ofInt 64 255).toNat≤255:=h
   show (((BitVec.ofInt 64 a &&& BitVec.ofInt 64 255).toNat:Nat):Int)≤_
   omega
 rw [e]
 omega
theorem XJ (l:List Int) (hl:Bytes l) (hn:l.length≤1099511627776) (p s:Int) (hp0:0≤p) (hp:p≤1099511627776):∃ v s',E 82 [.ptr 0 0] [cur l p s]=some (.int .i64 v,[cur l (p+1) s'])∧0≤v∧v≤255:=by
 obtain ⟨Q,hQ⟩:∃ Q:SV × List Ob→Prop,Q=fun out=>∃ v s',out=(.int .i64 v,[cur l (p+1) s'])∧0≤v∧v≤255:=⟨_,rfl⟩
 suffices h:∃ out,E 82 [.ptr 0 0] [cur l p s]=some out∧Q out by
  obtain ⟨out,h1,h2⟩:=h
  rw [hQ] at h2
  obtain ⟨v,s',rfl,h3⟩:=h2
  exact ⟨v,s',h1,h3⟩
 by_cases hlt:p<l.length
 ·have hg:=get_at by_ (show p.toNat<l.length by omega)
  have hb:=hl _ (zP (show p.toNat<l.length by omega))
  have hi:dec (inK .i64 l[p.toNat])=true:=D6 (by omega) (by omega)
  have h1:(p<(l.length:Int))=True:=eq_true (by omega)
  have h2:(p+1≤(l.length:Int))=True:=eq_true (by omega)
  refine A7 Gx Em (of_decide_eq_true rfl) ?_
  simp (disch:=omega) only [El,go_sem,Ab,hg,hi,h1,h2]
  rw [hQ]
  exact ⟨_,_,rfl,hb⟩
 ·have h1:(p<(l.length:Int))=False:=eq_false (by omega)
  have h2:(p+1≤(l.length:Int))=False:=eq_false (by omega)
  have hb:=fun a=>YU a
  have hi:∀ a,dec (inK .i64 (bits .and .u64 a 255))=true:=fun a=>D6 (by have:=hb a; omega) (by have:=hb a; omega)
  refine A7 Gx Em (of_decide_eq_true rfl) ?_
  simp (disch:=omega) only [El,go_sem,Ab,hi,h1,h2]
  rw [hQ]
  exact ⟨_,_,rfl,hb _⟩
theorem EE (l:List Int) (hl:Bytes l) (hn:l.length≤1099511627776) (n:Int) (h1:1≤n) (h2:n≤200) (p s:Int) (hp0:0≤p) (hp:p≤1099511627776):∃ v p' s',E 37 [.ptr 0 0,.int .i64 n] [cur l p s]=some (.int .i64 v,[cur l p' s'])∧(0≤v∧v<n)∧p≤p'∧p'≤p+1:=by
 by_cases hn1:n≤1
 ·refine ⟨0,p,s,?_,by omega,by omega,by omega⟩
  have q1:(n≤1)=True:=eq_true hn1
  refine Ai Gy Aq (of_decide_eq_true rfl) ?_
  simp (disch:=omega) only [En,go_sem,Ab,q1]
 ·obtain ⟨v,s',hv,hv1,hv2⟩:=XJ l hl hn p s hp0 hp
  have hm1:=Int.emod_nonneg v (show n≠0 by omega)
  have hm2:=Int.emod_lt_of_pos v (show 0<n by omega)
  have hm3:v.tmod n=v % n:=Int.tmod_eq_emod_of_nonneg hv1
  refine ⟨v.tmod n,p+1,s',?_,by omega,by omega,by omega⟩
  have q1:(n≤1)=False:=eq_false hn1
  have q2:(200<n)=False:=eq_false (by omega)
  have q3:(n=0)=False:=eq_false (by omega)
  refine Ai Gy Aq (of_decide_eq_true rfl) ?_
  simp (disch:=omega) only [En,go_sem,Ab,q1,q2,q3,hv,Em]
theorem OL (l:List Int) (hl:Bytes l) (hn:l.length≤1099511627776) (n:Int) (h1:1≤n) (h2:n≤200) (p s:Int) (hp0:0≤p) (hp:p≤1099511627776):∃ b p' s',E 38 [.ptr 0 0,.int .i64 n] [cur l p s]=some (.bool b,[cur l p' s'])∧p≤p'∧p'≤p+1:=by
 obtain ⟨v,p',s',hv,_,h3,h4⟩:=EE l hl hn n h1 h2 p s hp0 hp
 refine ⟨dec (v=0),p',s',?_,h3,h4⟩
 refine Ai KO AC (of_decide_eq_true rfl) ?_
 simp (disch:=omega) only [Hn,go_sem,Ab,hv,Aq]
theorem Sw (l:List Int) (hl:Bytes l) (hn:l.length≤1099511627776) (xs:List ByteArray) (h1:1≤xs.length) (h2:xs.length≤200) (p s:Int) (hp0:0≤p) (hp:p≤1099511627776):∃ x p' s',E 54 [.ptr 0 0,.arr (xs.map fun s=>[D.str s])] [cur l p s]=some (.str x,[cur l p' s'])∧x∈xs∧p≤p'∧p'≤p+1:=by
 obtain ⟨v,p',s',hv,⟨hv0,hv1⟩,h3,h4⟩:=EE l hl hn xs.length (by omega) (by omega) p s hp0 hp
 have hg:=get_at (fun s=>[D.str s]) (show v.toNat<xs.length by omega)
 refine ⟨xs[v.toNat],p',s',?_,zP _,h3,h4⟩
 refine Ai L3 Az (of_decide_eq_true rfl) ?_
 simp (disch:=omega) only [HH,go_sem,Ab,hv,hg,Aq]
theorem XK (l:List Int) (hl:Bytes l) (hn:l.length≤1099511627776) (xs:List Int) (h1:1≤xs.length) (h2:xs.length≤200) (p s:Int) (hp0:0≤p) (hp:p≤1099511627776):∃ x p' s',E 53 [.ptr 0 0,.arr (xs.map fun n=>[D.int n])] [cur l p s]=some (.int .i64 x,[cur l p' s'])∧x∈xs∧p≤p'∧p'≤p+1:=by
 obtain ⟨v,p',s',hv,⟨hv0,hv1⟩,h3,h4⟩:=EE l hl hn xs.length (by omega) (by omega) p s hp0 hp
 have hg:=get_at (fun n=>[D.int n]) (show v.toNat<xs.length by omega)
 refine ⟨xs[v.toNat],p',s',?_,zP _,h3,h4⟩
 refine Ai J3 C8 (of_decide_eq_true rfl) ?_
 simp (disch:=omega) only [Gd,go_sem,Ab,hv,hg,Aq]
def C9:SC:=(.seq (.reg [⟨(some 4),none,(.alloc 30 [(.str ⟨#[]⟩),.nil])⟩]) (.seq (.seq (.reg [⟨some 5,none,.mv (.t 1)⟩,⟨some 6,none,.bin .leq false (.t 5) (.c (.int .i64 1))⟩,⟨some 7,none,.mv (.t 6)⟩,⟨(some 8),(some (7,false)),(.mv (.t 0))⟩,⟨(some 9),(some (7,false)),(.call 38 [(.t 8),(.c (.int .i64 3))])⟩,⟨some 10,none,.pick (.t 7) (.c (.bool true)) (.t 9)⟩]) (.cond (.t 10) (.seq (.reg [⟨some 11,none,.mv (.t 0)⟩,⟨(some 12),none,(.mkrow 9 1 [(.str ⟨#[]⟩)] 7 [(0,(.c (.str ⟨#[88]⟩))),(1,(.c (.str ⟨#[89]⟩))),(2,(.c (.str ⟨#[90]⟩))),(3,(.c (.str ⟨#[97]⟩))),(4,(.c (.str ⟨#[98]⟩))),(5,(.c (.str ⟨#[88]⟩))),(6,(.c (.str ⟨#[97]⟩)))])⟩,⟨some 13,none,.call 54 [(.t 11),(.t 12)]⟩,⟨(some 14),none,(.build [(.str ⟨#[]⟩),.nil] [(0,(1,(.t 13)))])⟩,⟨none,none,(.store 2 (.t 4) (.t 14))⟩]) .ret) .skip)) (.seq (.seq (.reg [⟨some 15,none,.mv (.t 0)⟩,⟨some 16,none,.call 38 [(.t 15),(.c (.int .i64 2))]⟩]) (.cond (.t 16) (.seq (.reg [⟨some 17,none,.mv (.t 0)⟩,⟨some 18,none,.mv (.t 1)⟩,⟨some 19,none,.bin .sub false (.t 18) (.c (.int .i64 1))⟩,⟨some 20,none,.call 140 [(.t 17),(.t 19)]⟩,⟨(some 21),none,(.mkrow 30 2 [(.str ⟨#[]⟩),.nil] 1 [(0,(.t 20))])⟩,⟨(some 22),none,(.build [(.str ⟨#[]⟩),.nil] [(0,(1,(.c (.str ⟨#[102]⟩)))),(1,(1,(.t 21)))])⟩,⟨none,none,(.store 2 (.t 4) (.t 22))⟩]) .ret) .skip)) (.seq (.reg [⟨some 23,none,.mv (.t 0)⟩,⟨some 24,none,.mv (.t 1)⟩,⟨some 25,none,.bin .sub false (.t 24) (.c (.int .i64 1))⟩,⟨some 26,none,.call 140 [(.t 23),(.t 25)]⟩,⟨some 27,none,.mv (.t 0)⟩,⟨some 28,none,.mv (.t 1)⟩,⟨some 29,none,.bin .sub false (.t 28) (.c (.int .i64 1))⟩,⟨some 30,none,.call 140 [(.t 27),(.t 29)]⟩,⟨(some 31),none,(.mkrow 30 2 [(.str ⟨#[]⟩),.nil] 2 [(0,(.t 26)),(1,(.t 30))])⟩,⟨(some 32),none,(.build [(.str ⟨#[]⟩),.nil] [(0,(1,(.c (.str ⟨#[103]⟩)))),(1,(1,(.t 31)))])⟩,⟨none,none,(.store 2 (.t 4) (.t 32))⟩]) .ret))))
theorem Dd:codeOf Tryz.prog 140=some ⟨33,C9,[(.cell 4 true 2)]⟩:=by kernel_rfl
theorem AK:modes 140=⟨[],.half [none,some (30,2)],none,false⟩:=by unfold modes; rfl
def Gz:SC:=(.seq (.reg [⟨(some 2),none,(.alloc 30 [(.str ⟨#[]⟩),.nil])⟩]) (.seq (.reg [⟨some 3,none,.mv (.t 0)⟩,⟨some 4,none,.mv (.t 0)⟩,⟨some 5,none,.call 37 [(.t 4),(.c (.int .i64 3))]⟩,⟨some 6,none,.bin .add false (.c (.int .i64 1)) (.t 5)⟩,⟨some 7,none,.call 140 [(.t 3),(.t 6)]⟩,⟨none,none,(.store 2 (.t 2) (.t 7))⟩]) .ret))
theorem Km:codeOf Tryz.prog 104=some ⟨8,Gz,[(.cell 2 true 2)]⟩:=by kernel_rfl
theorem AI:modes 104=⟨[],.half [none,some (30,2)],none,false⟩:=by unfold modes; rfl
def BZ:SC:=(.seq (.reg [⟨(some 2),none,(.alloc 30 [(.str ⟨#[]⟩),.nil])⟩]) (.seq (.seq (.reg [⟨some 3,none,.mv (.t 0)⟩,⟨some 4,none,.call 37 [(.t 3),(.c (.int .i64 8))]⟩]) (.block 0 (.seq (.seq (.reg [⟨some 6,none,.bin .eql false (.t 4) (.c (.int .i64 0))⟩,⟨some 5,none,.mv (.t 6)⟩]) (.cond (.t 5) .skip (.reg [⟨some 7,none,.bin .eql false (.t 4) (.c (.int .i64 1))⟩,⟨some 5,none,.mv (.t 7)⟩]))) (.cond (.t 5) (.seq (.reg [⟨some 8,none,.mv (.t 0)⟩,⟨some 9,none,.call 104 [(.t 8)]⟩,⟨some 10,none,.mv (.t 0)⟩,⟨some 11,none,.call 104 [(.t 10)]⟩,⟨(some 12),none,(.mkrow 30 2 [(.str ⟨#[]⟩),.nil] 2 [(0,(.t 9)),(1,(.t 11))])⟩,⟨(some 13),none,(.build [(.str ⟨#[]⟩),.nil] [(0,(1,(.c (.str ⟨#[61]⟩)))),(1,(1,(.t 12)))])⟩,⟨none,none,(.store 2 (.t 2) (.t 13))⟩]) .ret) (.seq (.reg [⟨some 15,none,.bin .eql false (.t 4) (.c (.int .i64 2))⟩,⟨some 14,none,.mv (.t 15)⟩]) (.cond (.t 14) (.seq (.reg [⟨(some 16),none,(.build [(.str ⟨#[]⟩),.nil] [(0,(1,(.c (.str ⟨#[114]⟩))))])⟩,⟨none,none,(.store 2 (.t 2) (.t 16))⟩]) .ret) (.seq (.seq (.reg [⟨some 18,none,.bin .eql false (.t 4) (.c (.int .i64 3))⟩,⟨some 17,none,.mv (.t 18)⟩]) (.cond (.t 17) .skip (.reg [⟨some 19,none,.bin .eql false (.t 4) (.c (.int .i64 4))⟩,⟨some 17,none,.mv (.t 19)⟩]))) (.cond (.t 17) (.seq (.reg [⟨some 20,none,.mv (.t 0)⟩,⟨some 21,none,.call 140 [(.t 20),(.c (.int .i64 2))]⟩,⟨some 22,none,.mv (.t 0)⟩,⟨some 23,none,.call 140 [(.t 22),(.c (.int .i64 2))]⟩,⟨(some 24),none,(.mkrow 30 2 [(.str ⟨#[]⟩),.nil] 2 [(0,(.t 21)),(1,(.t 23))])⟩,⟨(some 25),none,(.build [(.str ⟨#[]⟩),.nil] [(0,(1,(.c (.str ⟨#[113]⟩)))),(1,(1,(.t 24)))])⟩,⟨none,none,(.store 2 (.t 2) (.t 25))⟩]) .ret) .skip)))))))) (.seq (.reg [⟨some 26,none,.mv (.t 0)⟩,⟨some 27,none,.call 140 [(.t 26),(.c (.int .i64 2))]⟩,⟨(some 28),none,(.mkrow 30 2 [(.str ⟨#[]⟩),.nil] 1 [(0,(.t 27))])⟩,⟨(some 29),none,(.build [(.str ⟨#[]⟩),.nil] [(0,(1,(.c (.str ⟨#[112]⟩)))),(1,(1,(.t 28)))])⟩,⟨none,none,(.store 2 (.t 2) (.t 29))⟩]) .ret)))
theorem Cu:codeOf Tryz.prog 139=some ⟨30,BZ,[(.cell 2 true 2)]⟩:=by kernel_rfl
theorem Bp:modes 139=⟨[],.half [none,some (30,2)],none,false⟩:=by unfold modes; rfl
def Tm.oh (x:Tm):List OT:=[.str x.name,.ow (x.args.map Tm.osh)]
theorem Tm.Ws (x:Tm):x.oh=[.str x.name,.ow (x.args.map Tm.osh)]:=rfl
theorem Tm.Rk:∀ xs:List Tm,OT.C0 (xs.map Tm.osh)=xs.map Tm.osh
 | []=>rfl
 | x :: xs=>by rw [zD,Tm.M7]; simp only [OT.C0,OT.IN,OT.half,Tm.Rk xs]
theorem Tm.Tq:∀ xs:List Tm,OT.AM (xs.map Tm.oh)=true
 | []=>rfl
 | x :: xs=>by rw [zD,Tm.Ws]; simp only [OT.AM,OT.De,OT.full,Tm.JR,Tm.Tq xs,Bool.and_self]
theorem Tm.Tr:∀ xs:List Tm,OT.C0 (xs.map Tm.oh)=xs.map Tm.osh
 | []=>rfl
 | x :: xs=>by rw [zD,zD,Tm.Ws,Tm.M7]; simp only [OT.C0,OT.IN,OT.half,Tm.M8,Tm.Tr xs]
theorem Tm.XV:∀ xs:List Tm,OT.erss (xs.map Tm.oh)=xs.map Tm.d
 | []=>rfl
 | x :: xs=>by rw [zD,zD,Tm.Ws,Tm.d_eq]; simp only [OT.erss,OT.ers,OT.er,Tm.M8,Tm.XV xs]
theorem Tm.Sx:∀ xs:List Tm,OT.C0 (xs.map Tm.o)=xs.map Tm.osh
 | []=>rfl
 | x :: xs=>by rw [zD,zD,Tm.o_eq,Tm.M7]; simp only [OT.C0,OT.IN,OT.half,Tm.erss,Tm.Sx xs]
theorem OT.Nj:∀ a b:List (List OT),OT.AM (a++b)=(OT.AM a&&OT.AM b)
 | [],b=>by simp [OT.AM]
 | x :: a,b=>by simp only [zX,OT.AM,OT.Nj a b,Bool.and_assoc]
theorem OT.Nk:∀ a b:List (List OT),OT.C0 (a++b)=OT.C0 a++OT.C0 b
 | [],b=>by simp [OT.C0]
 | x :: a,b=>by simp only [zX,OT.C0,OT.Nk a b]
theorem OT.Rl:∀ a b:List (List OT),OT.erss (a++b)=OT.erss a++OT.erss b
 | [],b=>by simp [OT.erss]
 | x :: a,b=>by simp only [zX,OT.erss,OT.Rl a b]
attribute [go_sem] OT.Nj OT.Nk OT.Rl Tm.JR Tm.M8 Tm.Rk Tm.Tq Tm.XV Tm.Tr Tm.Sx
abbrev tmH (t:Tm) (g:Nat):SV:=.agg [.str t.name,.ref g]
abbrev L4 (t:Tm):Ob:=.row 30 2 (t.args.map Tm.osh)
theorem PF (l:List Int) (hl:Bytes l) (hn:l.length≤1099511627776):∀ (d:Nat) (m:Int),m=d→1≤d→d≤20→∀ p s:Int,0≤p→p+(4*2 ^ d:Nat)≤1099000000000→∃ t p' s',E 140 [.ptr 0 0,.int .i64 m] [cur l p s]=some (tmH t 1,[cur l p' s',L4 t])∧(p≤p'∧p'+2≤p+(4*2 ^ d:Nat))∧t.nodes+1≤2 ^ d:=by
 intro d
 have leaf:∀ (p1 s1:Int),0≤p1→p1≤1099500000000→∃ x p2 s2,E 54 [.ptr 0 0,.arr [[D.str ⟨#[88]⟩],[D.str ⟨#[89]⟩],[D.str ⟨#[90]⟩],[D.str ⟨#[97]⟩],[D.str ⟨#[98]⟩],[D.str ⟨#[88]⟩],[D.str ⟨#[97]⟩]]] [cur l p1 s1]=some (.str x,[cur l p2 s2])∧p1≤p2∧p2≤p1+1:=fun p1 s1 a b=>by
  obtain ⟨x,p2,s2,ho,_,h2,h3⟩:=Sw l hl hn [⟨#[88]⟩,⟨#[89]⟩,⟨#[90]⟩,⟨#[97]⟩,⟨#[98]⟩,⟨#[88]⟩,⟨#[97]⟩] (by decide) (by decide) p1 s1 a (by omega)
  simp only [zD,zI] at ho
  exact ⟨x,p2,s2,ho,h2,h3⟩
 have n1:∀ x,(Tm.mk x []).nodes=1:=fun x=>by rw [Tm.nodes_eq]; rfl
 induction d with
 | zero=>exact fun _ _ h=>absurd h (by omega)
 | succ e ih =>
  intro m hm _ hd p s h0 h1
  have hpe:2 ^ (e+1)=2*2 ^ e:=by rw [Nat.pow_succ,Nat.mul_comm]
  have hp1:1≤2 ^ e:=Nat.one_le_two_pow
  have hp2:2 ^ e≤2 ^ 20:=yB (by omega) (by omega)
  have hp3:(2:Nat) ^ 20=1048576:=by decide
  have ih:=fun h1e=>ih (m-1) (by omega) h1e (by omega)
  rw [hpe] at h1 ⊢
  generalize 2 ^ e=q at *
  generalize hq2:2*q=q2 at *
  obtain ⟨Q,hQ⟩:∃ Q:SV × List Ob→Prop,Q=fun out=>∃ t p' s',out=(tmH t 1,[cur l p' s',L4 t])∧(p≤p'∧p'+2≤p+(4*q2:Nat))∧t.nodes+1≤q2:=⟨_,rfl⟩
  suffices hq0:∃ out,E 140 [.ptr 0 0,.int .i64 m] [cur l p s]=some out∧Q out by
   obtain ⟨out,hq1,hq2⟩:=hq0
   rw [hQ] at hq2
   obtain ⟨t,p',s',rfl,hq3⟩:=hq2
   exact ⟨t,p',s',hq1,hq3⟩
  by_cases hm1:m≤1
  ·have q1:(m≤1)=True:=eq_true hm1
   obtain ⟨x,p1,s1,ho,h2,h3⟩:=leaf p s h0 (by omega)
   refine A7 Dd AK (of_decide_eq_true rfl) ?_
   simp (disch:=omega) only [C9,go_sem,Ab,ho,q1,Az]
   rw [hQ]
   exact ⟨.mk x [],p1,s1,rfl,by omega,by rw [n1]; omega⟩
  ·have q1:(m≤1)=False:=eq_false hm1
   have ih:=ih (by omega)
   obtain ⟨b1,p1,s1,hb1,g1,g2⟩:=OL l hl hn 3 (by omega) (by omega) p s h0 (by omega)
   cases b1 with
   | true =>
    obtain ⟨x,p2,s2,ho,h2,h3⟩:=leaf p1 s1 (by omega) (by omega)
    refine A7 Dd AK (of_decide_eq_true rfl) ?_
    simp (disch:=omega) only [C9,go_sem,Ab,q1,hb1,ho,Az,AC]
    rw [hQ]
    exact ⟨.mk x [],p2,s2,rfl,by omega,by rw [n1]; omega⟩
   | false =>
    obtain ⟨b2,p2,s2,hb2,g3,g4⟩:=OL l hl hn 2 (by omega) (by omega) p1 s1 (by omega) (by omega)
    obtain ⟨t3,p3,s3,h3,⟨g5,g6⟩,g7⟩:=ih p2 s2 (by omega) (by omega)
    cases b2 with
    | true =>
     have e1:(Tm.mk ⟨#[102]⟩ [t3]).nodes=1+(t3.nodes+0):=by rw [Tm.nodes_eq]; rfl
     refine A7 Dd AK (of_decide_eq_true rfl) ?_
     simp (disch:=omega) only [C9,go_sem,Ab,q1,hb1,hb2,h3,Az,AC,AK]
     rw [hQ]
     exact ⟨.mk ⟨#[102]⟩ [t3],p3,s3,rfl,by omega,by rw [e1]; omega⟩
    | false =>
     obtain ⟨t4,p4,s4,h4,⟨g8,g9⟩,g10⟩:=ih p3 s3 (by omega) (by omega)
     have e1:(Tm.mk ⟨#[103]⟩ [t3,t4]).nodes=1+(t3.nodes+(t4.nodes+0)):=by rw [Tm.nodes_eq]; rfl
     refine A7 Dd AK (of_decide_eq_true rfl) ?_
     simp (disch:=omega) only [C9,go_sem,Ab,q1,hb1,hb2,h3,h4,Az,AC,AK]
     rw [hQ]
     exact ⟨.mk ⟨#[103]⟩ [t3,t4],p4,s4,rfl,by omega,by rw [e1]; omega⟩
theorem KP (l:List Int) (hl:Bytes l) (hn:l.length≤1099511627776) (p s:Int) (h0:0≤p) (h1:p≤1098000000000):∃ t p' s',E 104 [.ptr 0 0] [cur l p s]=some (tmH t 1,[cur l p' s',L4 t])∧(p≤p'∧p'≤p+40)∧t.nodes≤7:=by
 obtain ⟨v,p1,s1,hv,⟨v0,v1⟩,g1,g2⟩:=EE l hl hn 3 (by omega) (by omega) p s h0 (by omega)
 have hp3:(2:Nat) ^ (1+v).toNat≤2 ^ 3:=yB (by omega) (by omega)
 obtain ⟨t,p2,s2,ht,⟨g3,g4⟩,g5⟩:=PF l hl hn (1+v).toNat (1+v) (by omega) (by omega) (by omega) p1 s1 (by omega) (by omega)
 have hp4:(2:Nat) ^ 3=8:=by decide
 refine ⟨t,p2,s2,?_,by omega,by omega⟩
 have hi:dec (inK .i64 (1+v))=true:=D6 (by omega) (by omega)
 refine Ai Km AI (of_decide_eq_true rfl) ?_
 simp (disch:=omega) only [Gz,go_sem,Ab,hv,ht,hi,Aq,AK]
theorem YV (l:List Int) (hl:Bytes l) (hn:l.length≤1099511627776) (p s:Int) (h0:0≤p) (h1:p≤1097000000000):∃ t p' s',E 139 [.ptr 0 0] [cur l p s]=some (tmH t 1,[cur l p' s',L4 t])∧(p≤p'∧p'≤p+100)∧t.nodes≤15:=by
 obtain ⟨Q,hQ⟩:∃ Q:SV × List Ob→Prop,Q=fun out=>∃ t p' s',out=(tmH t 1,[cur l p' s',L4 t])∧(p≤p'∧p'≤p+100)∧t.nodes≤15:=⟨_,rfl⟩
 suffices hq0:∃ out,E 139 [.ptr 0 0] [cur l p s]=some out∧Q out by
  obtain ⟨out,hq1,hq2⟩:=hq0
  rw [hQ] at hq2
  obtain ⟨t,p',s',rfl,hq3⟩:=hq2
  exact ⟨t,p',s',hq1,hq3⟩
 have hp4:(2:Nat) ^ 2=4:=by decide
 have e1:∀ x a,(Tm.mk x [a]).nodes=1+(a.nodes+0):=fun x a=>by rw [Tm.nodes_eq]; rfl
 have e2:∀ x a b,(Tm.mk x [a,b]).nodes=1+(a.nodes+(b.nodes+0)):=fun x a b=>by rw [Tm.nodes_eq]; rfl
 obtain ⟨v,p1,s1,hv,⟨v0,v1⟩,g1,g2⟩:=EE l hl hn 8 (by omega) (by omega) p s h0 (by omega)
 obtain ⟨ta,p2,s2,ha,⟨a3,a4⟩,a5⟩:=KP l hl hn p1 s1 (by omega) (by omega)
 obtain ⟨tb,p3,s3,hb,⟨b3,b4⟩,b5⟩:=KP l hl hn p2 s2 (by omega) (by omega)
 obtain ⟨tc,p4,s4,hc,⟨c3,c4⟩,c5⟩:=PF l hl hn 2 2 rfl (by omega) (by omega) p1 s1 (by omega) (by omega)
 obtain ⟨td,p5,s5,hd,⟨d3,d4⟩,d5⟩:=PF l hl hn 2 2 rfl (by omega) (by omega) p4 s4 (by omega) (by omega)
 rw [hp4] at c4 c5 d4 d5
 rcases (show v=0∨v=1∨v=2∨v=3∨v=4∨(¬ v=0∧¬ v=1∧¬ v=2∧¬ v=3∧¬ v=4) by omega) with rfl | rfl | rfl | rfl | rfl | ⟨k0,k1,k2,k3,k4⟩
 ·refine A7 Cu Bp (of_decide_eq_true rfl) ?_
  simp (disch:=omega) only [BZ,go_sem,Ab,hv,ha,hb,hc,hd,Aq,AK,AI]
  rw [hQ]
  exact ⟨.mk ⟨#[61]⟩ [ta,tb],p3,s3,rfl,by omega,by rw [e2]; omega⟩
 ·refine A7 Cu Bp (of_decide_eq_true rfl) ?_
  simp (disch:=omega) only [BZ,go_sem,Ab,hv,ha,hb,hc,hd,Aq,AK,AI]
  rw [hQ]
  exact ⟨.mk ⟨#[61]⟩ [ta,tb],p3,s3,rfl,by omega,by rw [e2]; omega⟩
 ·refine A7 Cu Bp (of_decide_eq_true rfl) ?_
  simp (disch:=omega) only [BZ,go_sem,Ab,hv,ha,hb,hc,hd,Aq,AK,AI]
  rw [hQ]
  exact ⟨.mk ⟨#[114]⟩ [],p1,s1,rfl,by omega,by rw [Tm.nodes_eq]; show 1+0≤_; omega⟩
 ·refine A7 Cu Bp (of_decide_eq_true rfl) ?_
  simp (disch:=omega) only [BZ,go_sem,Ab,hv,ha,hb,hc,hd,Aq,AK,AI]
  rw [hQ]
  exact ⟨.mk ⟨#[113]⟩ [tc,td],p5,s5,rfl,by omega,by rw [e2]; omega⟩
 ·refine A7 Cu Bp (of_decide_eq_true rfl) ?_
  simp (disch:=omega) only [BZ,go_sem,Ab,hv,ha,hb,hc,hd,Aq,AK,AI]
  rw [hQ]
  exact ⟨.mk ⟨#[113]⟩ [tc,td],p5,s5,rfl,by omega,by rw [e2]; omega⟩
 ·have k0:=eq_false k0
  have k1:=eq_false k1
  have k2:=eq_false k2
  have k3:=eq_false k3
  have k4:=eq_false k4
  refine A7 Cu Bp (of_decide_eq_true rfl) ?_
  simp (disch:=omega) only [BZ,go_sem,Ab,hv,hc,k0,k1,k2,k3,k4,Aq,AK,AI]
  rw [hQ]
  exact ⟨.mk ⟨#[112]⟩ [tc],p4,s4,rfl,by omega,by rw [e1]; omega⟩
def Ge:SC:=(.seq (.reg [⟨(some 4),none,(.alloc 30 [(.str ⟨#[]⟩),.nil])⟩]) (.seq (.reg [⟨some 6,none,.mv (.t 0)⟩,⟨(some 7),none,(.mkrow 9 1 [(.str ⟨#[]⟩)] 2 [(0,(.c (.str ⟨#[88]⟩))),(1,(.c (.str ⟨#[97]⟩)))])⟩,⟨some 8,none,.call 54 [(.t 6),(.t 7)]⟩,⟨(some 9),none,(.build [(.str ⟨#[]⟩),.nil] [(0,(1,(.t 8)))])⟩,⟨(some 5),none,(.alloc 30 [(.str ⟨#[]⟩),.nil])⟩,⟨none,none,(.store 2 (.t 5) (.t 9))⟩]) (.seq (.block 0 (.loop [0,1,0,0,1,1,0,0,0,0,0,0,0,0,0,0,0,0] (.seq (.seq (.reg [⟨some 10,none,.mv (.t 1)⟩,⟨some 11,none,.bin .gtr false (.t 10) (.c (.int .i64 1))⟩]) (.cond (.t 11) .skip (.exit 0))) (.seq (.block 1 (.reg [⟨some 14,none,.load true 2 (.t 5)⟩,⟨(some 15),none,(.mkrow 30 2 [(.str ⟨#[]⟩),.nil] 1 [(0,(.t 14))])⟩,⟨(some 16),none,(.build [(.str ⟨#[]⟩),.nil] [(0,(1,(.c (.str ⟨#[102]⟩)))),(1,(1,(.t 15)))])⟩,⟨none,none,(.store 2 (.t 5) (.t 16))⟩])) (.reg [⟨some 12,none,.mv (.t 1)⟩,⟨some 13,none,.bin .sub false (.t 12) (.c (.int .i64 1))⟩,⟨some 1,none,.mv (.t 13)⟩]))))) (.seq (.reg [⟨some 17,none,.load true 2 (.t 5)⟩,⟨none,none,(.store 2 (.t 4) (.t 17))⟩]) .ret))))
theorem J4:codeOf Tryz.prog 105=some ⟨18,Ge,[(.cell 4 true 2)]⟩:=by kernel_rfl
theorem B7:modes 105=⟨[],.half [none,some (30,2)],none,false⟩:=by unfold modes; rfl
def G0:SC:=(.seq (.reg [⟨(some 2),none,(.alloc 30 [(.str ⟨#[]⟩),.nil])⟩]) (.seq (.reg [⟨(some 7),none,(.build [(.str ⟨#[]⟩),.nil] [(0,(1,(.c (.str ⟨#[103]⟩))))])⟩,⟨(some 3),none,(.alloc 30 [(.str ⟨#[]⟩),.nil])⟩,⟨none,none,(.store 2 (.t 3) (.t 7))⟩]) (.seq (.seq (.reg [⟨some 4,none,.mv (.c (.int .i64 0))⟩]) (.block 0 (.loop [1,0,1,1,1,0,0,0,0,0,0,0,0,0,0,0,0,0,0,0,0,0,0,0,0,0,0,0,0,0,0,0,0,0,0,0,0,0,0,0,0,0,0,0,0,0,0,0,0,0,0,0,0,0] (.seq (.seq (.reg [⟨some 8,none,.mv (.t 4)⟩,⟨some 9,none,.bin .lss false (.t 8) (.c (.int .i64 4))⟩]) (.cond (.t 9) .skip (.exit 0))) (.seq (.block 1 (.seq (.reg [⟨(some 12),none,(.build [(.str ⟨#[]⟩),.nil] [(0,(1,(.c (.str ⟨#[104]⟩))))])⟩,⟨(some 5),none,(.alloc 30 [(.str ⟨#[]⟩),.nil])⟩,⟨none,none,(.store 2 (.t 5) (.t 12))⟩]) (.seq (.seq (.reg [⟨some 6,none,.mv (.c (.int .i64 0))⟩]) (.block 2 (.loop [1,0,1,1,1,1,1,0,0,0,0,0,0,0,0,0,0,0,0,0,0,0,0,0,0,0,0,0,0,0,0,0,0,0,0,0,0,0,0,0,0,0,0,0,0,0,0,0,0,0,0,0,0,0] (.seq (.seq (.reg [⟨some 13,none,.mv (.t 6)⟩,⟨some 14,none,.bin .lss false (.t 13) (.c (.int .i64 4))⟩]) (.cond (.t 14) .skip (.exit 2))) (.seq (.block 3 (.reg [⟨some 17,none,.faddr 1 (.t 5)⟩,⟨some 18,none,.load false 1 (.t 17)⟩,⟨(some 19),none,(.build [(.str ⟨#[]⟩),.nil] [(0,(1,(.c (.str ⟨#[97]⟩))))])⟩,⟨(some 20),none,(.mkrow 30 2 [(.str ⟨#[]⟩),.nil] 1 [(0,(.t 19))])⟩,⟨(some 21),none,(.build [(.str ⟨#[]⟩),.nil] [(0,(1,(.c (.str ⟨#[102]⟩)))),(1,(1,(.t 20)))])⟩,⟨(some 22),none,(.mkrow 30 2 [(.str ⟨#[]⟩),.nil] 1 [(0,(.t 21))])⟩,⟨(some 23),none,(.append 30 2 40 [(.str ⟨#[]⟩),.nil] (.t 18) (.t 22))⟩,⟨some 24,none,.faddr 1 (.t 5)⟩,⟨none,none,(.store 1 (.t 24) (.t 23))⟩])) (.reg [⟨some 15,none,.mv (.t 6)⟩,⟨some 16,none,.bin .add false (.t 15) (.c (.int .i64 1))⟩,⟨some 6,none,.mv (.t 16)⟩])))))) (.reg [⟨some 25,none,.faddr 1 (.t 3)⟩,⟨some 26,none,.load false 1 (.t 25)⟩,⟨some 27,none,.load true 2 (.t 5)⟩,⟨(some 28),none,(.mkrow 30 2 [(.str ⟨#[]⟩),.nil] 1 [(0,(.t 27))])⟩,⟨(some 29),none,(.append 30 2 40 [(.str ⟨#[]⟩),.nil] (.t 26) (.t 28))⟩,⟨some 30,none,.faddr 1 (.t 3)⟩,⟨none,none,(.store 1 (.t 30) (.t 29))⟩])))) (.reg [⟨some 10,none,.mv (.t 4)⟩,⟨some 11,none,.bin .add false (.t 10) (.c (.int .i64 1))⟩,⟨some 4,none,.mv (.t 11)⟩])))))) (.seq (.seq (.reg [⟨some 31,none,.mv (.t 0)⟩,⟨some 32,none,.call 38 [(.t 31),(.c (.int .i64 2))]⟩]) (.cond (.t 32) (.reg [⟨some 33,none,.faddr 1 (.t 3)⟩,⟨some 34,none,.load false 1 (.t 33)⟩,⟨some 35,none,.slice false 2 (.t 34) none (some (.c (.int .i64 3)))⟩,⟨some 36,none,.faddr 1 (.t 3)⟩,⟨none,none,(.store 1 (.t 36) (.t 35))⟩]) .skip)) (.seq (.seq (.reg [⟨some 37,none,.mv (.t 0)⟩,⟨some 38,none,.call 38 [(.t 37),(.c (.int .i64 2))]⟩,⟨some 39,none,.mv (.t 38)⟩,⟨(some 40),(some (39,true)),(.faddr 1 (.t 3))⟩,⟨(some 41),(some (39,true)),(.load false 1 (.t 40))⟩,⟨(some 42),(some (39,true)),(.len false (.t 41))⟩,⟨(some 43),(some (39,true)),(.bin .eql false (.t 42) (.c (.int .i64 3)))⟩,⟨some 44,none,.pick (.t 39) (.t 43) (.c (.bool false))⟩]) (.cond (.t 44) (.reg [⟨some 45,none,.faddr 1 (.t 3)⟩,⟨some 46,none,.load false 1 (.t 45)⟩,⟨(some 47),none,(.build [(.str ⟨#[]⟩),.nil] [(0,(1,(.c (.str ⟨#[98]⟩))))])⟩,⟨(some 48),none,(.mkrow 30 2 [(.str ⟨#[]⟩),.nil] 1 [(0,(.t 47))])⟩,⟨(some 49),none,(.build [(.str ⟨#[]⟩),.nil] [(0,(1,(.c (.str ⟨#[102]⟩)))),(1,(1,(.t 48)))])⟩,⟨(some 50),none,(.mkrow 30 2 [(.str ⟨#[]⟩),.nil] 1 [(0,(.t 49))])⟩,⟨(some 51),none,(.append 30 2 40 [(.str ⟨#[]⟩),.nil] (.t 46) (.t 50))⟩,⟨some 52,none,.faddr 1 (.t 3)⟩,⟨none,none,(.store 1 (.t 52) (.t 51))⟩]) .skip)) (.seq (.reg [⟨some 53,none,.load true 2 (.t 3)⟩,⟨none,none,(.store 2 (.t 2) (.t 53))⟩]) .ret))))))
theorem Kn:codeOf Tryz.prog 106=some ⟨54,G0,[(.cell 2 true 2)]⟩:=by kernel_rfl
theorem BJ:modes 106=⟨[],.half [none,some (30,2)],none,false⟩:=by unfold modes; rfl
def Br:SC:=(.seq (.reg [⟨(some 2),none,(.alloc 30 [(.str ⟨#[]⟩),.nil])⟩]) (.seq (.reg [⟨some 4,none,.mv (.t 0)⟩,⟨some 5,none,.call 104 [(.t 4)]⟩,⟨(some 3),none,(.alloc 30 [(.str ⟨#[]⟩),.nil])⟩,⟨none,none,(.store 2 (.t 3) (.t 5))⟩]) (.seq (.seq (.reg [⟨some 6,none,.mv (.t 0)⟩,⟨some 7,none,.call 37 [(.t 6),(.c (.int .i64 24))]⟩]) (.block 0 (.seq (.reg [⟨some 9,none,.bin .eql false (.t 7) (.c (.int .i64 0))⟩,⟨some 8,none,.mv (.t 9)⟩]) (.cond (.t 8) (.reg [⟨some 10,none,.mv (.t 0)⟩,⟨(some 11),none,(.mkrow 9 1 [(.str ⟨#[]⟩)] 14 [(0,(.c (.str ⟨#[]⟩))),(1,(.c (.str ⟨#[116,114,117,101]⟩))),(2,(.c (.str ⟨#[116,114,117,116,104]⟩))),(3,(.c (.str ⟨#[105,102]⟩))),(4,(.c (.str ⟨#[88,121,122,57]⟩))),(5,(.c (.str ⟨#[88,121,122,57,57]⟩))),(6,(.c (.str ⟨#[120,65]⟩))),(7,(.c (.str ⟨#[97,95,98]⟩))),(8,(.c (.str ⟨#[97,98,99,100,101,102]⟩))),(9,(.c (.str ⟨#[97,98,99,100,101,102,103]⟩))),(10,(.c (.str ⟨#[95,97]⟩))),(11,(.c (.str ⟨#[57]⟩))),(12,(.c (.str ⟨#[88,95]⟩))),(13,(.c (.str ⟨#[61]⟩)))])⟩,⟨some 12,none,.call 54 [(.t 10),(.t 11)]⟩,⟨some 13,none,.faddr 0 (.t 3)⟩,⟨none,none,(.store 1 (.t 13) (.t 12))⟩]) (.seq (.reg [⟨some 15,none,.bin .eql false (.t 7) (.c (.int .i64 1))⟩,⟨some 14,none,.mv (.t 15)⟩]) (.cond (.t 14) (.seq (.reg [⟨some 16,none,.mv (.t 0)⟩,⟨some 17,none,.mv (.t 0)⟩,⟨some 18,none,.call 37 [(.t 17),(.c (.int .i64 3))]⟩,⟨some 19,none,.bin .add false (.c (.int .i64 7)) (.t 18)⟩,⟨some 20,none,.call 105 [(.t 16),(.t 19)]⟩,⟨none,none,(.store 2 (.t 2) (.t 20))⟩]) .ret) (.seq (.reg [⟨some 22,none,.bin .eql false (.t 7) (.c (.int .i64 2))⟩,⟨some 21,none,.mv (.t 22)⟩]) (.cond (.t 21) (.seq (.reg [⟨some 23,none,.mv (.t 0)⟩,⟨some 24,none,.call 106 [(.t 23)]⟩,⟨none,none,(.store 2 (.t 2) (.t 24))⟩]) .ret) (.seq (.reg [⟨some 26,none,.bin .eql false (.t 7) (.c (.int .i64 3))⟩,⟨some 25,none,.mv (.t 26)⟩]) (.cond (.t 25) (.dreg [[],[0],[],[2],[],[4,3,2],[],[6,5,4,3,2],[3,2,5,4,7,6],[1,0,8,3,2,5,4,7,6],[0,1,2,3,4,5,6,7,8,9],[10,0,1,2,3,4,5,6,7,8,9]] [⟨some 27,none,.faddr 1 (.t 3)⟩,⟨some 28,none,.load false 1 (.t 27)⟩,⟨some 29,none,.mv (.t 0)⟩,⟨some 30,none,.call 104 [(.t 29)]⟩,⟨some 31,none,.mv (.t 0)⟩,⟨some 32,none,.call 104 [(.t 31)]⟩,⟨some 33,none,.mv (.t 0)⟩,⟨some 34,none,.call 104 [(.t 33)]⟩,⟨(some 35),none,(.mkrow 30 2 [(.str ⟨#[]⟩),.nil] 3 [(0,(.t 30)),(1,(.t 32)),(2,(.t 34))])⟩,⟨(some 36),none,(.append 30 2 40 [(.str ⟨#[]⟩),.nil] (.t 28) (.t 35))⟩,⟨some 37,none,.faddr 1 (.t 3)⟩,⟨none,none,(.store 1 (.t 37) (.t 36))⟩]) (.seq (.reg [⟨some 39,none,.bin .eql false (.t 7) (.c (.int .i64 4))⟩,⟨some 38,none,.mv (.t 39)⟩]) (.cond (.t 38) (.seq (.reg [⟨some 40,none,.faddr 1 (.t 3)⟩,⟨some 41,none,.load false 1 (.t 40)⟩,⟨some 42,none,.len false (.t 41)⟩,⟨some 43,none,.bin .gtr false (.t 42) (.c (.int .i64 0))⟩]) (.cond (.t 43) (.dreg [[],[0],[],[],[2,3],[],[5],[6,5],[7,6,5],[8,7,6,5],[4,2,3,9,8,7,6,5],[1,0,2,3,4,5,6,7,8,9,10],[11,1,0,2,3,4,5,6,7,8,9,10]] [⟨some 44,none,.faddr 1 (.t 3)⟩,⟨some 45,none,.load false 1 (.t 44)⟩,⟨some 46,none,.mv (.t 0)⟩,⟨(some 47),none,(.mkrow 9 1 [(.str ⟨#[]⟩)] 4 [(0,(.c (.str ⟨#[61]⟩))),(1,(.c (.str ⟨#[]⟩))),(2,(.c (.str ⟨#[81,49]⟩))),(3,(.c (.str ⟨#[98,50]⟩)))])⟩,⟨some 48,none,.call 54 [(.t 46),(.t 47)]⟩,⟨some 49,none,.faddr 1 (.t 3)⟩,⟨some 50,none,.load false 1 (.t 49)⟩,⟨some 51,none,.iaddr 2 (.t 50) (.c (.int .i64 0))⟩,⟨some 52,none,.faddr 1 (.t 51)⟩,⟨some 53,none,.load false 1 (.t 52)⟩,⟨(some 54),none,(.build [(.str ⟨#[]⟩),.nil] [(0,(1,(.t 48))),(1,(1,(.t 53)))])⟩,⟨some 55,none,.iaddr 2 (.t 45) (.c (.int .i64 0))⟩,⟨none,none,(.store 2 (.t 55) (.t 54))⟩]) .skip)) .skip)))))))))))) (.seq (.reg [⟨some 56,none,.load true 2 (.t 3)⟩,⟨none,none,(.store 2 (.t 2) (.t 56))⟩]) .ret))))
theorem B8:codeOf Tryz.prog 57=some ⟨57,Br,[(.cell 2 true 2)]⟩:=by kernel_rfl
theorem A4:modes 57=⟨[],.half [none,some (30,2)],none,false⟩:=by unfold modes; rfl
def twr (x:ByteArray):Nat→Tm
 | 0=>.mk x []
 | k+1=>.mk ⟨#[102]⟩ [twr x k]
theorem OM (x:ByteArray):∀ k,(twr x k).nodes=k+1
 | 0=>by rw [twr,Tm.nodes_eq]; rfl
 | k+1=>by
  have:(twr x (k+1)).nodes=1+((twr x k).nodes+0):=by rw [twr,Tm.nodes_eq]; rfl
  rw [this,OM x k]; omega
theorem XW (x:ByteArray):[[OT.str x,OT.ow []]]=[Tm.mk x []].map Tm.o:=by rw [zD,zI,Tm.o_eq]; rfl
theorem Z4 (x:ByteArray) (l:List Tm):[[OT.str x,OT.ow (l.map Tm.o)]]=[Tm.mk x l].map Tm.o:=by rw [zD,zI,Tm.o_eq]; rfl
theorem Tm.XL (x:Tm):OT.IN x.o=x.osh:=by
 have:=Tm.Sx [x]
 simp only [zD,zI,OT.C0,List.cons.injEq,and_true] at this
 exact this
theorem Tm.XM (x:Tm):OT.De x.o=true:=by
 have:=Tm.fus [x]
 simp only [zD,zI,OT.AM,yC] at this
 exact this
theorem Tm.Fs (x:Tm):x.o.length=2:=by rw [Tm.o_eq]; rfl
abbrev tZ:Ob:=.box 30 [.str ⟨#[]⟩,.nil]
theorem XN (l:List Int) (hl:Bytes l) (hn:l.length≤1099511627776) (m:Int) (hm:1≤m) (hm2:m≤100) (p s:Int) (h0:0≤p) (h1:p≤1099000000000):∃ t p' s',E 105 [.ptr 0 0,.int .i64 m] [cur l p s]=some (tmH t 1,[cur l p' s',L4 t])∧(p≤p'∧p'≤p+1)∧t.nodes≤150:=by
 obtain ⟨Q,hQ⟩:∃ Q:SV × List Ob→Prop,Q=fun out=>∃ t p' s',out=(tmH t 1,[cur l p' s',L4 t])∧(p≤p'∧p'≤p+1)∧t.nodes≤150:=⟨_,rfl⟩
 suffices hq0:∃ out,E 105 [.ptr 0 0,.int .i64 m] [cur l p s]=some out∧Q out by
  obtain ⟨out,hq1,hq2⟩:=hq0
  rw [hQ] at hq2
  obtain ⟨t,p',s',rfl,hq3⟩:=hq2
  exact ⟨t,p',s',hq1,hq3⟩
 obtain ⟨x,p1,s1,ho,_,g1,g2⟩:=Sw l hl hn [⟨#[88]⟩,⟨#[97]⟩] (by decide) (by decide) p s h0 (by omega)
 simp only [zD,zI] at ho
 refine A7 J4 B7 (of_decide_eq_true rfl) ?_
 simp (disch:=omega) only [Ge,go_sem,Ab,ho,Az]
 refine go_loop (α:=Nat) (fun k=>⟨slots 18 0 [(1,.int .i64 (m-(k:Nat))),(4,.ptr 1 0),(5,.ptr 2 0)],(if k=0 then [cur l p1 s1,tZ,.box 30 [.str x,.nil]] else [cur l p1 s1,tZ,.box 30 [.str ⟨#[102]⟩,.ref 3],.row 30 2 ([twr x (k-1)].map Tm.o)])⟩) (fun k=>(k:Int)≤m-1) (fun k=>(m-k).toNat) 0 (by omega) (by simp (disch:=omega) only [go_sem,Ab,eq_self,if_true,Int.natCast_zero,Int.sub_zero]) ?_
 intro k hk
 by_cases hlt:1<m-(k:Int)
 ·have q1:(1<m-(k:Int))=True:=eq_true hlt
  have hi:dec (inK .i64 (m-(k:Int)-1))=true:=D6 (by omega) (by omega)
  have q4:m-(k:Int)-1=m-((k+1:Nat):Int):=by omega
  have q5:(k+1=0)=False:=by simp
  have q6:k+1-1=k:=by omega
  rcases zR k with hk0 | hk0
  ·subst hk0
   have hs:=XW x
   have q7:m-((0:Nat):Int)-1=m-((0+1:Nat):Int):=by omega
   simp (disch:=omega) only [go_sem,Ab,q1,hi,eq_self,if_true]
   refine ⟨0+1,by omega,by omega,?_⟩
   simp (disch:=omega) only [go_sem,Ab,q5,if_false,q7]
   first | rfl | (rw [hs]; rfl)
  ·obtain ⟨j,rfl⟩:∃ j,k=j+1:=⟨k-1,by omega⟩
   have hs:=Z4 ⟨#[102]⟩ [twr x j]
   have q8:(j+1=0)=False:=by simp
   have q9:j+1-1=j:=by omega
   simp (disch:=omega) only [go_sem,Ab,q1,hi,q8,q9,if_false]
   refine ⟨j+1+1,by omega,by omega,?_⟩
   simp (disch:=omega) only [go_sem,Ab,q5,q6,if_false,q4]
   first | rfl | (rw [hs]; rfl)
 ·have q1:(1<m-(k:Int))=False:=eq_false hlt
  have hnd:=OM x k
  rcases zR k with hk0 | hk0
  ·subst hk0
   simp (disch:=omega) only [go_sem,Ab,q1,eq_self,if_true]
   rw [hQ]
   exact ⟨twr x 0,p1,s1,rfl,by omega,by omega⟩
  ·obtain ⟨j,rfl⟩:∃ j,k=j+1:=⟨k-1,by omega⟩
   have q8:(j+1=0)=False:=by simp
   have q9:j+1-1=j:=by omega
   have hh:=Tm.XL (twr x j)
   have hf:=Tm.XM (twr x j)
   simp (disch:=omega) only [go_sem,Ab,q1,q8,q9,if_false,hh,hf]
   rw [hQ]
   exact ⟨twr x (j+1),p1,s1,rfl,by omega,by omega⟩
def wdF:Tm:=.mk ⟨#[102]⟩ [.mk ⟨#[97]⟩ []]
def wdP:Tm:=.mk ⟨#[104]⟩ (zK 4 wdF)
theorem Ft:[OT.str ⟨#[102]⟩,OT.ow [[OT.str ⟨#[97]⟩,OT.ow []]]]=wdF.o:=by
 rw [wdF,Tm.o_eq]
 show _=[OT.str ⟨#[102]⟩,OT.ow ([Tm.mk ⟨#[97]⟩ []].map Tm.o)]
 rw [←XW]
theorem Fu:[OT.str ⟨#[104]⟩,OT.ow [wdF.o,wdF.o,wdF.o,wdF.o]]=wdP.o:=by rw [wdP,Tm.o_eq]; rfl
theorem Nl {α β:Type} (f:α→β) (x:α) (n:Nat):(zK n x).map f++[f x]=(zK (n+1) x).map f:=by
 rw [List.replicate_succ',yA]; rfl
theorem Ux:wdF.nodes=2:=by rw [wdF,Tm.nodes_eq]; show 1+((Tm.mk _ []).nodes+0)=2; rw [Tm.nodes_eq]; rfl
theorem KQ:wdP.nodes=9:=by
 rw [wdP,Tm.nodes_eq]
 show 1+(wdF.nodes+(wdF.nodes+(wdF.nodes+(wdF.nodes+0))))=9
 rw [Ux]
theorem YW (l:List Int) (hl:Bytes l) (hn:l.length≤1099511627776) (p s:Int) (h0:0≤p) (h1:p≤1099000000000):∃ t p' s',E 106 [.ptr 0 0] [cur l p s]=some (tmH t 1,[cur l p' s',L4 t])∧(p≤p'∧p'≤p+2)∧t.nodes≤150:=by
 obtain ⟨Q,hQ⟩:∃ Q:SV × List Ob→Prop,Q=fun out=>∃ t p' s',out=(tmH t 1,[cur l p' s',L4 t])∧(p≤p'∧p'≤p+2)∧t.nodes≤150:=⟨_,rfl⟩
 suffices hq0:∃ out,E 106 [.ptr 0 0] [cur l p s]=some out∧Q out by
  obtain ⟨out,hq1,hq2⟩:=hq0
  rw [hQ] at hq2
  obtain ⟨t,p',s',rfl,hq3⟩:=hq2
  exact ⟨t,p',s',hq1,hq3⟩
 have h10:((1:Int)=0)=False:=by simp
 refine A7 Kn BJ (of_decide_eq_true rfl) ?_
 simp (disch:=omega) only [G0,go_sem,Ab]
 refine go_loop (α:=Int) (fun i=>⟨slots 54 0 [(0,.ptr 0 0),(2,.ptr 1 0),(3,.ptr 2 0),(4,.int .i64 i)],(if i=0 then [cur l p s,tZ,.box 30 [.str ⟨#[103]⟩,.nil]] else [cur l p s,tZ,.box 30 [.str ⟨#[103]⟩,.ref 3],.row 30 2 ((zK i.toNat wdP).map Tm.o)])⟩) (fun i=>∃ k:Nat,i=k∧k≤4) (fun i=>(4-i).toNat) 0 ⟨0,rfl,by omega⟩ (by simp (disch:=omega) only [go_sem,Ab,eq_self,if_true]) ?_
 rintro i ⟨k,hi,hk⟩
 have hni:i.toNat=k:=by omega
 have hni1:(i+1).toNat=k+1:=by omega
 rcases zF k 4 with hlt | hge
 ·have q1:(i<4)=True:=eq_true (by omega)
  have hi1:(i+1=0)=False:=by simp; omega
  have hsP:=Nl Tm.o wdP k
  rcases zR k with hk0 | hk0
  ·subst hk0
   obtain rfl:i=0:=hi
   simp (disch:=omega) only [go_sem,Ab,q1,eq_self,if_true,Ft,Fu,zE,Tm.Fs]
   refine go_loop (α:=Int) (fun j=>⟨slots 54 0 [(0,.ptr 0 0),(2,.ptr 1 0),(3,.ptr 2 0),(4,.int .i64 0),(5,.ptr 3 0),(6,.int .i64 j)],(if (0:Int)=0 then (if j=0 then [cur l p s,tZ,.box 30 [.str ⟨#[103]⟩,.nil],.box 30 [.str ⟨#[104]⟩,.nil]] else [cur l p s,tZ,.box 30 [.str ⟨#[103]⟩,.nil],.box 30 [.str ⟨#[104]⟩,.ref 4],.row 30 2 ((zK j.toNat wdF).map Tm.o)]) else (if j=0 then [cur l p s,tZ,.box 30 [.str ⟨#[103]⟩,.ref 4],.box 30 [.str ⟨#[104]⟩,.nil],.row 30 2 ((zK (0:Int).toNat wdP).map Tm.o)] else [cur l p s,tZ,.box 30 [.str ⟨#[103]⟩,.ref 4],.box 30 [.str ⟨#[104]⟩,.ref 5],.row 30 2 ((zK (0:Int).toNat wdP).map Tm.o),.row 30 2 ((zK j.toNat wdF).map Tm.o)]))⟩) (fun j=>∃ k:Nat,j=k∧k≤4) (fun j=>(4-j).toNat) 0 ⟨0,rfl,by omega⟩ (by simp (disch:=omega) only [go_sem,Ab,eq_self,if_true,Ft,Fu,zE,Tm.Fs]) ?_
   rintro j ⟨n,hj,hn4⟩
   have hnj:j.toNat=n:=by omega
   have hnj1:(j+1).toNat=n+1:=by omega
   have hj1:(j+1=0)=False:=by simp; omega
   rcases zF n 4 with hlt2 | hge2
   ·have q2:(j<4)=True:=eq_true (by omega)
    have hsF:=Nl Tm.o wdF n
    rcases zR n with hn0 | hn0
    ·subst hn0
     obtain rfl:j=0:=hj
     simp (disch:=omega) only [go_sem,Ab,q2,eq_self,if_true,Ft,Fu,zE,Tm.Fs]
     refine ⟨1,⟨1,rfl,by omega⟩,by omega,?_⟩
     simp (disch:=omega) only [go_sem,Ab,eq_self,if_true,h10,if_false,Ft,Fu,zE,Tm.Fs]
    ·have hj0:(j=0)=False:=by simp; omega
     simp (disch:=omega) only [go_sem,Ab,q2,eq_self,if_true,hj0,if_false,hnj,Ft,Fu,zE,Tm.Fs]
     refine ⟨j+1,⟨n+1,by omega,by omega⟩,by omega,?_⟩
     simp (disch:=omega) only [go_sem,Ab,eq_self,if_true,hj1,if_false,hnj,hnj1,hsF,Ft,Fu,zE,Tm.Fs]
   ·obtain rfl:n=4:=by omega
    have hj4:j=4:=hj
    subst hj4
    have q2:((4:Int)=0)=False:=by simp
    simp (disch:=omega) only [go_sem,Ab,q2,eq_self,if_true,if_false,Ft,Fu,zE,Tm.Fs]
    refine ⟨1,⟨1,rfl,by omega⟩,by omega,?_⟩
    simp (disch:=omega) only [go_sem,Ab,h10,if_false,Ft,Fu,zE,Tm.Fs]
  ·have hi0:(i=0)=False:=by simp; omega
   simp (disch:=omega) only [go_sem,Ab,q1,hi0,if_false,Ft,Fu,zE,Tm.Fs]
   refine go_loop (α:=Int) (fun j=>⟨slots 54 0 [(0,.ptr 0 0),(2,.ptr 1 0),(3,.ptr 2 0),(4,.int .i64 i),(5,.ptr 3 0),(6,.int .i64 j)],(if i=0 then (if j=0 then [cur l p s,tZ,.box 30 [.str ⟨#[103]⟩,.nil],.box 30 [.str ⟨#[104]⟩,.nil]] else [cur l p s,tZ,.box 30 [.str ⟨#[103]⟩,.nil],.box 30 [.str ⟨#[104]⟩,.ref 4],.row 30 2 ((zK j.toNat wdF).map Tm.o)]) else (if j=0 then [cur l p s,tZ,.box 30 [.str ⟨#[103]⟩,.ref 4],.box 30 [.str ⟨#[104]⟩,.nil],.row 30 2 ((zK i.toNat wdP).map Tm.o)] else [cur l p s,tZ,.box 30 [.str ⟨#[103]⟩,.ref 4],.box 30 [.str ⟨#[104]⟩,.ref 5],.row 30 2 ((zK i.toNat wdP).map Tm.o),.row 30 2 ((zK j.toNat wdF).map Tm.o)]))⟩) (fun j=>∃ k:Nat,j=k∧k≤4) (fun j=>(4-j).toNat) 0 ⟨0,rfl,by omega⟩ (by simp (disch:=omega) only [go_sem,Ab,hi0,if_false,eq_self,if_true,Ft,Fu,zE,Tm.Fs]) ?_
   rintro j ⟨n,hj,hn4⟩
   have hnj:j.toNat=n:=by omega
   have hnj1:(j+1).toNat=n+1:=by omega
   have hj1:(j+1=0)=False:=by simp; omega
   rcases zF n 4 with hlt2 | hge2
   ·have q2:(j<4)=True:=eq_true (by omega)
    have hsF:=Nl Tm.o wdF n
    rcases zR n with hn0 | hn0
    ·subst hn0
     obtain rfl:j=0:=hj
     simp (disch:=omega) only [go_sem,Ab,q2,hi0,if_false,eq_self,if_true,Ft,Fu,zE,Tm.Fs]
     refine ⟨1,⟨1,rfl,by omega⟩,by omega,?_⟩
     simp (disch:=omega) only [go_sem,Ab,hi0,h10,if_false,Ft,Fu,zE,Tm.Fs]
    ·have hj0:(j=0)=False:=by simp; omega
     simp (disch:=omega) only [go_sem,Ab,q2,hi0,hj0,if_false,hnj,Ft,Fu,zE,Tm.Fs]
     refine ⟨j+1,⟨n+1,by omega,by omega⟩,by omega,?_⟩
     simp (disch:=omega) only [go_sem,Ab,hi0,hj1,if_false,hnj,hnj1,hsF,Ft,Fu,zE,Tm.Fs]
   ·obtain rfl:n=4:=by omega
    have hj4:j=4:=hj
    subst hj4
    have q2:((4:Int)=0)=False:=by simp
    simp (disch:=omega) only [go_sem,Ab,q2,hi0,if_false,hni,Ft,Fu,zE,Tm.Fs]
    refine ⟨i+1,⟨k+1,by omega,by omega⟩,by omega,?_⟩
    simp (disch:=omega) only [go_sem,Ab,hi1,if_false,hni1,hsP,Ft,Fu,zE,Tm.Fs]
 ·obtain rfl:k=4:=by omega
  have hi4:i=4:=hi
  subst hi4
  have q2:((4:Int)=0)=False:=by simp
  obtain ⟨b1,p1,s1,hb1,g1,g2⟩:=OL l hl hn 2 (by omega) (by omega) p s h0 (by omega)
  obtain ⟨b2,p2,s2,hb2,g3,g4⟩:=OL l hl hn 2 (by omega) (by omega) p1 s1 (by omega) (by omega)
  have n4:(Tm.mk ⟨#[103]⟩ (zK 4 wdP)).nodes=37:=by
   rw [Tm.nodes_eq]
   show 1+(wdP.nodes+(wdP.nodes+(wdP.nodes+(wdP.nodes+0))))=37
   rw [KQ]
  have n3:(Tm.mk ⟨#[103]⟩ (zK 3 wdP)).nodes=28:=by
   rw [Tm.nodes_eq]
   show 1+(wdP.nodes+(wdP.nodes+(wdP.nodes+0)))=28
   rw [KQ]
  have n5:(Tm.mk ⟨#[103]⟩ (zK 3 wdP++[.mk ⟨#[102]⟩ [.mk ⟨#[98]⟩ []]])).nodes=30:=by
   rw [Tm.nodes_eq]
   show 1+(wdP.nodes+(wdP.nodes+(wdP.nodes+((Tm.mk _ [.mk _ []]).nodes+0))))=30
   rw [KQ,Tm.nodes_eq]
   show 1+(9+(9+(9+(1+((Tm.mk _ []).nodes+0)+0))))=30
   rw [Tm.nodes_eq]; rfl
  cases b1 <;> cases b2
  ·simp (disch:=omega) only [go_sem,Ab,q2,if_false,hb1,hb2,AC]
   rw [hQ]
   exact ⟨.mk ⟨#[103]⟩ (zK 4 wdP),p2,s2,rfl,by omega,by omega⟩
  ·simp (disch:=omega) only [go_sem,Ab,q2,if_false,hb1,hb2,AC]
   rw [hQ]
   exact ⟨.mk ⟨#[103]⟩ (zK 4 wdP),p2,s2,rfl,by omega,by omega⟩
  ·simp (disch:=omega) only [go_sem,Ab,q2,if_false,hb1,hb2,AC]
   rw [hQ]
   exact ⟨.mk ⟨#[103]⟩ (zK 3 wdP),p2,s2,rfl,by omega,by omega⟩
  ·simp (disch:=omega) only [go_sem,Ab,q2,if_false,hb1,hb2,AC]
   rw [hQ]
   exact ⟨.mk ⟨#[103]⟩ (zK 3 wdP++[.mk ⟨#[102]⟩ [.mk ⟨#[98]⟩ []]]),p2,s2,rfl,by omega,by omega⟩
theorem Tm.Ko (x:ByteArray) (l:List Tm):(Tm.mk x l).nodes=1+Tm.nodeS l:=Tm.nodes_eq _
theorem Tm.nodeS_app:∀ (a b:List Tm),Tm.nodeS (a++b)=Tm.nodeS a+Tm.nodeS b
 | [],b=>by simp [Tm.nodeS]
 | x :: a,b=>by simp only [zX,Tm.nodeS,Tm.nodeS_app a b]; omega
theorem Tm.YX (a b c:Tm):Tm.nodeS [a,b,c]=a.nodes+(b.nodes+(c.nodes+0)):=rfl
theorem Tm.Wt (t:Tm):t.args.length+1≤t.nodes:=by
 rw [Tm.nodes_eq]
 have:=Tm.length_le t.args
 omega
theorem Uy (l:List Int) (hl:Bytes l) (hn:l.length≤1099511627776) (p s:Int) (h0:0≤p) (h1:p≤1096000000000):∃ t p' s',E 57 [.ptr 0 0] [cur l p s]=some (tmH t 1,[cur l p' s',L4 t])∧(p≤p'∧p'≤p+400)∧t.nodes≤150:=by
 obtain ⟨Q,hQ⟩:∃ Q:SV × List Ob→Prop,Q=fun out=>∃ t p' s',out=(tmH t 1,[cur l p' s',L4 t])∧(p≤p'∧p'≤p+400)∧t.nodes≤150:=⟨_,rfl⟩
 suffices hq0:∃ out,E 57 [.ptr 0 0] [cur l p s]=some out∧Q out by
  obtain ⟨out,hq1,hq2⟩:=hq0
  rw [hQ] at hq2
  obtain ⟨t,p',s',rfl,hq3⟩:=hq2
  exact ⟨t,p',s',hq1,hq3⟩
 obtain ⟨t,p1,s1,ht,⟨g1,g2⟩,g3⟩:=KP l hl hn p s h0 (by omega)
 obtain ⟨v,p2,s2,hv,⟨v0,v1⟩,g4,g5⟩:=EE l hl hn 24 (by omega) (by omega) p1 s1 (by omega) (by omega)
 have hal:=Tm.Wt t
 rcases (show v=0∨v=1∨v=2∨v=3∨v=4∨(¬ v=0∧¬ v=1∧¬ v=2∧¬ v=3∧¬ v=4) by omega) with rfl | rfl | rfl | rfl | rfl | ⟨k0,k1,k2,k3,k4⟩
 ·obtain ⟨x,p3,s3,ho,_,g6,g7⟩:=Sw l hl hn [⟨#[]⟩,⟨#[116,114,117,101]⟩,⟨#[116,114,117,116,104]⟩,⟨#[105,102]⟩,⟨#[88,121,122,57]⟩,⟨#[88,121,122,57,57]⟩,⟨#[120,65]⟩,⟨#[97,95,98]⟩,⟨#[97,98,99,100,101,102]⟩,⟨#[97,98,99,100,101,102,103]⟩,⟨#[95,97]⟩,⟨#[57]⟩,⟨#[88,95]⟩,⟨#[61]⟩] (by decide) (by decide) p2 s2 (by omega) (by omega)
  simp only [zD,zI] at ho
  refine A7 B8 A4 (of_decide_eq_true rfl) ?_
  simp (disch:=omega) only [Br,go_sem,Ab,ht,hv,ho,Aq,AI,Az,B7,BJ]
  rw [hQ]
  exact ⟨.mk x t.args,p3,s3,rfl,by omega,by rw [Tm.Ko]; have:=Tm.nodes_eq t; omega⟩
 ·obtain ⟨u,p3,s3,hu,⟨u0,u1⟩,g6,g7⟩:=EE l hl hn 3 (by omega) (by omega) p2 s2 (by omega) (by omega)
  have hi:dec (inK .i64 (7+u))=true:=D6 (by omega) (by omega)
  obtain ⟨t2,p4,s4,ho,⟨g8,g9⟩,g10⟩:=XN l hl hn (7+u) (by omega) (by omega) p3 s3 (by omega) (by omega)
  refine A7 B8 A4 (of_decide_eq_true rfl) ?_
  simp (disch:=omega) only [Br,go_sem,Ab,ht,hv,hu,hi,ho,Aq,AI,Az,B7,BJ]
  rw [hQ]
  exact ⟨t2,p4,s4,rfl,by omega,g10⟩
 ·obtain ⟨t2,p3,s3,ho,⟨g8,g9⟩,g10⟩:=YW l hl hn p2 s2 (by omega) (by omega)
  refine A7 B8 A4 (of_decide_eq_true rfl) ?_
  simp (disch:=omega) only [Br,go_sem,Ab,ht,hv,ho,Aq,AI,Az,B7,BJ]
  rw [hQ]
  exact ⟨t2,p3,s3,rfl,by omega,g10⟩
 ·obtain ⟨t2,p3,s3,hu,⟨a1,a2⟩,a3⟩:=KP l hl hn p2 s2 (by omega) (by omega)
  obtain ⟨t3,p4,s4,hw,⟨b1,b2⟩,b3⟩:=KP l hl hn p3 s3 (by omega) (by omega)
  obtain ⟨t4,p5,s5,hx,⟨c1,c2⟩,c3⟩:=KP l hl hn p4 s4 (by omega) (by omega)
  refine A7 B8 A4 (of_decide_eq_true rfl) ?_
  simp (disch:=omega) only [Br,go_sem,Ab,ht,hv,hu,hw,hx,Aq,AI,Az,B7,BJ]
  rw [hQ]
  refine ⟨.mk t.name (t.args++[t2,t3,t4]),p5,s5,?_,by omega,by rw [Tm.Ko,Tm.nodeS_app,Tm.YX]; have:=Tm.nodes_eq t; omega⟩
  show _=(tmH (.mk t.name (t.args++[t2,t3,t4])) 1,[cur l p5 s5,.row 30 2 ((t.args++[t2,t3,t4]).map Tm.osh)])
  rw [yA]
  rfl
 ·rcases hc:t.args with _ | ⟨a0,ar⟩
  ·have q0:((0:Int)<(t.args.length:Int))=False:=eq_false (by rw [hc]; simp)
   rw [←hc] at *
   refine A7 B8 A4 (of_decide_eq_true rfl) ?_
   simp (disch:=omega) only [Br,go_sem,Ab,ht,hv,q0,Aq,AI,Az,B7,BJ]
   rw [hQ]
   exact ⟨t,p2,s2,rfl,by omega,by omega⟩
  ·have q0:((0:Int)<(t.args.length:Int))=True:=eq_true (by rw [hc]; simp)
   obtain ⟨x,p3,s3,ho,_,g6,g7⟩:=Sw l hl hn [⟨#[61]⟩,⟨#[]⟩,⟨#[81,49]⟩,⟨#[98,50]⟩] (by decide) (by decide) p2 s2 (by omega) (by omega)
   simp only [zD,zI] at ho
   have hm:t.args.map Tm.osh=[.str a0.name,.sh (a0.args.map Tm.d)] :: ar.map Tm.osh:=by rw [hc]; rfl
   have hgl:(t.args.map Tm.osh)[0]?=some [.str a0.name,.sh (a0.args.map Tm.d)]:=by rw [hm]; rfl
   have hst:∀ y,(t.args.map Tm.osh).set 0 y=y :: ar.map Tm.osh:=fun y=>by rw [hm]; rfl
   have q1:0<t.args.length:=by rw [hc]; simp
   have hnn:t.nodes=1+(a0.nodes+Tm.nodeS ar):=by rw [Tm.nodes_eq,hc]; rfl
   refine A7 B8 A4 (of_decide_eq_true rfl) ?_
   simp (disch:=omega) only [Br,go_sem,Ab,ht,hv,q0,ho,hgl,hst,q1,Aq,AI,Az,B7,BJ]
   rw [hQ]
   refine ⟨.mk t.name (.mk x a0.args :: ar),p3,s3,?_,by omega,?_⟩
   ·rfl
   ·rw [Tm.Ko]
    show 1+((Tm.mk x a0.args).nodes+Tm.nodeS ar)≤_
    rw [Tm.Ko]
    have:=Tm.nodes_eq a0
    omega
 ·have k0:=eq_false k0
  have k1:=eq_false k1
  have k2:=eq_false k2
  have k3:=eq_false k3
  have k4:=eq_false k4
  refine A7 B8 A4 (of_decide_eq_true rfl) ?_
  simp (disch:=omega) only [Br,go_sem,Ab,ht,hv,k0,k1,k2,k3,k4,Aq,AI,Az,B7,BJ]
  rw [hQ]
  exact ⟨t,p2,s2,rfl,by omega,by omega⟩
def Bt:SC:=(.seq (.reg [⟨(some 4),none,(.alloc 33 [(.int .i64 0),(.str ⟨#[]⟩),.nil,(.str ⟨#[]⟩),.nil])⟩]) (.seq (.seq (.reg [⟨some 6,none,.mv (.t 1)⟩,⟨some 7,none,.bin .leq false (.t 6) (.c (.int .i64 1))⟩,⟨some 8,none,.mv (.t 7)⟩,⟨(some 9),(some (8,false)),(.mv (.t 0))⟩,⟨(some 10),(some (8,false)),(.call 38 [(.t 9),(.c (.int .i64 4))])⟩,⟨some 11,none,.pick (.t 8) (.c (.bool true)) (.t 10)⟩]) (.cond (.t 11) (.seq (.seq (.reg [⟨some 12,none,.mv (.t 0)⟩,⟨some 13,none,.call 38 [(.t 12),(.c (.int .i64 16))]⟩]) (.cond (.t 13) (.seq (.reg [⟨some 14,none,.mv (.t 0)⟩,⟨some 15,none,.call 37 [(.t 14),(.c (.int .i64 2))]⟩,⟨some 16,none,.bin .add false (.c (.int .i64 1)) (.t 15)⟩,⟨(some 17),none,(.build [(.int .i64 0),(.str ⟨#[]⟩),.nil,(.str ⟨#[]⟩),.nil] [(0,(1,(.t 16)))])⟩,⟨none,none,(.store 5 (.t 4) (.t 17))⟩]) .ret) .skip)) (.seq (.reg [⟨some 18,none,.mv (.t 0)⟩,⟨some 19,none,.call 139 [(.t 18)]⟩,⟨(some 20),none,(.build [(.int .i64 0),(.str ⟨#[]⟩),.nil,(.str ⟨#[]⟩),.nil] [(0,(1,(.c (.int .i64 3)))),(1,(2,(.t 19)))])⟩,⟨none,none,(.store 5 (.t 4) (.t 20))⟩]) .ret)) .skip)) (.seq (.reg [⟨some 21,none,.mv (.t 0)⟩,⟨some 22,none,.mkrow 3 1 [(.int .i64 0)] 10 [(0,(.c (.int .i64 4))),(1,(.c (.int .i64 5))),(2,(.c (.int .i64 6))),(3,(.c (.int .i64 7))),(4,(.c (.int .i64 8))),(5,(.c (.int .i64 9))),(6,(.c (.int .i64 8))),(7,(.c (.int .i64 9))),(8,(.c (.int .i64 5))),(9,(.c (.int .i64 7)))]⟩,⟨some 23,none,.call 53 [(.t 21),(.t 22)]⟩,⟨some 5,none,.mv (.t 23)⟩]) (.seq (.seq (.reg [⟨some 24,none,.mv (.t 5)⟩,⟨some 25,none,.bin .eql false (.t 24) (.c (.int .i64 4))⟩]) (.cond (.t 25) (.seq (.reg [⟨some 26,none,.mv (.t 5)⟩,⟨some 27,none,.mv (.t 0)⟩,⟨some 28,none,.mv (.t 1)⟩,⟨some 29,none,.bin .sub false (.t 28) (.c (.int .i64 1))⟩,⟨some 30,none,.call 103 [(.t 27),(.t 29)]⟩,⟨(some 31),none,(.mkrow 33 5 [(.int .i64 0),(.str ⟨#[]⟩),.nil,(.str ⟨#[]⟩),.nil] 1 [(0,(.t 30))])⟩,⟨(some 32),none,(.build [(.int .i64 0),(.str ⟨#[]⟩),.nil,(.str ⟨#[]⟩),.nil] [(0,(1,(.t 26))),(4,(1,(.t 31)))])⟩,⟨none,none,(.store 5 (.t 4) (.t 32))⟩]) .ret) .skip)) (.seq (.seq (.reg [⟨some 33,none,.mv (.t 5)⟩,⟨some 34,none,.bin .eql false (.t 33) (.c (.int .i64 8))⟩,⟨some 35,none,.mv (.t 34)⟩,⟨(some 36),(some (35,false)),(.mv (.t 5))⟩,⟨(some 37),(some (35,false)),(.bin .eql false (.t 36) (.c (.int .i64 9)))⟩,⟨some 38,none,.pick (.t 35) (.c (.bool true)) (.t 37)⟩]) (.cond (.t 38) (.seq (.reg [⟨some 39,none,.mv (.t 5)⟩,⟨some 40,none,.mv (.t 0)⟩,⟨(some 41),none,(.mkrow 9 1 [(.str ⟨#[]⟩)] 4 [(0,(.c (.str ⟨#[88]⟩))),(1,(.c (.str ⟨#[89]⟩))),(2,(.c (.str ⟨#[90]⟩))),(3,(.c (.str ⟨#[88]⟩)))])⟩,⟨some 42,none,.call 54 [(.t 40),(.t 41)]⟩,⟨some 43,none,.mv (.t 0)⟩,⟨some 44,none,.mv (.t 1)⟩,⟨some 45,none,.bin .sub false (.t 44) (.c (.int .i64 1))⟩,⟨some 46,none,.call 103 [(.t 43),(.t 45)]⟩,⟨(some 47),none,(.mkrow 33 5 [(.int .i64 0),(.str ⟨#[]⟩),.nil,(.str ⟨#[]⟩),.nil] 1 [(0,(.t 46))])⟩,⟨(some 48),none,(.build [(.int .i64 0),(.str ⟨#[]⟩),.nil,(.str ⟨#[]⟩),.nil] [(0,(1,(.t 39))),(3,(1,(.t 42))),(4,(1,(.t 47)))])⟩,⟨none,none,(.store 5 (.t 4) (.t 48))⟩]) .ret) .skip)) (.seq (.reg [⟨some 49,none,.mv (.t 5)⟩,⟨some 50,none,.mv (.t 0)⟩,⟨some 51,none,.mv (.t 1)⟩,⟨some 52,none,.bin .sub false (.t 51) (.c (.int .i64 1))⟩,⟨some 53,none,.call 103 [(.t 50),(.t 52)]⟩,⟨some 54,none,.mv (.t 0)⟩,⟨some 55,none,.mv (.t 1)⟩,⟨some 56,none,.bin .sub false (.t 55) (.c (.int .i64 1))⟩,⟨some 57,none,.call 103 [(.t 54),(.t 56)]⟩,⟨(some 58),none,(.mkrow 33 5 [(.int .i64 0),(.str ⟨#[]⟩),.nil,(.str ⟨#[]⟩),.nil] 2 [(0,(.t 53)),(1,(.t 57))])⟩,⟨(some 59),none,(.build [(.int .i64 0),(.str ⟨#[]⟩),.nil,(.str ⟨#[]⟩),.nil] [(0,(1,(.t 49))),(4,(1,(.t 58)))])⟩,⟨none,none,(.store 5 (.t 4) (.t 59))⟩]) .ret))))))
theorem B9:codeOf Tryz.prog 103=some ⟨60,Bt,[(.cell 4 true 5)]⟩:=by kernel_rfl
theorem AL:modes 103=⟨[],.half [none,none,some (30,2),none,some (33,5)],none,false⟩:=by unfold modes; rfl
def Fa:SC:=(.seq (.reg [⟨(some 2),none,(.alloc 33 [(.int .i64 0),(.str ⟨#[]⟩),.nil,(.str ⟨#[]⟩),.nil])⟩]) (.seq (.reg [⟨some 3,none,.mv (.t 0)⟩,⟨some 4,none,.mv (.t 0)⟩,⟨some 5,none,.call 37 [(.t 4),(.c (.int .i64 4))]⟩,⟨some 6,none,.bin .add false (.c (.int .i64 1)) (.t 5)⟩,⟨some 7,none,.call 103 [(.t 3),(.t 6)]⟩,⟨none,none,(.store 5 (.t 2) (.t 7))⟩]) .ret))
theorem Iu:codeOf Tryz.prog 56=some ⟨8,Fa,[(.cell 2 true 5)]⟩:=by kernel_rfl
theorem Bh:modes 56=⟨[],.half [none,none,some (30,2),none,some (33,5)],none,false⟩:=by unfold modes; rfl
def Fm.hs (x:Fm):List OT:=[.int x.op,.str x.atom.name,.sh (x.atom.args.map Tm.d),.str x.var,.sh (x.parts.map Fm.d)]
theorem Fm.PG:∀ xs:List Fm,OT.AM (xs.map Fm.hs)=true
 | []=>rfl
 | x :: xs=>by simp only [zD,OT.AM,Fm.hs,OT.De,OT.full,Fm.PG xs,Bool.and_self]
theorem Fm.Wu:∀ xs:List Fm,OT.erss (xs.map Fm.hs)=xs.map Fm.d
 | []=>rfl
 | x :: xs=>by simp only [zD,OT.erss,Fm.hs,OT.ers,OT.er,Fm.Wu xs,Fm.d_eq]
theorem Fm.Ts:∀ xs:List Fm,OT.C0 (xs.map Fm.hs)=xs.map Fm.hs
 | []=>rfl
 | x :: xs=>by simp only [zD,OT.C0,Fm.hs,OT.IN,OT.half,Fm.Ts xs]
attribute [go_sem] Fm.PG Fm.Wu Fm.Ts
abbrev fmH (x:Fm) (g h:Nat):SV:=.agg [.int .i64 x.op,.str x.atom.name,.ref g,.str x.var,.ref h]
abbrev Sy (x:Fm):Ob:=.row 30 2 (x.atom.args.map Tm.osh)
abbrev Uz (x:Fm):Ob:=.row 33 5 (x.parts.map Fm.hs)
theorem Fm.Ci (op:Int) (a:Tm) (v:ByteArray) (l:List Fm):(Fm.mk op a v l).nodes=1+Fm.nodeS l:=Fm.nodes_eq _
theorem Fm.DY (op:Int) (a:Tm) (v:ByteArray) (l:List Fm):(Fm.mk op a v l).vn=a.nodes+Fm.vnS l:=Fm.HC _
theorem Fm.CA {op:Int} {a:Tm} {v:ByteArray} {l:List Fm} (h1:a.nodes≤1099511627776) (h2:Fm.BQ l):(Fm.mk op a v l).tame:=by rw [Fm.DR]; exact ⟨h1,h2⟩
theorem Fm.Nm {a:Fm} (h:a.tame):Fm.BQ [a]:=by simp only [Fm.BQ]; exact ⟨h,trivial⟩
theorem Fm.YY {a b:Fm} (h:a.tame) (k:b.tame):Fm.BQ [a,b]:=by simp only [Fm.BQ]; exact ⟨h,k,trivial⟩
theorem Ca:Tm.zero.nodes=1:=by rw [Tm.nodes_eq]; rfl
theorem XO (l:List Int) (hl:Bytes l) (hn:l.length≤1099511627776):∀ (d:Nat) (m:Int),m=d→1≤d→d≤20→∀ p s:Int,0≤p→p+(120*2 ^ d:Nat)≤1080000000000→∃ x p' s',E 103 [.ptr 0 0,.int .i64 m] [cur l p s]=some (fmH x 1 2,[cur l p' s',Sy x,Uz x])∧(p≤p'∧p'+10≤p+(120*2 ^ d:Nat))∧x.nodes+1≤2*2 ^ d∧x.tame∧x.vn+1≤8*2 ^ d:=by
 intro d
 have base:∀ (p1 s1:Int),0≤p1→p1≤1090000000000→∃ b2 p2 s2,E 38 [.ptr 0 0,.int .i64 16] [cur l p1 s1]=some (.bool b2,[cur l p2 s2])∧(p1≤p2∧p2≤p1+1)∧(∃ v p3 s3,E 37 [.ptr 0 0,.int .i64 2] [cur l p2 s2]=some (.int .i64 v,[cur l p3 s3])∧(0≤v∧v<2)∧p2≤p3∧p3≤p2+1)∧∃ t p4 s4,E 139 [.ptr 0 0] [cur l p2 s2]=some (tmH t 1,[cur l p4 s4,L4 t])∧(p2≤p4∧p4≤p2+100)∧t.nodes≤15:=fun p1 s1 a b=>by
  obtain ⟨b2,p2,s2,h1,h2,h3⟩:=OL l hl hn 16 (by omega) (by omega) p1 s1 a (by omega)
  exact ⟨b2,p2,s2,h1,⟨h2,h3⟩,EE l hl hn 2 (by omega) (by omega) p2 s2 (by omega) (by omega),YV l hl hn p2 s2 (by omega) (by omega)⟩
 induction d with
 | zero=>exact fun _ _ h=>absurd h (by omega)
 | succ e ih =>
  intro m hm _ hd p s h0 h1
  have hpe:2 ^ (e+1)=2*2 ^ e:=by rw [Nat.pow_succ,Nat.mul_comm]
  have hp1:1≤2 ^ e:=Nat.one_le_two_pow
  have hp2:2 ^ e≤2 ^ 20:=yB (by omega) (by omega)
  have hp3:(2:Nat) ^ 20=1048576:=by decide
  have ih:=fun h1e=>ih (m-1) (by omega) h1e (by omega)
  rw [hpe] at h1 ⊢
  generalize 2 ^ e=q at *
  generalize hq2:2*q=q2 at *
  obtain ⟨Q,hQ⟩:∃ Q:SV × List Ob→Prop,Q=fun out=>∃ x p' s',out=(fmH x 1 2,[cur l p' s',Sy x,Uz x])∧(p≤p'∧p'+10≤p+(120*q2:Nat))∧x.nodes+1≤2*q2∧x.tame∧x.vn+1≤8*q2:=⟨_,rfl⟩
  suffices hq0:∃ out,E 103 [.ptr 0 0,.int .i64 m] [cur l p s]=some out∧Q out by
   obtain ⟨out,hq1,hq2⟩:=hq0
   rw [hQ] at hq2
   obtain ⟨x,p',s',rfl,hq3⟩:=hq2
   exact ⟨x,p',s',hq1,hq3⟩
  by_cases hm1:m≤1
  ·have q1:(m≤1)=True:=eq_true hm1
   obtain ⟨b2,p2,s2,hb2,⟨g3,g4⟩,⟨v,p3,s3,hv,⟨v0,v1⟩,g5,g6⟩,t,p4,s4,ht,⟨g7,g8⟩,g9⟩:=base p s (by omega) (by omega)
   cases b2 with
   | true =>
    have hi:dec (inK .i64 (1+v))=true:=D6 (by omega) (by omega)
    refine A7 B9 AL (of_decide_eq_true rfl) ?_
    simp (disch:=omega) only [Bt,go_sem,Ab,q1,hb2,hv,hi,AC,Aq,Bp]
    rw [hQ]
    exact ⟨.mk (1+v) Tm.zero ⟨#[]⟩ [],p3,s3,rfl,by omega,by rw [Fm.Ci]; show 1+0+1≤_; omega,Fm.CA (by rw [Ca]; omega) trivial,by rw [Fm.DY,Ca]; show 1+0+1≤_; omega⟩
   | false =>
    refine A7 B9 AL (of_decide_eq_true rfl) ?_
    simp (disch:=omega) only [Bt,go_sem,Ab,q1,hb2,ht,AC,Aq,Bp]
    rw [hQ]
    exact ⟨.mk 3 t ⟨#[]⟩ [],p4,s4,rfl,by omega,by rw [Fm.Ci]; show 1+0+1≤_; omega,Fm.CA (by omega) trivial,by rw [Fm.DY]; show t.nodes+0+1≤_; omega⟩
  ·have q1:(m≤1)=False:=eq_false hm1
   have ih:=ih (by omega)
   obtain ⟨b1,p1,s1,hb1,g1,g2⟩:=OL l hl hn 4 (by omega) (by omega) p s h0 (by omega)
   cases b1 with
   | true =>
    obtain ⟨b2,p2,s2,hb2,⟨g3,g4⟩,⟨v,p3,s3,hv,⟨v0,v1⟩,g5,g6⟩,t,p4,s4,ht,⟨g7,g8⟩,g9⟩:=base p1 s1 (by omega) (by omega)
    cases b2 with
    | true =>
     have hi:dec (inK .i64 (1+v))=true:=D6 (by omega) (by omega)
     refine A7 B9 AL (of_decide_eq_true rfl) ?_
     simp (disch:=omega) only [Bt,go_sem,Ab,q1,hb1,hb2,hv,hi,AC,Aq,Bp]
     rw [hQ]
     exact ⟨.mk (1+v) Tm.zero ⟨#[]⟩ [],p3,s3,rfl,by omega,by rw [Fm.Ci]; show 1+0+1≤_; omega,Fm.CA (by rw [Ca]; omega) trivial,by rw [Fm.DY,Ca]; show 1+0+1≤_; omega⟩
    | false =>
     refine A7 B9 AL (of_decide_eq_true rfl) ?_
     simp (disch:=omega) only [Bt,go_sem,Ab,q1,hb1,hb2,ht,AC,Aq,Bp]
     rw [hQ]
     exact ⟨.mk 3 t ⟨#[]⟩ [],p4,s4,rfl,by omega,by rw [Fm.Ci]; show 1+0+1≤_; omega,Fm.CA (by omega) trivial,by rw [Fm.DY]; show t.nodes+0+1≤_; omega⟩
   | false =>
    obtain ⟨op,p2,s2,hop,hmem,g3,g4⟩:=XK l hl hn [4,5,6,7,8,9,8,9,5,7] (by decide) (by decide) p1 s1 (by omega) (by omega)
    simp only [zD,zI] at hop
    have hi:dec (inK .i64 (m-1))=true:=D6 (by omega) (by omega)
    by_cases ho4:op=4
    ·subst ho4
     obtain ⟨y,p3,s3,hy,⟨g5,g6⟩,g7,g8,gv⟩:=ih p2 s2 (by omega) (by omega)
     refine A7 B9 AL (of_decide_eq_true rfl) ?_
     simp (disch:=omega) only [Bt,go_sem,Ab,q1,hb1,hop,hi,hy,AC,C8,AL]
     rw [hQ]
     exact ⟨.mk 4 Tm.zero ⟨#[]⟩ [y],p3,s3,rfl,by omega,by rw [Fm.Ci]; show 1+(y.nodes+0)+1≤_; omega,Fm.CA (by rw [Ca]; omega) (Fm.Nm g8),by rw [Fm.DY,Ca]; show 1+(y.vn+0)+1≤_; omega⟩
    ·have o4:(op=4)=False:=eq_false ho4
     by_cases ho8:op=8
     ·subst ho8
      obtain ⟨x,p3,s3,hx,_,g5,g6⟩:=Sw l hl hn [⟨#[88]⟩,⟨#[89]⟩,⟨#[90]⟩,⟨#[88]⟩] (by decide) (by decide) p2 s2 (by omega) (by omega)
      simp only [zD,zI] at hx
      obtain ⟨y,p4,s4,hy,⟨g7,g8⟩,g9,g10,gv⟩:=ih p3 s3 (by omega) (by omega)
      refine A7 B9 AL (of_decide_eq_true rfl) ?_
      simp (disch:=omega) only [Bt,go_sem,Ab,q1,hb1,hop,hi,hx,hy,AC,C8,Az,AL]
      rw [hQ]
      exact ⟨.mk 8 Tm.zero x [y],p4,s4,rfl,by omega,by rw [Fm.Ci]; show 1+(y.nodes+0)+1≤_; omega,Fm.CA (by rw [Ca]; omega) (Fm.Nm g10),by rw [Fm.DY,Ca]; show 1+(y.vn+0)+1≤_; omega⟩
     ·have o8:(op=8)=False:=eq_false ho8
      by_cases ho9:op=9
      ·subst ho9
       obtain ⟨x,p3,s3,hx,_,g5,g6⟩:=Sw l hl hn [⟨#[88]⟩,⟨#[89]⟩,⟨#[90]⟩,⟨#[88]⟩] (by decide) (by decide) p2 s2 (by omega) (by omega)
       simp only [zD,zI] at hx
       obtain ⟨y,p4,s4,hy,⟨g7,g8⟩,g9,g10,gv⟩:=ih p3 s3 (by omega) (by omega)
       refine A7 B9 AL (of_decide_eq_true rfl) ?_
       simp (disch:=omega) only [Bt,go_sem,Ab,q1,hb1,hop,hi,hx,hy,AC,C8,Az,AL]
       rw [hQ]
       exact ⟨.mk 9 Tm.zero x [y],p4,s4,rfl,by omega,by rw [Fm.Ci]; show 1+(y.nodes+0)+1≤_; omega,Fm.CA (by rw [Ca]; omega) (Fm.Nm g10),by rw [Fm.DY,Ca]; show 1+(y.vn+0)+1≤_; omega⟩
      ·have o9:(op=9)=False:=eq_false ho9
       obtain ⟨y,p3,s3,hy,⟨g5,g6⟩,g7,g8,gv⟩:=ih p2 s2 (by omega) (by omega)
       obtain ⟨z,p4,s4,hz,⟨g9,g10⟩,g11,g12,gw⟩:=ih p3 s3 (by omega) (by omega)
       refine A7 B9 AL (of_decide_eq_true rfl) ?_
       simp (disch:=omega) only [Bt,go_sem,Ab,q1,hb1,hop,hi,hy,hz,o4,o8,o9,AC,C8,AL]
       rw [hQ]
       exact ⟨.mk op Tm.zero ⟨#[]⟩ [y,z],p4,s4,rfl,by omega,by rw [Fm.Ci]; show 1+(y.nodes+(z.nodes+0))+1≤_; omega,Fm.CA (by rw [Ca]; omega) (Fm.YY g8 g12),by rw [Fm.DY,Ca]; show 1+(y.vn+(z.vn+0))+1≤_; omega⟩
theorem Nn (l:List Int) (hl:Bytes l) (hn:l.length≤1099511627776) (p s:Int) (h0:0≤p) (h1:p≤1070000000000):∃ x p' s',E 56 [.ptr 0 0] [cur l p s]=some (fmH x 1 2,[cur l p' s',Sy x,Uz x])∧(p≤p'∧p'≤p+2000)∧x.nodes≤31∧x.tame∧x.vn≤127:=by
 obtain ⟨v,p1,s1,hv,⟨v0,v1⟩,g1,g2⟩:=EE l hl hn 4 (by omega) (by omega) p s h0 (by omega)
 have hp3:(2:Nat) ^ (1+v).toNat≤2 ^ 4:=yB (by omega) (by omega)
 have hp4:(2:Nat) ^ 4=16:=by decide
 obtain ⟨x,p2,s2,hx,⟨g3,g4⟩,g5,g6,g7⟩:=XO l hl hn (1+v).toNat (1+v) (by omega) (by omega) (by omega) p1 s1 (by omega) (by omega)
 refine ⟨x,p2,s2,?_,by omega,by omega,g6,by omega⟩
 have hi:dec (inK .i64 (1+v))=true:=D6 (by omega) (by omega)
 refine Ai Iu Bh (of_decide_eq_true rfl) ?_
 simp (disch:=omega) only [Fa,go_sem,Ab,hv,hx,hi,Aq,AL]
end Go.Proofs.YtfgkiemoglcppaaGreat
