/-
  Texts of this claim, one behind the other, each built on those ahead of it. No condition.
-/
import Derived.Test.YtfgkiemoglcppaaGreatDoorK38c
set_option maxHeartbeats 16000000
open Bool renaming false_and → zA, true_and → zD, and_false → zQ, and_true → zX, and_eq_true → zZ, and_self → z6, not_false → yD, not_true → yG
open List renaming drop_eq_getElem_cons → zB, eq_nil_of_length_eq_zero → zC, map_cons → zE, map_nil → zG, length_replicate → zH, getElem_mem → zJ, drop_eq_nil_of_le → zK, replicate → zL, drop_zero → zM, length_nil → zN, nil_append → zP, length_map → zR, take_length → zS, cons_append → zT, take_zero → zU, length_take → zV, map_append → zW, mem_singleton → z7, getElem_map → z8, length_cons → yA
open Nat renaming eq_zero_or_pos → zF, lt_or_ge → zI, zero_le → zO, pow_le_pow_right → zY, le_refl → yE
open Option.some renaming inj → yB
open Int renaming natCast_add → yC, mul_nonneg → yF
set_option maxRecDepth 100000
set_option linter.unusedSimpArgs false
set_option linter.unusedVariables false
set_option linter.unusedSectionVars false
namespace Go.Proofs.YtfgkiemoglcppaaGreatDoor
open Go.RowKit
def DQ:SC:=(.seq (.reg [⟨some 2,none,.mv (.c (.bool false))⟩]) (.seq (.reg [⟨some 3,none,.mv (.t 0)⟩,⟨some 4,none,.bin .eql false (.t 3) (.c (.int .i64 8))⟩,⟨some 5,none,.mv (.t 4)⟩,⟨(some 6),(some (5,false)),(.mv (.t 0))⟩,⟨(some 7),(some (5,false)),(.bin .eql false (.t 6) (.c (.int .i64 9)))⟩,⟨some 8,none,.pick (.t 5) (.c (.bool true)) (.t 7)⟩,⟨some 2,none,.mv (.t 8)⟩]) .ret))
theorem F1:codeOf Tryz.prog 41=some ⟨9,DQ,[(.tmp 2)]⟩:=by kernel_rfl
theorem Ac:modes 41=⟨[],.asis,none,false⟩:=by unfold modes; rfl
def HL:SC:=(.seq (.reg [⟨some 2,none,.mv (.c (.bool false))⟩]) (.seq (.reg [⟨some 3,none,.mv (.t 0)⟩,⟨some 4,none,.bin .eql false (.t 3) (.c (.int .i64 5))⟩,⟨some 5,none,.mv (.t 4)⟩,⟨(some 6),(some (5,false)),(.mv (.t 0))⟩,⟨(some 7),(some (5,false)),(.bin .eql false (.t 6) (.c (.int .i64 6)))⟩,⟨some 8,none,.pick (.t 5) (.c (.bool true)) (.t 7)⟩,⟨some 9,none,.mv (.t 8)⟩,⟨(some 10),(some (9,false)),(.mv (.t 0))⟩,⟨(some 11),(some (9,false)),(.bin .eql false (.t 10) (.c (.int .i64 7)))⟩,⟨some 12,none,.pick (.t 9) (.c (.bool true)) (.t 11)⟩,⟨some 2,none,.mv (.t 12)⟩]) .ret))
theorem LJ:codeOf Tryz.prog 54=some ⟨13,HL,[(.tmp 2)]⟩:=by kernel_rfl
theorem Ah:modes 54=⟨[],.asis,none,false⟩:=by unfold modes; rfl
def Ex:SC:=(.seq (.reg [⟨some 1,none,.boxv 26 2 (.t 0)⟩,⟨some 2,none,.mv (.c (.bool false))⟩]) (.seq (.reg [⟨some 3,none,.faddr 0 (.t 1)⟩,⟨some 4,none,.load false 1 (.t 3)⟩,⟨(some 5),none,(.bin .eql false (.t 4) (.c (.str ⟨#[]⟩)))⟩,⟨some 6,none,.mv (.t 5)⟩,⟨(some 7),(some (6,true)),(.faddr 1 (.t 1))⟩,⟨(some 8),(some (6,true)),(.load false 1 (.t 7))⟩,⟨(some 9),(some (6,true)),(.len false (.t 8))⟩,⟨(some 10),(some (6,true)),(.bin .eql false (.t 9) (.c (.int .i64 0)))⟩,⟨some 11,none,.pick (.t 6) (.t 10) (.c (.bool false))⟩,⟨some 2,none,.mv (.t 11)⟩]) .ret))
theorem G3:codeOf Tryz.prog 57=some ⟨12,Ex,[(.tmp 2)]⟩:=by kernel_rfl
theorem Af:modes 57=⟨[],.asis,none,false⟩:=by unfold modes; rfl
def GF:SC:=(.seq (.reg [⟨some 1,none,.boxv 26 2 (.t 0)⟩,⟨some 2,none,.mv (.c (.bool false))⟩]) (.seq (.reg [⟨some 3,none,.faddr 0 (.t 1)⟩,⟨some 4,none,.load false 1 (.t 3)⟩,⟨(some 5),none,(.bin .eql false (.t 4) (.c (.str ⟨#[]⟩)))⟩,⟨some 6,none,.mv (.t 5)⟩,⟨(some 7),(some (6,true)),(.faddr 1 (.t 1))⟩,⟨(some 8),(some (6,true)),(.load false 1 (.t 7))⟩,⟨(some 9),(some (6,true)),(.len false (.t 8))⟩,⟨(some 10),(some (6,true)),(.bin .eql false (.t 9) (.c (.int .i64 0)))⟩,⟨some 11,none,.pick (.t 6) (.t 10) (.c (.bool false))⟩,⟨some 2,none,.mv (.t 11)⟩]) .ret))
theorem Jm:codeOf Tryz.prog 94=some ⟨12,GF,[(.tmp 2)]⟩:=by kernel_rfl
theorem Aq:modes 94=⟨[],.asis,none,false⟩:=by unfold modes; rfl
def BX:SC:=(.seq (.reg [⟨some 4,none,.mv (.c (.int .i64 0))⟩]) (.seq (.seq (.reg [⟨some 6,none,.mv (.t 0)⟩,⟨some 7,none,.len false (.t 6)⟩,⟨some 8,none,.mv (.c (.int .i64 0))⟩]) (.block 0 (.loop [1,1,0,0,0,0,0,1,1,0,0,0,0,0,0,0,0,0,0] (.seq (.reg [⟨some 9,none,.bin .lss false (.t 8) (.t 7)⟩]) (.seq (.cond (.t 9) .skip (.exit 0)) (.seq (.block 1 (.seq (.reg [⟨some 10,none,.mv (.t 8)⟩,⟨some 5,none,.mv (.t 10)⟩]) (.seq (.reg [⟨some 11,none,.mv (.t 1)⟩,⟨some 12,none,.mv (.t 0)⟩,⟨some 13,none,.mv (.t 5)⟩,⟨some 14,none,.iaddr 5 (.t 12) (.t 13)⟩,⟨some 15,none,.load true 5 (.t 14)⟩,⟨some 16,none,.callv (.t 11) [(.t 15)]⟩]) (.cond (.t 16) (.seq (.reg [⟨some 17,none,.mv (.t 5)⟩,⟨some 4,none,.mv (.t 17)⟩]) .ret) .skip)))) (.reg [⟨some 18,none,.bin .add false (.t 8) (.c (.int .i64 1))⟩,⟨some 8,none,.mv (.t 18)⟩]))))))) (.seq (.reg [⟨some 4,none,.mv (.c (.int .i64 (-(0+1))))⟩]) .ret)))
theorem Db:codeOf Tryz.prog 73=some ⟨19,BX,[(.tmp 4)]⟩:=by kernel_rfl
theorem BY:modes 73=⟨[],.asis,none,false⟩:=by unfold modes; rfl
def BR:SC:=(.seq (.reg [⟨some 4,none,.mv (.c (.bool false))⟩]) (.seq (.reg [⟨some 5,none,.mv (.t 0)⟩,⟨some 6,none,.mv (.t 1)⟩,⟨some 7,none,.call 73 [(.t 5),(.t 6)]⟩,⟨some 8,none,.bin .geq false (.t 7) (.c (.int .i64 0))⟩,⟨some 4,none,.mv (.t 8)⟩]) .ret))
theorem CO:codeOf Tryz.prog 47=some ⟨9,BR,[(.tmp 4)]⟩:=by kernel_rfl
theorem Aa:modes 47=⟨[],.asis,none,false⟩:=by unfold modes; rfl
theorem LK (fid:Nat) (p:Fm→Bool) (xs:List Fm) (hl:xs.length≤1099511627776) (hg:Fu Tryz.prog fid=true) (hm:(modes fid).hand=[]) (hE:∀ x∈xs,E fid [x.sv] []=some (.bool (p x),[])):E 73 [.arr (xs.map Fm.d),.fn fid []] []=some (.int .i64 (GB p xs 0),[]):=by
 refine Aj Db BY (of_decide_eq_true rfl) ?_
 simp (disch:=omega) only [BX,go_sem,Ab]
 refine go_loop (α:=Int) (fun a=>⟨slots 19 0 [(0,.arr (xs.map Fm.d)),(1,.fn fid []),(7,.int .i64 xs.length),(8,.int .i64 a)],[]⟩) (fun a=>∃ k:Nat,a=k∧k≤(xs).length∧GB p (xs.drop k) a=GB p xs 0) (fun a=>(xs).length-(a).toNat) 0 ⟨0,rfl,zO _,by rw [zM]⟩ (by simp (disch:=omega) only [go_sem,Ab]) ?_
 rintro i ⟨k,hi,hk,hR⟩
 have hni:i.toNat=k:=by omega
 have hni1:(i+1).toNat=k+1:=by omega
 rcases zI k (xs).length with hlt | hge
 ·have hg':=get_at Fm.d hlt
  rw [Fm.d_eq] at hg'
  have hc:=hE xs[k] (zJ hlt)
  rw [zB hlt,GB] at hR
  cases hp:p xs[k] with
  | true =>
   rw [hp] at hc hR
   simp (disch:=omega) only [go_sem,Ab,hni,hg',hc,hg,hm]
   simpa using hR
  | false =>
   rw [hp] at hc hR
   simp (disch:=omega) only [go_sem,Ab,hni,hg',hc,hg,hm]
   exact ⟨i+1,⟨k+1,by omega,hlt,by simpa using hR⟩,by omega,by first | trivial | rfl⟩
 ·rw [zK hge,GB] at hR
  simp (disch:=omega) only [go_sem,Ab,hni]
  exact hR
theorem Gg (fid:Nat) (p:Fm→Bool) (xs:List Fm) (hl:xs.length≤1099511627776) (hg:Fu Tryz.prog fid=true) (hm:(modes fid).hand=[]) (hE:∀ x∈xs,E fid [x.sv] []=some (.bool (p x),[])):E 47 [.arr (xs.map Fm.d),.fn fid []] []=some (.bool (xs.any p),[]):=by
 have h:=LK fid p xs hl hg hm hE
 refine Aj CO Aa (of_decide_eq_true rfl) ?_
 simp (disch:=omega) only [BR,go_sem,Ab,h,BY]
 rw [MO]
def AE:SC:=(.seq (.reg [⟨some 1,none,.boxv 29 5 (.t 0)⟩,⟨some 2,none,.mv (.c (.bool false))⟩]) (.seq (.reg [⟨some 3,none,.mv (.c (.int .i64 0))⟩]) (.seq (.block 0 (.seq (.seq (.reg [⟨some 5,none,.faddr 0 (.t 1)⟩,⟨some 6,none,.load false 1 (.t 5)⟩,⟨some 7,none,.bin .eql false (.t 6) (.c (.int .i64 1))⟩,⟨some 4,none,.mv (.t 7)⟩]) (.cond (.t 4) .skip (.seq (.reg [⟨some 8,none,.faddr 0 (.t 1)⟩,⟨some 9,none,.load false 1 (.t 8)⟩,⟨some 10,none,.bin .eql false (.t 9) (.c (.int .i64 2))⟩,⟨some 4,none,.mv (.t 10)⟩]) (.cond (.t 4) .skip (.reg [⟨some 11,none,.faddr 0 (.t 1)⟩,⟨some 12,none,.load false 1 (.t 11)⟩,⟨some 13,none,.bin .eql false (.t 12) (.c (.int .i64 3))⟩,⟨some 4,none,.mv (.t 13)⟩]))))) (.cond (.t 4) .skip (.seq (.seq (.reg [⟨some 15,none,.faddr 0 (.t 1)⟩,⟨some 16,none,.load false 1 (.t 15)⟩,⟨some 17,none,.bin .eql false (.t 16) (.c (.int .i64 4))⟩,⟨some 14,none,.mv (.t 17)⟩]) (.cond (.t 14) .skip (.reg [⟨some 18,none,.faddr 0 (.t 1)⟩,⟨some 19,none,.load false 1 (.t 18)⟩,⟨some 20,none,.call 41 [(.t 19)]⟩,⟨some 14,none,.mv (.t 20)⟩]))) (.cond (.t 14) (.reg [⟨some 3,none,.mv (.c (.int .i64 1))⟩]) (.seq (.reg [⟨some 22,none,.faddr 0 (.t 1)⟩,⟨some 23,none,.load false 1 (.t 22)⟩,⟨some 24,none,.call 54 [(.t 23)]⟩,⟨some 21,none,.mv (.t 24)⟩]) (.cond (.t 21) (.reg [⟨some 3,none,.mv (.c (.int .i64 2))⟩]) (.seq (.reg [⟨some 2,none,.mv (.c (.bool false))⟩]) .ret)))))))) (.seq (.seq (.reg [⟨some 25,none,.faddr 4 (.t 1)⟩,⟨some 26,none,.load false 1 (.t 25)⟩,⟨some 27,none,.len false (.t 26)⟩,⟨some 28,none,.mv (.t 3)⟩,⟨some 29,none,.bin .neq false (.t 27) (.t 28)⟩,⟨some 30,none,.mv (.t 29)⟩,⟨(some 31),(some (30,false)),(.faddr 0 (.t 1))⟩,⟨(some 32),(some (30,false)),(.load false 1 (.t 31))⟩,⟨(some 33),(some (30,false)),(.call 41 [(.t 32)])⟩,⟨(some 34),(some (30,false)),(.mv (.t 33))⟩,⟨(some 35),(some (34,true)),(.faddr 3 (.t 1))⟩,⟨(some 36),(some (34,true)),(.load false 1 (.t 35))⟩,⟨(some 37),(some (34,true)),(.call 55 [(.t 36)])⟩,⟨(some 38),(some (34,true)),(.un .not (.t 37))⟩,⟨(some 39),(some (30,false)),(.pick (.t 34) (.t 38) (.c (.bool false)))⟩,⟨some 40,none,.pick (.t 30) (.c (.bool true)) (.t 39)⟩,⟨some 41,none,.mv (.t 40)⟩,⟨(some 42),(some (41,false)),(.faddr 0 (.t 1))⟩,⟨(some 43),(some (41,false)),(.load false 1 (.t 42))⟩,⟨(some 44),(some (41,false)),(.call 41 [(.t 43)])⟩,⟨(some 45),(some (41,false)),(.un .not (.t 44))⟩,⟨(some 46),(some (41,false)),(.mv (.t 45))⟩,⟨(some 47),(some (46,true)),(.faddr 3 (.t 1))⟩,⟨(some 48),(some (46,true)),(.load false 1 (.t 47))⟩,⟨(some 49),(some (46,true)),(.bin .neq false (.t 48) (.c (.str ⟨#[]⟩)))⟩,⟨(some 50),(some (41,false)),(.pick (.t 46) (.t 49) (.c (.bool false)))⟩,⟨some 51,none,.pick (.t 41) (.c (.bool true)) (.t 50)⟩]) (.cond (.t 51) (.seq (.reg [⟨some 2,none,.mv (.c (.bool false))⟩]) .ret) .skip)) (.seq (.seq (.reg [⟨some 52,none,.faddr 0 (.t 1)⟩,⟨some 53,none,.load false 1 (.t 52)⟩,⟨some 54,none,.bin .eql false (.t 53) (.c (.int .i64 3))⟩,⟨some 55,none,.mv (.t 54)⟩,⟨(some 56),(some (55,true)),(.faddr 1 (.t 1))⟩,⟨(some 57),(some (55,true)),(.load true 2 (.t 56))⟩,⟨(some 58),(some (55,true)),(.call 56 [(.t 57)])⟩,⟨(some 59),(some (55,true)),(.un .not (.t 58))⟩,⟨some 60,none,.pick (.t 55) (.t 59) (.c (.bool false))⟩,⟨some 61,none,.mv (.t 60)⟩,⟨(some 62),(some (61,false)),(.faddr 0 (.t 1))⟩,⟨(some 63),(some (61,false)),(.load false 1 (.t 62))⟩,⟨(some 64),(some (61,false)),(.bin .neq false (.t 63) (.c (.int .i64 3)))⟩,⟨(some 65),(some (61,false)),(.mv (.t 64))⟩,⟨(some 66),(some (65,true)),(.faddr 1 (.t 1))⟩,⟨(some 67),(some (65,true)),(.load true 2 (.t 66))⟩,⟨(some 68),(some (65,true)),(.call 57 [(.t 67)])⟩,⟨(some 69),(some (65,true)),(.un .not (.t 68))⟩,⟨(some 70),(some (61,false)),(.pick (.t 65) (.t 69) (.c (.bool false)))⟩,⟨some 71,none,.pick (.t 61) (.c (.bool true)) (.t 70)⟩]) (.cond (.t 71) (.seq (.reg [⟨some 2,none,.mv (.c (.bool false))⟩]) .ret) .skip)) (.seq (.reg [⟨some 72,none,.faddr 4 (.t 1)⟩,⟨some 73,none,.load false 1 (.t 72)⟩,⟨some 74,none,.call 47 [(.t 73),(.c (.fn 58 []))]⟩,⟨some 75,none,.un .not (.t 74)⟩,⟨some 2,none,.mv (.t 75)⟩]) .ret))))))
theorem AJ:codeOf Tryz.prog 27=some ⟨76,AE,[(.tmp 2)]⟩:=by kernel_rfl
theorem AB:modes 27=⟨[],.asis,none,false⟩:=by unfold modes; rfl
def Hn:SC:=(.seq (.reg [⟨some 1,none,.boxv 29 5 (.t 0)⟩,⟨some 2,none,.mv (.c (.bool false))⟩]) (.seq (.reg [⟨some 3,none,.load true 5 (.t 1)⟩,⟨some 4,none,.call 27 [(.t 3)]⟩,⟨some 5,none,.un .not (.t 4)⟩,⟨some 2,none,.mv (.t 5)⟩]) .ret))
theorem KW:codeOf Tryz.prog 58=some ⟨6,Hn,[(.tmp 2)]⟩:=by kernel_rfl
theorem Ho:modes 58=⟨[],.asis,none,false⟩:=by unfold modes; rfl
theorem KX:Fu Tryz.prog 58=true:=by kernel_rfl
def Be:SC:=(.seq (.reg [⟨some 1,none,.boxv 29 5 (.t 0)⟩,⟨some 2,none,.mv (.c (.bool false))⟩]) (.seq (.reg [⟨some 4,none,.faddr 4 (.t 1)⟩,⟨some 5,none,.load false 1 (.t 4)⟩,⟨some 6,none,.len false (.t 5)⟩,⟨some 3,none,.mv (.t 6)⟩]) (.seq (.seq (.reg [⟨some 7,none,.faddr 0 (.t 1)⟩,⟨some 8,none,.load false 1 (.t 7)⟩]) (.block 0 (.seq (.seq (.reg [⟨some 10,none,.bin .eql false (.t 8) (.c (.int .i64 1))⟩,⟨some 9,none,.mv (.t 10)⟩]) (.cond (.t 9) .skip (.reg [⟨some 11,none,.bin .eql false (.t 8) (.c (.int .i64 2))⟩,⟨some 9,none,.mv (.t 11)⟩]))) (.cond (.t 9) (.seq (.reg [⟨some 12,none,.mv (.t 3)⟩,⟨some 13,none,.bin .eql false (.t 12) (.c (.int .i64 0))⟩,⟨some 14,none,.mv (.t 13)⟩,⟨(some 15),(some (14,true)),(.faddr 1 (.t 1))⟩,⟨(some 16),(some (14,true)),(.load true 2 (.t 15))⟩,⟨(some 17),(some (14,true)),(.call 94 [(.t 16)])⟩,⟨some 18,none,.pick (.t 14) (.t 17) (.c (.bool false))⟩,⟨some 19,none,.mv (.t 18)⟩,⟨(some 20),(some (19,true)),(.faddr 3 (.t 1))⟩,⟨(some 21),(some (19,true)),(.load false 1 (.t 20))⟩,⟨(some 22),(some (19,true)),(.bin .eql false (.t 21) (.c (.str ⟨#[]⟩)))⟩,⟨some 23,none,.pick (.t 19) (.t 22) (.c (.bool false))⟩,⟨some 2,none,.mv (.t 23)⟩]) .ret) (.seq (.reg [⟨some 25,none,.bin .eql false (.t 8) (.c (.int .i64 3))⟩,⟨some 24,none,.mv (.t 25)⟩]) (.cond (.t 24) (.seq (.reg [⟨some 26,none,.mv (.t 3)⟩,⟨some 27,none,.bin .eql false (.t 26) (.c (.int .i64 0))⟩,⟨some 28,none,.mv (.t 27)⟩,⟨(some 29),(some (28,true)),(.faddr 1 (.t 1))⟩,⟨(some 30),(some (28,true)),(.load true 2 (.t 29))⟩,⟨(some 31),(some (28,true)),(.call 95 [(.t 30)])⟩,⟨some 32,none,.pick (.t 28) (.t 31) (.c (.bool false))⟩,⟨some 33,none,.mv (.t 32)⟩,⟨(some 34),(some (33,true)),(.faddr 3 (.t 1))⟩,⟨(some 35),(some (33,true)),(.load false 1 (.t 34))⟩,⟨(some 36),(some (33,true)),(.bin .eql false (.t 35) (.c (.str ⟨#[]⟩)))⟩,⟨some 37,none,.pick (.t 33) (.t 36) (.c (.bool false))⟩,⟨some 2,none,.mv (.t 37)⟩]) .ret) (.seq (.reg [⟨some 39,none,.bin .eql false (.t 8) (.c (.int .i64 4))⟩,⟨some 38,none,.mv (.t 39)⟩]) (.cond (.t 38) (.seq (.reg [⟨some 40,none,.mv (.t 3)⟩,⟨some 41,none,.bin .eql false (.t 40) (.c (.int .i64 1))⟩,⟨some 42,none,.mv (.t 41)⟩,⟨(some 43),(some (42,true)),(.faddr 1 (.t 1))⟩,⟨(some 44),(some (42,true)),(.load true 2 (.t 43))⟩,⟨(some 45),(some (42,true)),(.call 94 [(.t 44)])⟩,⟨some 46,none,.pick (.t 42) (.t 45) (.c (.bool false))⟩,⟨some 47,none,.mv (.t 46)⟩,⟨(some 48),(some (47,true)),(.faddr 3 (.t 1))⟩,⟨(some 49),(some (47,true)),(.load false 1 (.t 48))⟩,⟨(some 50),(some (47,true)),(.bin .eql false (.t 49) (.c (.str ⟨#[]⟩)))⟩,⟨some 51,none,.pick (.t 47) (.t 50) (.c (.bool false))⟩,⟨some 2,none,.mv (.t 51)⟩]) .ret) (.seq (.seq (.reg [⟨some 53,none,.bin .eql false (.t 8) (.c (.int .i64 5))⟩,⟨some 52,none,.mv (.t 53)⟩]) (.cond (.t 52) .skip (.seq (.reg [⟨some 54,none,.bin .eql false (.t 8) (.c (.int .i64 6))⟩,⟨some 52,none,.mv (.t 54)⟩]) (.cond (.t 52) .skip (.reg [⟨some 55,none,.bin .eql false (.t 8) (.c (.int .i64 7))⟩,⟨some 52,none,.mv (.t 55)⟩]))))) (.cond (.t 52) (.seq (.reg [⟨some 56,none,.mv (.t 3)⟩,⟨some 57,none,.bin .eql false (.t 56) (.c (.int .i64 2))⟩,⟨some 58,none,.mv (.t 57)⟩,⟨(some 59),(some (58,true)),(.faddr 1 (.t 1))⟩,⟨(some 60),(some (58,true)),(.load true 2 (.t 59))⟩,⟨(some 61),(some (58,true)),(.call 94 [(.t 60)])⟩,⟨some 62,none,.pick (.t 58) (.t 61) (.c (.bool false))⟩,⟨some 63,none,.mv (.t 62)⟩,⟨(some 64),(some (63,true)),(.faddr 3 (.t 1))⟩,⟨(some 65),(some (63,true)),(.load false 1 (.t 64))⟩,⟨(some 66),(some (63,true)),(.bin .eql false (.t 65) (.c (.str ⟨#[]⟩)))⟩,⟨some 67,none,.pick (.t 63) (.t 66) (.c (.bool false))⟩,⟨some 2,none,.mv (.t 67)⟩]) .ret) (.seq (.seq (.reg [⟨some 69,none,.bin .eql false (.t 8) (.c (.int .i64 8))⟩,⟨some 68,none,.mv (.t 69)⟩]) (.cond (.t 68) .skip (.reg [⟨some 70,none,.bin .eql false (.t 8) (.c (.int .i64 9))⟩,⟨some 68,none,.mv (.t 70)⟩]))) (.cond (.t 68) (.seq (.reg [⟨some 71,none,.mv (.t 3)⟩,⟨some 72,none,.bin .eql false (.t 71) (.c (.int .i64 1))⟩,⟨some 73,none,.mv (.t 72)⟩,⟨(some 74),(some (73,true)),(.faddr 1 (.t 1))⟩,⟨(some 75),(some (73,true)),(.load true 2 (.t 74))⟩,⟨(some 76),(some (73,true)),(.call 94 [(.t 75)])⟩,⟨some 77,none,.pick (.t 73) (.t 76) (.c (.bool false))⟩,⟨some 78,none,.mv (.t 77)⟩,⟨(some 79),(some (78,true)),(.faddr 3 (.t 1))⟩,⟨(some 80),(some (78,true)),(.load false 1 (.t 79))⟩,⟨(some 81),(some (78,true)),(.call 96 [(.t 80)])⟩,⟨some 82,none,.pick (.t 78) (.t 81) (.c (.bool false))⟩,⟨some 2,none,.mv (.t 82)⟩]) .ret) .skip)))))))))))) (.seq (.reg [⟨some 2,none,.mv (.c (.bool false))⟩]) .ret))))
theorem Bm:codeOf Tryz.prog 66=some ⟨83,Be,[(.tmp 2)]⟩:=by kernel_rfl
theorem AY:modes 66=⟨[],.asis,none,false⟩:=by unfold modes; rfl
def Gh:SC:=(.seq (.reg [⟨some 1,none,.boxv 29 5 (.t 0)⟩,⟨some 2,none,.mv (.c (.bool false))⟩]) (.seq (.seq (.reg [⟨some 4,none,.load true 5 (.t 1)⟩,⟨some 5,none,.call 66 [(.t 4)]⟩,⟨some 6,none,.un .not (.t 5)⟩]) (.cond (.t 6) (.seq (.reg [⟨some 2,none,.mv (.c (.bool false))⟩]) .ret) .skip)) (.seq (.seq (.reg [⟨some 3,none,.mv (.c (.int .i64 0))⟩]) (.block 0 (.loop [0,1,0,1,0,0,0,0,0,0,0,0,0,0,0,0,0,0,0,0,0] (.seq (.seq (.reg [⟨some 7,none,.mv (.t 3)⟩,⟨some 8,none,.faddr 4 (.t 1)⟩,⟨some 9,none,.load false 1 (.t 8)⟩,⟨some 10,none,.len false (.t 9)⟩,⟨some 11,none,.bin .lss false (.t 7) (.t 10)⟩]) (.cond (.t 11) .skip (.exit 0))) (.seq (.block 1 (.seq (.reg [⟨some 14,none,.faddr 4 (.t 1)⟩,⟨some 15,none,.load false 1 (.t 14)⟩,⟨some 16,none,.mv (.t 3)⟩,⟨some 17,none,.iaddr 5 (.t 15) (.t 16)⟩,⟨some 18,none,.load true 5 (.t 17)⟩,⟨some 19,none,.call 36 [(.t 18)]⟩,⟨some 20,none,.un .not (.t 19)⟩]) (.cond (.t 20) (.seq (.reg [⟨some 2,none,.mv (.c (.bool false))⟩]) .ret) .skip))) (.reg [⟨some 12,none,.mv (.t 3)⟩,⟨some 13,none,.bin .add false (.t 12) (.c (.int .i64 1))⟩,⟨some 3,none,.mv (.t 13)⟩])))))) (.seq (.reg [⟨some 2,none,.mv (.c (.bool true))⟩]) .ret))))
theorem Iq:codeOf Tryz.prog 36=some ⟨21,Gh,[(.tmp 2)]⟩:=by kernel_rfl
theorem Dc:modes 36=⟨[],.asis,none,false⟩:=by unfold modes; rfl
def D2:SC:=(.seq (.reg [⟨some 1,none,.boxv 29 5 (.t 0)⟩,⟨some 2,none,.mv (.c (.bool false))⟩]) (.seq (.reg [⟨some 3,none,.load true 5 (.t 1)⟩,⟨some 4,none,.call 26 [(.t 3)]⟩,⟨some 5,none,.bin .leq false (.t 4) (.c (.int .i64 40))⟩,⟨some 6,none,.mv (.t 5)⟩,⟨(some 7),(some (6,true)),(.load true 5 (.t 1))⟩,⟨(some 8),(some (6,true)),(.call 27 [(.t 7)])⟩,⟨some 9,none,.pick (.t 6) (.t 8) (.c (.bool false))⟩,⟨some 2,none,.mv (.t 9)⟩]) .ret))
theorem E9:codeOf Tryz.prog 16=some ⟨10,D2,[(.tmp 2)]⟩:=by kernel_rfl
theorem AH:modes 16=⟨[],.asis,none,false⟩:=by unfold modes; rfl
def GG:SC:=(.seq (.reg [⟨some 1,none,.boxv 29 5 (.t 0)⟩,⟨some 2,none,.mv (.c (.bool false))⟩]) (.seq (.reg [⟨some 3,none,.load true 5 (.t 1)⟩,⟨some 4,none,.call 35 [(.t 3),(.c (.int .i64 40))]⟩,⟨some 5,none,.bin .leq false (.t 4) (.c (.int .i64 40))⟩,⟨some 6,none,.mv (.t 5)⟩,⟨(some 7),(some (6,true)),(.load true 5 (.t 1))⟩,⟨(some 8),(some (6,true)),(.call 36 [(.t 7)])⟩,⟨some 9,none,.pick (.t 6) (.t 8) (.c (.bool false))⟩,⟨some 2,none,.mv (.t 9)⟩]) .ret))
theorem Jn:codeOf Tryz.prog 20=some ⟨10,GG,[(.tmp 2)]⟩:=by kernel_rfl
theorem Dz:modes 20=⟨[],.asis,none,false⟩:=by unfold modes; rfl
theorem Cg (n:Int):E 41 [.int .i64 n] []=some (.bool (dec (n=8) || dec (n=9)),[]):=by
 cases h1:dec (n=8) with
 | true =>
  refine Aj F1 Ac (of_decide_eq_true rfl) ?_
  simp (disch:=omega) only [DQ,go_sem,Ab,h1]
 | false =>
  refine Aj F1 Ac (of_decide_eq_true rfl) ?_
  simp (disch:=omega) only [DQ,go_sem,Ab,h1]
theorem ES (n:Int):E 54 [.int .i64 n] []=some (.bool (dec (n=5) || dec (n=6) || dec (n=7)),[]):=by
 cases h1:dec (n=5) <;> cases h2:dec (n=6)
 all_goals
  refine Aj LJ Ah (of_decide_eq_true rfl) ?_
  simp (disch:=omega) only [HL,go_sem,Ab,h1,h2]
theorem FD (x:Tm):E 57 [x.sv] []=some (.bool x.isZ,[]):=by
 unfold Tm.isZ
 have hl:dec ((x.args.length:Int)=0)=(x.args.length == 0):=by
  rw [J6]
  cases x.args <;> simp <;> omega
 cases h1:dec (x.name=⟨#[]⟩) with
 | true =>
  refine Aj G3 Af (of_decide_eq_true rfl) ?_
  simp (disch:=omega) only [Ex,go_sem,Ab,h1]
  try rw [hl]
 | false =>
  refine Aj G3 Af (of_decide_eq_true rfl) ?_
  simp (disch:=omega) only [Ex,go_sem,Ab,h1]
theorem Kv (x:Tm):E 94 [x.sv] []=some (.bool x.isZ,[]):=by
 unfold Tm.isZ
 have hl:dec ((x.args.length:Int)=0)=(x.args.length == 0):=by
  rw [J6]
  cases x.args <;> simp <;> omega
 cases h1:dec (x.name=⟨#[]⟩) with
 | true =>
  refine Aj Jm Aq (of_decide_eq_true rfl) ?_
  simp (disch:=omega) only [GF,go_sem,Ab,h1]
  try rw [hl]
 | false =>
  refine Aj Jm Aq (of_decide_eq_true rfl) ?_
  simp (disch:=omega) only [GF,go_sem,Ab,h1]
theorem QM (x:Fm) (hn:x.atom.nodes≤1099511627776) (ho:x.op=1∨x.op=2):E 66 [x.sv] []=some (.bool x.form,[]):=by
 have hf:x.form=(x.parts.length == 0&&x.atom.isZ&&dec (x.var=⟨#[]⟩)):=by unfold Fm.form; rcases ho with ho | ho <;> simp [ho]
 rcases ho with ho | ho
 all_goals
  first
   |(have o1:dec (x.op=1)=true:=Au ho)
   |(have o1:dec (x.op=1)=false:=Ai (by omega))
  first
   |(have o2:dec (x.op=2)=true:=Au ho)
   |(have o2:dec (x.op=2)=false:=Ai (by omega))
  have o3:dec (x.op=3)=false:=Ai (by omega)
  have o4:dec (x.op=4)=false:=Ai (by omega)
  have o5:dec (x.op=5)=false:=Ai (by omega)
  have o6:dec (x.op=6)=false:=Ai (by omega)
  have o7:dec (x.op=7)=false:=Ai (by omega)
  have o8:dec (x.op=8)=false:=Ai (by omega)
  have o9:dec (x.op=9)=false:=Ai (by omega)
  have ha:=Kv x.atom
  have hv:=IE x.var
  rw [hf]
  by_cases hl:x.parts.length=0
  ·have hl2:dec ((x.parts.length:Int)=0)=true:=Au (by omega)
   rw [hl,beq_self_eq_true,zD]
   cases hq:x.atom.isZ with
   | true =>
    rw [hq] at ha
    rw [zD]
    refine Aj Bm AY (of_decide_eq_true rfl) ?_
    simp (disch:=omega) only [Be,go_sem,o1,o2,o3,o4,o5,o6,o7,o8,o9,hl2,ha,hv,An,Aq,Ar]
    repeat ((first | (refine A2 ?_ ?_; (focus (simp (disch:=omega) only [go_sem,o1,o2,o3,o4,o5,o6,o7,o8,o9,hl2,ha,hv,An,Aq,Ar]; done))) | (refine A3 ?_ ?_; (focus (simp (disch:=omega) only [go_sem,o1,o2,o3,o4,o5,o6,o7,o8,o9,hl2,ha,hv,An,Aq,Ar]; done)))); (try simp (disch:=omega) only [go_sem,o1,o2,o3,o4,o5,o6,o7,o8,o9,hl2,ha,hv,An,Aq,Ar]))
   | false =>
    rw [hq] at ha
    rw [zA]
    refine Aj Bm AY (of_decide_eq_true rfl) ?_
    simp (disch:=omega) only [Be,go_sem,o1,o2,o3,o4,o5,o6,o7,o8,o9,hl2,ha,hv,An,Aq,Ar]
    repeat ((first | (refine A2 ?_ ?_; (focus (simp (disch:=omega) only [go_sem,o1,o2,o3,o4,o5,o6,o7,o8,o9,hl2,ha,hv,An,Aq,Ar]; done))) | (refine A3 ?_ ?_; (focus (simp (disch:=omega) only [go_sem,o1,o2,o3,o4,o5,o6,o7,o8,o9,hl2,ha,hv,An,Aq,Ar]; done)))); (try simp (disch:=omega) only [go_sem,o1,o2,o3,o4,o5,o6,o7,o8,o9,hl2,ha,hv,An,Aq,Ar]))
  ·have hl2:dec ((x.parts.length:Int)=0)=false:=Ai (by omega)
   have hl3:(x.parts.length == 0)=false:=by simpa using hl
   rw [hl3,zA,zA]
   refine Aj Bm AY (of_decide_eq_true rfl) ?_
   simp (disch:=omega) only [Be,go_sem,o1,o2,o3,o4,o5,o6,o7,o8,o9,hl2,ha,hv,An,Aq,Ar]
   repeat ((first | (refine A2 ?_ ?_; (focus (simp (disch:=omega) only [go_sem,o1,o2,o3,o4,o5,o6,o7,o8,o9,hl2,ha,hv,An,Aq,Ar]; done))) | (refine A3 ?_ ?_; (focus (simp (disch:=omega) only [go_sem,o1,o2,o3,o4,o5,o6,o7,o8,o9,hl2,ha,hv,An,Aq,Ar]; done)))); (try simp (disch:=omega) only [go_sem,o1,o2,o3,o4,o5,o6,o7,o8,o9,hl2,ha,hv,An,Aq,Ar]))
theorem VE (x:Fm) (hn:x.atom.nodes≤1099511627776) (ho:x.op=3):E 66 [x.sv] []=some (.bool x.form,[]):=by
 have hf:x.form=(x.parts.length == 0&&x.atom.atom&&dec (x.var=⟨#[]⟩)):=by unfold Fm.form; rcases ho with ho <;> simp [ho]
 rcases ho with ho
 all_goals
  have o1:dec (x.op=1)=false:=Ai (by omega)
  have o2:dec (x.op=2)=false:=Ai (by omega)
  have o3:dec (x.op=3)=true:=Au ho
  have o4:dec (x.op=4)=false:=Ai (by omega)
  have o5:dec (x.op=5)=false:=Ai (by omega)
  have o6:dec (x.op=6)=false:=Ai (by omega)
  have o7:dec (x.op=7)=false:=Ai (by omega)
  have o8:dec (x.op=8)=false:=Ai (by omega)
  have o9:dec (x.op=9)=false:=Ai (by omega)
  have ha:=Vm x.atom (by omega)
  have hv:=IE x.var
  rw [hf]
  by_cases hl:x.parts.length=0
  ·have hl2:dec ((x.parts.length:Int)=0)=true:=Au (by omega)
   rw [hl,beq_self_eq_true,zD]
   cases hq:x.atom.atom with
   | true =>
    rw [hq] at ha
    rw [zD]
    refine Aj Bm AY (of_decide_eq_true rfl) ?_
    simp (disch:=omega) only [Be,go_sem,o1,o2,o3,o4,o5,o6,o7,o8,o9,hl2,ha,hv,An,Aq,Ar]
    repeat ((first | (refine A2 ?_ ?_; (focus (simp (disch:=omega) only [go_sem,o1,o2,o3,o4,o5,o6,o7,o8,o9,hl2,ha,hv,An,Aq,Ar]; done))) | (refine A3 ?_ ?_; (focus (simp (disch:=omega) only [go_sem,o1,o2,o3,o4,o5,o6,o7,o8,o9,hl2,ha,hv,An,Aq,Ar]; done)))); (try simp (disch:=omega) only [go_sem,o1,o2,o3,o4,o5,o6,o7,o8,o9,hl2,ha,hv,An,Aq,Ar]))
   | false =>
    rw [hq] at ha
    rw [zA]
    refine Aj Bm AY (of_decide_eq_true rfl) ?_
    simp (disch:=omega) only [Be,go_sem,o1,o2,o3,o4,o5,o6,o7,o8,o9,hl2,ha,hv,An,Aq,Ar]
    repeat ((first | (refine A2 ?_ ?_; (focus (simp (disch:=omega) only [go_sem,o1,o2,o3,o4,o5,o6,o7,o8,o9,hl2,ha,hv,An,Aq,Ar]; done))) | (refine A3 ?_ ?_; (focus (simp (disch:=omega) only [go_sem,o1,o2,o3,o4,o5,o6,o7,o8,o9,hl2,ha,hv,An,Aq,Ar]; done)))); (try simp (disch:=omega) only [go_sem,o1,o2,o3,o4,o5,o6,o7,o8,o9,hl2,ha,hv,An,Aq,Ar]))
  ·have hl2:dec ((x.parts.length:Int)=0)=false:=Ai (by omega)
   have hl3:(x.parts.length == 0)=false:=by simpa using hl
   rw [hl3,zA,zA]
   refine Aj Bm AY (of_decide_eq_true rfl) ?_
   simp (disch:=omega) only [Be,go_sem,o1,o2,o3,o4,o5,o6,o7,o8,o9,hl2,ha,hv,An,Aq,Ar]
   repeat ((first | (refine A2 ?_ ?_; (focus (simp (disch:=omega) only [go_sem,o1,o2,o3,o4,o5,o6,o7,o8,o9,hl2,ha,hv,An,Aq,Ar]; done))) | (refine A3 ?_ ?_; (focus (simp (disch:=omega) only [go_sem,o1,o2,o3,o4,o5,o6,o7,o8,o9,hl2,ha,hv,An,Aq,Ar]; done)))); (try simp (disch:=omega) only [go_sem,o1,o2,o3,o4,o5,o6,o7,o8,o9,hl2,ha,hv,An,Aq,Ar]))
theorem VF (x:Fm) (hn:x.atom.nodes≤1099511627776) (ho:x.op=4):E 66 [x.sv] []=some (.bool x.form,[]):=by
 have hf:x.form=(x.parts.length == 1&&x.atom.isZ&&dec (x.var=⟨#[]⟩)):=by unfold Fm.form; rcases ho with ho <;> simp [ho]
 rcases ho with ho
 all_goals
  have o1:dec (x.op=1)=false:=Ai (by omega)
  have o2:dec (x.op=2)=false:=Ai (by omega)
  have o3:dec (x.op=3)=false:=Ai (by omega)
  have o4:dec (x.op=4)=true:=Au ho
  have o5:dec (x.op=5)=false:=Ai (by omega)
  have o6:dec (x.op=6)=false:=Ai (by omega)
  have o7:dec (x.op=7)=false:=Ai (by omega)
  have o8:dec (x.op=8)=false:=Ai (by omega)
  have o9:dec (x.op=9)=false:=Ai (by omega)
  have ha:=Kv x.atom
  have hv:=IE x.var
  rw [hf]
  by_cases hl:x.parts.length=1
  ·have hl2:dec ((x.parts.length:Int)=1)=true:=Au (by omega)
   rw [hl,beq_self_eq_true,zD]
   cases hq:x.atom.isZ with
   | true =>
    rw [hq] at ha
    rw [zD]
    refine Aj Bm AY (of_decide_eq_true rfl) ?_
    simp (disch:=omega) only [Be,go_sem,o1,o2,o3,o4,o5,o6,o7,o8,o9,hl2,ha,hv,An,Aq,Ar]
    repeat ((first | (refine A2 ?_ ?_; (focus (simp (disch:=omega) only [go_sem,o1,o2,o3,o4,o5,o6,o7,o8,o9,hl2,ha,hv,An,Aq,Ar]; done))) | (refine A3 ?_ ?_; (focus (simp (disch:=omega) only [go_sem,o1,o2,o3,o4,o5,o6,o7,o8,o9,hl2,ha,hv,An,Aq,Ar]; done)))); (try simp (disch:=omega) only [go_sem,o1,o2,o3,o4,o5,o6,o7,o8,o9,hl2,ha,hv,An,Aq,Ar]))
   | false =>
    rw [hq] at ha
    rw [zA]
    refine Aj Bm AY (of_decide_eq_true rfl) ?_
    simp (disch:=omega) only [Be,go_sem,o1,o2,o3,o4,o5,o6,o7,o8,o9,hl2,ha,hv,An,Aq,Ar]
    repeat ((first | (refine A2 ?_ ?_; (focus (simp (disch:=omega) only [go_sem,o1,o2,o3,o4,o5,o6,o7,o8,o9,hl2,ha,hv,An,Aq,Ar]; done))) | (refine A3 ?_ ?_; (focus (simp (disch:=omega) only [go_sem,o1,o2,o3,o4,o5,o6,o7,o8,o9,hl2,ha,hv,An,Aq,Ar]; done)))); (try simp (disch:=omega) only [go_sem,o1,o2,o3,o4,o5,o6,o7,o8,o9,hl2,ha,hv,An,Aq,Ar]))
  ·have hl2:dec ((x.parts.length:Int)=1)=false:=Ai (by omega)
   have hl3:(x.parts.length == 1)=false:=by simpa using hl
   rw [hl3,zA,zA]
   refine Aj Bm AY (of_decide_eq_true rfl) ?_
   simp (disch:=omega) only [Be,go_sem,o1,o2,o3,o4,o5,o6,o7,o8,o9,hl2,ha,hv,An,Aq,Ar]
   repeat ((first | (refine A2 ?_ ?_; (focus (simp (disch:=omega) only [go_sem,o1,o2,o3,o4,o5,o6,o7,o8,o9,hl2,ha,hv,An,Aq,Ar]; done))) | (refine A3 ?_ ?_; (focus (simp (disch:=omega) only [go_sem,o1,o2,o3,o4,o5,o6,o7,o8,o9,hl2,ha,hv,An,Aq,Ar]; done)))); (try simp (disch:=omega) only [go_sem,o1,o2,o3,o4,o5,o6,o7,o8,o9,hl2,ha,hv,An,Aq,Ar]))
theorem Ns (x:Fm) (hn:x.atom.nodes≤1099511627776) (ho:x.op=5∨x.op=6∨x.op=7):E 66 [x.sv] []=some (.bool x.form,[]):=by
 have hf:x.form=(x.parts.length == 2&&x.atom.isZ&&dec (x.var=⟨#[]⟩)):=by unfold Fm.form; rcases ho with ho | ho | ho <;> simp [ho]
 rcases ho with ho | ho | ho
 all_goals
  have o1:dec (x.op=1)=false:=Ai (by omega)
  have o2:dec (x.op=2)=false:=Ai (by omega)
  have o3:dec (x.op=3)=false:=Ai (by omega)
  have o4:dec (x.op=4)=false:=Ai (by omega)
  first
   |(have o5:dec (x.op=5)=true:=Au ho)
   |(have o5:dec (x.op=5)=false:=Ai (by omega))
  first
   |(have o6:dec (x.op=6)=true:=Au ho)
   |(have o6:dec (x.op=6)=false:=Ai (by omega))
  first
   |(have o7:dec (x.op=7)=true:=Au ho)
   |(have o7:dec (x.op=7)=false:=Ai (by omega))
  have o8:dec (x.op=8)=false:=Ai (by omega)
  have o9:dec (x.op=9)=false:=Ai (by omega)
  have ha:=Kv x.atom
  have hv:=IE x.var
  rw [hf]
  by_cases hl:x.parts.length=2
  ·have hl2:dec ((x.parts.length:Int)=2)=true:=Au (by omega)
   rw [hl,beq_self_eq_true,zD]
   cases hq:x.atom.isZ with
   | true =>
    rw [hq] at ha
    rw [zD]
    refine Aj Bm AY (of_decide_eq_true rfl) ?_
    simp (disch:=omega) only [Be,go_sem,o1,o2,o3,o4,o5,o6,o7,o8,o9,hl2,ha,hv,An,Aq,Ar]
    repeat ((first | (refine A2 ?_ ?_; (focus (simp (disch:=omega) only [go_sem,o1,o2,o3,o4,o5,o6,o7,o8,o9,hl2,ha,hv,An,Aq,Ar]; done))) | (refine A3 ?_ ?_; (focus (simp (disch:=omega) only [go_sem,o1,o2,o3,o4,o5,o6,o7,o8,o9,hl2,ha,hv,An,Aq,Ar]; done)))); (try simp (disch:=omega) only [go_sem,o1,o2,o3,o4,o5,o6,o7,o8,o9,hl2,ha,hv,An,Aq,Ar]))
   | false =>
    rw [hq] at ha
    rw [zA]
    refine Aj Bm AY (of_decide_eq_true rfl) ?_
    simp (disch:=omega) only [Be,go_sem,o1,o2,o3,o4,o5,o6,o7,o8,o9,hl2,ha,hv,An,Aq,Ar]
    repeat ((first | (refine A2 ?_ ?_; (focus (simp (disch:=omega) only [go_sem,o1,o2,o3,o4,o5,o6,o7,o8,o9,hl2,ha,hv,An,Aq,Ar]; done))) | (refine A3 ?_ ?_; (focus (simp (disch:=omega) only [go_sem,o1,o2,o3,o4,o5,o6,o7,o8,o9,hl2,ha,hv,An,Aq,Ar]; done)))); (try simp (disch:=omega) only [go_sem,o1,o2,o3,o4,o5,o6,o7,o8,o9,hl2,ha,hv,An,Aq,Ar]))
  ·have hl2:dec ((x.parts.length:Int)=2)=false:=Ai (by omega)
   have hl3:(x.parts.length == 2)=false:=by simpa using hl
   rw [hl3,zA,zA]
   refine Aj Bm AY (of_decide_eq_true rfl) ?_
   simp (disch:=omega) only [Be,go_sem,o1,o2,o3,o4,o5,o6,o7,o8,o9,hl2,ha,hv,An,Aq,Ar]
   repeat ((first | (refine A2 ?_ ?_; (focus (simp (disch:=omega) only [go_sem,o1,o2,o3,o4,o5,o6,o7,o8,o9,hl2,ha,hv,An,Aq,Ar]; done))) | (refine A3 ?_ ?_; (focus (simp (disch:=omega) only [go_sem,o1,o2,o3,o4,o5,o6,o7,o8,o9,hl2,ha,hv,An,Aq,Ar]; done)))); (try simp (disch:=omega) only [go_sem,o1,o2,o3,o4,o5,o6,o7,o8,o9,hl2,ha,hv,An,Aq,Ar]))
theorem QN (x:Fm) (hn:x.atom.nodes≤1099511627776) (ho:x.op=8∨x.op=9):E 66 [x.sv] []=some (.bool x.form,[]):=by
 have hf:x.form=(x.parts.length == 1&&x.atom.isZ&&Bz x.var):=by unfold Fm.form; rcases ho with ho | ho <;> simp [ho]
 rcases ho with ho | ho
 all_goals
  have o1:dec (x.op=1)=false:=Ai (by omega)
  have o2:dec (x.op=2)=false:=Ai (by omega)
  have o3:dec (x.op=3)=false:=Ai (by omega)
  have o4:dec (x.op=4)=false:=Ai (by omega)
  have o5:dec (x.op=5)=false:=Ai (by omega)
  have o6:dec (x.op=6)=false:=Ai (by omega)
  have o7:dec (x.op=7)=false:=Ai (by omega)
  first
   |(have o8:dec (x.op=8)=true:=Au ho)
   |(have o8:dec (x.op=8)=false:=Ai (by omega))
  first
   |(have o9:dec (x.op=9)=true:=Au ho)
   |(have o9:dec (x.op=9)=false:=Ai (by omega))
  have ha:=Kv x.atom
  have hv:=IE x.var
  rw [hf]
  by_cases hl:x.parts.length=1
  ·have hl2:dec ((x.parts.length:Int)=1)=true:=Au (by omega)
   rw [hl,beq_self_eq_true,zD]
   cases hq:x.atom.isZ with
   | true =>
    rw [hq] at ha
    rw [zD]
    refine Aj Bm AY (of_decide_eq_true rfl) ?_
    simp (disch:=omega) only [Be,go_sem,o1,o2,o3,o4,o5,o6,o7,o8,o9,hl2,ha,hv,An,Aq,Ar]
    repeat ((first | (refine A2 ?_ ?_; (focus (simp (disch:=omega) only [go_sem,o1,o2,o3,o4,o5,o6,o7,o8,o9,hl2,ha,hv,An,Aq,Ar]; done))) | (refine A3 ?_ ?_; (focus (simp (disch:=omega) only [go_sem,o1,o2,o3,o4,o5,o6,o7,o8,o9,hl2,ha,hv,An,Aq,Ar]; done)))); (try simp (disch:=omega) only [go_sem,o1,o2,o3,o4,o5,o6,o7,o8,o9,hl2,ha,hv,An,Aq,Ar]))
   | false =>
    rw [hq] at ha
    rw [zA]
    refine Aj Bm AY (of_decide_eq_true rfl) ?_
    simp (disch:=omega) only [Be,go_sem,o1,o2,o3,o4,o5,o6,o7,o8,o9,hl2,ha,hv,An,Aq,Ar]
    repeat ((first | (refine A2 ?_ ?_; (focus (simp (disch:=omega) only [go_sem,o1,o2,o3,o4,o5,o6,o7,o8,o9,hl2,ha,hv,An,Aq,Ar]; done))) | (refine A3 ?_ ?_; (focus (simp (disch:=omega) only [go_sem,o1,o2,o3,o4,o5,o6,o7,o8,o9,hl2,ha,hv,An,Aq,Ar]; done)))); (try simp (disch:=omega) only [go_sem,o1,o2,o3,o4,o5,o6,o7,o8,o9,hl2,ha,hv,An,Aq,Ar]))
  ·have hl2:dec ((x.parts.length:Int)=1)=false:=Ai (by omega)
   have hl3:(x.parts.length == 1)=false:=by simpa using hl
   rw [hl3,zA,zA]
   refine Aj Bm AY (of_decide_eq_true rfl) ?_
   simp (disch:=omega) only [Be,go_sem,o1,o2,o3,o4,o5,o6,o7,o8,o9,hl2,ha,hv,An,Aq,Ar]
   repeat ((first | (refine A2 ?_ ?_; (focus (simp (disch:=omega) only [go_sem,o1,o2,o3,o4,o5,o6,o7,o8,o9,hl2,ha,hv,An,Aq,Ar]; done))) | (refine A3 ?_ ?_; (focus (simp (disch:=omega) only [go_sem,o1,o2,o3,o4,o5,o6,o7,o8,o9,hl2,ha,hv,An,Aq,Ar]; done)))); (try simp (disch:=omega) only [go_sem,o1,o2,o3,o4,o5,o6,o7,o8,o9,hl2,ha,hv,An,Aq,Ar]))
theorem VG (x:Fm) (hn:x.atom.nodes≤1099511627776):E 66 [x.sv] []=some (.bool x.form,[]):=by
 rcases Kl x.op with h | h | h | h | h | h | h | h | h | h
 ·exact QM x hn (.inl h)
 ·exact QM x hn (.inr h)
 ·exact VE x hn h
 ·exact VF x hn h
 ·exact Ns x hn (.inl h)
 ·exact Ns x hn (.inr (.inl h))
 ·exact Ns x hn (.inr (.inr h))
 ·exact QN x hn (.inl h)
 ·exact QN x hn (.inr h)
 ·obtain ⟨h1,h2,h3,h4,h5,h6,h7,h8,h9⟩:=h
  have hf:x.form=false:=by unfold Fm.form; simp [h1,h2,h3,h4,h5,h6,h7,h8,h9]
  have o1:=Ai h1
  have o2:=Ai h2
  have o3:=Ai h3
  have o4:=Ai h4
  have o5:=Ai h5
  have o6:=Ai h6
  have o7:=Ai h7
  have o8:=Ai h8
  have o9:=Ai h9
  rw [hf]
  refine Aj Bm AY (of_decide_eq_true rfl) ?_
  simp (disch:=omega) only [Be,go_sem,o1,o2,o3,o4,o5,o6,o7,o8,o9]
  repeat ((first | (refine A2 ?_ ?_; (focus (simp (disch:=omega) only [go_sem,o1,o2,o3,o4,o5,o6,o7,o8,o9]; done))) | (refine A3 ?_ ?_; (focus (simp (disch:=omega) only [go_sem,o1,o2,o3,o4,o5,o6,o7,o8,o9]; done)))); (try simp (disch:=omega) only [go_sem,o1,o2,o3,o4,o5,o6,o7,o8,o9]))
theorem Sd (x:Fm) (ht:x.tame) (hn:x.nodes≤1099511627776) (ih:∀ y∈x.parts,E 36 [y.sv] []=some (.bool y.forms,[])):E 36 [x.sv] []=some (.bool x.forms,[]):=by
 have hl:=Fm.length_le x.parts
 have hx:=Fm.nodes_eq x
 have hf:=VG x (Fm.IH ht)
 rw [Fm.DU]
 cases hq:x.form with
 | false =>
  rw [hq] at hf
  rw [zA]
  refine Aj Iq Dc (of_decide_eq_true rfl) ?_
  simp (disch:=omega) only [Gh,go_sem,Ab,hf,AY]
 | true =>
  rw [hq] at hf
  rw [zD]
  refine Aj Iq Dc (of_decide_eq_true rfl) ?_
  simp (disch:=omega) only [Gh,go_sem,Ab,hf,AY]
  refine go_loop (α:=Int) (fun a=>⟨slots 21 0 [(1,.ptr 0 0),(3,.int .i64 a)],[.box 29 [.int .i64 x.op,.str x.atom.name,.arr (x.atom.args.map Tm.d),.str x.var,.arr (x.parts.map Fm.d)]]⟩) (fun a=>∃ k:Nat,a=k∧k≤(x.parts).length∧Fm.Ji (x.parts.drop k)=Fm.Ji x.parts) (fun a=>(x.parts).length-(a).toNat) 0 ⟨0,rfl,zO _,by rw [zM]⟩ (by simp (disch:=omega) only [go_sem,Ab]) ?_
  rintro i ⟨k,hi,hk,hR⟩
  have hni:i.toNat=k:=by omega
  have hni1:(i+1).toNat=k+1:=by omega
  rcases zI k (x.parts).length with hlt | hge
  ·have hg:=get_at Fm.d hlt
   rw [Fm.d_eq] at hg
   have hc:=ih x.parts[k] (zJ hlt)
   rw [zB hlt,Fm.Ji] at hR
   cases hp:x.parts[k].forms with
   | true =>
    rw [hp] at hc hR
    rw [zD] at hR
    simp (disch:=omega) only [go_sem,Ab,hni,hg,hc,Dc]
    exact ⟨i+1,⟨k+1,by omega,hlt,hR⟩,by omega,by first | trivial | rfl⟩
   | false =>
    rw [hp] at hc hR
    rw [zA] at hR
    simp (disch:=omega) only [go_sem,Ab,hni,hg,hc,Dc]
    exact hR
  ·rw [zK hge,Fm.Ji] at hR
   simp (disch:=omega) only [go_sem,Ab,hni]
   exact hR
theorem OM (x:Fm) (ht:x.tame) (hn:x.nodes≤1099511627776):E 36 [x.sv] []=some (.bool x.forms,[]) :=
 Sd x ht hn fun y hy=>OM y (Fm.II ht hy) (by have:=Fm.nodes_mem hy; have:=Fm.nodes_eq x; omega)
termination_by SizeOf.sizeOf x
decreasing_by exact Fm.lt_of_mem hy
theorem ON (x:Fm) (hn:x.atom.nodes≤1099511627776) (hl0:x.parts.length≤1099511627776) (ho:x.op=1∨x.op=2) (h2:E 47 [.arr (x.parts.map Fm.d),.fn 58 []] []=some (.bool (x.parts.any fun y=>!y.forms),[])):E 27 [x.sv] []=some (.bool x.forms,[]):=by
 have hf:x.form=(x.parts.length == 0&&x.atom.isZ&&dec (x.var=⟨#[]⟩)):=by unfold Fm.form; rcases ho with ho | ho <;> simp [ho]
 rcases ho with ho | ho
 all_goals
  first
   |(have o1:dec (x.op=1)=true:=Au ho)
   |(have o1:dec (x.op=1)=false:=Ai (by omega))
  first
   |(have o2:dec (x.op=2)=true:=Au ho)
   |(have o2:dec (x.op=2)=false:=Ai (by omega))
  have o3:dec (x.op=3)=false:=Ai (by omega)
  have o4:dec (x.op=4)=false:=Ai (by omega)
  have o5:dec (x.op=5)=false:=Ai (by omega)
  have o6:dec (x.op=6)=false:=Ai (by omega)
  have o7:dec (x.op=7)=false:=Ai (by omega)
  have o8:dec (x.op=8)=false:=Ai (by omega)
  have o9:dec (x.op=9)=false:=Ai (by omega)
  have ha:=FD x.atom
  have hv:=Dl x.var
  have hb:=ES x.op
  have hu:=Cg x.op
  rw [o5,o6,o7] at hb
  rw [o8,o9] at hu
  rw [Fm.DU,hf,← Fm.any_not]
  by_cases hl:x.parts.length=0
  ·have hl2:dec ((x.parts.length:Int)=0)=true:=Au (by omega)
   rw [hl,beq_self_eq_true,zD]
   cases hw:dec (x.var=⟨#[]⟩) with
   | false =>
    try rw [hw] at hv
    rw [zQ,zA]
    refine Aj AJ AB (of_decide_eq_true rfl) ?_
    simp (disch:=omega) only [AE,go_sem,o1,o2,o3,o4,o5,o6,o7,o8,o9,hl2,ha,hv,hb,hu,hw,h2,Ad,Af,Ae,Ac,Ah,Aa]
    repeat ((first | (refine A2 ?_ ?_; (focus (simp (disch:=omega) only [go_sem,o1,o2,o3,o4,o5,o6,o7,o8,o9,hl2,ha,hv,hb,hu,hw,h2,Ad,Af,Ae,Ac,Ah,Aa]; done))) | (refine A3 ?_ ?_; (focus (simp (disch:=omega) only [go_sem,o1,o2,o3,o4,o5,o6,o7,o8,o9,hl2,ha,hv,hb,hu,hw,h2,Ad,Af,Ae,Ac,Ah,Aa]; done)))); (try simp (disch:=omega) only [go_sem,o1,o2,o3,o4,o5,o6,o7,o8,o9,hl2,ha,hv,hb,hu,hw,h2,Ad,Af,Ae,Ac,Ah,Aa]))
   | true =>
    try rw [hw] at hv
    rw [zX]
    cases hq:x.atom.isZ with
    | true =>
     rw [hq] at ha
     rw [zD]
     refine Aj AJ AB (of_decide_eq_true rfl) ?_
     simp (disch:=omega) only [AE,go_sem,o1,o2,o3,o4,o5,o6,o7,o8,o9,hl2,ha,hv,hb,hu,hw,h2,Ad,Af,Ae,Ac,Ah,Aa]
     repeat ((first | (refine A2 ?_ ?_; (focus (simp (disch:=omega) only [go_sem,o1,o2,o3,o4,o5,o6,o7,o8,o9,hl2,ha,hv,hb,hu,hw,h2,Ad,Af,Ae,Ac,Ah,Aa]; done))) | (refine A3 ?_ ?_; (focus (simp (disch:=omega) only [go_sem,o1,o2,o3,o4,o5,o6,o7,o8,o9,hl2,ha,hv,hb,hu,hw,h2,Ad,Af,Ae,Ac,Ah,Aa]; done)))); (try simp (disch:=omega) only [go_sem,o1,o2,o3,o4,o5,o6,o7,o8,o9,hl2,ha,hv,hb,hu,hw,h2,Ad,Af,Ae,Ac,Ah,Aa]))
    | false =>
     rw [hq] at ha
     rw [zA]
     refine Aj AJ AB (of_decide_eq_true rfl) ?_
     simp (disch:=omega) only [AE,go_sem,o1,o2,o3,o4,o5,o6,o7,o8,o9,hl2,ha,hv,hb,hu,hw,h2,Ad,Af,Ae,Ac,Ah,Aa]
     repeat ((first | (refine A2 ?_ ?_; (focus (simp (disch:=omega) only [go_sem,o1,o2,o3,o4,o5,o6,o7,o8,o9,hl2,ha,hv,hb,hu,hw,h2,Ad,Af,Ae,Ac,Ah,Aa]; done))) | (refine A3 ?_ ?_; (focus (simp (disch:=omega) only [go_sem,o1,o2,o3,o4,o5,o6,o7,o8,o9,hl2,ha,hv,hb,hu,hw,h2,Ad,Af,Ae,Ac,Ah,Aa]; done)))); (try simp (disch:=omega) only [go_sem,o1,o2,o3,o4,o5,o6,o7,o8,o9,hl2,ha,hv,hb,hu,hw,h2,Ad,Af,Ae,Ac,Ah,Aa]))
  ·have hl2:dec ((x.parts.length:Int)=0)=false:=Ai (by omega)
   have hl3:(x.parts.length == 0)=false:=by simpa using hl
   rw [hl3,zA,zA,zA]
   refine Aj AJ AB (of_decide_eq_true rfl) ?_
   simp (disch:=omega) only [AE,go_sem,o1,o2,o3,o4,o5,o6,o7,o8,o9,hl2,ha,hv,hb,hu, h2,Ad,Af,Ae,Ac,Ah,Aa]
   repeat ((first | (refine A2 ?_ ?_; (focus (simp (disch:=omega) only [go_sem,o1,o2,o3,o4,o5,o6,o7,o8,o9,hl2,ha,hv,hb,hu, h2,Ad,Af,Ae,Ac,Ah,Aa]; done))) | (refine A3 ?_ ?_; (focus (simp (disch:=omega) only [go_sem,o1,o2,o3,o4,o5,o6,o7,o8,o9,hl2,ha,hv,hb,hu, h2,Ad,Af,Ae,Ac,Ah,Aa]; done)))); (try simp (disch:=omega) only [go_sem,o1,o2,o3,o4,o5,o6,o7,o8,o9,hl2,ha,hv,hb,hu, h2,Ad,Af,Ae,Ac,Ah,Aa]))
theorem TY (x:Fm) (hn:x.atom.nodes≤1099511627776) (hl0:x.parts.length≤1099511627776) (ho:x.op=3) (h2:E 47 [.arr (x.parts.map Fm.d),.fn 58 []] []=some (.bool (x.parts.any fun y=>!y.forms),[])):E 27 [x.sv] []=some (.bool x.forms,[]):=by
 have hf:x.form=(x.parts.length == 0&&x.atom.atom&&dec (x.var=⟨#[]⟩)):=by unfold Fm.form; rcases ho with ho <;> simp [ho]
 rcases ho with ho
 all_goals
  have o1:dec (x.op=1)=false:=Ai (by omega)
  have o2:dec (x.op=2)=false:=Ai (by omega)
  have o3:dec (x.op=3)=true:=Au ho
  have o4:dec (x.op=4)=false:=Ai (by omega)
  have o5:dec (x.op=5)=false:=Ai (by omega)
  have o6:dec (x.op=6)=false:=Ai (by omega)
  have o7:dec (x.op=7)=false:=Ai (by omega)
  have o8:dec (x.op=8)=false:=Ai (by omega)
  have o9:dec (x.op=9)=false:=Ai (by omega)
  have ha:=NH x.atom (by omega)
  have hv:=Dl x.var
  have hb:=ES x.op
  have hu:=Cg x.op
  rw [o5,o6,o7] at hb
  rw [o8,o9] at hu
  rw [Fm.DU,hf,← Fm.any_not]
  by_cases hl:x.parts.length=0
  ·have hl2:dec ((x.parts.length:Int)=0)=true:=Au (by omega)
   rw [hl,beq_self_eq_true,zD]
   cases hw:dec (x.var=⟨#[]⟩) with
   | false =>
    try rw [hw] at hv
    rw [zQ,zA]
    refine Aj AJ AB (of_decide_eq_true rfl) ?_
    simp (disch:=omega) only [AE,go_sem,o1,o2,o3,o4,o5,o6,o7,o8,o9,hl2,ha,hv,hb,hu,hw,h2,Ad,Af,Ae,Ac,Ah,Aa]
    repeat ((first | (refine A2 ?_ ?_; (focus (simp (disch:=omega) only [go_sem,o1,o2,o3,o4,o5,o6,o7,o8,o9,hl2,ha,hv,hb,hu,hw,h2,Ad,Af,Ae,Ac,Ah,Aa]; done))) | (refine A3 ?_ ?_; (focus (simp (disch:=omega) only [go_sem,o1,o2,o3,o4,o5,o6,o7,o8,o9,hl2,ha,hv,hb,hu,hw,h2,Ad,Af,Ae,Ac,Ah,Aa]; done)))); (try simp (disch:=omega) only [go_sem,o1,o2,o3,o4,o5,o6,o7,o8,o9,hl2,ha,hv,hb,hu,hw,h2,Ad,Af,Ae,Ac,Ah,Aa]))
   | true =>
    try rw [hw] at hv
    rw [zX]
    cases hq:x.atom.atom with
    | true =>
     rw [hq] at ha
     rw [zD]
     refine Aj AJ AB (of_decide_eq_true rfl) ?_
     simp (disch:=omega) only [AE,go_sem,o1,o2,o3,o4,o5,o6,o7,o8,o9,hl2,ha,hv,hb,hu,hw,h2,Ad,Af,Ae,Ac,Ah,Aa]
     repeat ((first | (refine A2 ?_ ?_; (focus (simp (disch:=omega) only [go_sem,o1,o2,o3,o4,o5,o6,o7,o8,o9,hl2,ha,hv,hb,hu,hw,h2,Ad,Af,Ae,Ac,Ah,Aa]; done))) | (refine A3 ?_ ?_; (focus (simp (disch:=omega) only [go_sem,o1,o2,o3,o4,o5,o6,o7,o8,o9,hl2,ha,hv,hb,hu,hw,h2,Ad,Af,Ae,Ac,Ah,Aa]; done)))); (try simp (disch:=omega) only [go_sem,o1,o2,o3,o4,o5,o6,o7,o8,o9,hl2,ha,hv,hb,hu,hw,h2,Ad,Af,Ae,Ac,Ah,Aa]))
    | false =>
     rw [hq] at ha
     rw [zA]
     refine Aj AJ AB (of_decide_eq_true rfl) ?_
     simp (disch:=omega) only [AE,go_sem,o1,o2,o3,o4,o5,o6,o7,o8,o9,hl2,ha,hv,hb,hu,hw,h2,Ad,Af,Ae,Ac,Ah,Aa]
     repeat ((first | (refine A2 ?_ ?_; (focus (simp (disch:=omega) only [go_sem,o1,o2,o3,o4,o5,o6,o7,o8,o9,hl2,ha,hv,hb,hu,hw,h2,Ad,Af,Ae,Ac,Ah,Aa]; done))) | (refine A3 ?_ ?_; (focus (simp (disch:=omega) only [go_sem,o1,o2,o3,o4,o5,o6,o7,o8,o9,hl2,ha,hv,hb,hu,hw,h2,Ad,Af,Ae,Ac,Ah,Aa]; done)))); (try simp (disch:=omega) only [go_sem,o1,o2,o3,o4,o5,o6,o7,o8,o9,hl2,ha,hv,hb,hu,hw,h2,Ad,Af,Ae,Ac,Ah,Aa]))
  ·have hl2:dec ((x.parts.length:Int)=0)=false:=Ai (by omega)
   have hl3:(x.parts.length == 0)=false:=by simpa using hl
   rw [hl3,zA,zA,zA]
   refine Aj AJ AB (of_decide_eq_true rfl) ?_
   simp (disch:=omega) only [AE,go_sem,o1,o2,o3,o4,o5,o6,o7,o8,o9,hl2,ha,hv,hb,hu, h2,Ad,Af,Ae,Ac,Ah,Aa]
   repeat ((first | (refine A2 ?_ ?_; (focus (simp (disch:=omega) only [go_sem,o1,o2,o3,o4,o5,o6,o7,o8,o9,hl2,ha,hv,hb,hu, h2,Ad,Af,Ae,Ac,Ah,Aa]; done))) | (refine A3 ?_ ?_; (focus (simp (disch:=omega) only [go_sem,o1,o2,o3,o4,o5,o6,o7,o8,o9,hl2,ha,hv,hb,hu, h2,Ad,Af,Ae,Ac,Ah,Aa]; done)))); (try simp (disch:=omega) only [go_sem,o1,o2,o3,o4,o5,o6,o7,o8,o9,hl2,ha,hv,hb,hu, h2,Ad,Af,Ae,Ac,Ah,Aa]))
theorem TZ (x:Fm) (hn:x.atom.nodes≤1099511627776) (hl0:x.parts.length≤1099511627776) (ho:x.op=4) (h2:E 47 [.arr (x.parts.map Fm.d),.fn 58 []] []=some (.bool (x.parts.any fun y=>!y.forms),[])):E 27 [x.sv] []=some (.bool x.forms,[]):=by
 have hf:x.form=(x.parts.length == 1&&x.atom.isZ&&dec (x.var=⟨#[]⟩)):=by unfold Fm.form; rcases ho with ho <;> simp [ho]
 rcases ho with ho
 all_goals
  have o1:dec (x.op=1)=false:=Ai (by omega)
  have o2:dec (x.op=2)=false:=Ai (by omega)
  have o3:dec (x.op=3)=false:=Ai (by omega)
  have o4:dec (x.op=4)=true:=Au ho
  have o5:dec (x.op=5)=false:=Ai (by omega)
  have o6:dec (x.op=6)=false:=Ai (by omega)
  have o7:dec (x.op=7)=false:=Ai (by omega)
  have o8:dec (x.op=8)=false:=Ai (by omega)
  have o9:dec (x.op=9)=false:=Ai (by omega)
  have ha:=FD x.atom
  have hv:=Dl x.var
  have hb:=ES x.op
  have hu:=Cg x.op
  rw [o5,o6,o7] at hb
  rw [o8,o9] at hu
  rw [Fm.DU,hf,← Fm.any_not]
  by_cases hl:x.parts.length=1
  ·have hl2:dec ((x.parts.length:Int)=1)=true:=Au (by omega)
   rw [hl,beq_self_eq_true,zD]
   cases hw:dec (x.var=⟨#[]⟩) with
   | false =>
    try rw [hw] at hv
    rw [zQ,zA]
    refine Aj AJ AB (of_decide_eq_true rfl) ?_
    simp (disch:=omega) only [AE,go_sem,o1,o2,o3,o4,o5,o6,o7,o8,o9,hl2,ha,hv,hb,hu,hw,h2,Ad,Af,Ae,Ac,Ah,Aa]
    repeat ((first | (refine A2 ?_ ?_; (focus (simp (disch:=omega) only [go_sem,o1,o2,o3,o4,o5,o6,o7,o8,o9,hl2,ha,hv,hb,hu,hw,h2,Ad,Af,Ae,Ac,Ah,Aa]; done))) | (refine A3 ?_ ?_; (focus (simp (disch:=omega) only [go_sem,o1,o2,o3,o4,o5,o6,o7,o8,o9,hl2,ha,hv,hb,hu,hw,h2,Ad,Af,Ae,Ac,Ah,Aa]; done)))); (try simp (disch:=omega) only [go_sem,o1,o2,o3,o4,o5,o6,o7,o8,o9,hl2,ha,hv,hb,hu,hw,h2,Ad,Af,Ae,Ac,Ah,Aa]))
   | true =>
    try rw [hw] at hv
    rw [zX]
    cases hq:x.atom.isZ with
    | true =>
     rw [hq] at ha
     rw [zD]
     refine Aj AJ AB (of_decide_eq_true rfl) ?_
     simp (disch:=omega) only [AE,go_sem,o1,o2,o3,o4,o5,o6,o7,o8,o9,hl2,ha,hv,hb,hu,hw,h2,Ad,Af,Ae,Ac,Ah,Aa]
     repeat ((first | (refine A2 ?_ ?_; (focus (simp (disch:=omega) only [go_sem,o1,o2,o3,o4,o5,o6,o7,o8,o9,hl2,ha,hv,hb,hu,hw,h2,Ad,Af,Ae,Ac,Ah,Aa]; done))) | (refine A3 ?_ ?_; (focus (simp (disch:=omega) only [go_sem,o1,o2,o3,o4,o5,o6,o7,o8,o9,hl2,ha,hv,hb,hu,hw,h2,Ad,Af,Ae,Ac,Ah,Aa]; done)))); (try simp (disch:=omega) only [go_sem,o1,o2,o3,o4,o5,o6,o7,o8,o9,hl2,ha,hv,hb,hu,hw,h2,Ad,Af,Ae,Ac,Ah,Aa]))
    | false =>
     rw [hq] at ha
     rw [zA]
     refine Aj AJ AB (of_decide_eq_true rfl) ?_
     simp (disch:=omega) only [AE,go_sem,o1,o2,o3,o4,o5,o6,o7,o8,o9,hl2,ha,hv,hb,hu,hw,h2,Ad,Af,Ae,Ac,Ah,Aa]
     repeat ((first | (refine A2 ?_ ?_; (focus (simp (disch:=omega) only [go_sem,o1,o2,o3,o4,o5,o6,o7,o8,o9,hl2,ha,hv,hb,hu,hw,h2,Ad,Af,Ae,Ac,Ah,Aa]; done))) | (refine A3 ?_ ?_; (focus (simp (disch:=omega) only [go_sem,o1,o2,o3,o4,o5,o6,o7,o8,o9,hl2,ha,hv,hb,hu,hw,h2,Ad,Af,Ae,Ac,Ah,Aa]; done)))); (try simp (disch:=omega) only [go_sem,o1,o2,o3,o4,o5,o6,o7,o8,o9,hl2,ha,hv,hb,hu,hw,h2,Ad,Af,Ae,Ac,Ah,Aa]))
  ·have hl2:dec ((x.parts.length:Int)=1)=false:=Ai (by omega)
   have hl3:(x.parts.length == 1)=false:=by simpa using hl
   rw [hl3,zA,zA,zA]
   refine Aj AJ AB (of_decide_eq_true rfl) ?_
   simp (disch:=omega) only [AE,go_sem,o1,o2,o3,o4,o5,o6,o7,o8,o9,hl2,ha,hv,hb,hu, h2,Ad,Af,Ae,Ac,Ah,Aa]
   repeat ((first | (refine A2 ?_ ?_; (focus (simp (disch:=omega) only [go_sem,o1,o2,o3,o4,o5,o6,o7,o8,o9,hl2,ha,hv,hb,hu, h2,Ad,Af,Ae,Ac,Ah,Aa]; done))) | (refine A3 ?_ ?_; (focus (simp (disch:=omega) only [go_sem,o1,o2,o3,o4,o5,o6,o7,o8,o9,hl2,ha,hv,hb,hu, h2,Ad,Af,Ae,Ac,Ah,Aa]; done)))); (try simp (disch:=omega) only [go_sem,o1,o2,o3,o4,o5,o6,o7,o8,o9,hl2,ha,hv,hb,hu, h2,Ad,Af,Ae,Ac,Ah,Aa]))
theorem KY (x:Fm) (hn:x.atom.nodes≤1099511627776) (hl0:x.parts.length≤1099511627776) (ho:x.op=5∨x.op=6∨x.op=7) (h2:E 47 [.arr (x.parts.map Fm.d),.fn 58 []] []=some (.bool (x.parts.any fun y=>!y.forms),[])):E 27 [x.sv] []=some (.bool x.forms,[]):=by
 have hf:x.form=(x.parts.length == 2&&x.atom.isZ&&dec (x.var=⟨#[]⟩)):=by unfold Fm.form; rcases ho with ho | ho | ho <;> simp [ho]
 rcases ho with ho | ho | ho
 all_goals
  have o1:dec (x.op=1)=false:=Ai (by omega)
  have o2:dec (x.op=2)=false:=Ai (by omega)
  have o3:dec (x.op=3)=false:=Ai (by omega)
  have o4:dec (x.op=4)=false:=Ai (by omega)
  first
   |(have o5:dec (x.op=5)=true:=Au ho)
   |(have o5:dec (x.op=5)=false:=Ai (by omega))
  first
   |(have o6:dec (x.op=6)=true:=Au ho)
   |(have o6:dec (x.op=6)=false:=Ai (by omega))
  first
   |(have o7:dec (x.op=7)=true:=Au ho)
   |(have o7:dec (x.op=7)=false:=Ai (by omega))
  have o8:dec (x.op=8)=false:=Ai (by omega)
  have o9:dec (x.op=9)=false:=Ai (by omega)
  have ha:=FD x.atom
  have hv:=Dl x.var
  have hb:=ES x.op
  have hu:=Cg x.op
  rw [o5,o6,o7] at hb
  rw [o8,o9] at hu
  rw [Fm.DU,hf,← Fm.any_not]
  by_cases hl:x.parts.length=2
  ·have hl2:dec ((x.parts.length:Int)=2)=true:=Au (by omega)
   rw [hl,beq_self_eq_true,zD]
   cases hw:dec (x.var=⟨#[]⟩) with
   | false =>
    try rw [hw] at hv
    rw [zQ,zA]
    refine Aj AJ AB (of_decide_eq_true rfl) ?_
    simp (disch:=omega) only [AE,go_sem,o1,o2,o3,o4,o5,o6,o7,o8,o9,hl2,ha,hv,hb,hu,hw,h2,Ad,Af,Ae,Ac,Ah,Aa]
    repeat ((first | (refine A2 ?_ ?_; (focus (simp (disch:=omega) only [go_sem,o1,o2,o3,o4,o5,o6,o7,o8,o9,hl2,ha,hv,hb,hu,hw,h2,Ad,Af,Ae,Ac,Ah,Aa]; done))) | (refine A3 ?_ ?_; (focus (simp (disch:=omega) only [go_sem,o1,o2,o3,o4,o5,o6,o7,o8,o9,hl2,ha,hv,hb,hu,hw,h2,Ad,Af,Ae,Ac,Ah,Aa]; done)))); (try simp (disch:=omega) only [go_sem,o1,o2,o3,o4,o5,o6,o7,o8,o9,hl2,ha,hv,hb,hu,hw,h2,Ad,Af,Ae,Ac,Ah,Aa]))
   | true =>
    try rw [hw] at hv
    rw [zX]
    cases hq:x.atom.isZ with
    | true =>
     rw [hq] at ha
     rw [zD]
     refine Aj AJ AB (of_decide_eq_true rfl) ?_
     simp (disch:=omega) only [AE,go_sem,o1,o2,o3,o4,o5,o6,o7,o8,o9,hl2,ha,hv,hb,hu,hw,h2,Ad,Af,Ae,Ac,Ah,Aa]
     repeat ((first | (refine A2 ?_ ?_; (focus (simp (disch:=omega) only [go_sem,o1,o2,o3,o4,o5,o6,o7,o8,o9,hl2,ha,hv,hb,hu,hw,h2,Ad,Af,Ae,Ac,Ah,Aa]; done))) | (refine A3 ?_ ?_; (focus (simp (disch:=omega) only [go_sem,o1,o2,o3,o4,o5,o6,o7,o8,o9,hl2,ha,hv,hb,hu,hw,h2,Ad,Af,Ae,Ac,Ah,Aa]; done)))); (try simp (disch:=omega) only [go_sem,o1,o2,o3,o4,o5,o6,o7,o8,o9,hl2,ha,hv,hb,hu,hw,h2,Ad,Af,Ae,Ac,Ah,Aa]))
    | false =>
     rw [hq] at ha
     rw [zA]
     refine Aj AJ AB (of_decide_eq_true rfl) ?_
     simp (disch:=omega) only [AE,go_sem,o1,o2,o3,o4,o5,o6,o7,o8,o9,hl2,ha,hv,hb,hu,hw,h2,Ad,Af,Ae,Ac,Ah,Aa]
     repeat ((first | (refine A2 ?_ ?_; (focus (simp (disch:=omega) only [go_sem,o1,o2,o3,o4,o5,o6,o7,o8,o9,hl2,ha,hv,hb,hu,hw,h2,Ad,Af,Ae,Ac,Ah,Aa]; done))) | (refine A3 ?_ ?_; (focus (simp (disch:=omega) only [go_sem,o1,o2,o3,o4,o5,o6,o7,o8,o9,hl2,ha,hv,hb,hu,hw,h2,Ad,Af,Ae,Ac,Ah,Aa]; done)))); (try simp (disch:=omega) only [go_sem,o1,o2,o3,o4,o5,o6,o7,o8,o9,hl2,ha,hv,hb,hu,hw,h2,Ad,Af,Ae,Ac,Ah,Aa]))
  ·have hl2:dec ((x.parts.length:Int)=2)=false:=Ai (by omega)
   have hl3:(x.parts.length == 2)=false:=by simpa using hl
   rw [hl3,zA,zA,zA]
   refine Aj AJ AB (of_decide_eq_true rfl) ?_
   simp (disch:=omega) only [AE,go_sem,o1,o2,o3,o4,o5,o6,o7,o8,o9,hl2,ha,hv,hb,hu, h2,Ad,Af,Ae,Ac,Ah,Aa]
   repeat ((first | (refine A2 ?_ ?_; (focus (simp (disch:=omega) only [go_sem,o1,o2,o3,o4,o5,o6,o7,o8,o9,hl2,ha,hv,hb,hu, h2,Ad,Af,Ae,Ac,Ah,Aa]; done))) | (refine A3 ?_ ?_; (focus (simp (disch:=omega) only [go_sem,o1,o2,o3,o4,o5,o6,o7,o8,o9,hl2,ha,hv,hb,hu, h2,Ad,Af,Ae,Ac,Ah,Aa]; done)))); (try simp (disch:=omega) only [go_sem,o1,o2,o3,o4,o5,o6,o7,o8,o9,hl2,ha,hv,hb,hu, h2,Ad,Af,Ae,Ac,Ah,Aa]))
theorem OO (x:Fm) (hn:x.atom.nodes≤1099511627776) (hl0:x.parts.length≤1099511627776) (ho:x.op=8∨x.op=9) (h2:E 47 [.arr (x.parts.map Fm.d),.fn 58 []] []=some (.bool (x.parts.any fun y=>!y.forms),[])):E 27 [x.sv] []=some (.bool x.forms,[]):=by
 have hf:x.form=(x.parts.length == 1&&x.atom.isZ&&Bz x.var):=by unfold Fm.form; rcases ho with ho | ho <;> simp [ho]
 rcases ho with ho | ho
 all_goals
  have o1:dec (x.op=1)=false:=Ai (by omega)
  have o2:dec (x.op=2)=false:=Ai (by omega)
  have o3:dec (x.op=3)=false:=Ai (by omega)
  have o4:dec (x.op=4)=false:=Ai (by omega)
  have o5:dec (x.op=5)=false:=Ai (by omega)
  have o6:dec (x.op=6)=false:=Ai (by omega)
  have o7:dec (x.op=7)=false:=Ai (by omega)
  first
   |(have o8:dec (x.op=8)=true:=Au ho)
   |(have o8:dec (x.op=8)=false:=Ai (by omega))
  first
   |(have o9:dec (x.op=9)=true:=Au ho)
   |(have o9:dec (x.op=9)=false:=Ai (by omega))
  have ha:=FD x.atom
  have hv:=Dl x.var
  have hb:=ES x.op
  have hu:=Cg x.op
  rw [o5,o6,o7] at hb
  rw [o8,o9] at hu
  rw [Fm.DU,hf,← Fm.any_not]
  by_cases hl:x.parts.length=1
  ·have hl2:dec ((x.parts.length:Int)=1)=true:=Au (by omega)
   rw [hl,beq_self_eq_true,zD]
   cases hw:Bz x.var with
   | false =>
    try rw [hw] at hv
    rw [zQ,zA]
    refine Aj AJ AB (of_decide_eq_true rfl) ?_
    simp (disch:=omega) only [AE,go_sem,o1,o2,o3,o4,o5,o6,o7,o8,o9,hl2,ha,hv,hb,hu, h2,Ad,Af,Ae,Ac,Ah,Aa]
    repeat ((first | (refine A2 ?_ ?_; (focus (simp (disch:=omega) only [go_sem,o1,o2,o3,o4,o5,o6,o7,o8,o9,hl2,ha,hv,hb,hu, h2,Ad,Af,Ae,Ac,Ah,Aa]; done))) | (refine A3 ?_ ?_; (focus (simp (disch:=omega) only [go_sem,o1,o2,o3,o4,o5,o6,o7,o8,o9,hl2,ha,hv,hb,hu, h2,Ad,Af,Ae,Ac,Ah,Aa]; done)))); (try simp (disch:=omega) only [go_sem,o1,o2,o3,o4,o5,o6,o7,o8,o9,hl2,ha,hv,hb,hu, h2,Ad,Af,Ae,Ac,Ah,Aa]))
   | true =>
    try rw [hw] at hv
    rw [zX]
    cases hq:x.atom.isZ with
    | true =>
     rw [hq] at ha
     rw [zD]
     refine Aj AJ AB (of_decide_eq_true rfl) ?_
     simp (disch:=omega) only [AE,go_sem,o1,o2,o3,o4,o5,o6,o7,o8,o9,hl2,ha,hv,hb,hu, h2,Ad,Af,Ae,Ac,Ah,Aa]
     repeat ((first | (refine A2 ?_ ?_; (focus (simp (disch:=omega) only [go_sem,o1,o2,o3,o4,o5,o6,o7,o8,o9,hl2,ha,hv,hb,hu, h2,Ad,Af,Ae,Ac,Ah,Aa]; done))) | (refine A3 ?_ ?_; (focus (simp (disch:=omega) only [go_sem,o1,o2,o3,o4,o5,o6,o7,o8,o9,hl2,ha,hv,hb,hu, h2,Ad,Af,Ae,Ac,Ah,Aa]; done)))); (try simp (disch:=omega) only [go_sem,o1,o2,o3,o4,o5,o6,o7,o8,o9,hl2,ha,hv,hb,hu, h2,Ad,Af,Ae,Ac,Ah,Aa]))
    | false =>
     rw [hq] at ha
     rw [zA]
     refine Aj AJ AB (of_decide_eq_true rfl) ?_
     simp (disch:=omega) only [AE,go_sem,o1,o2,o3,o4,o5,o6,o7,o8,o9,hl2,ha,hv,hb,hu, h2,Ad,Af,Ae,Ac,Ah,Aa]
     repeat ((first | (refine A2 ?_ ?_; (focus (simp (disch:=omega) only [go_sem,o1,o2,o3,o4,o5,o6,o7,o8,o9,hl2,ha,hv,hb,hu, h2,Ad,Af,Ae,Ac,Ah,Aa]; done))) | (refine A3 ?_ ?_; (focus (simp (disch:=omega) only [go_sem,o1,o2,o3,o4,o5,o6,o7,o8,o9,hl2,ha,hv,hb,hu, h2,Ad,Af,Ae,Ac,Ah,Aa]; done)))); (try simp (disch:=omega) only [go_sem,o1,o2,o3,o4,o5,o6,o7,o8,o9,hl2,ha,hv,hb,hu, h2,Ad,Af,Ae,Ac,Ah,Aa]))
  ·have hl2:dec ((x.parts.length:Int)=1)=false:=Ai (by omega)
   have hl3:(x.parts.length == 1)=false:=by simpa using hl
   rw [hl3,zA,zA,zA]
   refine Aj AJ AB (of_decide_eq_true rfl) ?_
   simp (disch:=omega) only [AE,go_sem,o1,o2,o3,o4,o5,o6,o7,o8,o9,hl2,ha,hv,hb,hu, h2,Ad,Af,Ae,Ac,Ah,Aa]
   repeat ((first | (refine A2 ?_ ?_; (focus (simp (disch:=omega) only [go_sem,o1,o2,o3,o4,o5,o6,o7,o8,o9,hl2,ha,hv,hb,hu, h2,Ad,Af,Ae,Ac,Ah,Aa]; done))) | (refine A3 ?_ ?_; (focus (simp (disch:=omega) only [go_sem,o1,o2,o3,o4,o5,o6,o7,o8,o9,hl2,ha,hv,hb,hu, h2,Ad,Af,Ae,Ac,Ah,Aa]; done)))); (try simp (disch:=omega) only [go_sem,o1,o2,o3,o4,o5,o6,o7,o8,o9,hl2,ha,hv,hb,hu, h2,Ad,Af,Ae,Ac,Ah,Aa]))
theorem Se (x:Fm) (ht:x.tame) (hn:x.nodes≤1099511627776) (ih:∀ y∈x.parts,E 27 [y.sv] []=some (.bool y.forms,[])):E 27 [x.sv] []=some (.bool x.forms,[]):=by
 have hl:=Fm.length_le x.parts
 have hx:=Fm.nodes_eq x
 have ha:=Fm.IH ht
 have h1:∀ y∈x.parts,E 58 [y.sv] []=some (.bool (!y.forms),[]):=fun y hy=>by
  have h:=ih y hy
  refine Aj KW Ho (of_decide_eq_true rfl) ?_
  simp (disch:=omega) only [Hn,go_sem,Ab,h,AB]
 have h2:=Gg 58 (fun y=>!y.forms) x.parts (by omega) KX (by rw [Ho]) h1
 rcases Kl x.op with h | h | h | h | h | h | h | h | h | h
 ·exact ON x ha (by omega) (.inl h) h2
 ·exact ON x ha (by omega) (.inr h) h2
 ·exact TY x ha (by omega) h h2
 ·exact TZ x ha (by omega) h h2
 ·exact KY x ha (by omega) (.inl h) h2
 ·exact KY x ha (by omega) (.inr (.inl h)) h2
 ·exact KY x ha (by omega) (.inr (.inr h)) h2
 ·exact OO x ha (by omega) (.inl h) h2
 ·exact OO x ha (by omega) (.inr h) h2
 ·obtain ⟨k1,k2,k3,k4,k5,k6,k7,k8,k9⟩:=h
  have hf:x.form=false:=by unfold Fm.form; simp [k1,k2,k3,k4,k5,k6,k7,k8,k9]
  have o1:=Ai k1
  have o2:=Ai k2
  have o3:=Ai k3
  have o4:=Ai k4
  have o5:=Ai k5
  have o6:=Ai k6
  have o7:=Ai k7
  have o8:=Ai k8
  have o9:=Ai k9
  have hb:=ES x.op
  have hu:=Cg x.op
  rw [o5,o6,o7] at hb
  rw [o8,o9] at hu
  rw [Fm.DU,hf,zA]
  refine Aj AJ AB (of_decide_eq_true rfl) ?_
  simp (disch:=omega) only [AE,go_sem,o1,o2,o3,o4,o5,o6,o7,o8,o9,hb,hu,Ac,Ah]
  repeat ((first | (refine A2 ?_ ?_; (focus (simp (disch:=omega) only [go_sem,o1,o2,o3,o4,o5,o6,o7,o8,o9,hb,hu,Ac,Ah]; done))) | (refine A3 ?_ ?_; (focus (simp (disch:=omega) only [go_sem,o1,o2,o3,o4,o5,o6,o7,o8,o9,hb,hu,Ac,Ah]; done)))); (try simp (disch:=omega) only [go_sem,o1,o2,o3,o4,o5,o6,o7,o8,o9,hb,hu,Ac,Ah]))
theorem OP (x:Fm) (ht:x.tame) (hn:x.nodes≤1099511627776):E 27 [x.sv] []=some (.bool x.forms,[]) :=
 Se x ht hn fun y hy=>OP y (Fm.II ht hy) (by have:=Fm.nodes_mem hy; have:=Fm.nodes_eq x; omega)
termination_by SizeOf.sizeOf x
decreasing_by exact Fm.lt_of_mem hy
theorem Cr (x:Fm) (ht:x.tame) (hn:x.nodes≤1099511627776):E 16 [x.sv] []=some (.bool x.valid,[]):=by
 have h1:=SS x hn
 have h2:=OP x ht hn
 have h3:=Fm.cap_spec x
 unfold Fm.valid
 rcases zI 40 x.nodes with h5 | h5
 ·rw [decide_eq_false (by omega),zA]
  have d:dec (x.cap≤40)=false:=Ai (by omega)
  refine Aj E9 AH (of_decide_eq_true rfl) ?_
  simp (disch:=omega) only [D2,go_sem,Ab,h1,h2,d,DV,AB]
 ·rw [decide_eq_true h5,zD]
  have d:dec (x.cap≤40)=true:=Au (by omega)
  refine Aj E9 AH (of_decide_eq_true rfl) ?_
  simp (disch:=omega) only [D2,go_sem,Ab,h1,h2,d,DV,AB]
theorem Nt (x:Fm) (ht:x.tame) (hn:x.nodes≤1099511627776):E 20 [x.sv] []=some (.bool x.valid,[]):=by
 have h1:=ST x 40 (by omega) (by omega) hn
 have h2:=OM x ht hn
 have h3:=Fm.many_spec x 40
 unfold Fm.valid
 rcases zI 40 x.nodes with h5 | h5
 ·rw [decide_eq_false (by omega),zA]
  have d:dec ((x.many 40)≤40)=false:=Ai (by omega)
  refine Aj Jn Dz (of_decide_eq_true rfl) ?_
  simp (disch:=omega) only [GG,go_sem,Ab,h1,h2,d,DW,Dc]
 ·rw [decide_eq_true h5,zD]
  have d:dec ((x.many 40)≤40)=true:=Au (by omega)
  refine Aj Jn Dz (of_decide_eq_true rfl) ?_
  simp (disch:=omega) only [GG,go_sem,Ab,h1,h2,d,DW,Dc]
def Fm.osh (x:Fm):List OT:=[.int x.op,.str x.atom.name,.sh (x.atom.args.map Tm.d),.str x.var,.sh (x.parts.map Fm.d)]
theorem Fm.osh_eq (x:Fm):x.osh=[.int x.op,.str x.atom.name,.sh (x.atom.args.map Tm.d),.str x.var,.sh (x.parts.map Fm.d)]:=rfl
theorem Fm.osh_full:∀ xs:List Fm,OT.AS (xs.map Fm.osh)=true
 | []=>rfl
 | x :: xs=>by simp only [zE,OT.AS,Fm.osh,OT.DI,OT.full,Fm.osh_full xs,z6]
theorem Fm.osh_er:∀ xs:List Fm,OT.erss (xs.map Fm.osh)=xs.map Fm.d
 | []=>rfl
 | x :: xs=>by simp only [zE,OT.erss,Fm.osh,OT.ers,OT.er,Fm.osh_er xs,Fm.d_eq]
theorem Fm.eta (x:Fm):Fm.mk x.op x.atom x.var x.parts=x:=by
 obtain ⟨a,b,c,d⟩:=x
 rfl
def Dx:SC:=(.seq (.reg [⟨some 2,none,.boxv 29 5 (.t 0)⟩,⟨(some 4),none,(.alloc 29 [(.int .i64 0),(.str ⟨#[]⟩),.nil,(.str ⟨#[]⟩),.nil])⟩]) (.seq (.dreg [[],[0],[],[2],[3,2],[],[5],[1,0,4,3,2,6,5],[],[8,7,1,0,4,3,2,6,5]] [⟨some 8,none,.faddr 0 (.t 2)⟩,⟨some 9,none,.load false 1 (.t 8)⟩,⟨some 10,none,.faddr 1 (.t 2)⟩,⟨some 11,none,.load true 2 (.t 10)⟩,⟨some 12,none,.call 59 [(.t 11)]⟩,⟨some 13,none,.faddr 3 (.t 2)⟩,⟨some 14,none,.load false 1 (.t 13)⟩,⟨(some 15),none,(.build [(.int .i64 0),(.str ⟨#[]⟩),.nil,(.str ⟨#[]⟩),.nil] [(0,(1,(.t 9))),(1,(2,(.t 12))),(3,(1,(.t 14)))])⟩,⟨(some 5),none,(.alloc 29 [(.int .i64 0),(.str ⟨#[]⟩),.nil,(.str ⟨#[]⟩),.nil])⟩,⟨none,none,(.store 5 (.t 5) (.t 15))⟩]) (.seq (.seq (.reg [⟨some 16,none,.faddr 4 (.t 2)⟩,⟨some 17,none,.load false 1 (.t 16)⟩,⟨some 18,none,.len false (.t 17)⟩,⟨some 19,none,.mv (.c (.int .i64 0))⟩]) (.block 0 (.loop [0,1,0,0,1,1,0,0,0,0,0,0,0,0,0,0,0,1,1,1,0,0,0,0,0,0,0,0,0,0,0,0,0] (.seq (.reg [⟨some 20,none,.bin .lss false (.t 19) (.t 18)⟩]) (.seq (.cond (.t 20) .skip (.exit 0)) (.seq (.block 1 (.seq (.reg [⟨some 21,none,.iaddr 5 (.t 17) (.t 19)⟩,⟨some 22,none,.load true 5 (.t 21)⟩,⟨(some 7),none,(.alloc 29 [(.int .i64 0),(.str ⟨#[]⟩),.nil,(.str ⟨#[]⟩),.nil])⟩,⟨none,none,(.store 5 (.t 7) (.t 22))⟩]) (.dreg [[],[0],[],[],[2,3],[4,2,3],[1,0,5,4,2,3],[0,1,2,3,4,5,6],[7,0,1,2,3,4,5,6]] [⟨some 23,none,.faddr 4 (.t 5)⟩,⟨some 24,none,.load false 1 (.t 23)⟩,⟨some 25,none,.mv (.t 1)⟩,⟨some 26,none,.load true 5 (.t 7)⟩,⟨some 27,none,.callv (.t 25) [(.t 26)]⟩,⟨(some 28),none,(.mkrow 29 5 [(.int .i64 0),(.str ⟨#[]⟩),.nil,(.str ⟨#[]⟩),.nil] 1 [(0,(.t 27))])⟩,⟨(some 29),none,(.append 29 5 88 [(.int .i64 0),(.str ⟨#[]⟩),.nil,(.str ⟨#[]⟩),.nil] (.t 24) (.t 28))⟩,⟨some 30,none,.faddr 4 (.t 5)⟩,⟨none,none,(.store 1 (.t 30) (.t 29))⟩]))) (.reg [⟨some 31,none,.bin .add false (.t 19) (.c (.int .i64 1))⟩,⟨some 19,none,.mv (.t 31)⟩]))))))) (.seq (.reg [⟨some 32,none,.load true 5 (.t 5)⟩,⟨none,none,(.store 5 (.t 4) (.t 32))⟩]) .ret))))
theorem Ed:codeOf Tryz.prog 31=some ⟨33,Dx,[(.cell 4 true 5)]⟩:=by kernel_rfl
theorem AZ:modes 31=⟨[],.own [none,none,some (26,2),none,some (29,5)],none,false⟩:=by unfold modes; rfl
def Gi:SC:=(.seq (.reg [⟨some 1,none,.boxv 29 5 (.t 0)⟩,⟨(some 2),none,(.alloc 29 [(.int .i64 0),(.str ⟨#[]⟩),.nil,(.str ⟨#[]⟩),.nil])⟩]) (.seq (.reg [⟨some 3,none,.load true 5 (.t 1)⟩,⟨some 4,none,.call 31 [(.t 3),(.c (.fn 28 []))]⟩,⟨none,none,(.store 5 (.t 2) (.t 4))⟩]) .ret))
theorem JH:codeOf Tryz.prog 28=some ⟨5,Gi,[(.cell 2 true 5)]⟩:=by kernel_rfl
theorem Bh:modes 28=⟨[],.own [none,none,some (26,2),none,some (29,5)],none,false⟩:=by unfold modes; rfl
theorem JI:Fu Tryz.prog 28=true:=by kernel_rfl
def Kw:SC:=(.seq (.reg [⟨some 1,none,.boxv 29 5 (.t 0)⟩,⟨(some 2),none,(.alloc 29 [(.int .i64 0),(.str ⟨#[]⟩),.nil,(.str ⟨#[]⟩),.nil])⟩]) (.seq (.dreg [[],[0],[],[2],[3,2],[],[5],[1,0,4,3,2,6,5],[],[8,7,1,0,4,3,2,6,5]] [⟨some 5,none,.faddr 0 (.t 1)⟩,⟨some 6,none,.load false 1 (.t 5)⟩,⟨some 7,none,.faddr 1 (.t 1)⟩,⟨some 8,none,.load true 2 (.t 7)⟩,⟨some 9,none,.call 67 [(.t 8)]⟩,⟨some 10,none,.faddr 3 (.t 1)⟩,⟨some 11,none,.load false 1 (.t 10)⟩,⟨(some 12),none,(.build [(.int .i64 0),(.str ⟨#[]⟩),.nil,(.str ⟨#[]⟩),.nil] [(0,(1,(.t 6))),(1,(2,(.t 9))),(3,(1,(.t 11)))])⟩,⟨(some 3),none,(.alloc 29 [(.int .i64 0),(.str ⟨#[]⟩),.nil,(.str ⟨#[]⟩),.nil])⟩,⟨none,none,(.store 5 (.t 3) (.t 12))⟩]) (.seq (.seq (.reg [⟨some 4,none,.mv (.c (.int .i64 0))⟩]) (.block 0 (.loop [0,1,1,1,1,0,0,0,0,0,0,0,0,0,0,0,0,0,0,0,0,0,0,0,0,0,0,0,0,0,0,0] (.seq (.seq (.reg [⟨some 13,none,.mv (.t 4)⟩,⟨some 14,none,.faddr 4 (.t 1)⟩,⟨some 15,none,.load false 1 (.t 14)⟩,⟨some 16,none,.len false (.t 15)⟩,⟨some 17,none,.bin .lss false (.t 13) (.t 16)⟩]) (.cond (.t 17) .skip (.exit 0))) (.seq (.block 1 (.dreg [[],[0],[],[2],[],[3,2,4],[5,3,2,4],[6,5,3,2,4],[7,6,5,3,2,4],[1,0,8,7,6,5,3,2,4],[0,1,2,3,4,5,6,7,8,9],[10,0,1,2,3,4,5,6,7,8,9]] [⟨some 20,none,.faddr 4 (.t 3)⟩,⟨some 21,none,.load false 1 (.t 20)⟩,⟨some 22,none,.faddr 4 (.t 1)⟩,⟨some 23,none,.load false 1 (.t 22)⟩,⟨some 24,none,.mv (.t 4)⟩,⟨some 25,none,.iaddr 5 (.t 23) (.t 24)⟩,⟨some 26,none,.load true 5 (.t 25)⟩,⟨some 27,none,.call 37 [(.t 26)]⟩,⟨(some 28),none,(.mkrow 29 5 [(.int .i64 0),(.str ⟨#[]⟩),.nil,(.str ⟨#[]⟩),.nil] 1 [(0,(.t 27))])⟩,⟨(some 29),none,(.append 29 5 88 [(.int .i64 0),(.str ⟨#[]⟩),.nil,(.str ⟨#[]⟩),.nil] (.t 21) (.t 28))⟩,⟨some 30,none,.faddr 4 (.t 3)⟩,⟨none,none,(.store 1 (.t 30) (.t 29))⟩])) (.reg [⟨some 18,none,.mv (.t 4)⟩,⟨some 19,none,.bin .add false (.t 18) (.c (.int .i64 1))⟩,⟨some 4,none,.mv (.t 19)⟩])))))) (.seq (.reg [⟨some 31,none,.load true 5 (.t 3)⟩,⟨none,none,(.store 5 (.t 2) (.t 31))⟩]) .ret))))
theorem P5:codeOf Tryz.prog 37=some ⟨32,Kw,[(.cell 2 true 5)]⟩:=by kernel_rfl
theorem Ao:modes 37=⟨[],.frz,none,false⟩:=by unfold modes; rfl
theorem QO (fid:Nat) (g:Fm→Fm) (x:Fm) (hl:x.parts.length≤1099511627776) (hat:x.atom.nodes≤1099511627776) (hg:Fu Tryz.prog fid=true) (hm:(modes fid).hand=[]) (hr:∀ r,Fi (modes fid).res r=r) (hE:∀ y∈x.parts,E fid [y.sv] []=some ((g y).osv,(g y).obs)):E 31 [x.sv,.fn fid []] []=some ((Fm.mk x.op x.atom x.var (x.parts.map g)).osv,(Fm.mk x.op x.atom x.var (x.parts.map g)).obs):=by
 have hct:=Gb x.atom hat
 have h10:((1:Int)=0)=False:=by simp
 have hmm:∀ ys:List Fm,(ys.map g).map Fm.o=ys.map fun y=>Fm.o (g y):=fun ys=>by rw [List.map_map]; rfl
 show _=some (SV.agg [.int .i64 x.op,.str x.atom.name,.ref 0,.str x.var,.ref 1],[Ob.row 26 2 (x.atom.args.map Tm.o),.row 29 5 ((x.parts.map g).map Fm.o)])
 rw [hmm]
 refine Aj Ed AZ (of_decide_eq_true rfl) ?_
 simp (disch:=omega) only [Dx,go_sem,Ab,hct,CM,Tm.osv,Tm.obs]
 refine go_loop (α:=Int) (fun a=>⟨slots 33 0 [(1,.fn fid []),(4,.ptr 0 0),(5,.ptr 1 0),(17,.arr (x.parts.map Fm.d)),(18,.int .i64 x.parts.length),(19,.int .i64 a)],(if a=0 then [.box 29 [.int .i64 0,.str ⟨#[]⟩,.nil,.str ⟨#[]⟩,.nil],.box 29 [.int .i64 x.op,.str x.atom.name,.ref 2,.str x.var,.nil],.row 26 2 (x.atom.args.map Tm.o)] else [.box 29 [.int .i64 0,.str ⟨#[]⟩,.nil,.str ⟨#[]⟩,.nil],.box 29 [.int .i64 x.op,.str x.atom.name,.ref 2,.str x.var,.ref 3],.row 26 2 (x.atom.args.map Tm.o),.row 29 5 ((x.parts.take a.toNat).map fun y=>Fm.o (g y))])⟩) (fun a=>∃ k:Nat,a=k∧k≤(x.parts).length) (fun a=>(x.parts).length-(a).toNat) 0 ⟨0,rfl,zO _⟩ (by simp (disch:=omega) only [go_sem,Ab,eq_self,if_true]) ?_
 rintro i ⟨k,hi,hk⟩
 have hni:i.toNat=k:=by omega
 have hni1:(i+1).toNat=k+1:=by omega
 rcases zI k (x.parts).length with hlt | hge
 ·have hgt:=get_at Fm.d hlt
  rw [Fm.d_eq] at hgt
  have hc:=hE x.parts[k] (zJ hlt)
  have hs:=Gc (fun y=>Fm.o (g y)) hlt
  rw [Fm.o_eq] at hs
  rcases zF k with h0 | h0
  ·subst h0
   obtain rfl:i=0:=hi
   rw [zU,zG,zP] at hs
   simp (disch:=omega) only [go_sem,Ab,hni,hgt,hc,hg,hm,hr,Fm.osv,Fm.obs,eq_self,if_true]
   refine ⟨1,⟨1,rfl,hlt⟩,by omega,?_⟩
   simp (disch:=omega) only [go_sem,Ab,h10,if_false,hs]
  ·have hi0:(i=0)=False:=by simp; omega
   have hi1:(i+1=0)=False:=by simp; omega
   have htl:(x.parts.take k).length=k:=by rw [zV]; omega
   simp (disch:=omega) only [go_sem,Ab,hni,hgt,hc,hg,hm,hr,Fm.osv,Fm.obs,hi0,if_false,htl]
   refine ⟨i+1,⟨k+1,by omega,hlt⟩,by omega,?_⟩
   simp (disch:=omega) only [go_sem,Ab,hni1,hi1,if_false,hs]
 ·obtain rfl:k=x.parts.length:=by omega
  have ht:x.parts.take x.parts.length=x.parts:=zS
  rcases zF x.parts.length with h0 | h0
  ·have hx:x.parts=[]:=zC h0
   obtain rfl:i=0:=by omega
   simp (disch:=omega) only [go_sem,Ab,hni,hx,eq_self,if_true,zG,zN]
  ·have hi0:(i=0)=False:=by simp; omega
   simp (disch:=omega) only [go_sem,Ab,hni,hi0,if_false,ht]
theorem Nu (x:Fm) (ht:x.tame) (hn:x.nodes≤1099511627776) (ih:∀ y∈x.parts,E 28 [y.sv] []=some (y.osv,y.obs)):E 28 [x.sv] []=some (x.osv,x.obs):=by
 have hx:=Fm.nodes_eq x
 have hl:=Fm.length_le x.parts
 have hat:=Fm.IH ht
 have h:=QO 28 (fun y=>y) x (by omega) (by omega) JI (by rw [Bh]) (fun r=>by rw [Bh]; rfl) ih
 rw [List.map_id',Fm.eta] at h
 refine Aj JH Bh (of_decide_eq_true rfl) ?_
 simp (disch:=omega) only [Gi,go_sem,Ab,h,AZ,Fm.osv,Fm.obs]
theorem Jo (x:Fm) (ht:x.tame) (hn:x.nodes≤1099511627776):E 28 [x.sv] []=some (x.osv,x.obs) :=
 Nu x ht hn fun y hy=>Jo y (Fm.II ht hy) (by have:=Fm.nodes_mem hy; have:=Fm.nodes_eq x; omega)
termination_by SizeOf.sizeOf x
decreasing_by exact Fm.lt_of_mem hy
theorem VH (x:Fm) (ht:x.tame) (hn:x.nodes≤1099511627776) (ih:∀ y∈x.parts,E 37 [y.sv] []=some (y.sv,[])):E 37 [x.sv] []=some (x.sv,[]):=by
 have hx0:=Fm.nodes_eq x
 have hl:=Fm.length_le x.parts
 have hat:=Fm.IH ht
 have hct:=SL x.atom (by omega)
 have h10:((1:Int)=0)=False:=by simp
 have hfu:=Fm.osh_full x.parts
 have her:=Fm.osh_er x.parts
 refine Aj P5 Ao (of_decide_eq_true rfl) ?_
 simp (disch:=omega) only [Kw,go_sem,Ab,hct,FB]
 refine go_loop (α:=Int) (fun a=>⟨slots 32 0 [(1,.ptr 0 0),(2,.ptr 1 0),(3,.ptr 2 0),(4,.int .i64 a)],(if a=0 then [.box 29 [.int .i64 x.op,.str x.atom.name,.arr (x.atom.args.map Tm.d),.str x.var,.arr (x.parts.map Fm.d)],.box 29 [.int .i64 0,.str ⟨#[]⟩,.nil,.str ⟨#[]⟩,.nil],.box 29 [.int .i64 x.op,.str x.atom.name,.arr (x.atom.args.map Tm.d),.str x.var,.nil]] else [.box 29 [.int .i64 x.op,.str x.atom.name,.arr (x.atom.args.map Tm.d),.str x.var,.arr (x.parts.map Fm.d)],.box 29 [.int .i64 0,.str ⟨#[]⟩,.nil,.str ⟨#[]⟩,.nil],.box 29 [.int .i64 x.op,.str x.atom.name,.arr (x.atom.args.map Tm.d),.str x.var,.ref 3],.row 29 5 ((x.parts.take a.toNat).map Fm.osh)])⟩) (fun a=>∃ k:Nat,a=k∧k≤(x.parts).length) (fun a=>(x.parts).length-(a).toNat) 0 ⟨0,rfl,zO _⟩ (by simp (disch:=omega) only [go_sem,Ab,eq_self,if_true]) ?_
 rintro i ⟨k,hi,hk⟩
 have hni:i.toNat=k:=by omega
 have hni1:(i+1).toNat=k+1:=by omega
 rcases zI k (x.parts).length with hlt | hge
 ·have hg:=get_at Fm.d hlt
  rw [Fm.d_eq] at hg
  have hc:=ih x.parts[k] (zJ hlt)
  have hs:=Gc Fm.osh hlt
  rw [Fm.osh_eq] at hs
  rcases zF k with h0 | h0
  ·subst h0
   obtain rfl:i=0:=hi
   rw [zU,zG,zP] at hs
   simp (disch:=omega) only [go_sem,Ab,hni,hg,hc,Ao,eq_self,if_true]
   refine ⟨1,⟨1,rfl,hlt⟩,by omega,?_⟩
   simp (disch:=omega) only [go_sem,Ab,h10,if_false,hs]
  ·have hi0:(i=0)=False:=by simp; omega
   have hi1:(i+1=0)=False:=by simp; omega
   have htl:(x.parts.take k).length=k:=by rw [zV]; omega
   simp (disch:=omega) only [go_sem,Ab,hni,hg,hc,Ao,hi0,if_false,htl]
   refine ⟨i+1,⟨k+1,by omega,hlt⟩,by omega,?_⟩
   simp (disch:=omega) only [go_sem,Ab,hni1,hi1,if_false,hs]
 ·obtain rfl:k=x.parts.length:=by omega
  have ht2:x.parts.take x.parts.length=x.parts:=zS
  rcases zF x.parts.length with h0 | h0
  ·have hx:x.parts=[]:=zC h0
   obtain rfl:i=0:=by omega
   simp (disch:=omega) only [go_sem,Ab,hni,hx,eq_self,if_true,zG,zN]
  ·have hi0:(i=0)=False:=by simp; omega
   simp (disch:=omega) only [go_sem,Ab,hni,hi0,if_false,ht2,hfu,her]
theorem SU (x:Fm) (ht:x.tame) (hn:x.nodes≤1099511627776):E 37 [x.sv] []=some (x.sv,[]) :=
 VH x ht hn fun y hy=>SU y (Fm.II ht hy) (by have:=Fm.nodes_mem hy; have:=Fm.nodes_eq x; omega)
termination_by SizeOf.sizeOf x
decreasing_by exact Fm.lt_of_mem hy
mutual
noncomputable def Fm.isN:Fm→Bool
 | .mk op _ _ parts=>!(dec (op=7) || (dec (op=4)&&!dec ((QL parts).op=3)))&&Fm.VI parts
noncomputable def Fm.VI:List Fm→Bool
 | []=>true
 | x :: xs=>Fm.isN x&&Fm.VI xs
end
theorem Fm.QP:∀ xs:List Fm,Fm.VI xs=xs.all Fm.isN
 | []=>by rw [Fm.VI]; rfl
 | x :: xs=>by rw [Fm.VI,Fm.QP xs]; rfl
theorem Fm.VJ (x:Fm):x.isN=(!(dec (x.op=7) || (dec (x.op=4)&&!dec ((QL x.parts).op=3)))&&x.parts.all Fm.isN):=by
 obtain ⟨op,atom,var,parts⟩:=x
 rw [Fm.isN,Fm.QP]; rfl
def BZ:SC:=(.seq (.reg [⟨some 1,none,.boxv 29 5 (.t 0)⟩,⟨some 2,none,.mv (.c (.bool false))⟩]) (.seq (.seq (.reg [⟨some 3,none,.faddr 0 (.t 1)⟩,⟨some 4,none,.load false 1 (.t 3)⟩,⟨some 5,none,.bin .eql false (.t 4) (.c (.int .i64 7))⟩,⟨some 6,none,.mv (.t 5)⟩,⟨(some 7),(some (6,false)),(.faddr 0 (.t 1))⟩,⟨(some 8),(some (6,false)),(.load false 1 (.t 7))⟩,⟨(some 9),(some (6,false)),(.bin .eql false (.t 8) (.c (.int .i64 4)))⟩,⟨(some 10),(some (6,false)),(.mv (.t 9))⟩,⟨(some 11),(some (10,true)),(.faddr 4 (.t 1))⟩,⟨(some 12),(some (10,true)),(.load false 1 (.t 11))⟩,⟨(some 13),(some (10,true)),(.iaddr 5 (.t 12) (.c (.int .i64 0)))⟩,⟨(some 14),(some (10,true)),(.faddr 0 (.t 13))⟩,⟨(some 15),(some (10,true)),(.load false 1 (.t 14))⟩,⟨(some 16),(some (10,true)),(.bin .neq false (.t 15) (.c (.int .i64 3)))⟩,⟨(some 17),(some (6,false)),(.pick (.t 10) (.t 16) (.c (.bool false)))⟩,⟨some 18,none,.pick (.t 6) (.c (.bool true)) (.t 17)⟩]) (.cond (.t 18) (.seq (.reg [⟨some 2,none,.mv (.c (.bool false))⟩]) .ret) .skip)) (.seq (.reg [⟨some 19,none,.faddr 4 (.t 1)⟩,⟨some 20,none,.load false 1 (.t 19)⟩,⟨some 21,none,.call 47 [(.t 20),(.c (.fn 48 []))]⟩,⟨some 22,none,.un .not (.t 21)⟩,⟨some 2,none,.mv (.t 22)⟩]) .ret)))
theorem C6:codeOf Tryz.prog 24=some ⟨23,BZ,[(.tmp 2)]⟩:=by kernel_rfl
theorem BJ:modes 24=⟨[],.asis,none,false⟩:=by unfold modes; rfl
def DJ:SC:=(.seq (.reg [⟨some 1,none,.boxv 29 5 (.t 0)⟩,⟨some 2,none,.mv (.c (.bool false))⟩]) (.seq (.reg [⟨some 3,none,.load true 5 (.t 1)⟩,⟨some 4,none,.call 24 [(.t 3)]⟩,⟨some 5,none,.un .not (.t 4)⟩,⟨some 2,none,.mv (.t 5)⟩]) .ret))
theorem Gp:codeOf Tryz.prog 48=some ⟨6,DJ,[(.tmp 2)]⟩:=by kernel_rfl
theorem DK:modes 48=⟨[],.asis,none,false⟩:=by unfold modes; rfl
theorem Gq:Fu Tryz.prog 48=true:=by kernel_rfl
theorem YD (x:Fm) (h:E 24 [x.sv] []=some (.bool x.isN,[])):E 48 [x.sv] []=some (.bool (!x.isN),[]):=by
 have hxs:x.sv=.agg [.int .i64 x.op,.str x.atom.name,.arr (x.atom.args.map Tm.d),.str x.var,.arr (x.parts.map Fm.d)]:=rfl
 refine Aj Gp DK (of_decide_eq_true rfl) ?_
 simp (disch:=omega) only [DJ,go_sem,Ab,h,BJ]
theorem IT (x:Fm) (hx:x.forms=true) (hn:x.nodes≤1099511627776) (ih:∀ y∈x.parts,E 24 [y.sv] []=some (.bool y.isN,[])):E 24 [x.sv] []=some (.bool x.isN,[]):=by
 have hxs:x.sv=.agg [.int .i64 x.op,.str x.atom.name,.arr (x.atom.args.map Tm.d),.str x.var,.arr (x.parts.map Fm.d)]:=rfl
 have hfo:=Fm.B8 hx
 have hpl:=Fm.length_le x.parts
 have hnq:=Fm.nodes_eq x
 have hie:=Fm.VJ x
 have hcf:=Gg 48 (fun y=>!y.isN) x.parts (by omega) Gq (by rw [DK]) fun y hy=>YD y (ih y hy)
 have hna:(x.parts.any fun y=>!y.isN)=!(x.parts.all Fm.isN):=by rw [List.not_all_eq_any_not]
 rw [hna] at hcf
 by_cases h7:x.op=7
 ·have o7:dec (x.op=7)=true:=Au h7
  rw [hie,o7]
  simp only [Bool.true_or,yG,zA]
  refine Aj C6 BJ (of_decide_eq_true rfl) ?_
  simp (disch:=omega) only [BZ,go_sem,Ab,o7,hcf,Aa]
 have o7:dec (x.op=7)=false:=Ai h7
 by_cases h4:x.op=4
 ·have o4:dec (x.op=4)=true:=Au h4
  obtain ⟨p,hp⟩:=Fm.Kr hfo h4
  have hp:x.parts=[p]:=congrArg Fm.parts hp
  have hlt:0<x.parts.length:=by rw [hp]; simp
  have hg:=get_at Fm.d hlt
  have hx0:x.parts[0]=p:=by simp [hp]
  rw [hx0,Fm.d_eq] at hg
  have hh:(QL x.parts).op=p.op:=by rw [hp]; rfl
  rw [hh,o7,o4] at hie
  by_cases hp3:p.op=3
  ·have hq3:(p.op=3)=True:=eq_true hp3
   have hd3:dec (p.op=3)=true:=Au hp3
   rw [hd3] at hie
   simp only [yG,zQ,Bool.or_false,yD,zD] at hie
   rw [hie]
   refine Aj C6 BJ (of_decide_eq_true rfl) ?_
   simp (disch:=omega) only [BZ,go_sem,Ab,o7,o4,hg,hq3,hd3,Int.toNat_zero,hcf,Aa]
   all_goals first | done | (rw [Bool.not_not])
  ·have hq3:(p.op=3)=False:=eq_false hp3
   have hd3:dec (p.op=3)=false:=Ai hp3
   rw [hd3] at hie
   simp only [yD,zX,Bool.or_true,yG,zA] at hie
   rw [hie]
   refine Aj C6 BJ (of_decide_eq_true rfl) ?_
   simp (disch:=omega) only [BZ,go_sem,Ab,o7,o4,hg,hq3,hd3,Int.toNat_zero,hcf,Aa]
 have o4:dec (x.op=4)=false:=Ai h4
 rw [o7,o4] at hie
 simp only [zA,Bool.or_false,yD,zD] at hie
 rw [hie]
 refine Aj C6 BJ (of_decide_eq_true rfl) ?_
 simp (disch:=omega) only [BZ,go_sem,Ab,o7,o4,hcf,Aa]
 all_goals first | done | (rw [Bool.not_not])
theorem Gj (x:Fm) (hx:x.forms=true) (hn:x.nodes≤1099511627776):E 24 [x.sv] []=some (.bool x.isN,[]) :=
 IT x hx hn fun y hy=>Gj y (Fm.BE hx hy) (by have:=Fm.nodes_mem hy; have:=Fm.nodes_eq x; omega)
termination_by SizeOf.sizeOf x
decreasing_by exact Fm.lt_of_mem hy
theorem H8 {op:Int} {a:Tm} {v:ByteArray} {ps:List Fm} (h7:¬ op=7) (h4:op=4→(QL ps).op=3) (hp:∀ y∈ps,y.isN=true):(Fm.mk op a v ps).isN=true:=by
 rw [Fm.VJ,zZ,Bool.not_eq_true',Bool.or_eq_false_iff,List.all_eq_true]
 refine ⟨⟨Ai h7,?_⟩,hp⟩
 by_cases h:op=4
 ·have e:dec ((QL (Fm.mk op a v ps).parts).op=3)=true:=Au (h4 h)
  rw [e]
  cases dec ((Fm.mk op a v ps).op=4) <;> rfl
 ·have e:dec ((Fm.mk op a v ps).op=4)=false:=Ai h
  rw [e]; rfl
theorem Fm.SW (x:Fm) (hx:x.forms=true):∀ b:Bool,(x.nnf b).isN=true:=by
 have ih:∀ y∈x.parts,∀ b:Bool,(y.nnf b).isN=true:=fun y hy=>Fm.SW y (Fm.BE hx hy)
 intro b
 have hf:=Fm.B8 hx
 rw [Fm.Nj]
 unfold Fm.RS
 have hys:∀ z∈x.parts.map (fun y=>y.nnf b),z.isN=true:=fun z hz=>by
  obtain ⟨y,hy,rfl⟩:=List.mem_map.1 hz
  exact ih y hy b
 rcases Fm.IM hf with ho | ho | ho | ho | (ho | ho | ho) | ho | ho
 ·rw [Ai (p:=x.op=3) (by omega),Ai (p:=x.op=4) (by omega),Ai (p:=x.op=7) (by omega),ho]
  have ht:CX 1=2:=by unfold CX; rw [Au rfl]; rfl
  simp only [cond_false]
  refine H8 ?_ ?_ hys <;> cases b <;> simp only [cond_true,cond_false,ht] <;> omega
 ·rw [Ai (p:=x.op=3) (by omega),Ai (p:=x.op=4) (by omega),Ai (p:=x.op=7) (by omega),ho]
  have ht:CX 2=1:=by unfold CX; rw [Ai (by decide),Au rfl]; rfl
  simp only [cond_false]
  refine H8 ?_ ?_ hys <;> cases b <;> simp only [cond_true,cond_false,ht] <;> omega
 ·rw [Au (p:=x.op=3) ho,cond_true]
  have hp:=(Fm.DE hf ho).1
  have hself:(Fm.mk x.op x.atom x.var x.parts).isN=true:=H8 (by omega) (fun h=>by omega) fun y hy=>by rw [hp] at hy; cases hy
  cases b with
  | true=>exact hself
  | false =>
   refine H8 (op:=4) (by omega) (fun _=>ho) fun y hy=>?_
   simp only [z7] at hy
   rw [hy]; exact hself
 ·rw [Ai (p:=x.op=3) (by omega),Au (p:=x.op=4) ho,cond_false,cond_true]
  obtain ⟨p,hp⟩:=Fm.IL hf ho
  rw [hp]
  exact ih p (by rw [hp]; simp) (!b)
 ·rw [Ai (p:=x.op=3) (by omega),Ai (p:=x.op=4) (by omega),Ai (p:=x.op=7) (by omega),ho]
  simp only [cond_false]
  refine H8 ?_ ?_ hys <;> cases b <;> simp only [cond_true,cond_false,RY] <;> omega
 ·rw [Ai (p:=x.op=3) (by omega),Ai (p:=x.op=4) (by omega),Ai (p:=x.op=7) (by omega),ho]
  simp only [cond_false]
  refine H8 ?_ ?_ hys <;> cases b <;> simp only [cond_true,cond_false,RZ] <;> omega
 ·obtain ⟨p,q,hp⟩:=Fm.EX hf (by omega)
  rw [Ai (p:=x.op=3) (by omega),Ai (p:=x.op=4) (by omega),Au (p:=x.op=7) ho,hp]
  simp only [cond_false,cond_true]
  have i1:=ih p (by rw [hp]; simp) (!b)
  have i2:=ih q (by rw [hp]; simp) b
  refine H8 ?_ ?_ (fun y hy=>?_)
  ·cases b <;> simp only [cond_true,cond_false] <;> omega
  ·cases b <;> simp only [cond_true,cond_false] <;> omega
  ·rcases List.mem_cons.1 hy with rfl | hy
   ·exact i1
   ·simp only [z7] at hy
    rw [hy]; exact i2
 ·rw [Ai (p:=x.op=3) (by omega),Ai (p:=x.op=4) (by omega),Ai (p:=x.op=7) (by omega),ho]
  simp only [cond_false]
  refine H8 ?_ ?_ hys <;> cases b <;> simp only [cond_true,cond_false,Sa] <;> omega
 ·rw [Ai (p:=x.op=3) (by omega),Ai (p:=x.op=4) (by omega),Ai (p:=x.op=7) (by omega),ho]
  simp only [cond_false]
  refine H8 ?_ ?_ hys <;> cases b <;> simp only [cond_true,cond_false,Sc] <;> omega
termination_by SizeOf.sizeOf x
decreasing_by exact Fm.lt_of_mem hy
def Ey:SC:=(.seq (.reg [⟨some 2,none,.boxv 26 2 (.t 0)⟩,⟨(some 4),none,(.alloc 26 [(.str ⟨#[]⟩),.nil])⟩]) (.seq (.reg [⟨some 10,none,.faddr 0 (.t 2)⟩,⟨some 11,none,.load false 1 (.t 10)⟩,⟨(some 12),none,(.build [(.str ⟨#[]⟩),.nil] [(0,(1,(.t 11)))])⟩,⟨(some 5),none,(.alloc 26 [(.str ⟨#[]⟩),.nil])⟩,⟨none,none,(.store 2 (.t 5) (.t 12))⟩]) (.seq (.seq (.reg [⟨some 14,none,.mv (.t 1)⟩,⟨some 15,none,.faddr 0 (.t 2)⟩,⟨some 16,none,.load false 1 (.t 15)⟩,⟨(some 17),none,(.mget true true false [(.str ⟨#[]⟩)] (.t 14) (.t 16))⟩,⟨some 13,none,.mv (.t 17)⟩,⟨some 18,none,.ext (.t 13) 0⟩,⟨some 19,none,.ext (.t 13) 1⟩,⟨some 6,none,.mv (.t 18)⟩,⟨some 7,none,.mv (.t 19)⟩]) (.seq (.reg [⟨some 20,none,.mv (.t 7)⟩,⟨some 21,none,.mv (.t 20)⟩,⟨(some 22),(some (21,true)),(.faddr 1 (.t 2))⟩,⟨(some 23),(some (21,true)),(.load false 1 (.t 22))⟩,⟨(some 24),(some (21,true)),(.len false (.t 23))⟩,⟨(some 25),(some (21,true)),(.bin .eql false (.t 24) (.c (.int .i64 0)))⟩,⟨some 26,none,.pick (.t 21) (.t 25) (.c (.bool false))⟩]) (.cond (.t 26) (.reg [⟨some 27,none,.mv (.t 6)⟩,⟨some 28,none,.faddr 0 (.t 5)⟩,⟨none,none,(.store 1 (.t 28) (.t 27))⟩]) .skip))) (.seq (.seq (.reg [⟨some 29,none,.faddr 1 (.t 2)⟩,⟨some 30,none,.load false 1 (.t 29)⟩,⟨some 31,none,.len false (.t 30)⟩,⟨some 32,none,.mv (.c (.int .i64 0))⟩]) (.block 0 (.loop [0,1,0,0,1,1,0,0,0,0,0,0,0,0,0,0,0,0,0,0,0,0,0,0,0,0,0,0,0,0,1,1,1,0,0,0,0,0,0,0,0,0,0,0,0,0] (.seq (.reg [⟨some 33,none,.bin .lss false (.t 32) (.t 31)⟩]) (.seq (.cond (.t 33) .skip (.exit 0)) (.seq (.block 1 (.seq (.reg [⟨some 34,none,.iaddr 2 (.t 30) (.t 32)⟩,⟨some 35,none,.load true 2 (.t 34)⟩,⟨(some 9),none,(.alloc 26 [(.str ⟨#[]⟩),.nil])⟩,⟨none,none,(.store 2 (.t 9) (.t 35))⟩]) (.dreg [[],[0],[],[],[2,3],[4,2,3],[1,0,5,4,2,3],[0,1,2,3,4,5,6],[7,0,1,2,3,4,5,6]] [⟨some 36,none,.faddr 1 (.t 5)⟩,⟨some 37,none,.load false 1 (.t 36)⟩,⟨some 38,none,.load true 2 (.t 9)⟩,⟨some 39,none,.mv (.t 1)⟩,⟨some 40,none,.call 63 [(.t 38),(.t 39)]⟩,⟨(some 41),none,(.mkrow 26 2 [(.str ⟨#[]⟩),.nil] 1 [(0,(.t 40))])⟩,⟨(some 42),none,(.append 26 2 40 [(.str ⟨#[]⟩),.nil] (.t 37) (.t 41))⟩,⟨some 43,none,.faddr 1 (.t 5)⟩,⟨none,none,(.store 1 (.t 43) (.t 42))⟩]))) (.reg [⟨some 44,none,.bin .add false (.t 32) (.c (.int .i64 1))⟩,⟨some 32,none,.mv (.t 44)⟩]))))))) (.seq (.reg [⟨some 45,none,.load true 2 (.t 5)⟩,⟨none,none,(.store 2 (.t 4) (.t 45))⟩]) .ret)))))
theorem Gk:codeOf Tryz.prog 63=some ⟨46,Ey,[(.cell 4 true 2)]⟩:=by kernel_rfl
theorem BU:modes 63=⟨[],.own [none,some (26,2)],none,false⟩:=by unfold modes; rfl
abbrev RnC (e:SEnv) (x:Tm):Prop:=E 63 [x.sv,.mp true (Cm e)] []=some ((x.rn e).osv,(x.rn e).obs)
theorem Sf (e:SEnv) (x:Tm) (hn:x.args.length≤1099511627776) (ih:∀ y∈x.args,RnC e y):RnC e x:=by
 unfold RnC
 obtain ⟨nm,hnm⟩:∃ nm,nm=bif x.args.isEmpty then (e x.name).getD x.name else x.name:=⟨_,rfl⟩
 have e0:x.rn e=.mk nm (x.args.map (Tm.rn e)):=by rw [Tm.Kp,hnm]
 have e1:(Tm.mk nm (x.args.map (Tm.rn e))).osv=.agg [.str nm,.ref 0]:=rfl
 have e2:(Tm.mk nm (x.args.map (Tm.rn e))).obs=[.row 26 2 ((x.args.map (Tm.rn e)).map Tm.o)]:=rfl
 rw [e0,e1,e2]
 have h10:((1:Int)=0)=False:=by simp
 cases he:e x.name with
 | none =>
  have hme:Cm e (.str x.name)=none:=by rw [FI,he]
  have hnn:nm=x.name:=by
   rw [hnm,he]
   cases x.args.isEmpty <;> rfl
  rw [hnn]
  clear hnm e0 e1 e2 hnn nm
  obtain ⟨nm,hnm⟩:∃ nm,nm=x.name:=⟨_,rfl⟩
  rw [←hnm] at hme ⊢
  refine Aj Gk BU (of_decide_eq_true rfl) ?_
  simp (disch:=omega) only [Ey,go_sem,Ab,hme,← hnm]
  refine go_loop (α:=Int) (fun a=>⟨slots 46 0 [(1,.mp true (Cm e)),(4,.ptr 0 0),(5,.ptr 1 0),(30,.arr (x.args.map Tm.d)),(31,.int .i64 x.args.length),(32,.int .i64 a)],(if a=0 then [.box 26 [.str ⟨#[]⟩,.nil],.box 26 [.str nm,.nil]] else [.box 26 [.str ⟨#[]⟩,.nil],.box 26 [.str nm,.ref 2],.row 26 2 (((x.args.map (Tm.rn e)).take a.toNat).map Tm.o)])⟩) (fun a=>∃ k:Nat,a=k∧k≤(x.args).length) (fun a=>(x.args).length-(a).toNat) 0 ⟨0,rfl,zO _⟩ (by simp (disch:=omega) only [go_sem,Ab,eq_self,if_true]) ?_
  rintro i ⟨k,hi,hk⟩
  have hni:i.toNat=k:=by omega
  have hni1:(i+1).toNat=k+1:=by omega
  rcases zI k (x.args).length with hlt | hge
  ·have hg:=get_at Tm.d hlt
   rw [Tm.d_eq] at hg
   have hc:=ih x.args[k] (zJ hlt)
   have hlm:k<(x.args.map (Tm.rn e)).length:=by rw [zR]; exact hlt
   have hs:=Gc Tm.o hlm
   rw [Tm.o_eq,z8] at hs
   rcases zF k with h0 | h0
   ·subst h0
    obtain rfl:i=0:=hi
    rw [zU,zG,zP] at hs
    simp (disch:=omega) only [go_sem,Ab,hni,hg,hc,Tm.osv,Tm.obs,BU,eq_self,if_true]
    refine ⟨1,⟨1,rfl,hlt⟩,by omega,?_⟩
    simp (disch:=omega) only [go_sem,Ab,h10,if_false,hs]
   ·have hi0:(i=0)=False:=by simp; omega
    have hi1:(i+1=0)=False:=by simp; omega
    have htl:((x.args.map (Tm.rn e)).take k).length=k:=by rw [zV,zR]; omega
    simp (disch:=omega) only [go_sem,Ab,hni,hg,hc,Tm.osv,Tm.obs,BU,hi0,if_false,htl]
    refine ⟨i+1,⟨k+1,by omega,hlt⟩,by omega,?_⟩
    simp (disch:=omega) only [go_sem,Ab,hni1,hi1,if_false,hs]
  ·obtain rfl:k=x.args.length:=by omega
   have ht:(x.args.map (Tm.rn e)).take x.args.length=x.args.map (Tm.rn e):=by rw [←zR (f:=Tm.rn e)]; exact zS
   rcases zF x.args.length with h0 | h0
   ·have hx:x.args=[]:=zC h0
    obtain rfl:i=0:=by omega
    first | omega | simp (disch:=omega) only [go_sem,Ab,hni,hx,eq_self,if_true,zG,zN]
   ·have hi0:(i=0)=False:=by simp; omega
    first | omega | simp (disch:=omega) only [go_sem,Ab,hni,hi0,if_false,ht]
 | some v =>
  have hme:Cm e (.str x.name)=some (false,[.str v]):=by rw [FI,he]
  rcases zF x.args.length with hz | hz
  ·have hx:x.args=[]:=zC hz
   have hz0:((x.args.length:Int)=0)=True:=by rw [hx]; simp
   have hnn:nm=v:=by rw [hnm,he,hx]; rfl
   rw [hnn]
   clear hnm e0 e1 e2 hnn nm
   obtain ⟨nm,hnm⟩:∃ nm,nm=v:=⟨_,rfl⟩
   rw [←hnm] at hme ⊢
   refine Aj Gk BU (of_decide_eq_true rfl) ?_
   simp (disch:=omega) only [Ey,go_sem,Ab,hme,hz0,XG]
   refine go_loop (α:=Int) (fun a=>⟨slots 46 0 [(1,.mp true (Cm e)),(4,.ptr 0 0),(5,.ptr 1 0),(30,.arr (x.args.map Tm.d)),(31,.int .i64 x.args.length),(32,.int .i64 a)],(if a=0 then [.box 26 [.str ⟨#[]⟩,.nil],.box 26 [.str nm,.nil]] else [.box 26 [.str ⟨#[]⟩,.nil],.box 26 [.str nm,.ref 2],.row 26 2 (((x.args.map (Tm.rn e)).take a.toNat).map Tm.o)])⟩) (fun a=>∃ k:Nat,a=k∧k≤(x.args).length) (fun a=>(x.args).length-(a).toNat) 0 ⟨0,rfl,zO _⟩ (by simp (disch:=omega) only [go_sem,Ab,eq_self,if_true]) ?_
   rintro i ⟨k,hi,hk⟩
   have hni:i.toNat=k:=by omega
   have hni1:(i+1).toNat=k+1:=by omega
   rcases zI k (x.args).length with hlt | hge
   ·have hg:=get_at Tm.d hlt
    rw [Tm.d_eq] at hg
    have hc:=ih x.args[k] (zJ hlt)
    have hlm:k<(x.args.map (Tm.rn e)).length:=by rw [zR]; exact hlt
    have hs:=Gc Tm.o hlm
    rw [Tm.o_eq,z8] at hs
    rcases zF k with h0 | h0
    ·subst h0
     obtain rfl:i=0:=hi
     rw [zU,zG,zP] at hs
     simp (disch:=omega) only [go_sem,Ab,hni,hg,hc,Tm.osv,Tm.obs,BU,eq_self,if_true]
     refine ⟨1,⟨1,rfl,hlt⟩,by omega,?_⟩
     simp (disch:=omega) only [go_sem,Ab,h10,if_false,hs]
    ·have hi0:(i=0)=False:=by simp; omega
     have hi1:(i+1=0)=False:=by simp; omega
     have htl:((x.args.map (Tm.rn e)).take k).length=k:=by rw [zV,zR]; omega
     simp (disch:=omega) only [go_sem,Ab,hni,hg,hc,Tm.osv,Tm.obs,BU,hi0,if_false,htl]
     refine ⟨i+1,⟨k+1,by omega,hlt⟩,by omega,?_⟩
     simp (disch:=omega) only [go_sem,Ab,hni1,hi1,if_false,hs]
   ·obtain rfl:k=x.args.length:=by omega
    have ht:(x.args.map (Tm.rn e)).take x.args.length=x.args.map (Tm.rn e):=by rw [←zR (f:=Tm.rn e)]; exact zS
    rcases zF x.args.length with h0 | h0
    ·have hx:x.args=[]:=zC h0
     obtain rfl:i=0:=by omega
     first | omega | simp (disch:=omega) only [go_sem,Ab,hni,hx,eq_self,if_true,zG,zN]
    ·have hi0:(i=0)=False:=by simp; omega
     first | omega | simp (disch:=omega) only [go_sem,Ab,hni,hi0,if_false,ht]
  ·have hz0:((x.args.length:Int)=0)=False:=eq_false (by omega)
   have hnn:nm=x.name:=by
    rw [hnm]
    cases hx:x.args with
    | nil=>rw [hx] at hz; simp at hz
    | cons a r=>rfl
   rw [hnn]
   clear hnm e0 e1 e2 hnn nm
   obtain ⟨nm,hnm⟩:∃ nm,nm=x.name:=⟨_,rfl⟩
   rw [←hnm] at hme ⊢
   refine Aj Gk BU (of_decide_eq_true rfl) ?_
   simp (disch:=omega) only [Ey,go_sem,Ab,hme,hz0,XH,← hnm]
   refine go_loop (α:=Int) (fun a=>⟨slots 46 0 [(1,.mp true (Cm e)),(4,.ptr 0 0),(5,.ptr 1 0),(30,.arr (x.args.map Tm.d)),(31,.int .i64 x.args.length),(32,.int .i64 a)],(if a=0 then [.box 26 [.str ⟨#[]⟩,.nil],.box 26 [.str nm,.nil]] else [.box 26 [.str ⟨#[]⟩,.nil],.box 26 [.str nm,.ref 2],.row 26 2 (((x.args.map (Tm.rn e)).take a.toNat).map Tm.o)])⟩) (fun a=>∃ k:Nat,a=k∧k≤(x.args).length) (fun a=>(x.args).length-(a).toNat) 0 ⟨0,rfl,zO _⟩ (by simp (disch:=omega) only [go_sem,Ab,eq_self,if_true]) ?_
   rintro i ⟨k,hi,hk⟩
   have hni:i.toNat=k:=by omega
   have hni1:(i+1).toNat=k+1:=by omega
   rcases zI k (x.args).length with hlt | hge
   ·have hg:=get_at Tm.d hlt
    rw [Tm.d_eq] at hg
    have hc:=ih x.args[k] (zJ hlt)
    have hlm:k<(x.args.map (Tm.rn e)).length:=by rw [zR]; exact hlt
    have hs:=Gc Tm.o hlm
    rw [Tm.o_eq,z8] at hs
    rcases zF k with h0 | h0
    ·subst h0
     obtain rfl:i=0:=hi
     rw [zU,zG,zP] at hs
     simp (disch:=omega) only [go_sem,Ab,hni,hg,hc,Tm.osv,Tm.obs,BU,eq_self,if_true]
     refine ⟨1,⟨1,rfl,hlt⟩,by omega,?_⟩
     simp (disch:=omega) only [go_sem,Ab,h10,if_false,hs]
    ·have hi0:(i=0)=False:=by simp; omega
     have hi1:(i+1=0)=False:=by simp; omega
     have htl:((x.args.map (Tm.rn e)).take k).length=k:=by rw [zV,zR]; omega
     simp (disch:=omega) only [go_sem,Ab,hni,hg,hc,Tm.osv,Tm.obs,BU,hi0,if_false,htl]
     refine ⟨i+1,⟨k+1,by omega,hlt⟩,by omega,?_⟩
     simp (disch:=omega) only [go_sem,Ab,hni1,hi1,if_false,hs]
   ·obtain rfl:k=x.args.length:=by omega
    have ht:(x.args.map (Tm.rn e)).take x.args.length=x.args.map (Tm.rn e):=by rw [←zR (f:=Tm.rn e)]; exact zS
    rcases zF x.args.length with h0 | h0
    ·have hx:x.args=[]:=zC h0
     obtain rfl:i=0:=by omega
     first | omega | simp (disch:=omega) only [go_sem,Ab,hni,hx,eq_self,if_true,zG,zN]
    ·have hi0:(i=0)=False:=by simp; omega
     first | omega | simp (disch:=omega) only [go_sem,Ab,hni,hi0,if_false,ht]
theorem OQ (e:SEnv) (x:Tm) (hn:x.nodes≤1099511627776):RnC e x :=
 Sf e x (by have:=Tm.length_le x.args; have:=Tm.nodes_eq x; omega) fun y hy=>OQ e y (by have:=Tm.nodes_mem hy; have:=Tm.nodes_eq x; omega)
termination_by SizeOf.sizeOf x
decreasing_by exact Tm.lt_of_mem hy
theorem Eh (a:ByteArray) (s:ByteArray):∀ l:List ByteArray,Cu (l++[a]) s=bif dec (a=s) then (l.length:Int) else Cu l s
 | []=>by
  have h1:Cu [] s=-1:=by rw [Cu]
  rw [zP,h1,Cu,h1,Ai (by omega)]; rfl
 | x :: l=>by
  have ih:=Eh a s l
  rw [zT,Cu,ih,Cu,yA]
  cases dec (a=s) with
  | true=>simp only [cond_true]; rw [Au (by omega),cond_true]; omega
  | false=>simp only [cond_false]
mutual
noncomputable def Tm.alp (x y:List ByteArray):Tm→Tm→Bool
 | .mk n xs,.mk m ys=>bif xs.isEmpty&&(ys.isEmpty&&(Bz n&&Bz m)) then dec (Cu x n=Cu y m)&&(dec (0≤Cu x n) || dec (n=m)) else dec (n=m)&&Tm.alpL x y xs ys
noncomputable def Tm.alpL (x y:List ByteArray):List Tm→List Tm→Bool
 | [],[]=>true
 | a :: us,b :: ws=>Tm.alp x y a b&&Tm.alpL x y us ws
 | [],_ :: _=>false
 | _ :: _,[]=>false
end
theorem Tm.alp_eq (x y:List ByteArray) (a b:Tm):Tm.alp x y a b=bif a.args.isEmpty&&(b.args.isEmpty&&(Bz a.name&&Bz b.name)) then dec (Cu x a.name=Cu y b.name)&&(dec (0≤Cu x a.name) || dec (a.name=b.name)) else dec (a.name=b.name)&&Tm.alpL x y a.args b.args:=by
 obtain ⟨n,xs⟩:=a
 obtain ⟨m,ys⟩:=b
 rw [Tm.alp]; rfl
mutual
noncomputable def Fm.alp:List ByteArray→List ByteArray→Fm→Fm→Bool
 | x,y,.mk op a v ps,.mk op2 a2 v2 ps2=>bif dec (op=op2) then (bif dec (op=3) then Tm.alp x y a a2 else bif qB op then Fm.alpL (x++[v]) (y++[v2]) ps ps2 else Fm.alpL x y ps ps2) else false
noncomputable def Fm.alpL:List ByteArray→List ByteArray→List Fm→List Fm→Bool
 | _,_,[],[]=>true
 | x,y,a :: us,b :: ws=>Fm.alp x y a b&&Fm.alpL x y us ws
 | _,_,[],_ :: _=>false
 | _,_,_ :: _,[]=>false
end
theorem Fm.alp_eq (x y:List ByteArray) (f g:Fm):Fm.alp x y f g=bif dec (f.op=g.op) then (bif dec (f.op=3) then Tm.alp x y f.atom g.atom else bif qB f.op then Fm.alpL (x++[f.var]) (y++[g.var]) f.parts g.parts else Fm.alpL x y f.parts g.parts) else false:=by
 obtain ⟨op,a,v,ps⟩:=f
 obtain ⟨op2,a2,v2,ps2⟩:=g
 rw [Fm.alp]; rfl
structure AL (tk xs ys:List ByteArray) (e:SEnv) (c:Int):Prop where
 len:xs.length=ys.length
 new:∀ w∈ys,w ∉ tk∧∃ j:Int,0<j∧j≤c∧w=pre BC j
 yes:∀ m w,e m=some w→w∈ys∧0≤Cu xs m∧Cu ys w=Cu xs m
 no:∀ m,e m=none→Cu xs m=-1
theorem AL.mono {tk xs ys:List ByteArray} {e:SEnv} {c d:Int} (h:AL tk xs ys e c) (hcd:c≤d):AL tk xs ys e d :=
 ⟨h.len,fun w hw=>by obtain ⟨a,j,b1,b2,b3⟩:=h.new w hw; exact ⟨a,j,b1,by omega,b3⟩,h.yes,h.no⟩
theorem Sg {l:List ByteArray} {s:ByteArray} (h:s ∉ l):Cu l s=-1:=by
 induction l with
 | nil=>rw [Cu]
 | cons x l ih =>
  rw [Cu,ih (fun hm=>h (List.mem_cons_of_mem _ hm)),Ai (by omega),cond_false,Ai (fun e=>h (by rw [e]; exact List.mem_cons_self))]; rfl
theorem AL.put {tk xs ys:List ByteArray} {e:SEnv} {c d:Int} (h:AL tk xs ys e c) {v w:ByteArray} (hw:w=pre BC d) (h0:0≤c) (hd:c<d) (hnt:w ∉ tk):AL tk (xs++[v]) (ys++[w]) (DP e v w) d:=by
 have hwn:w ∉ ys:=fun hm=>by
  obtain ⟨_,j,b1,b2,b3⟩:=h.new w hm
  have:=P3 (p:=BC) (a:=d) (b:=j) (by omega) (by omega) (by rw [←hw,← b3])
  omega
 refine ⟨by simp [h.len],fun u hu=>?_,fun m u hm=>?_,fun m hm=>?_⟩
 ·rcases List.mem_append.1 hu with hu | hu
  ·exact (h.mono (by omega:c≤d)).new u hu
  ·simp only [z7] at hu
   rw [hu]
   exact ⟨hnt,d,by omega,by omega,hw⟩
 ·unfold DP at hm
  by_cases hmv:m=v
  ·rw [Au hmv,cond_true] at hm
   obtain rfl:=yB hm
   rw [Eh,Eh,Au hmv.symm,Au rfl,cond_true,cond_true,h.len]
   exact ⟨by simp,by omega,rfl⟩
  ·rw [Ai hmv,cond_false] at hm
   obtain ⟨a1,a2,a3⟩:=h.yes m u hm
   have hne:¬ w=u:=fun e=>hwn (e▸a1)
   rw [Eh,Eh,Ai (fun e=>hmv e.symm),Ai hne,cond_false,cond_false]
   exact ⟨List.mem_append.2 (.inl a1),a2,a3⟩
 ·unfold DP at hm
  by_cases hmv:m=v
  ·rw [Au hmv,cond_true] at hm; cases hm
  ·rw [Ai hmv,cond_false] at hm
   rw [Eh,Ai (fun e=>hmv e.symm),cond_false]
   exact h.no m hm
theorem Tm.VK {tk xs ys:List ByteArray} {e:SEnv} {c:Int} (h:AL tk xs ys e c) (he:RU e) (a:Tm) (ha:a.names=true∨a.atom=true) (hT:∀ m∈a.vs,e m=none→m∈tk):Tm.alp xs ys a (a.rn e)=true:=by
 have hargs:∀ y∈a.args,y.names=true:=fun y hy=>ha.elim (fun h=>Tm.Ek h hy) fun h=>Gf h hy
 have ih:∀ y∈a.args,(∀ m∈y.vs,e m=none→m∈tk)→Tm.alp xs ys y (y.rn e)=true:=fun y hy hm=>Tm.VK h he y (.inl (hargs y hy)) hm
 rw [Tm.QA] at hT
 rw [Tm.alp_eq]
 cases hb:Bz a.name with
 | true =>
  rw [hb,cond_true] at hT
  have hnm:a.names=true:=ha.elim id fun h=>by rw [Tm.P2 h] at hb; cases hb
  have h0:=Tm.FH hnm hb
  have hr:a.rn e=.mk ((e a.name).getD a.name) []:=by rw [Tm.Kp,h0]; rfl
  rw [hr,h0]
  cases hen:e a.name with
  | none =>
   have hm:=hT a.name (by simp) hen
   have h1:=h.no _ hen
   have h2:Cu ys a.name=-1:=Sg fun hy=>(h.new _ hy).1 hm
   show (bif true&&(true&&(true&&Bz a.name)) then dec (Cu xs a.name=Cu ys a.name)&&(dec (0≤Cu xs a.name) || dec (a.name=a.name)) else _)=true
   rw [hb,h1,h2,Au rfl,Au rfl,Bool.or_true]; rfl
  | some w =>
   obtain ⟨h1,h2,h3⟩:=h.yes _ _ hen
   have hvw:=(he _ _ hen).2
   show (bif true&&(true&&(true&&Bz w)) then dec (Cu xs a.name=Cu ys w)&&(dec (0≤Cu xs a.name) || dec (a.name=w)) else _)=true
   rw [hvw,Au h3.symm,Au h2]; rfl
 | false =>
  rw [hb,cond_false] at hT
  have hn:=No he a hb
  rw [hn,Io,Au rfl]
  simp only [zA,zQ,cond_false,zD]
  have key:∀ l:List Tm,(∀ y∈l,y∈a.args)→Tm.alpL xs ys l (l.map (Tm.rn e))=true:=by
   intro l
   induction l with
   | nil=>intro _; rw [zG,Tm.alpL]
   | cons y l ihl =>
    intro hm
    rw [zE,Tm.alpL,ih y (hm y (by simp)) (fun m hv=>hT m (Tm.LU.2 ⟨y,hm y (by simp),hv⟩)),ihl fun z hz=>hm z (by simp [hz])]; rfl
  exact key a.args fun y hy=>hy
termination_by SizeOf.sizeOf a
decreasing_by exact Tm.lt_of_mem hy
theorem Fm.SY (tk:List ByteArray) (N:Int) (hV:∀ j:Int,0<j→j≤N→Bz (pre BC j)=true) (x:Fm) (hx:x.forms=true) :
  ∀ (xs ys:List ByteArray) (e:SEnv) (c:Int),0≤c→AL tk xs ys e c→UpN e c→(x.sep tk e c).2≤N→(∀ m∈x.fv [],e m=none→m∈tk)→Fm.alp xs ys x (x.sep tk e c).1=true:=by
 have ih:∀ p∈x.parts,∀ (xs ys:List ByteArray) (e:SEnv) (c:Int),0≤c→AL tk xs ys e c→UpN e c→(p.sep tk e c).2≤N→(∀ m∈p.fv [],e m=none→m∈tk)→Fm.alp xs ys p (p.sep tk e c).1=true:=fun p hp=>Fm.SY tk N hV p (Fm.BE hx hp)
 intro xs ys e c hc hal hup hN hT
 have hf:=Fm.B8 hx
 have hcnt:=Fm.Da tk x e c hc
 have hvv:=hup.onVV (N:=N) (by omega) hV
 rw [Fm.Nc] at hT
 rw [Fm.JG] at hN ⊢
 have key:∀ (xs ys:List ByteArray) (e:SEnv) (l:List Fm),(∀ y∈l,y∈x.parts)→(∀ y∈l,∀ m∈y.fv [],e m=none→m∈tk)→∀ c:Int,0≤c→AL tk xs ys e c→UpN e c→(Bo (fun y c=>Fm.sep tk y e c) l c).2≤N→c≤(Bo (fun y c=>Fm.sep tk y e c) l c).2∧Fm.alpL xs ys l (Bo (fun y c=>Fm.sep tk y e c) l c).1=true:=by
  intro xs ys e l
  induction l with
  | nil=>intro _ _ c _ _ _ _; rw [Bo]; exact ⟨Int.le_refl _,by rw [Fm.alpL]⟩
  | cons y l ihl =>
   intro hm hT c h0 ha hu h1
   rw [Bo] at h1 ⊢
   have hcn:=Fm.Da tk y e c h0
   have h1:(Bo (fun y c=>Fm.sep tk y e c) l (y.sep tk e c).2).2≤N:=h1
   obtain ⟨a,b⟩:=ihl (fun z hz=>hm z (by simp [hz])) (fun z hz=>hT z (by simp [hz])) (y.sep tk e c).2 (by omega) (ha.mono (by omega)) (hu.mono (by omega)) h1
   have h2:=ih y (hm y (by simp)) xs ys e c h0 ha hu (by omega) (hT y (by simp))
   refine ⟨by dsimp only; omega,?_⟩
   show Fm.alpL xs ys (y :: l) ((y.sep tk e c).1 :: _)=true
   rw [Fm.alpL,h2,b]; rfl
 rw [Fm.alp_eq]
 cases h3:dec (x.op=3) with
 | true =>
  have ho:=Az.1 h3
  rw [h3,cond_true] at hT
  rw [cond_true,cond_true]
  show (bif dec (x.op=3) then Tm.alp xs ys x.atom (x.atom.rn e) else false)=true
  rw [h3,cond_true]
  refine Tm.VK hal hvv x.atom (.inr (Fm.DE hf ho).2.1) fun m hm=>hT m ?_
  rw [List.mem_filter]
  exact ⟨Hh.2 (.inr hm),by rw [Ai (by simp)]; rfl⟩
 | false =>
  rw [h3,cond_false] at hN hT
  rw [cond_false,cond_false]
  cases hq:qB x.op with
  | false =>
   rw [hq,cond_false] at hN hT
   rw [cond_false,cond_false]
   show (bif dec (x.op=x.op) then Fm.alpL xs ys x.parts _ else false)=true
   rw [Au rfl,cond_true]
   exact (key xs ys e x.parts (fun y hy=>hy) (fun y hy m hm=>hT m (Fm.DF.2 ⟨y,hy,hm⟩)) c hc hal hup hN).2
  | true =>
   rw [hq,cond_true] at hN hT
   rw [zP] at hT
   rw [cond_true,cond_true]
   have hvar:=(Fm.Dm hf hq).1
   have hfr:=Di BC tk c
   have hnt:=L9 (p:=BC) (tk:=tk) hc
   obtain ⟨d,hd⟩:∃ d,d=fresh BC tk c:=⟨_,rfl⟩
   rw [←hd] at hN hfr hnt ⊢
   have hup1:UpN (DP e x.var (pre BC d)) d:=by
    intro m u hm
    unfold DP at hm
    by_cases hmv:m=x.var
    ·rw [Au hmv,cond_true] at hm
     obtain rfl:=yB hm
     exact ⟨by rw [hmv]; exact hvar,d,by omega,by omega,rfl⟩
    ·rw [Ai hmv,cond_false] at hm
     exact hup.mono (by omega) m u hm
   show (bif dec (x.op=x.op) then Fm.alpL (xs++[x.var]) (ys++[pre BC d]) x.parts _ else false)=true
   rw [Au rfl,cond_true]
   refine (key (xs++[x.var]) (ys++[pre BC d]) (DP e x.var (pre BC d)) x.parts (fun y hy=>hy) (fun y hy m hm he=>?_) d (by omega) (hal.put rfl hc (by omega) hnt) hup1 hN).2
   unfold DP at he
   by_cases hmv:m=x.var
   ·rw [Au hmv,cond_true] at he; cases he
   ·rw [Ai hmv,cond_false] at he
    exact hT m (Fm.DF.2 ⟨y,hy,(Fm.JF m y [x.var]).2 ⟨hm,by simpa using hmv⟩⟩) he
termination_by SizeOf.sizeOf x
decreasing_by exact Fm.lt_of_mem hp
theorem VL {x:Fm} (h:x.valid=true):Fm.alp [] [] x (Kt x)=true:=by
 unfold Fm.valid at h
 rw [zZ,decide_eq_true_eq] at h
 exact Fm.SY x.free 999 (fun j a b=>KU j a b) x h.2 [] [] _ 0 (by omega) ⟨rfl,(fun w hw=>by cases hw),(fun m w hm=>by cases hm),(fun m _=>by rw [Cu])⟩ (Nq 0) (Np x h.2 h.1) fun m hm _=>Hh.2 (.inr hm)
theorem Nv (xs:List ByteArray) (h:xs.length≤1048576):E 42 [.arr (xs.map fun s=>[D.str s])] []=some (.ref 0,[.row 9 1 (xs.map fun s=>[OT.str s])]):=by
 rw [RE (g:=KN) (by unfold modes; rfl)]
 unfold KN
 simp only
 rw [Au ⟨fun e he=>by obtain ⟨s,_,rfl⟩:=List.mem_map.1 he; exact ⟨s,rfl⟩,by simpa using h⟩,cond_true,List.map_map]
 rfl
theorem BA:modes 42=⟨[],.asis,some KN,false⟩:=by unfold modes; rfl
theorem P6 {x:Fm} (h:x.form=true) (ho:x.op=3):E 89 [x.atom.sv] []=some (.ref 0,[.row 9 1 ((HP [] x.atom.vs).map fun s=>[OT.str s])]):=by
 have ha:=(Fm.DE h ho).2.1
 have hn:=Tm.MR ha
 have h1:=Py x.atom (RO x.atom ha) (by omega)
 have e:x.atom.vars=HP [] x.atom.vs:=OG _
 rw [e] at h1
 exact h1
theorem QQ (b acc:List ByteArray) (n:ByteArray) (ns:List ByteArray):CD acc ((n :: ns).filter fun m=>!dec (m∈b))=CD (bif dec (n∈b) then acc else H6 acc n) (ns.filter fun m=>!dec (m∈b)):=by
 rw [List.filter_cons]
 cases dec (n∈b) with
 | true=>rfl
 | false=>rfl
def EZ:SC:=(.seq (.reg [⟨some 4,none,.boxv 29 5 (.t 1)⟩,⟨some 6,none,.mv (.c .nil)⟩]) (.seq (.seq (.reg [⟨some 11,none,.faddr 0 (.t 4)⟩,⟨some 12,none,.load false 1 (.t 11)⟩,⟨some 13,none,.bin .eql false (.t 12) (.c (.int .i64 3))⟩]) (.cond (.t 13) (.seq (.seq (.reg [⟨some 14,none,.faddr 1 (.t 4)⟩,⟨some 15,none,.load true 2 (.t 14)⟩,⟨some 16,none,.call 89 [(.t 15)]⟩,⟨some 17,none,.len false (.t 16)⟩,⟨some 18,none,.mv (.c (.int .i64 0))⟩]) (.block 0 (.loop [1,0,1,0,0,0,0,0,0,0,0,0,0,0,0,0,1,1,1,0,0,0,0,0,0,0,0,0,0,0,0,0,0,0,0,0,0,0,0,0,0,0,0,0,0,0,0,0,0,0,0,0,0,0,0,0,0,0,0,0] (.seq (.reg [⟨some 19,none,.bin .lss false (.t 18) (.t 17)⟩]) (.seq (.cond (.t 19) .skip (.exit 0)) (.seq (.block 1 (.seq (.reg [⟨some 20,none,.iaddr 1 (.t 16) (.t 18)⟩,⟨some 21,none,.load false 1 (.t 20)⟩,⟨some 8,none,.mv (.t 21)⟩]) (.seq (.reg [⟨some 22,none,.mv (.t 2)⟩,⟨some 23,none,.mv (.t 8)⟩,⟨some 24,none,.call 90 [(.t 22),(.t 23)]⟩,⟨some 25,none,.un .not (.t 24)⟩,⟨some 26,none,.mv (.t 25)⟩,⟨(some 27),(some (26,true)),(.mv (.t 0))⟩,⟨(some 28),(some (26,true)),(.mv (.t 8))⟩,⟨(some 29),(some (26,true)),(.call 90 [(.t 27),(.t 28)])⟩,⟨(some 30),(some (26,true)),(.un .not (.t 29))⟩,⟨some 31,none,.pick (.t 26) (.t 30) (.c (.bool false))⟩]) (.cond (.t 31) (.reg [⟨some 32,none,.mv (.t 0)⟩,⟨some 33,none,.mv (.t 8)⟩,⟨(some 34),none,(.mkrow 9 1 [(.str ⟨#[]⟩)] 1 [(0,(.t 33))])⟩,⟨(some 35),none,(.append 9 1 16 [(.str ⟨#[]⟩)] (.t 32) (.t 34))⟩,⟨some 0,none,.mv (.t 35)⟩]) .skip)))) (.reg [⟨some 36,none,.bin .add false (.t 18) (.c (.int .i64 1))⟩,⟨some 18,none,.mv (.t 36)⟩]))))))) (.seq (.reg [⟨some 37,none,.mv (.t 0)⟩,⟨some 6,none,.mv (.t 37)⟩]) .ret)) .skip)) (.seq (.seq (.reg [⟨some 38,none,.faddr 0 (.t 4)⟩,⟨some 39,none,.load false 1 (.t 38)⟩,⟨some 40,none,.call 41 [(.t 39)]⟩]) (.cond (.t 40) (.dreg [[],[0],[],[2],[3,2],[1,0,4,3,2],[5,1,0,4,3,2]] [⟨some 41,none,.mv (.t 2)⟩,⟨some 42,none,.call 42 [(.t 41)]⟩,⟨some 43,none,.faddr 3 (.t 4)⟩,⟨some 44,none,.load false 1 (.t 43)⟩,⟨(some 45),none,(.mkrow 9 1 [(.str ⟨#[]⟩)] 1 [(0,(.t 44))])⟩,⟨(some 46),none,(.append 9 1 16 [(.str ⟨#[]⟩)] (.t 42) (.t 45))⟩,⟨some 2,none,.mv (.t 46)⟩]) .skip)) (.seq (.seq (.reg [⟨some 47,none,.faddr 4 (.t 4)⟩,⟨some 48,none,.load false 1 (.t 47)⟩,⟨some 49,none,.len false (.t 48)⟩,⟨some 50,none,.mv (.c (.int .i64 0))⟩]) (.block 2 (.loop [1,0,1,0,0,0,0,0,0,0,0,0,0,0,0,0,0,0,0,0,0,0,0,0,0,0,0,0,0,0,0,0,0,0,0,0,0,0,0,0,0,0,0,0,0,0,0,0,1,1,1,0,0,0,0,0,0,0,0,0] (.seq (.reg [⟨some 51,none,.bin .lss false (.t 50) (.t 49)⟩]) (.seq (.cond (.t 51) .skip (.exit 2)) (.seq (.block 3 (.seq (.reg [⟨some 52,none,.iaddr 5 (.t 48) (.t 50)⟩,⟨some 53,none,.load true 5 (.t 52)⟩,⟨(some 10),none,(.alloc 29 [(.int .i64 0),(.str ⟨#[]⟩),.nil,(.str ⟨#[]⟩),.nil])⟩,⟨none,none,(.store 5 (.t 10) (.t 53))⟩]) (.reg [⟨some 54,none,.mv (.t 0)⟩,⟨some 55,none,.load true 5 (.t 10)⟩,⟨some 56,none,.mv (.t 2)⟩,⟨some 57,none,.call 60 [(.t 54),(.t 55),(.t 56)]⟩,⟨some 0,none,.mv (.t 57)⟩]))) (.reg [⟨some 58,none,.bin .add false (.t 50) (.c (.int .i64 1))⟩,⟨some 50,none,.mv (.t 58)⟩]))))))) (.seq (.reg [⟨some 59,none,.mv (.t 0)⟩,⟨some 6,none,.mv (.t 59)⟩]) .ret)))))
theorem GH:codeOf Tryz.prog 60=some ⟨60,EZ,[(.tmp 6)]⟩:=by kernel_rfl
theorem CT:modes 60=⟨[true],.asis,none,false⟩:=by unfold modes; rfl
def Ir:SC:=(.seq (.reg [⟨some 1,none,.boxv 29 5 (.t 0)⟩,⟨some 2,none,.mv (.c .nil)⟩]) (.seq (.reg [⟨(some 4),none,(.mkrow 9 1 [(.str ⟨#[]⟩)] 0 [])⟩,⟨some 5,none,.load true 5 (.t 1)⟩,⟨some 6,none,.call 60 [(.t 4),(.t 5),(.c .nil)]⟩,⟨some 3,none,.mv (.t 6)⟩]) (.seq (.reg [⟨some 7,none,.mv (.t 3)⟩,⟨some 8,none,.call 61 [(.t 7)]⟩]) (.seq (.reg [⟨some 9,none,.mv (.t 3)⟩,⟨some 2,none,.mv (.t 9)⟩]) .ret))))
theorem LA:codeOf Tryz.prog 33=some ⟨10,Ir,[(.tmp 2)]⟩:=by kernel_rfl
theorem Is:modes 33=⟨[],.asis,none,false⟩:=by unfold modes; rfl
abbrev YE (x:Fm):Prop:=∀ l b:List ByteArray,l.length+x.vn≤1048576→b.length+x.nodes≤1048576→E 60 [.ref 0,x.sv,.arr (b.map fun s=>[D.str s])] [.row 9 1 (l.map fun s=>[OT.str s])]=some ((bif dec (l.length<(CD l (x.fv b)).length) then .ref 1 else .ref 0),(bif dec (l.length<(CD l (x.fv b)).length) then [.gone,.row 9 1 ((CD l (x.fv b)).map fun s=>[OT.str s])] else [.row 9 1 ((CD l (x.fv b)).map fun s=>[OT.str s])]))
theorem Ua (x:Fm) (hx:x.forms=true) (ih:∀ y∈x.parts,YE y):YE x:=by
 intro l b hn hb
 have hfo:=Fm.B8 hx
 have hvn:=Fm.Vs x
 have hnd:=Fm.nodes_eq x
 have hpl:=Fm.length_le x.parts
 have hfv:=Fm.Nc x b
 have hat:=Fm.EW hfo
 have hgl:dec (l.length<l.length)=false:=Ai (by omega)
 have hxs:x.sv=.agg [.int .i64 x.op,.str x.atom.name,.arr (x.atom.args.map Tm.d),.str x.var,.arr (x.parts.map Fm.d)]:=rfl
 have has:x.atom.sv=.agg [.str x.atom.name,.arr (x.atom.args.map Tm.d)]:=rfl
 cases ho:dec (x.op=3) with
 | true =>
  rw [ho] at hfv
  simp only [cond_true] at hfv
  have hv:=P6 hfo (Az.1 ho)
  have hil:=Hg x.atom.vs []
  have hvl:=Tm.KQ x.atom
  simp only [zN] at hil
  obtain ⟨ns,hns⟩:∃ ns,ns=HP [] x.atom.vs:=⟨_,rfl⟩
  rw [←hns] at hv hfv hil
  rw [hfv]
  refine Aj GH CT (of_decide_eq_true rfl) ?_
  simp (disch:=omega) only [EZ,go_sem,Ab,ho,hv,EO]
  refine go_loop (α:=Int × (List ByteArray)) (fun a=>⟨slots 60 0 [(0,(bif dec (l.length<(a.2).length) then .ref 1 else .ref 0)),(2,.arr (b.map fun s=>[D.str s])),(16,(bif dec (l.length<(a.2).length) then .ref 2 else .ref 1)),(17,.int .i64 ns.length),(18,.int .i64 (a.1))],(bif dec (l.length<(a.2).length) then [.gone,.row 9 1 ((a.2).map fun s=>[OT.str s]),.row 9 1 (ns.map fun s=>[OT.str s])] else [.row 9 1 ((a.2).map fun s=>[OT.str s]),.row 9 1 (ns.map fun s=>[OT.str s])])⟩) (fun a=>∃ k:Nat,a.1=k∧k≤(ns).length∧CD (a.2) ((ns.drop k).filter fun m=>!dec (m∈b))=CD l (ns.filter fun m=>!dec (m∈b))∧(a.2).length+(ns.length-k)≤1048576∧l.length≤(a.2).length) (fun a=>(ns).length-(a.1).toNat) (0,l) ⟨0,rfl,zO _,by rw [zM],by dsimp only; omega,yE _⟩ (by simp (disch:=omega) only [go_sem,Ab,hgl]) ?_
  rintro ⟨i,acc⟩ ⟨k,hi,hk,hR⟩
  dsimp only at hi hR
  have hni:i.toNat=k:=by omega
  have hni1:(i+1).toNat=k+1:=by omega
  rcases zI k (ns).length with hlt | hge
  ·have hg:(ns.map fun s=>[OT.str s])[k]?=some [OT.str ns[k]]:=by rw [List.getElem?_map,List.getElem?_eq_getElem hlt]; rfl
   obtain ⟨hR1,hR2,hR3⟩:=hR
   rw [zB hlt,QQ] at hR1
   have c1:=G2 b ns[k] (by omega)
   have c2:=G2 acc ns[k] (by omega)
   rcases zI l.length acc.length with q1 | q1
   all_goals
    cases hq:dec (ns[k]∈b) with
    | true =>
     rw [hq] at c1 hR1
     simp only [cond_true] at hR1
     simp (disch:=omega) only [go_sem,Ab,hni,hg,c1,c2,AK]
     refine ⟨(i+1,acc),⟨k+1,by dsimp only; omega,hlt,hR1,by dsimp only; omega,by dsimp only; omega⟩,by dsimp only; omega,?_⟩
     first | done | simp (disch:=omega) only [go_sem,Ab]
    | false =>
     rw [hq] at c1 hR1
     simp only [cond_false] at hR1
     cases hm:dec (ns[k]∈acc) with
     | true =>
      have e2:H6 acc ns[k]=acc:=by unfold H6; rw [hm]; rfl
      rw [hm] at c2
      rw [e2] at hR1
      simp (disch:=omega) only [go_sem,Ab,hni,hg,c1,c2,AK]
      refine ⟨(i+1,acc),⟨k+1,by dsimp only; omega,hlt,hR1,by dsimp only; omega,by dsimp only; omega⟩,by dsimp only; omega,?_⟩
      first | done | simp (disch:=omega) only [go_sem,Ab]
     | false =>
      have e2:H6 acc ns[k]=acc++[ns[k]]:=by unfold H6; rw [hm]; rfl
      have hl1:(acc.map fun s=>[OT.str s])++[[OT.str ns[k]]]=(acc++[ns[k]]).map fun s=>[OT.str s]:=by simp
      have q2:dec (l.length<(acc++[ns[k]]).length)=true:=Au (by simp; omega)
      rw [hm] at c2
      rw [e2] at hR1
      simp (disch:=omega) only [go_sem,Ab,hni,hg,c1,c2,hl1,AK]
      refine ⟨(i+1,acc++[ns[k]]),⟨k+1,by dsimp only; omega,hlt,hR1,by simp; omega,by simp; omega⟩,by dsimp only; omega,?_⟩
      first | done | simp (disch:=omega) only [go_sem,Ab,q2,hl1]
  ·rw [zK hge] at hR
   obtain ⟨hR1,hR2,hR3⟩:=hR
   have hR1:acc=_:=hR1
   rw [←hR1]
   rcases zI l.length acc.length with q1 | q1
   ·simp (disch:=omega) only [go_sem,Ab,hni]
   ·simp (disch:=omega) only [go_sem,Ab,hni]
 | false =>
  rw [ho] at hfv
  simp only [cond_false] at hfv
  have hu:=Cg x.op
  cases hq:qB x.op with
  | false =>
   rw [hq] at hfv
   simp only [cond_false] at hfv
   rw [hfv]
   unfold qB at hq
   rw [hq] at hu
   obtain ⟨b',hb'⟩:∃ b',b'=b:=⟨_,rfl⟩
   have hbl:b'.length≤b.length+1:=by rw [hb']; omega
   rw [←hb']
   refine Aj GH CT (of_decide_eq_true rfl) ?_
   simp (disch:=omega) only [EZ,go_sem,Ab,ho,hu,Ac]
   refine go_loop (α:=Int × (List ByteArray)) (fun a=>⟨slots 60 0 [(0,(bif dec (l.length<(a.2).length) then .ref 1 else .ref 0)),(2,.arr (b'.map fun s=>[D.str s])),(48,.arr (x.parts.map Fm.d)),(49,.int .i64 x.parts.length),(50,.int .i64 (a.1))],(bif dec (l.length<(a.2).length) then [.gone,.row 9 1 ((a.2).map fun s=>[OT.str s])] else [.row 9 1 ((a.2).map fun s=>[OT.str s])])⟩) (fun a=>∃ k:Nat,a.1=k∧k≤(x.parts).length∧CD (a.2) (Fm.fvL (x.parts.drop k) b')=CD l (Fm.fvL x.parts b')∧(a.2).length+Fm.vnS (x.parts.drop k)≤1048576∧l.length≤(a.2).length) (fun a=>(x.parts).length-(a.1).toNat) (0,l) ⟨0,rfl,zO _,by rw [zM],by rw [zM]; dsimp only; omega,yE _⟩ (by simp (disch:=omega) only [go_sem,Ab,hgl]) ?_
   rintro ⟨i,acc⟩ ⟨k,hi,hk,hR⟩
   dsimp only at hi hR
   have hni:i.toNat=k:=by omega
   have hni1:(i+1).toNat=k+1:=by omega
   rcases zI k (x.parts).length with hlt | hge
   ·have hg:=get_at Fm.d hlt
    rw [Fm.d_eq] at hg
    obtain ⟨hR1,hR2,hR3⟩:=hR
    rw [zB hlt,Fm.fvL,MW] at hR1
    rw [zB hlt,Fm.vnS] at hR2
    have hnm:=Fm.nodes_le x.parts k hlt
    have hc:=ih x.parts[k] (zJ hlt) acc b' (by omega) (by omega)
    have hlen:=He (x.parts[k].fv b') acc
    have hgr:=IK (x.parts[k].fv b') acc
    have hvl:=Fm.Nd x.parts[k] b'
    obtain ⟨acc2,ha2⟩:∃ a,a=CD acc (x.parts[k].fv b'):=⟨_,rfl⟩
    rw [←ha2] at hc hlen hgr hR1
    rcases zI l.length acc.length with q1 | q1 <;> rcases zI acc.length acc2.length with q2 | q2
    all_goals
     first
      |rw [Au q2] at hc
      |rw [Ai (Nat.not_lt.2 q2)] at hc
     simp only [cond_true,cond_false] at hc
     simp (disch:=omega) only [go_sem,Ab,hni,hg,hc,CT]
     refine ⟨(i+1,acc2),⟨k+1,by dsimp only; omega,hlt,hR1,by dsimp only; omega,by dsimp only; omega⟩,by dsimp only; omega,?_⟩
     first | done | simp (disch:=omega) only [go_sem,Ab]
   ·rw [zK hge,Fm.fvL] at hR
    obtain ⟨hR1,hR2,hR3⟩:=hR
    have hR1:acc=_:=hR1
    rw [←hR1]
    rcases zI l.length acc.length with q1 | q1
    ·simp (disch:=omega) only [go_sem,Ab,hni]
    ·simp (disch:=omega) only [go_sem,Ab,hni]
  | true =>
   rw [hq] at hfv
   simp only [cond_true] at hfv
   rw [hfv]
   unfold qB at hq
   rw [hq] at hu
   have hcl:=Nv b (by omega)
   have hl1:(b.map fun s=>[OT.str s])++[[OT.str x.var]]=(b++[x.var]).map fun s=>[OT.str s]:=by simp
   obtain ⟨b',hb'⟩:∃ b',b'=b++[x.var]:=⟨_,rfl⟩
   have hbl:b'.length≤b.length+1:=by rw [hb']; simp
   rw [←hb'] at hl1
   rw [←hb']
   refine Aj GH CT (of_decide_eq_true rfl) ?_
   simp (disch:=omega) only [EZ,go_sem,Ab,ho,hu,hcl,hl1,Ac,BA]
   refine go_loop (α:=Int × (List ByteArray)) (fun a=>⟨slots 60 0 [(0,(bif dec (l.length<(a.2).length) then .ref 1 else .ref 0)),(2,(bif dec (l.length<(a.2).length) then .ref 2 else .ref 1)),(48,.arr (x.parts.map Fm.d)),(49,.int .i64 x.parts.length),(50,.int .i64 (a.1))],(bif dec (l.length<(a.2).length) then [.gone,.row 9 1 ((a.2).map fun s=>[OT.str s]),.row 9 1 (b'.map fun s=>[OT.str s])] else [.row 9 1 ((a.2).map fun s=>[OT.str s]),.row 9 1 (b'.map fun s=>[OT.str s])])⟩) (fun a=>∃ k:Nat,a.1=k∧k≤(x.parts).length∧CD (a.2) (Fm.fvL (x.parts.drop k) b')=CD l (Fm.fvL x.parts b')∧(a.2).length+Fm.vnS (x.parts.drop k)≤1048576∧l.length≤(a.2).length) (fun a=>(x.parts).length-(a.1).toNat) (0,l) ⟨0,rfl,zO _,by rw [zM],by rw [zM]; dsimp only; omega,yE _⟩ (by simp (disch:=omega) only [go_sem,Ab,hgl]) ?_
   rintro ⟨i,acc⟩ ⟨k,hi,hk,hR⟩
   dsimp only at hi hR
   have hni:i.toNat=k:=by omega
   have hni1:(i+1).toNat=k+1:=by omega
   rcases zI k (x.parts).length with hlt | hge
   ·have hg:=get_at Fm.d hlt
    rw [Fm.d_eq] at hg
    obtain ⟨hR1,hR2,hR3⟩:=hR
    rw [zB hlt,Fm.fvL,MW] at hR1
    rw [zB hlt,Fm.vnS] at hR2
    have hnm:=Fm.nodes_le x.parts k hlt
    have hc:=ih x.parts[k] (zJ hlt) acc b' (by omega) (by omega)
    have hlen:=He (x.parts[k].fv b') acc
    have hgr:=IK (x.parts[k].fv b') acc
    have hvl:=Fm.Nd x.parts[k] b'
    obtain ⟨acc2,ha2⟩:∃ a,a=CD acc (x.parts[k].fv b'):=⟨_,rfl⟩
    rw [←ha2] at hc hlen hgr hR1
    rcases zI l.length acc.length with q1 | q1 <;> rcases zI acc.length acc2.length with q2 | q2
    all_goals
     first
      |rw [Au q2] at hc
      |rw [Ai (Nat.not_lt.2 q2)] at hc
     simp only [cond_true,cond_false] at hc
     simp (disch:=omega) only [go_sem,Ab,hni,hg,hc,CT]
     refine ⟨(i+1,acc2),⟨k+1,by dsimp only; omega,hlt,hR1,by dsimp only; omega,by dsimp only; omega⟩,by dsimp only; omega,?_⟩
     first | done | simp (disch:=omega) only [go_sem,Ab]
   ·rw [zK hge,Fm.fvL] at hR
    obtain ⟨hR1,hR2,hR3⟩:=hR
    have hR1:acc=_:=hR1
    rw [←hR1]
    rcases zI l.length acc.length with q1 | q1
    ·simp (disch:=omega) only [go_sem,Ab,hni]
    ·simp (disch:=omega) only [go_sem,Ab,hni]
theorem QR (x:Fm) (hx:x.forms=true):YE x :=
 Ua x hx fun y hy=>QR y (Fm.BE hx hy)
termination_by SizeOf.sizeOf x
decreasing_by exact Fm.lt_of_mem hy
theorem YF (x:Fm) (hx:x.forms=true) (hv:x.vn≤1048576) (hn:x.nodes≤1048576):E 33 [x.sv] []=some (.ref 0,[.row 9 1 (x.free.map fun s=>[OT.str s])]):=by
 have h1:=QR x hx [] [] (by simpa using hv) (by simpa using hn)
 have hl:=He (x.fv []) []
 have hfl:=Fm.Nd x []
 rw [zN,Nat.zero_add] at hl
 have h2:=SI (CD [] (x.fv [])) (by omega)
 rw [OG] at h2
 rw [zG,zG,zN] at h1
 unfold Fm.free
 have hxs:x.sv=.agg [.int .i64 x.op,.str x.atom.name,.arr (x.atom.args.map Tm.d),.str x.var,.arr (x.parts.map Fm.d)]:=rfl
 rcases zI 0 (CD [] (x.fv [])).length with q | q
 ·rw [Au q] at h1
  simp only [cond_true] at h1
  refine Aj LA Is (of_decide_eq_true rfl) ?_
  simp (disch:=omega) only [Ir,go_sem,Ab,h1,h2,CT,BH]
 ·rw [Ai (by omega)] at h1
  simp only [cond_false] at h1
  refine Aj LA Is (of_decide_eq_true rfl) ?_
  simp (disch:=omega) only [Ir,go_sem,Ab,h1,h2,CT,BH]
def Fp {α:Type} (p:α→α→Bool):List α→List α→Bool
 | [],[]=>true
 | a :: us,b :: ws=>p a b&&Fp p us ws
 | [],_ :: _=>false
 | _ :: _,[]=>false
theorem Tm.alpL_pair (x y:List ByteArray):∀ us ws:List Tm,Tm.alpL x y us ws=Fp (Tm.alp x y) us ws
 | [],[]=>by rw [Tm.alpL]; rfl
 | a :: us,b :: ws=>by rw [Tm.alpL,Tm.alpL_pair x y us ws]; rfl
 | [],_ :: _=>by rw [Tm.alpL]; rfl
 | _ :: _,[]=>by rw [Tm.alpL]; rfl
theorem Fm.alpL_pair (x y:List ByteArray):∀ us ws:List Fm,Fm.alpL x y us ws=Fp (Fm.alp x y) us ws
 | [],[]=>by rw [Fm.alpL]; rfl
 | a :: us,b :: ws=>by rw [Fm.alpL,Fm.alpL_pair x y us ws]; rfl
 | [],_ :: _=>by rw [Fm.alpL]; rfl
 | _ :: _,[]=>by rw [Fm.alpL]; rfl
theorem IP {α:Type} {p:α→α→Bool}:∀ {us ws:List α},us.length≠ws.length→Fp p us ws=false
 | [],[],h=>absurd rfl h
 | a :: us,b :: ws,h=>by
  rw [Fp,IP (us:=us) (ws:=ws) (fun e=>h (by rw [yA,yA,e])),zQ]
 | [],_ :: _,_=>rfl
 | _ :: _,[],_=>rfl
def AT:SC:=(.seq (.reg [⟨some 6,none,.mv (.c (.bool false))⟩]) (.seq (.seq (.reg [⟨some 10,none,.mv (.t 0)⟩,⟨some 11,none,.len false (.t 10)⟩,⟨some 12,none,.mv (.t 1)⟩,⟨some 13,none,.len false (.t 12)⟩,⟨some 14,none,.bin .neq false (.t 11) (.t 13)⟩]) (.cond (.t 14) (.seq (.reg [⟨some 6,none,.mv (.c (.bool false))⟩]) .ret) .skip)) (.seq (.seq (.reg [⟨some 15,none,.mv (.t 0)⟩,⟨some 16,none,.len false (.t 15)⟩,⟨some 17,none,.mv (.c (.int .i64 0))⟩]) (.block 0 (.loop [0,1,1,0,0,0,0,0,0,0,0,0,0,0,0,1,1,1,0,0,0,0,0,0,0,0,0,0,0,0,0,0] (.seq (.reg [⟨some 18,none,.bin .lss false (.t 17) (.t 16)⟩]) (.seq (.cond (.t 18) .skip (.exit 0)) (.seq (.block 1 (.seq (.reg [⟨some 19,none,.mv (.t 17)⟩,⟨some 20,none,.iaddr 2 (.t 15) (.t 17)⟩,⟨some 21,none,.load true 2 (.t 20)⟩,⟨(some 8),none,(.alloc 26 [(.str ⟨#[]⟩),.nil])⟩,⟨some 7,none,.mv (.t 19)⟩,⟨none,none,(.store 2 (.t 8) (.t 21))⟩]) (.seq (.reg [⟨some 22,none,.mv (.t 1)⟩,⟨some 23,none,.mv (.t 7)⟩,⟨some 24,none,.iaddr 2 (.t 22) (.t 23)⟩,⟨some 25,none,.load true 2 (.t 24)⟩,⟨(some 9),none,(.alloc 26 [(.str ⟨#[]⟩),.nil])⟩,⟨none,none,(.store 2 (.t 9) (.t 25))⟩]) (.seq (.reg [⟨some 26,none,.mv (.t 2)⟩,⟨some 27,none,.load true 2 (.t 8)⟩,⟨some 28,none,.load true 2 (.t 9)⟩,⟨some 29,none,.callv (.t 26) [(.t 27),(.t 28)]⟩,⟨some 30,none,.un .not (.t 29)⟩]) (.cond (.t 30) (.seq (.reg [⟨some 6,none,.mv (.c (.bool false))⟩]) .ret) .skip))))) (.reg [⟨some 31,none,.bin .add false (.t 17) (.c (.int .i64 1))⟩,⟨some 17,none,.mv (.t 31)⟩]))))))) (.seq (.reg [⟨some 6,none,.mv (.c (.bool true))⟩]) .ret))))
theorem B4:codeOf Tryz.prog 70=some ⟨32,AT,[(.tmp 6)]⟩:=by kernel_rfl
theorem Al:modes 70=⟨[],.asis,none,false⟩:=by unfold modes; rfl
theorem LX (fid:Nat) (p:Tm→Tm→Bool) (X Y:List ByteArray) (us ws:List Tm) (hl:us.length≤1099511627776) (hl':ws.length≤1099511627776) (hg:Fu Tryz.prog fid=true) (hm:(modes fid).hand=[]) (hE:∀ a∈us,∀ b∈ws,E fid [a.sv,b.sv,.ptr 0 0,.ptr 1 0] [.box 36 [.arr (X.map fun s=>[D.str s])],.box 36 [.arr (Y.map fun s=>[D.str s])]]=some (.bool (p a b),[.box 36 [.arr (X.map fun s=>[D.str s])],.box 36 [.arr (Y.map fun s=>[D.str s])]])):E 70 [.arr (us.map Tm.d),.arr (ws.map Tm.d),.fn fid [.ptr 0 0,.ptr 1 0]] [.box 36 [.arr (X.map fun s=>[D.str s])],.box 36 [.arr (Y.map fun s=>[D.str s])]]=some (.bool (Fp p us ws),[.box 36 [.arr (X.map fun s=>[D.str s])],.box 36 [.arr (Y.map fun s=>[D.str s])]]):=by
 by_cases hlen:us.length=ws.length
 ·have hq:((us.length:Int)=(ws.length:Int))=True:=eq_true (by omega)
  refine Aj B4 Al (of_decide_eq_true rfl) ?_
  simp (disch:=omega) only [AT,go_sem,Ab,hq]
  refine go_loop (α:=Int) (fun a=>⟨slots 32 0 [(1,.arr (ws.map Tm.d)),(2,.fn fid [.ptr 0 0,.ptr 1 0]),(15,.arr (us.map Tm.d)),(16,.int .i64 us.length),(17,.int .i64 a)],[.box 36 [.arr (X.map fun s=>[D.str s])],.box 36 [.arr (Y.map fun s=>[D.str s])]]⟩) (fun a=>∃ k:Nat,a=k∧k≤(us).length∧Fp p (us.drop k) (ws.drop k)=Fp p us ws) (fun a=>(us).length-(a).toNat) 0 ⟨0,rfl,zO _,by rw [zM,zM]⟩ (by simp (disch:=omega) only [go_sem,Ab]) ?_
  rintro i ⟨k,hi,hk,hR⟩
  have hni:i.toNat=k:=by omega
  have hni1:(i+1).toNat=k+1:=by omega
  rcases zI k (us).length with hlt | hge
  ·have hgx:=get_at Tm.d hlt
   rw [Tm.d_eq] at hgx
   have hlt':k<ws.length:=by omega
   have hgy:=get_at Tm.d hlt'
   rw [Tm.d_eq] at hgy
   have hc:=hE us[k] (zJ hlt) ws[k] (zJ hlt')
   rw [zB hlt,zB hlt',Fp] at hR
   cases h0:p us[k] ws[k] with
   | true =>
    rw [h0] at hc hR
    simp (disch:=omega) only [go_sem,Ab,hni,hgx,hgy,hc,hg,hm]
    exact ⟨i+1,⟨k+1,by omega,hlt,hR⟩,by omega,by first | trivial | rfl | exact ⟨rfl,rfl⟩⟩
   | false =>
    rw [h0] at hc hR
    simp (disch:=omega) only [go_sem,Ab,hni,hgx,hgy,hc,hg,hm]
    exact hR
  ·rw [zK hge,zK (by omega)] at hR
   simp (disch:=omega) only [go_sem,Ab,hni]
   exact hR
 ·have hq:((us.length:Int)=(ws.length:Int))=False:=eq_false (by omega)
  rw [IP hlen]
  refine Aj B4 Al (of_decide_eq_true rfl) ?_
  simp (disch:=omega) only [AT,go_sem,Ab,hq]
def Ax:SC:=(.seq (.reg [⟨some 6,none,.mv (.c (.bool false))⟩]) (.seq (.seq (.reg [⟨some 10,none,.mv (.t 0)⟩,⟨some 11,none,.len false (.t 10)⟩,⟨some 12,none,.mv (.t 1)⟩,⟨some 13,none,.len false (.t 12)⟩,⟨some 14,none,.bin .neq false (.t 11) (.t 13)⟩]) (.cond (.t 14) (.seq (.reg [⟨some 6,none,.mv (.c (.bool false))⟩]) .ret) .skip)) (.seq (.seq (.reg [⟨some 15,none,.mv (.t 0)⟩,⟨some 16,none,.len false (.t 15)⟩,⟨some 17,none,.mv (.c (.int .i64 0))⟩]) (.block 0 (.loop [0,1,1,0,0,0,0,0,0,0,0,0,0,0,0,1,1,1,0,0,0,0,0,0,0,0,0,0,0,0,0,0] (.seq (.reg [⟨some 18,none,.bin .lss false (.t 17) (.t 16)⟩]) (.seq (.cond (.t 18) .skip (.exit 0)) (.seq (.block 1 (.seq (.reg [⟨some 19,none,.mv (.t 17)⟩,⟨some 20,none,.iaddr 5 (.t 15) (.t 17)⟩,⟨some 21,none,.load true 5 (.t 20)⟩,⟨(some 8),none,(.alloc 29 [(.int .i64 0),(.str ⟨#[]⟩),.nil,(.str ⟨#[]⟩),.nil])⟩,⟨some 7,none,.mv (.t 19)⟩,⟨none,none,(.store 5 (.t 8) (.t 21))⟩]) (.seq (.reg [⟨some 22,none,.mv (.t 1)⟩,⟨some 23,none,.mv (.t 7)⟩,⟨some 24,none,.iaddr 5 (.t 22) (.t 23)⟩,⟨some 25,none,.load true 5 (.t 24)⟩,⟨(some 9),none,(.alloc 29 [(.int .i64 0),(.str ⟨#[]⟩),.nil,(.str ⟨#[]⟩),.nil])⟩,⟨none,none,(.store 5 (.t 9) (.t 25))⟩]) (.seq (.reg [⟨some 26,none,.mv (.t 2)⟩,⟨some 27,none,.load true 5 (.t 8)⟩,⟨some 28,none,.load true 5 (.t 9)⟩,⟨some 29,none,.callv (.t 26) [(.t 27),(.t 28)]⟩,⟨some 30,none,.un .not (.t 29)⟩]) (.cond (.t 30) (.seq (.reg [⟨some 6,none,.mv (.c (.bool false))⟩]) .ret) .skip))))) (.reg [⟨some 31,none,.bin .add false (.t 17) (.c (.int .i64 1))⟩,⟨some 17,none,.mv (.t 31)⟩]))))))) (.seq (.reg [⟨some 6,none,.mv (.c (.bool true))⟩]) .ret))))
theorem A1:codeOf Tryz.prog 43=some ⟨32,Ax,[(.tmp 6)]⟩:=by kernel_rfl
theorem As:modes 43=⟨[],.asis,none,false⟩:=by unfold modes; rfl
theorem Xy (fid:Nat) (p:Fm→Fm→Bool) (X Y:List ByteArray) (us ws:List Fm) (hl:us.length≤1099511627776) (hl':ws.length≤1099511627776) (hg:Fu Tryz.prog fid=true) (hm:(modes fid).hand=[]) (hE:∀ a∈us,∀ b∈ws,E fid [a.sv,b.sv,.ptr 0 0,.ptr 1 0] [.box 36 [.arr (X.map fun s=>[D.str s])],.box 36 [.arr (Y.map fun s=>[D.str s])]]=some (.bool (p a b),[.box 36 [.arr (X.map fun s=>[D.str s])],.box 36 [.arr (Y.map fun s=>[D.str s])]])):E 43 [.arr (us.map Fm.d),.arr (ws.map Fm.d),.fn fid [.ptr 0 0,.ptr 1 0]] [.box 36 [.arr (X.map fun s=>[D.str s])],.box 36 [.arr (Y.map fun s=>[D.str s])]]=some (.bool (Fp p us ws),[.box 36 [.arr (X.map fun s=>[D.str s])],.box 36 [.arr (Y.map fun s=>[D.str s])]]):=by
 by_cases hlen:us.length=ws.length
 ·have hq:((us.length:Int)=(ws.length:Int))=True:=eq_true (by omega)
  refine Aj A1 As (of_decide_eq_true rfl) ?_
  simp (disch:=omega) only [Ax,go_sem,Ab,hq]
  refine go_loop (α:=Int) (fun a=>⟨slots 32 0 [(1,.arr (ws.map Fm.d)),(2,.fn fid [.ptr 0 0,.ptr 1 0]),(15,.arr (us.map Fm.d)),(16,.int .i64 us.length),(17,.int .i64 a)],[.box 36 [.arr (X.map fun s=>[D.str s])],.box 36 [.arr (Y.map fun s=>[D.str s])]]⟩) (fun a=>∃ k:Nat,a=k∧k≤(us).length∧Fp p (us.drop k) (ws.drop k)=Fp p us ws) (fun a=>(us).length-(a).toNat) 0 ⟨0,rfl,zO _,by rw [zM,zM]⟩ (by simp (disch:=omega) only [go_sem,Ab]) ?_
  rintro i ⟨k,hi,hk,hR⟩
  have hni:i.toNat=k:=by omega
  have hni1:(i+1).toNat=k+1:=by omega
  rcases zI k (us).length with hlt | hge
  ·have hgx:=get_at Fm.d hlt
   rw [Fm.d_eq] at hgx
   have hlt':k<ws.length:=by omega
   have hgy:=get_at Fm.d hlt'
   rw [Fm.d_eq] at hgy
   have hc:=hE us[k] (zJ hlt) ws[k] (zJ hlt')
   rw [zB hlt,zB hlt',Fp] at hR
   cases h0:p us[k] ws[k] with
   | true =>
    rw [h0] at hc hR
    simp (disch:=omega) only [go_sem,Ab,hni,hgx,hgy,hc,hg,hm]
    exact ⟨i+1,⟨k+1,by omega,hlt,hR⟩,by omega,by first | trivial | rfl | exact ⟨rfl,rfl⟩⟩
   | false =>
    rw [h0] at hc hR
    simp (disch:=omega) only [go_sem,Ab,hni,hgx,hgy,hc,hg,hm]
    exact hR
  ·rw [zK hge,zK (by omega)] at hR
   simp (disch:=omega) only [go_sem,Ab,hni]
   exact hR
 ·have hq:((us.length:Int)=(ws.length:Int))=False:=eq_false (by omega)
  rw [IP hlen]
  refine Aj A1 As (of_decide_eq_true rfl) ?_
  simp (disch:=omega) only [Ax,go_sem,Ab,hq]
theorem Xz (fid:Nat) (p:Fm→Fm→Bool) (X Y:List ByteArray) (us ws:List Fm) (hl:us.length≤1099511627776) (hl':ws.length≤1099511627776) (hg:Fu Tryz.prog fid=true) (hm:(modes fid).hand=[]) (hE:∀ a∈us,∀ b∈ws,E fid [a.sv,b.sv,.ptr 0 0,.ptr 1 0] [.box 36 [.ref 2],.box 36 [.ref 3],.row 9 1 (X.map fun s=>[OT.str s]),.row 9 1 (Y.map fun s=>[OT.str s])]=some (.bool (p a b),[.box 36 [.ref 2],.box 36 [.ref 3],.row 9 1 (X.map fun s=>[OT.str s]),.row 9 1 (Y.map fun s=>[OT.str s])])):E 43 [.arr (us.map Fm.d),.arr (ws.map Fm.d),.fn fid [.ptr 0 0,.ptr 1 0]] [.box 36 [.ref 2],.box 36 [.ref 3],.row 9 1 (X.map fun s=>[OT.str s]),.row 9 1 (Y.map fun s=>[OT.str s])]=some (.bool (Fp p us ws),[.box 36 [.ref 2],.box 36 [.ref 3],.row 9 1 (X.map fun s=>[OT.str s]),.row 9 1 (Y.map fun s=>[OT.str s])]):=by
 by_cases hlen:us.length=ws.length
 ·have hq:((us.length:Int)=(ws.length:Int))=True:=eq_true (by omega)
  refine Aj A1 As (of_decide_eq_true rfl) ?_
  simp (disch:=omega) only [Ax,go_sem,Ab,hq]
  refine go_loop (α:=Int) (fun a=>⟨slots 32 0 [(1,.arr (ws.map Fm.d)),(2,.fn fid [.ptr 0 0,.ptr 1 0]),(15,.arr (us.map Fm.d)),(16,.int .i64 us.length),(17,.int .i64 a)],[.box 36 [.ref 2],.box 36 [.ref 3],.row 9 1 (X.map fun s=>[OT.str s]),.row 9 1 (Y.map fun s=>[OT.str s])]⟩) (fun a=>∃ k:Nat,a=k∧k≤(us).length∧Fp p (us.drop k) (ws.drop k)=Fp p us ws) (fun a=>(us).length-(a).toNat) 0 ⟨0,rfl,zO _,by rw [zM,zM]⟩ (by simp (disch:=omega) only [go_sem,Ab]) ?_
  rintro i ⟨k,hi,hk,hR⟩
  have hni:i.toNat=k:=by omega
  have hni1:(i+1).toNat=k+1:=by omega
  rcases zI k (us).length with hlt | hge
  ·have hgx:=get_at Fm.d hlt
   rw [Fm.d_eq] at hgx
   have hlt':k<ws.length:=by omega
   have hgy:=get_at Fm.d hlt'
   rw [Fm.d_eq] at hgy
   have hc:=hE us[k] (zJ hlt) ws[k] (zJ hlt')
   rw [zB hlt,zB hlt',Fp] at hR
   cases h0:p us[k] ws[k] with
   | true =>
    rw [h0] at hc hR
    simp (disch:=omega) only [go_sem,Ab,hni,hgx,hgy,hc,hg,hm]
    exact ⟨i+1,⟨k+1,by omega,hlt,hR⟩,by omega,by first | trivial | rfl | exact ⟨rfl,rfl⟩⟩
   | false =>
    rw [h0] at hc hR
    simp (disch:=omega) only [go_sem,Ab,hni,hgx,hgy,hc,hg,hm]
    exact hR
  ·rw [zK hge,zK (by omega)] at hR
   simp (disch:=omega) only [go_sem,Ab,hni]
   exact hR
 ·have hq:((us.length:Int)=(ws.length:Int))=False:=eq_false (by omega)
  rw [IP hlen]
  refine Aj A1 As (of_decide_eq_true rfl) ?_
  simp (disch:=omega) only [Ax,go_sem,Ab,hq]
def It:SC:=(.seq (.reg [⟨some 4,none,.mv (.c (.int .i64 0))⟩]) (.seq (.seq (.reg [⟨some 6,none,.mv (.t 0)⟩,⟨some 7,none,.len false (.t 6)⟩,⟨some 8,none,.bin .sub false (.t 7) (.c (.int .i64 1))⟩,⟨some 5,none,.mv (.t 8)⟩]) (.block 0 (.loop [1,1,0,0,0,1,0,0,0,0,0,0,0,0,0,0,0,0,0,0] (.seq (.seq (.reg [⟨some 9,none,.mv (.t 5)⟩,⟨some 10,none,.bin .geq false (.t 9) (.c (.int .i64 0))⟩]) (.cond (.t 10) .skip (.exit 0))) (.seq (.block 1 (.seq (.reg [⟨some 13,none,.mv (.t 0)⟩,⟨some 14,none,.mv (.t 5)⟩,⟨some 15,none,.iaddr 1 (.t 13) (.t 14)⟩,⟨some 16,none,.load false 1 (.t 15)⟩,⟨some 17,none,.mv (.t 1)⟩,⟨some 18,none,.bin .eql false (.t 16) (.t 17)⟩]) (.cond (.t 18) (.seq (.reg [⟨some 19,none,.mv (.t 5)⟩,⟨some 4,none,.mv (.t 19)⟩]) .ret) .skip))) (.reg [⟨some 11,none,.mv (.t 5)⟩,⟨some 12,none,.bin .sub false (.t 11) (.c (.int .i64 1))⟩,⟨some 5,none,.mv (.t 12)⟩])))))) (.seq (.reg [⟨some 4,none,.mv (.c (.int .i64 (-(0+1))))⟩]) .ret)))
theorem Nw:codeOf Tryz.prog 69=some ⟨20,It,[(.tmp 4)]⟩:=by kernel_rfl
theorem BB:modes 69=⟨[],.asis,none,false⟩:=by unfold modes; rfl
theorem OR (l:List ByteArray) (hl:l.length≤1099511627776) (s:ByteArray):E 69 [.arr (l.map fun s=>[D.str s]),.str s] []=some (.int .i64 (Cu l s),[]):=by
 refine Aj Nw BB (of_decide_eq_true rfl) ?_
 simp (disch:=omega) only [It,go_sem,Ab]
 refine go_loop (α:=Int) (fun i=>⟨slots 20 0 [(0,.arr (l.map fun s=>[D.str s])),(1,.str s),(5,.int .i64 i)],[]⟩) (fun i=>∃ k:Nat,i=(k:Int)-1∧k≤l.length∧Cu (l.take k) s=Cu l s) (fun i=>(i+1).toNat) ((l.length:Int)-1) ⟨l.length,rfl,yE _,by rw [zS]⟩ (by simp (disch:=omega) only [go_sem,Ab]) ?_
 rintro i ⟨k0,hi,hk,hR⟩
 rcases zF k0 with h0 | h0
 ·subst h0
  obtain rfl:i=-1:=by omega
  rw [zU,Cu] at hR
  rw [←hR]
  simp (disch:=omega) only [go_sem,Ab]
 ·obtain ⟨k,rfl⟩:∃ k,k0=k+1:=⟨k0-1,by omega⟩
  have hlt:k<l.length:=by omega
  have hni:i.toNat=k:=by omega
  have hg:=get_at (fun s=>[D.str s]) hlt
  have hlk:(l.take k).length=k:=by rw [zV]; omega
  rw [List.take_succ_eq_append_getElem hlt,Eh,hlk] at hR
  cases hd:dec (l[k]=s) with
  | true =>
   rw [hd,cond_true] at hR
   have hik:i=(k:Int):=by omega
   rw [←hR,← hik]
   simp (disch:=omega) only [go_sem,Ab,hni,hg,hd]
  | false =>
   rw [hd,cond_false] at hR
   simp (disch:=omega) only [go_sem,Ab,hni,hg,hd]
   exact ⟨i-1,⟨k,by omega,by omega,hR⟩,by omega,by first | trivial | rfl | exact ⟨rfl,rfl⟩⟩
def Bf:SC:=(.seq (.reg [⟨some 4,none,.boxv 26 2 (.t 0)⟩,⟨some 5,none,.boxv 26 2 (.t 1)⟩,⟨some 6,none,.boxv 36 1 (.t 2)⟩,⟨some 7,none,.boxv 36 1 (.t 3)⟩,⟨some 8,none,.mv (.c (.bool false))⟩]) (.seq (.seq (.reg [⟨some 11,none,.faddr 1 (.t 4)⟩,⟨some 12,none,.load false 1 (.t 11)⟩,⟨some 13,none,.len false (.t 12)⟩,⟨some 14,none,.bin .eql false (.t 13) (.c (.int .i64 0))⟩,⟨some 15,none,.mv (.t 14)⟩,⟨(some 16),(some (15,true)),(.faddr 1 (.t 5))⟩,⟨(some 17),(some (15,true)),(.load false 1 (.t 16))⟩,⟨(some 18),(some (15,true)),(.len false (.t 17))⟩,⟨(some 19),(some (15,true)),(.bin .eql false (.t 18) (.c (.int .i64 0)))⟩,⟨some 20,none,.pick (.t 15) (.t 19) (.c (.bool false))⟩,⟨some 21,none,.mv (.t 20)⟩,⟨(some 22),(some (21,true)),(.load true 2 (.t 4))⟩,⟨(some 23),(some (21,true)),(.call 68 [(.t 22)])⟩,⟨some 24,none,.pick (.t 21) (.t 23) (.c (.bool false))⟩,⟨some 25,none,.mv (.t 24)⟩,⟨(some 26),(some (25,true)),(.load true 2 (.t 5))⟩,⟨(some 27),(some (25,true)),(.call 68 [(.t 26)])⟩,⟨some 28,none,.pick (.t 25) (.t 27) (.c (.bool false))⟩]) (.cond (.t 28) (.seq (.dreg [[],[],[1],[0,2,1],[],[],[5],[4,6,5,3,0,2,1],[3,0,2,1,7,4,6,5],[7,4,6,5,3,0,2,1,8]] [⟨some 29,none,.load false 1 (.t 6)⟩,⟨some 30,none,.faddr 0 (.t 4)⟩,⟨some 31,none,.load false 1 (.t 30)⟩,⟨some 32,none,.call 69 [(.t 29),(.t 31)]⟩,⟨some 33,none,.load false 1 (.t 7)⟩,⟨some 34,none,.faddr 0 (.t 5)⟩,⟨some 35,none,.load false 1 (.t 34)⟩,⟨some 36,none,.call 69 [(.t 33),(.t 35)]⟩,⟨some 9,none,.mv (.t 32)⟩,⟨some 10,none,.mv (.t 36)⟩]) (.seq (.reg [⟨some 37,none,.mv (.t 9)⟩,⟨some 38,none,.mv (.t 10)⟩,⟨some 39,none,.bin .eql false (.t 37) (.t 38)⟩,⟨some 40,none,.mv (.t 39)⟩,⟨(some 41),(some (40,true)),(.mv (.t 9))⟩,⟨(some 42),(some (40,true)),(.bin .geq false (.t 41) (.c (.int .i64 0)))⟩,⟨(some 43),(some (40,true)),(.mv (.t 42))⟩,⟨(some 44),(some (43,false)),(.faddr 0 (.t 4))⟩,⟨(some 45),(some (43,false)),(.load false 1 (.t 44))⟩,⟨(some 46),(some (43,false)),(.faddr 0 (.t 5))⟩,⟨(some 47),(some (43,false)),(.load false 1 (.t 46))⟩,⟨(some 48),(some (43,false)),(.bin .eql false (.t 45) (.t 47))⟩,⟨(some 49),(some (40,true)),(.pick (.t 43) (.c (.bool true)) (.t 48))⟩,⟨some 50,none,.pick (.t 40) (.t 49) (.c (.bool false))⟩,⟨some 8,none,.mv (.t 50)⟩]) .ret)) .skip)) (.seq (.reg [⟨some 51,none,.faddr 0 (.t 4)⟩,⟨some 52,none,.load false 1 (.t 51)⟩,⟨some 53,none,.faddr 0 (.t 5)⟩,⟨some 54,none,.load false 1 (.t 53)⟩,⟨some 55,none,.bin .eql false (.t 52) (.t 54)⟩,⟨some 56,none,.mv (.t 55)⟩,⟨(some 57),(some (56,true)),(.faddr 1 (.t 4))⟩,⟨(some 58),(some (56,true)),(.load false 1 (.t 57))⟩,⟨(some 59),(some (56,true)),(.faddr 1 (.t 5))⟩,⟨(some 60),(some (56,true)),(.load false 1 (.t 59))⟩,⟨(some 61),(some (56,true)),(.mkfn 71 [(.t 6),(.t 7)])⟩,⟨(some 62),(some (56,true)),(.call 70 [(.t 58),(.t 60),(.t 61)])⟩,⟨some 63,none,.pick (.t 56) (.t 62) (.c (.bool false))⟩,⟨some 8,none,.mv (.t 63)⟩]) .ret)))
theorem Bs:codeOf Tryz.prog 40=some ⟨64,Bf,[(.tmp 8)]⟩:=by kernel_rfl
theorem AN:modes 40=⟨[],.asis,none,false⟩:=by unfold modes; rfl
def F2:SC:=(.seq (.reg [⟨some 4,none,.boxv 26 2 (.t 0)⟩,⟨some 5,none,.boxv 26 2 (.t 1)⟩,⟨some 6,none,.mv (.c (.bool false))⟩]) (.seq (.reg [⟨some 7,none,.load true 2 (.t 4)⟩,⟨some 8,none,.load true 2 (.t 5)⟩,⟨some 9,none,.load false 1 (.t 2)⟩,⟨some 10,none,.load false 1 (.t 3)⟩,⟨some 11,none,.call 40 [(.t 7),(.t 8),(.t 9),(.t 10)]⟩,⟨some 6,none,.mv (.t 11)⟩]) .ret))
theorem IU:codeOf Tryz.prog 71=some ⟨12,F2,[(.tmp 6)]⟩:=by kernel_rfl
theorem C9:modes 71=⟨[],.asis,none,false⟩:=by unfold modes; rfl
theorem CY:Fu Tryz.prog 71=true:=by kernel_rfl
theorem Fa (X Y:List ByteArray) (a b:Tm) (v:Bool) (h:E 40 [a.sv,b.sv,.arr (X.map fun s=>[D.str s]),.arr (Y.map fun s=>[D.str s])] []=some (.bool v,[])):E 71 [a.sv,b.sv,.ptr 0 0,.ptr 1 0] [.box 36 [.arr (X.map fun s=>[D.str s])],.box 36 [.arr (Y.map fun s=>[D.str s])]]=some (.bool v,[.box 36 [.arr (X.map fun s=>[D.str s])],.box 36 [.arr (Y.map fun s=>[D.str s])]]):=by
 refine Aj IU C9 (of_decide_eq_true rfl) ?_
 simp (disch:=omega) only [F2,go_sem,Ab,h,AN]
theorem NM (X Y:List ByteArray) (hX:X.length≤1099511627776) (hY:Y.length≤1099511627776) (a b:Tm) (ha:a.cok=true) (hb:b.cok=true) (han:a.nodes≤1099511627776) (hbn:b.nodes≤1099511627776) (ih:∀ u∈a.args,∀ v∈b.args,E 40 [u.sv,v.sv,.arr (X.map fun s=>[D.str s]),.arr (Y.map fun s=>[D.str s])] []=some (.bool (Tm.alp X Y u v),[])):E 40 [a.sv,b.sv,.arr (X.map fun s=>[D.str s]),.arr (Y.map fun s=>[D.str s])] []=some (.bool (Tm.alp X Y a b),[]):=by
 have la:=Tm.length_le a.args
 have lb:=Tm.length_le b.args
 have na:=Tm.nodes_eq a
 have nb:=Tm.nodes_eq b
 have va:=Pw a ha
 have vb:=Pw b hb
 have ba:=OR X hX a.name
 have bb:=OR Y hY b.name
 rw [Tm.alp_eq]
 by_cases h1:a.args.length=0
 ·have q1:((a.args.length:Int)=0)=True:=eq_true (by omega)
  have e1:a.args.isEmpty=true:=by rw [zC h1]; rfl
  by_cases h2:b.args.length=0
  ·have q2:((b.args.length:Int)=0)=True:=eq_true (by omega)
   have e2:b.args.isEmpty=true:=by rw [zC h2]; rfl
   cases h3:Bz a.name with
   | true =>
    rw [h3] at va
    cases h4:Bz b.name with
    | true =>
     rw [h4] at vb
     rw [e1,e2]
     simp only [z6,cond_true]
     generalize Cu X a.name=m at *
     generalize Cu Y b.name=n at *
     by_cases k1:m=n
     ·have r1:(m=n)=True:=eq_true k1
      by_cases k2:0≤m
      ·have r2:(0≤m)=True:=eq_true k2
       rw [Au k1,Au k2]
       refine Aj Bs AN (of_decide_eq_true rfl) ?_
       simp (disch:=omega) only [Bf,go_sem,Ab,q1,q2,va,vb,ba,bb,r1,r2,B9,BB,Al]
      ·have r2:(0≤m)=False:=eq_false k2
       rw [Au k1,Ai k2,zD,Bool.false_or]
       refine Aj Bs AN (of_decide_eq_true rfl) ?_
       simp (disch:=omega) only [Bf,go_sem,Ab,q1,q2,va,vb,ba,bb,r1,r2,B9,BB,Al]
     ·have r1:(m=n)=False:=eq_false k1
      rw [Ai k1,zA]
      refine Aj Bs AN (of_decide_eq_true rfl) ?_
      simp (disch:=omega) only [Bf,go_sem,Ab,q1,q2,va,vb,ba,bb,r1,B9,BB,Al]
    | false =>
     rw [h4] at vb
     simp only [zQ,cond_false]
     have hpp:=Tm.alpL_pair X Y a.args b.args
     have hq:=LX 71 (Tm.alp X Y) X Y a.args b.args (by omega) (by omega) CY (by rw [C9]) fun u hu v hv=>Fa X Y u v _ (ih u hu v hv)
     rw [←hpp] at hq
     by_cases hnm:a.name=b.name
     ·have n1:(a.name=b.name)=True:=eq_true hnm
      rw [Au hnm,zD]
      refine Aj Bs AN (of_decide_eq_true rfl) ?_
      simp (disch:=omega) only [Bf,go_sem,Ab,q1,q2,va,vb,n1,hq,B9,BB,Al]
     ·have n1:(a.name=b.name)=False:=eq_false hnm
      rw [Ai hnm,zA]
      refine Aj Bs AN (of_decide_eq_true rfl) ?_
      simp (disch:=omega) only [Bf,go_sem,Ab,q1,q2,va,vb,n1,B9,BB,Al]
   | false =>
    rw [h3] at va
    simp only [zQ,zA,cond_false]
    have hpp:=Tm.alpL_pair X Y a.args b.args
    have hq:=LX 71 (Tm.alp X Y) X Y a.args b.args (by omega) (by omega) CY (by rw [C9]) fun u hu v hv=>Fa X Y u v _ (ih u hu v hv)
    rw [←hpp] at hq
    by_cases hnm:a.name=b.name
    ·have n1:(a.name=b.name)=True:=eq_true hnm
     rw [Au hnm,zD]
     refine Aj Bs AN (of_decide_eq_true rfl) ?_
     simp (disch:=omega) only [Bf,go_sem,Ab,q1,q2,va,n1,hq,B9,BB,Al]
    ·have n1:(a.name=b.name)=False:=eq_false hnm
     rw [Ai hnm,zA]
     refine Aj Bs AN (of_decide_eq_true rfl) ?_
     simp (disch:=omega) only [Bf,go_sem,Ab,q1,q2,va,n1,B9,BB,Al]
  ·have q2:((b.args.length:Int)=0)=False:=eq_false (by omega)
   have e2:b.args.isEmpty=false:=by
    cases hh:b.args with
    | nil=>rw [hh] at h2; exact absurd rfl h2
    | cons u us=>rfl
   rw [e2]
   simp only [zQ,zA,cond_false]
   have hpp:=Tm.alpL_pair X Y a.args b.args
   have hq:=LX 71 (Tm.alp X Y) X Y a.args b.args (by omega) (by omega) CY (by rw [C9]) fun u hu v hv=>Fa X Y u v _ (ih u hu v hv)
   rw [←hpp] at hq
   by_cases hnm:a.name=b.name
   ·have n1:(a.name=b.name)=True:=eq_true hnm
    rw [Au hnm,zD]
    refine Aj Bs AN (of_decide_eq_true rfl) ?_
    simp (disch:=omega) only [Bf,go_sem,Ab,q1,q2,n1,hq,B9,BB,Al]
   ·have n1:(a.name=b.name)=False:=eq_false hnm
    rw [Ai hnm,zA]
    refine Aj Bs AN (of_decide_eq_true rfl) ?_
    simp (disch:=omega) only [Bf,go_sem,Ab,q1,q2,n1,B9,BB,Al]
 ·have q1:((a.args.length:Int)=0)=False:=eq_false (by omega)
  have e1:a.args.isEmpty=false:=by
   cases hh:a.args with
   | nil=>rw [hh] at h1; exact absurd rfl h1
   | cons u us=>rfl
  rw [e1]
  simp only [zA,cond_false]
  have hpp:=Tm.alpL_pair X Y a.args b.args
  have hq:=LX 71 (Tm.alp X Y) X Y a.args b.args (by omega) (by omega) CY (by rw [C9]) fun u hu v hv=>Fa X Y u v _ (ih u hu v hv)
  rw [←hpp] at hq
  by_cases hnm:a.name=b.name
  ·have n1:(a.name=b.name)=True:=eq_true hnm
   rw [Au hnm,zD]
   refine Aj Bs AN (of_decide_eq_true rfl) ?_
   simp (disch:=omega) only [Bf,go_sem,Ab,q1,n1,hq,B9,BB,Al]
  ·have n1:(a.name=b.name)=False:=eq_false hnm
   rw [Ai hnm,zA]
   refine Aj Bs AN (of_decide_eq_true rfl) ?_
   simp (disch:=omega) only [Bf,go_sem,Ab,q1,n1,B9,BB,Al]
theorem Kx (X Y:List ByteArray) (hX:X.length≤1099511627776) (hY:Y.length≤1099511627776) (a b:Tm) (ha:a.cok=true) (hb:b.cok=true) (han:a.nodes≤1099511627776) (hbn:b.nodes≤1099511627776):E 40 [a.sv,b.sv,.arr (X.map fun s=>[D.str s]),.arr (Y.map fun s=>[D.str s])] []=some (.bool (Tm.alp X Y a b),[]) :=
 NM X Y hX hY a b ha hb han hbn fun u hu v hv=>Kx X Y hX hY u v (by rw [Tm.KO,zZ] at ha; exact Tm.MS ha.2 hu) (by rw [Tm.KO,zZ] at hb; exact Tm.MS hb.2 hv) (by have:=Tm.nodes_mem hu; have:=Tm.nodes_eq a; omega) (by have:=Tm.nodes_mem hv; have:=Tm.nodes_eq b; omega)
termination_by SizeOf.sizeOf a
decreasing_by exact Tm.lt_of_mem hu
def Ez:SC:=(.seq (.reg [⟨some 4,none,.boxv 29 5 (.t 0)⟩,⟨some 5,none,.boxv 29 5 (.t 1)⟩,⟨some 6,none,.boxv 36 1 (.t 2)⟩,⟨some 7,none,.boxv 36 1 (.t 3)⟩,⟨some 8,none,.mv (.c (.bool false))⟩]) (.seq (.seq (.reg [⟨some 9,none,.faddr 0 (.t 4)⟩,⟨some 10,none,.load false 1 (.t 9)⟩,⟨some 11,none,.faddr 0 (.t 5)⟩,⟨some 12,none,.load false 1 (.t 11)⟩,⟨some 13,none,.bin .neq false (.t 10) (.t 12)⟩]) (.cond (.t 13) (.seq (.reg [⟨some 8,none,.mv (.c (.bool false))⟩]) .ret) .skip)) (.seq (.seq (.reg [⟨some 14,none,.faddr 0 (.t 4)⟩,⟨some 15,none,.load false 1 (.t 14)⟩,⟨some 16,none,.bin .eql false (.t 15) (.c (.int .i64 3))⟩]) (.cond (.t 16) (.seq (.reg [⟨some 17,none,.faddr 1 (.t 4)⟩,⟨some 18,none,.load true 2 (.t 17)⟩,⟨some 19,none,.faddr 1 (.t 5)⟩,⟨some 20,none,.load true 2 (.t 19)⟩,⟨some 21,none,.load false 1 (.t 6)⟩,⟨some 22,none,.load false 1 (.t 7)⟩,⟨some 23,none,.call 40 [(.t 18),(.t 20),(.t 21),(.t 22)]⟩,⟨some 8,none,.mv (.t 23)⟩]) .ret) .skip)) (.seq (.seq (.reg [⟨some 24,none,.faddr 0 (.t 4)⟩,⟨some 25,none,.load false 1 (.t 24)⟩,⟨some 26,none,.call 41 [(.t 25)]⟩]) (.cond (.t 26) (.dreg [[],[0],[],[2],[3,2],[1,0,4,3,2],[],[6,5,1,0,4,3,2],[],[8],[9,8],[7,6,5,1,0,4,3,2,10,9,8],[5,1,0,4,3,2,11,7,6,10,9,8],[11,7,6,5,1,0,4,3,2,10,9,8,12]] [⟨some 27,none,.load false 1 (.t 6)⟩,⟨some 28,none,.call 42 [(.t 27)]⟩,⟨some 29,none,.faddr 3 (.t 4)⟩,⟨some 30,none,.load false 1 (.t 29)⟩,⟨(some 31),none,(.mkrow 9 1 [(.str ⟨#[]⟩)] 1 [(0,(.t 30))])⟩,⟨(some 32),none,(.append 9 1 16 [(.str ⟨#[]⟩)] (.t 28) (.t 31))⟩,⟨some 33,none,.load false 1 (.t 7)⟩,⟨some 34,none,.call 42 [(.t 33)]⟩,⟨some 35,none,.faddr 3 (.t 5)⟩,⟨some 36,none,.load false 1 (.t 35)⟩,⟨(some 37),none,(.mkrow 9 1 [(.str ⟨#[]⟩)] 1 [(0,(.t 36))])⟩,⟨(some 38),none,(.append 9 1 16 [(.str ⟨#[]⟩)] (.t 34) (.t 37))⟩,⟨none,none,(.store 1 (.t 6) (.t 32))⟩,⟨none,none,(.store 1 (.t 7) (.t 38))⟩]) .skip)) (.seq (.reg [⟨some 39,none,.faddr 4 (.t 4)⟩,⟨some 40,none,.load false 1 (.t 39)⟩,⟨some 41,none,.faddr 4 (.t 5)⟩,⟨some 42,none,.load false 1 (.t 41)⟩,⟨some 43,none,.mkfn 44 [(.t 6),(.t 7)]⟩,⟨some 44,none,.call 43 [(.t 40),(.t 42),(.t 43)]⟩,⟨some 8,none,.mv (.t 44)⟩]) .ret)))))
theorem FE:codeOf Tryz.prog 22=some ⟨45,Ez,[(.tmp 8)]⟩:=by kernel_rfl
theorem Dn:modes 22=⟨[],.asis,none,false⟩:=by unfold modes; rfl
def Gl:SC:=(.seq (.reg [⟨some 4,none,.boxv 29 5 (.t 0)⟩,⟨some 5,none,.boxv 29 5 (.t 1)⟩,⟨some 6,none,.mv (.c (.bool false))⟩]) (.seq (.reg [⟨some 7,none,.load true 5 (.t 4)⟩,⟨some 8,none,.load true 5 (.t 5)⟩,⟨some 9,none,.load false 1 (.t 2)⟩,⟨some 10,none,.load false 1 (.t 3)⟩,⟨some 11,none,.call 22 [(.t 7),(.t 8),(.t 9),(.t 10)]⟩,⟨some 6,none,.mv (.t 11)⟩]) .ret))
theorem Iu:codeOf Tryz.prog 44=some ⟨12,Gl,[(.tmp 6)]⟩:=by kernel_rfl
theorem E0:modes 44=⟨[],.asis,none,false⟩:=by unfold modes; rfl
theorem Iv:Fu Tryz.prog 44=true:=by kernel_rfl
theorem SZ (us:List ByteArray):OT.erss (us.map fun s=>[OT.str s])=us.map fun s=>[D.str s]:=by
 induction us with
 | nil=>rfl
 | cons x xs ih=>simp only [zE,OT.erss,OT.ers,OT.er,ih]
theorem OS (us:List ByteArray):OT.AS (us.map fun s=>[OT.str s])=true:=by
 induction us with
 | nil=>rfl
 | cons x xs ih=>simp only [zE,OT.AS,OT.DI,OT.full,ih,z6]
theorem Ky (us:List ByteArray):((us.map fun s=>[OT.str s]).all fun e=>e.length == 1)=true:=by rw [List.all_map,List.all_eq_true]; intro x _; rfl
abbrev P7 (X Y:List ByteArray) (a b:Fm):Prop:=E 22 [a.sv,b.sv,.arr (X.map fun s=>[D.str s]),.arr (Y.map fun s=>[D.str s])] []=some (.bool (Fm.alp X Y a b),[])
theorem VM (X Y:List ByteArray) (a b:Fm) (h:P7 X Y a b):E 44 [a.sv,b.sv,.ptr 0 0,.ptr 1 0] [.box 36 [.arr (X.map fun s=>[D.str s])],.box 36 [.arr (Y.map fun s=>[D.str s])]]=some (.bool (Fm.alp X Y a b),[.box 36 [.arr (X.map fun s=>[D.str s])],.box 36 [.arr (Y.map fun s=>[D.str s])]]):=by
 unfold P7 at h
 refine Aj Iu E0 (of_decide_eq_true rfl) ?_
 simp (disch:=omega) only [Gl,go_sem,Ab,h,SZ,OS,Ky,Dn]
theorem VN (X Y:List ByteArray) (a b:Fm) (h:P7 X Y a b):E 44 [a.sv,b.sv,.ptr 0 0,.ptr 1 0] [.box 36 [.ref 2],.box 36 [.ref 3],.row 9 1 (X.map fun s=>[OT.str s]),.row 9 1 (Y.map fun s=>[OT.str s])]=some (.bool (Fm.alp X Y a b),[.box 36 [.ref 2],.box 36 [.ref 3],.row 9 1 (X.map fun s=>[OT.str s]),.row 9 1 (Y.map fun s=>[OT.str s])]):=by
 unfold P7 at h
 refine Aj Iu E0 (of_decide_eq_true rfl) ?_
 simp (disch:=omega) only [Gl,go_sem,Ab,h,SZ,OS,Ky,Dn]
theorem VO (X Y:List ByteArray) (a b:Fm) (ha:a.forms=true) (hb:b.forms=true) (hX:X.length+a.nodes≤1048576) (hY:Y.length+b.nodes≤1048576) (ih:∀ u∈a.parts,∀ v∈b.parts,∀ X Y:List ByteArray,X.length+u.nodes≤1048576→Y.length+v.nodes≤1048576→P7 X Y u v):P7 X Y a b:=by
 have la:=Fm.length_le a.parts
 have lb:=Fm.length_le b.parts
 have na:=Fm.nodes_eq a
 have nb:=Fm.nodes_eq b
 have fa:=Fm.B8 ha
 have fb:=Fm.B8 hb
 have hqu:=Cg a.op
 have hqd:qB a.op=(dec (a.op=8) || dec (a.op=9)):=rfl
 rw [←hqd] at hqu
 unfold P7
 rw [Fm.alp_eq]
 by_cases h0:a.op=b.op
 ·have q0:(a.op=b.op)=True:=eq_true h0
  rw [Au h0,cond_true]
  by_cases h3:a.op=3
  ·have q3:(a.op=3)=True:=eq_true h3
   have hat:=Kx X Y (by omega) (by omega) a.atom b.atom (Tm.MT (Fm.DE fa h3).2.1) (Tm.MT (Fm.DE fb (by omega)).2.1) (by have:=Fm.EW fa; omega) (by have:=Fm.EW fb; omega)
   rw [Au h3,cond_true]
   refine Aj FE Dn (of_decide_eq_true rfl) ?_
   simp (disch:=omega) only [Ez,go_sem,Ab,q0,q3,hat,Ac,AN,BA,As]
  ·have q3:(a.op=3)=False:=eq_false h3
   rw [Ai h3,cond_false]
   cases hq:qB a.op with
   | false =>
    rw [hq] at hqu
    rw [cond_false]
    have hpp:=Fm.alpL_pair X Y a.parts b.parts
    have he:=Xy 44 (Fm.alp X Y) X Y a.parts b.parts (by omega) (by omega) Iv (by rw [E0]) fun u hu v hv=>VM X Y u v (ih u hu v hv X Y (by have:=Fm.nodes_mem hu; omega) (by have:=Fm.nodes_mem hv; omega))
    rw [←hpp] at he
    refine Aj FE Dn (of_decide_eq_true rfl) ?_
    simp (disch:=omega) only [Ez,go_sem,Ab,q0,q3,hqu,he,Ac,AN,BA,As]
   | true =>
    rw [hq] at hqu
    rw [cond_true]
    have c1:=Nv X (by omega)
    have c2:=Nv Y (by omega)
    have s1:(X.map fun s=>[OT.str s])++[[OT.str a.var]]=(X++[a.var]).map fun s=>[OT.str s]:=by simp
    have s2:(Y.map fun s=>[OT.str s])++[[OT.str b.var]]=(Y++[b.var]).map fun s=>[OT.str s]:=by simp
    have l1:(X++[a.var]).length=X.length+1:=by simp
    have l2:(Y++[b.var]).length=Y.length+1:=by simp
    have a1:=Ky X
    have a2:=Ky Y
    obtain ⟨X',hX'⟩:∃ X',X'=X++[a.var]:=⟨_,rfl⟩
    obtain ⟨Y',hY'⟩:∃ Y',Y'=Y++[b.var]:=⟨_,rfl⟩
    rw [←hX'] at s1 l1 ⊢
    rw [←hY'] at s2 l2 ⊢
    have hpp:=Fm.alpL_pair X' Y' a.parts b.parts
    have he:=Xz 44 (Fm.alp X' Y') X' Y' a.parts b.parts (by omega) (by omega) Iv (by rw [E0]) fun u hu v hv=>VN X' Y' u v (ih u hu v hv X' Y' (by have:=Fm.nodes_mem hu; omega) (by have:=Fm.nodes_mem hv; omega))
    rw [←hpp] at he
    refine Aj FE Dn (of_decide_eq_true rfl) ?_
    simp (disch:=omega) only [Ez,go_sem,Ab,q0,q3,hqu,c1,c2,s1,s2,a1,a2,he,Ac,AN,BA,As]
 ·have q0:(a.op=b.op)=False:=eq_false h0
  rw [Ai h0,cond_false]
  refine Aj FE Dn (of_decide_eq_true rfl) ?_
  simp (disch:=omega) only [Ez,go_sem,Ab,q0,Ac,AN,BA,As]
theorem Ta (X Y:List ByteArray) (a b:Fm) (ha:a.forms=true) (hb:b.forms=true) (hX:X.length+a.nodes≤1048576) (hY:Y.length+b.nodes≤1048576):P7 X Y a b :=
 VO X Y a b ha hb hX hY fun u hu v hv X Y h1 h2=>Ta X Y u v (Fm.BE ha hu) (Fm.BE hb hv) h1 h2
termination_by SizeOf.sizeOf a
decreasing_by exact Fm.lt_of_mem hu
def G4:SC:=(.seq (.reg [⟨some 2,none,.boxv 29 5 (.t 0)⟩,⟨some 3,none,.boxv 29 5 (.t 1)⟩,⟨some 4,none,.mv (.c (.bool false))⟩,⟨some 5,none,.mv (.c (.bool false))⟩]) (.seq (.seq (.reg [⟨some 6,none,.load true 5 (.t 2)⟩,⟨some 7,none,.call 16 [(.t 6)]⟩,⟨some 8,none,.un .not (.t 7)⟩,⟨some 9,none,.mv (.t 8)⟩,⟨(some 10),(some (9,false)),(.load true 5 (.t 3))⟩,⟨(some 11),(some (9,false)),(.call 16 [(.t 10)])⟩,⟨(some 12),(some (9,false)),(.un .not (.t 11))⟩,⟨some 13,none,.pick (.t 9) (.c (.bool true)) (.t 12)⟩]) (.cond (.t 13) (.seq (.reg [⟨some 4,none,.mv (.c (.bool false))⟩,⟨some 5,none,.mv (.c (.bool false))⟩]) .ret) .skip)) (.seq (.reg [⟨some 14,none,.load true 5 (.t 2)⟩,⟨some 15,none,.load true 5 (.t 3)⟩,⟨some 16,none,.call 22 [(.t 14),(.t 15),(.c .nil),(.c .nil)]⟩,⟨some 4,none,.mv (.t 16)⟩,⟨some 5,none,.mv (.c (.bool true))⟩]) .ret)))
theorem Kz:codeOf Tryz.prog 10=some ⟨17,G4,[(.tmp 4),(.tmp 5)]⟩:=by kernel_rfl
theorem Bt:modes 10=⟨[],.asis,none,false⟩:=by unfold modes; rfl
theorem P8 (a b:Fm) (hta:a.tame) (htb:b.tame) (ha:a.valid=true) (hb:b.valid=true):E 10 [a.sv,b.sv] []=some (.tup [.bool (Fm.alp [] [] a b),.bool true],[]):=by
 obtain ⟨a1,a2⟩:=DA ha
 obtain ⟨b1,b2⟩:=DA hb
 have h1:=Cr a hta (by omega)
 have h2:=Cr b htb (by omega)
 rw [ha] at h1
 rw [hb] at h2
 have h3:=Ta [] [] a b a2 b2 (by simp only [zN]; omega) (by simp only [zN]; omega)
 unfold P7 at h3
 rw [zG] at h3
 refine Aj Kz Bt (of_decide_eq_true rfl) ?_
 simp (disch:=omega) only [G4,go_sem,Ab,h1,h2,h3,AH,Dn]
def E1:SC:=(.seq (.reg [⟨some 2,none,.mv (.c (.int .i64 0))⟩]) (.seq (.reg [⟨some 3,none,.mv (.c (.int .i64 0))⟩]) (.seq (.seq (.dreg [[],[0],[1,0],[2,1,0],[],[4],[5,4],[6,5,4],[7,6,5,4],[3,2,1,0,8,7,6,5,4]] [⟨some 4,none,.mv (.t 0)⟩,⟨some 5,none,.nilchk (.t 4)⟩,⟨some 6,none,.faddr 1 (.t 5)⟩,⟨some 7,none,.load false 1 (.t 6)⟩,⟨some 8,none,.mv (.t 0)⟩,⟨some 9,none,.nilchk (.t 8)⟩,⟨some 10,none,.faddr 0 (.t 9)⟩,⟨some 11,none,.load false 1 (.t 10)⟩,⟨some 12,none,.len false (.t 11)⟩,⟨some 13,none,.bin .lss false (.t 7) (.t 12)⟩]) (.cond (.t 13) (.dreg [[],[0],[1,0],[2,1,0],[],[4],[5,4],[6,5,4],[3,2,1,0,7,6,5,4],[8,3,2,1,0,7,6,5,4],[9,8,3,2,1,0,7,6,5,4],[10,9,8,3,2,1,0,7,6,5,4]] [⟨some 14,none,.mv (.t 0)⟩,⟨some 15,none,.nilchk (.t 14)⟩,⟨some 16,none,.faddr 0 (.t 15)⟩,⟨some 17,none,.load false 1 (.t 16)⟩,⟨some 18,none,.mv (.t 0)⟩,⟨some 19,none,.nilchk (.t 18)⟩,⟨some 20,none,.faddr 1 (.t 19)⟩,⟨some 21,none,.load false 1 (.t 20)⟩,⟨some 22,none,.iaddr 1 (.t 17) (.t 21)⟩,⟨some 23,none,.load false 1 (.t 22)⟩,⟨some 24,none,.conv .i64 (.t 23)⟩,⟨some 3,none,.mv (.t 24)⟩]) .skip)) (.seq (.reg [⟨some 25,none,.mv (.t 0)⟩,⟨some 26,none,.nilchk (.t 25)⟩,⟨some 27,none,.faddr 1 (.t 26)⟩,⟨some 28,none,.load false 1 (.t 27)⟩,⟨some 29,none,.bin .add false (.t 28) (.c (.int .i64 1))⟩,⟨some 30,none,.nilchk (.t 25)⟩,⟨some 31,none,.faddr 1 (.t 30)⟩,⟨none,none,(.store 1 (.t 31) (.t 29))⟩]) (.seq (.reg [⟨some 32,none,.mv (.t 0)⟩,⟨some 33,none,.mv (.t 0)⟩,⟨some 34,none,.nilchk (.t 33)⟩,⟨some 35,none,.faddr 2 (.t 34)⟩,⟨some 36,none,.load false 1 (.t 35)⟩,⟨some 37,none,.bin .mul false (.t 36) (.c (.int .u64 6364136223846793005))⟩,⟨some 38,none,.mv (.t 3)⟩,⟨some 39,none,.conv .u64 (.t 38)⟩,⟨some 40,none,.bin .add false (.t 37) (.t 39)⟩,⟨some 41,none,.bin .add false (.t 40) (.c (.int .u64 892892))⟩,⟨some 42,none,.nilchk (.t 32)⟩,⟨some 43,none,.faddr 2 (.t 42)⟩,⟨none,none,(.store 1 (.t 43) (.t 41))⟩]) (.seq (.seq (.dreg [[],[0],[1,0],[2,1,0],[],[4],[5,4],[6,5,4],[7,6,5,4],[3,2,1,0,8,7,6,5,4]] [⟨some 44,none,.mv (.t 0)⟩,⟨some 45,none,.nilchk (.t 44)⟩,⟨some 46,none,.faddr 1 (.t 45)⟩,⟨some 47,none,.load false 1 (.t 46)⟩,⟨some 48,none,.mv (.t 0)⟩,⟨some 49,none,.nilchk (.t 48)⟩,⟨some 50,none,.faddr 0 (.t 49)⟩,⟨some 51,none,.load false 1 (.t 50)⟩,⟨some 52,none,.len false (.t 51)⟩,⟨some 53,none,.bin .leq false (.t 47) (.t 52)⟩]) (.cond (.t 53) (.seq (.reg [⟨some 54,none,.mv (.t 3)⟩,⟨some 2,none,.mv (.t 54)⟩]) .ret) .skip)) (.seq (.reg [⟨some 55,none,.mv (.t 0)⟩,⟨some 56,none,.nilchk (.t 55)⟩,⟨some 57,none,.faddr 2 (.t 56)⟩,⟨some 58,none,.load false 1 (.t 57)⟩,⟨some 59,none,.bin .shr false (.t 58) (.c (.int .u64 40))⟩,⟨some 60,none,.bin .and false (.t 59) (.c (.int .u64 255))⟩,⟨some 61,none,.conv .i64 (.t 60)⟩,⟨some 2,none,.mv (.t 61)⟩]) .ret)))))))
theorem G5:codeOf Tryz.prog 75=some ⟨62,E1,[(.tmp 2)]⟩:=by kernel_rfl
theorem E2:modes 75=⟨[],.asis,none,false⟩:=by unfold modes; rfl
def E3:SC:=(.seq (.reg [⟨some 4,none,.mv (.c (.int .i64 0))⟩]) (.seq (.seq (.reg [⟨some 6,none,.mv (.t 1)⟩,⟨some 7,none,.bin .leq false (.t 6) (.c (.int .i64 1))⟩]) (.cond (.t 7) (.seq (.reg [⟨some 4,none,.mv (.c (.int .i64 0))⟩]) .ret) .skip)) (.seq (.reg [⟨some 8,none,.mv (.t 0)⟩,⟨some 9,none,.call 75 [(.t 8)]⟩,⟨some 5,none,.mv (.t 9)⟩]) (.seq (.seq (.reg [⟨some 10,none,.mv (.t 1)⟩,⟨some 11,none,.bin .gtr false (.t 10) (.c (.int .i64 200))⟩]) (.cond (.t 11) (.reg [⟨some 12,none,.mv (.t 5)⟩,⟨some 13,none,.bin .mul false (.t 12) (.c (.int .i64 256))⟩,⟨some 14,none,.mv (.t 0)⟩,⟨some 15,none,.call 75 [(.t 14)]⟩,⟨some 16,none,.bin .add false (.t 13) (.t 15)⟩,⟨some 5,none,.mv (.t 16)⟩]) .skip)) (.seq (.reg [⟨some 17,none,.mv (.t 5)⟩,⟨some 18,none,.mv (.t 1)⟩,⟨some 19,none,.bin .rem false (.t 17) (.t 18)⟩,⟨some 4,none,.mv (.t 19)⟩]) .ret)))))
theorem G6:codeOf Tryz.prog 50=some ⟨20,E3,[(.tmp 4)]⟩:=by kernel_rfl
theorem At:modes 50=⟨[],.asis,none,false⟩:=by unfold modes; rfl
def Hp:SC:=(.seq (.reg [⟨some 4,none,.mv (.c (.bool false))⟩]) (.seq (.reg [⟨some 5,none,.mv (.t 0)⟩,⟨some 6,none,.mv (.t 1)⟩,⟨some 7,none,.call 50 [(.t 5),(.t 6)]⟩,⟨some 8,none,.bin .eql false (.t 7) (.c (.int .i64 0))⟩,⟨some 4,none,.mv (.t 8)⟩]) .ret))
theorem KZ:codeOf Tryz.prog 97=some ⟨9,Hp,[(.tmp 4)]⟩:=by kernel_rfl
theorem AI:modes 97=⟨[],.asis,none,false⟩:=by unfold modes; rfl
def HM:SC:=(.seq (.reg [⟨(some 4),none,(.mv (.c (.str ⟨#[]⟩)))⟩]) (.seq (.reg [⟨some 5,none,.mv (.t 1)⟩,⟨some 6,none,.mv (.t 0)⟩,⟨some 7,none,.mv (.t 1)⟩,⟨some 8,none,.len false (.t 7)⟩,⟨some 9,none,.call 50 [(.t 6),(.t 8)]⟩,⟨some 10,none,.iaddr 1 (.t 5) (.t 9)⟩,⟨some 11,none,.load false 1 (.t 10)⟩,⟨some 4,none,.mv (.t 11)⟩]) .ret))
theorem LL:codeOf Tryz.prog 51=some ⟨12,HM,[(.tmp 4)]⟩:=by kernel_rfl
theorem A4:modes 51=⟨[],.asis,none,false⟩:=by unfold modes; rfl
def Gm:SC:=(.seq (.reg [⟨some 4,none,.mv (.c (.int .i64 0))⟩]) (.seq (.reg [⟨some 5,none,.mv (.t 1)⟩,⟨some 6,none,.mv (.t 0)⟩,⟨some 7,none,.mv (.t 1)⟩,⟨some 8,none,.len false (.t 7)⟩,⟨some 9,none,.call 50 [(.t 6),(.t 8)]⟩,⟨some 10,none,.iaddr 1 (.t 5) (.t 9)⟩,⟨some 11,none,.load false 1 (.t 10)⟩,⟨some 4,none,.mv (.t 11)⟩]) .ret))
theorem JJ:codeOf Tryz.prog 99=some ⟨12,Gm,[(.tmp 4)]⟩:=by kernel_rfl
theorem CG:modes 99=⟨[],.asis,none,false⟩:=by unfold modes; rfl
theorem Z2 {α:Type} {a:α} {Q:α→Prop}:(∃ out,a=out∧Q out)=Q a:=propext ⟨fun ⟨o,h,q⟩=>by subst h; exact q,fun q=>⟨a,rfl,q⟩⟩
attribute [go_sem] Z2
abbrev by_ (b:Int):List D:=[D.byte b]
def Bytes (l:List Int):Prop:=∀ b∈l,0≤b∧b≤255
abbrev cur (l:List Int) (p s:Int):Ob:=.box 51 [.arr (l.map by_),.int .i64 p,.int .u64 s]
theorem YG (a:Int):0≤bits .and .u64 a 255∧bits .and .u64 a 255≤255:=by
 have h:(BitVec.ofInt 64 a &&& BitVec.ofInt 64 255).toNat≤255:=by
  rw [BitVec.toNat_and]
  exact Nat.and_le_right
 have e:bits .and .u64 a 255=(((BitVec.ofInt 64 a &&& BitVec.ofInt 64 255).toNat:Nat):Int):=by
  show IntKind.u64.wrap _=_
  refine PR ⟨?_,?_⟩
  ·show (0:Int)≤_; omega
  ·show _≤(18446744073709551615:Int)
   have:(BitVec.ofInt 64 a &&& BitVec.ofInt 64 255).toNat≤255:=h
   show (((BitVec.ofInt 64 a &&& BitVec.ofInt 64 255).toNat:Nat):Int)≤_
   omega
 rw [e]
 omega
theorem X1 (l:List Int) (hl:Bytes l) (hn:l.length≤1099511627776) (p s:Int) (hp0:0≤p) (hp:p≤1099511627776):∃ v s',E 75 [.ptr 0 0] [cur l p s]=some (.int .i64 v,[cur l (p+1) s'])∧0≤v∧v≤255:=by
 obtain ⟨Q,hQ⟩:∃ Q:SV × List Ob→Prop,Q=fun out=>∃ v s',out=(.int .i64 v,[cur l (p+1) s'])∧0≤v∧v≤255:=⟨_,rfl⟩
 suffices h:∃ out,E 75 [.ptr 0 0] [cur l p s]=some out∧Q out by
  obtain ⟨out,h1,h2⟩:=h
  rw [hQ] at h2
  obtain ⟨v,s',rfl,h3⟩:=h2
  exact ⟨v,s',h1,h3⟩
 by_cases hlt:p<l.length
 ·have hg:=get_at by_ (show p.toNat<l.length by omega)
  have hb:=hl _ (zJ (show p.toNat<l.length by omega))
  have hi:dec (inK .i64 l[p.toNat])=true:=BQ (by omega) (by omega)
  have h1:(p<(l.length:Int))=True:=eq_true (by omega)
  have h2:(p+1≤(l.length:Int))=True:=eq_true (by omega)
  refine AV G5 E2 (of_decide_eq_true rfl) ?_
  simp (disch:=omega) only [E1,go_sem,Ab,hg,hi,h1,h2]
  rw [hQ]
  exact ⟨_,_,rfl,hb⟩
 ·have h1:(p<(l.length:Int))=False:=eq_false (by omega)
  have h2:(p+1≤(l.length:Int))=False:=eq_false (by omega)
  have hb:=fun a=>YG a
  have hi:∀ a,dec (inK .i64 (bits .and .u64 a 255))=true:=fun a=>BQ (by have:=hb a; omega) (by have:=hb a; omega)
  refine AV G5 E2 (of_decide_eq_true rfl) ?_
  simp (disch:=omega) only [E1,go_sem,Ab,hi,h1,h2]
  rw [hQ]
  exact ⟨_,_,rfl,hb _⟩
theorem ET (l:List Int) (hl:Bytes l) (hn:l.length≤1099511627776) (n:Int) (h1:1≤n) (h2:n≤200) (p s:Int) (hp0:0≤p) (hp:p≤1099511627776):∃ v p' s',E 50 [.ptr 0 0,.int .i64 n] [cur l p s]=some (.int .i64 v,[cur l p' s'])∧(0≤v∧v<n)∧p≤p'∧p'≤p+1:=by
 by_cases hn1:n≤1
 ·refine ⟨0,p,s,?_,by omega,by omega,by omega⟩
  have q1:(n≤1)=True:=eq_true hn1
  refine Aj G6 At (of_decide_eq_true rfl) ?_
  simp (disch:=omega) only [E3,go_sem,Ab,q1]
 ·obtain ⟨v,s',hv,hv1,hv2⟩:=X1 l hl hn p s hp0 hp
  have hm1:=Int.emod_nonneg v (show n≠0 by omega)
  have hm2:=Int.emod_lt_of_pos v (show 0<n by omega)
  have hm3:v.tmod n=v % n:=Int.tmod_eq_emod_of_nonneg hv1
  refine ⟨v.tmod n,p+1,s',?_,by omega,by omega,by omega⟩
  have q1:(n≤1)=False:=eq_false hn1
  have q2:(200<n)=False:=eq_false (by omega)
  have q3:(n=0)=False:=eq_false (by omega)
  refine Aj G6 At (of_decide_eq_true rfl) ?_
  simp (disch:=omega) only [E3,go_sem,Ab,q1,q2,q3,hv,E2]
theorem OU (l:List Int) (hl:Bytes l) (hn:l.length≤1099511627776) (n:Int) (h1:1≤n) (h2:n≤200) (p s:Int) (hp0:0≤p) (hp:p≤1099511627776):∃ b p' s',E 97 [.ptr 0 0,.int .i64 n] [cur l p s]=some (.bool b,[cur l p' s'])∧p≤p'∧p'≤p+1:=by
 obtain ⟨v,p',s',hv,_,h3,h4⟩:=ET l hl hn n h1 h2 p s hp0 hp
 refine ⟨dec (v=0),p',s',?_,h3,h4⟩
 refine Aj KZ AI (of_decide_eq_true rfl) ?_
 simp (disch:=omega) only [Hp,go_sem,Ab,hv,At]
theorem Sh (l:List Int) (hl:Bytes l) (hn:l.length≤1099511627776) (xs:List ByteArray) (h1:1≤xs.length) (h2:xs.length≤200) (p s:Int) (hp0:0≤p) (hp:p≤1099511627776):∃ x p' s',E 51 [.ptr 0 0,.arr (xs.map fun s=>[D.str s])] [cur l p s]=some (.str x,[cur l p' s'])∧x∈xs∧p≤p'∧p'≤p+1:=by
 obtain ⟨v,p',s',hv,⟨hv0,hv1⟩,h3,h4⟩:=ET l hl hn xs.length (by omega) (by omega) p s hp0 hp
 have hg:=get_at (fun s=>[D.str s]) (show v.toNat<xs.length by omega)
 refine ⟨xs[v.toNat],p',s',?_,zJ _,h3,h4⟩
 refine Aj LL A4 (of_decide_eq_true rfl) ?_
 simp (disch:=omega) only [HM,go_sem,Ab,hv,hg,At]
theorem X2 (l:List Int) (hl:Bytes l) (hn:l.length≤1099511627776) (xs:List Int) (h1:1≤xs.length) (h2:xs.length≤200) (p s:Int) (hp0:0≤p) (hp:p≤1099511627776):∃ x p' s',E 99 [.ptr 0 0,.arr (xs.map fun n=>[D.int n])] [cur l p s]=some (.int .i64 x,[cur l p' s'])∧x∈xs∧p≤p'∧p'≤p+1:=by
 obtain ⟨v,p',s',hv,⟨hv0,hv1⟩,h3,h4⟩:=ET l hl hn xs.length (by omega) (by omega) p s hp0 hp
 have hg:=get_at (fun n=>[D.int n]) (show v.toNat<xs.length by omega)
 refine ⟨xs[v.toNat],p',s',?_,zJ _,h3,h4⟩
 refine Aj JJ CG (of_decide_eq_true rfl) ?_
 simp (disch:=omega) only [Gm,go_sem,Ab,hv,hg,At]
def Cs:SC:=(.seq (.reg [⟨(some 4),none,(.alloc 26 [(.str ⟨#[]⟩),.nil])⟩]) (.seq (.seq (.reg [⟨some 5,none,.mv (.t 1)⟩,⟨some 6,none,.bin .leq false (.t 5) (.c (.int .i64 1))⟩,⟨some 7,none,.mv (.t 6)⟩,⟨(some 8),(some (7,false)),(.mv (.t 0))⟩,⟨(some 9),(some (7,false)),(.call 97 [(.t 8),(.c (.int .i64 3))])⟩,⟨some 10,none,.pick (.t 7) (.c (.bool true)) (.t 9)⟩]) (.cond (.t 10) (.seq (.reg [⟨some 11,none,.mv (.t 0)⟩,⟨(some 12),none,(.mkrow 9 1 [(.str ⟨#[]⟩)] 7 [(0,(.c (.str ⟨#[88]⟩))),(1,(.c (.str ⟨#[89]⟩))),(2,(.c (.str ⟨#[90]⟩))),(3,(.c (.str ⟨#[97]⟩))),(4,(.c (.str ⟨#[98]⟩))),(5,(.c (.str ⟨#[88]⟩))),(6,(.c (.str ⟨#[97]⟩)))])⟩,⟨some 13,none,.call 51 [(.t 11),(.t 12)]⟩,⟨(some 14),none,(.build [(.str ⟨#[]⟩),.nil] [(0,(1,(.t 13)))])⟩,⟨none,none,(.store 2 (.t 4) (.t 14))⟩]) .ret) .skip)) (.seq (.seq (.reg [⟨some 15,none,.mv (.t 0)⟩,⟨some 16,none,.call 97 [(.t 15),(.c (.int .i64 2))]⟩]) (.cond (.t 16) (.seq (.reg [⟨some 17,none,.mv (.t 0)⟩,⟨some 18,none,.mv (.t 1)⟩,⟨some 19,none,.bin .sub false (.t 18) (.c (.int .i64 1))⟩,⟨some 20,none,.call 100 [(.t 17),(.t 19)]⟩,⟨(some 21),none,(.mkrow 26 2 [(.str ⟨#[]⟩),.nil] 1 [(0,(.t 20))])⟩,⟨(some 22),none,(.build [(.str ⟨#[]⟩),.nil] [(0,(1,(.c (.str ⟨#[102]⟩)))),(1,(1,(.t 21)))])⟩,⟨none,none,(.store 2 (.t 4) (.t 22))⟩]) .ret) .skip)) (.seq (.reg [⟨some 23,none,.mv (.t 0)⟩,⟨some 24,none,.mv (.t 1)⟩,⟨some 25,none,.bin .sub false (.t 24) (.c (.int .i64 1))⟩,⟨some 26,none,.call 100 [(.t 23),(.t 25)]⟩,⟨some 27,none,.mv (.t 0)⟩,⟨some 28,none,.mv (.t 1)⟩,⟨some 29,none,.bin .sub false (.t 28) (.c (.int .i64 1))⟩,⟨some 30,none,.call 100 [(.t 27),(.t 29)]⟩,⟨(some 31),none,(.mkrow 26 2 [(.str ⟨#[]⟩),.nil] 2 [(0,(.t 26)),(1,(.t 30))])⟩,⟨(some 32),none,(.build [(.str ⟨#[]⟩),.nil] [(0,(1,(.c (.str ⟨#[103]⟩)))),(1,(1,(.t 31)))])⟩,⟨none,none,(.store 2 (.t 4) (.t 32))⟩]) .ret))))
theorem CH:codeOf Tryz.prog 100=some ⟨33,Cs,[(.cell 4 true 2)]⟩:=by kernel_rfl
theorem AO:modes 100=⟨[],.half [none,some (26,2)],none,false⟩:=by unfold modes; rfl
def G7:SC:=(.seq (.reg [⟨(some 2),none,(.alloc 26 [(.str ⟨#[]⟩),.nil])⟩]) (.seq (.reg [⟨some 3,none,.mv (.t 0)⟩,⟨some 4,none,.mv (.t 0)⟩,⟨some 5,none,.call 50 [(.t 4),(.c (.int .i64 3))]⟩,⟨some 6,none,.bin .add false (.c (.int .i64 1)) (.t 5)⟩,⟨some 7,none,.call 100 [(.t 3),(.t 6)]⟩,⟨none,none,(.store 2 (.t 2) (.t 7))⟩]) .ret))
theorem K0:codeOf Tryz.prog 76=some ⟨8,G7,[(.cell 2 true 2)]⟩:=by kernel_rfl
theorem AR:modes 76=⟨[],.half [none,some (26,2)],none,false⟩:=by unfold modes; rfl
def Ch:SC:=(.seq (.reg [⟨(some 2),none,(.alloc 26 [(.str ⟨#[]⟩),.nil])⟩]) (.seq (.seq (.reg [⟨some 3,none,.mv (.t 0)⟩,⟨some 4,none,.call 50 [(.t 3),(.c (.int .i64 8))]⟩]) (.block 0 (.seq (.seq (.reg [⟨some 6,none,.bin .eql false (.t 4) (.c (.int .i64 0))⟩,⟨some 5,none,.mv (.t 6)⟩]) (.cond (.t 5) .skip (.reg [⟨some 7,none,.bin .eql false (.t 4) (.c (.int .i64 1))⟩,⟨some 5,none,.mv (.t 7)⟩]))) (.cond (.t 5) (.seq (.reg [⟨some 8,none,.mv (.t 0)⟩,⟨some 9,none,.call 76 [(.t 8)]⟩,⟨some 10,none,.mv (.t 0)⟩,⟨some 11,none,.call 76 [(.t 10)]⟩,⟨(some 12),none,(.mkrow 26 2 [(.str ⟨#[]⟩),.nil] 2 [(0,(.t 9)),(1,(.t 11))])⟩,⟨(some 13),none,(.build [(.str ⟨#[]⟩),.nil] [(0,(1,(.c (.str ⟨#[61]⟩)))),(1,(1,(.t 12)))])⟩,⟨none,none,(.store 2 (.t 2) (.t 13))⟩]) .ret) (.seq (.reg [⟨some 15,none,.bin .eql false (.t 4) (.c (.int .i64 2))⟩,⟨some 14,none,.mv (.t 15)⟩]) (.cond (.t 14) (.seq (.reg [⟨(some 16),none,(.build [(.str ⟨#[]⟩),.nil] [(0,(1,(.c (.str ⟨#[114]⟩))))])⟩,⟨none,none,(.store 2 (.t 2) (.t 16))⟩]) .ret) (.seq (.seq (.reg [⟨some 18,none,.bin .eql false (.t 4) (.c (.int .i64 3))⟩,⟨some 17,none,.mv (.t 18)⟩]) (.cond (.t 17) .skip (.reg [⟨some 19,none,.bin .eql false (.t 4) (.c (.int .i64 4))⟩,⟨some 17,none,.mv (.t 19)⟩]))) (.cond (.t 17) (.seq (.reg [⟨some 20,none,.mv (.t 0)⟩,⟨some 21,none,.call 100 [(.t 20),(.c (.int .i64 2))]⟩,⟨some 22,none,.mv (.t 0)⟩,⟨some 23,none,.call 100 [(.t 22),(.c (.int .i64 2))]⟩,⟨(some 24),none,(.mkrow 26 2 [(.str ⟨#[]⟩),.nil] 2 [(0,(.t 21)),(1,(.t 23))])⟩,⟨(some 25),none,(.build [(.str ⟨#[]⟩),.nil] [(0,(1,(.c (.str ⟨#[113]⟩)))),(1,(1,(.t 24)))])⟩,⟨none,none,(.store 2 (.t 2) (.t 25))⟩]) .ret) .skip)))))))) (.seq (.reg [⟨some 26,none,.mv (.t 0)⟩,⟨some 27,none,.call 100 [(.t 26),(.c (.int .i64 2))]⟩,⟨(some 28),none,(.mkrow 26 2 [(.str ⟨#[]⟩),.nil] 1 [(0,(.t 27))])⟩,⟨(some 29),none,(.build [(.str ⟨#[]⟩),.nil] [(0,(1,(.c (.str ⟨#[112]⟩)))),(1,(1,(.t 28)))])⟩,⟨none,none,(.store 2 (.t 2) (.t 29))⟩]) .ret)))
theorem C7:codeOf Tryz.prog 98=some ⟨30,Ch,[(.cell 2 true 2)]⟩:=by kernel_rfl
theorem Bg:modes 98=⟨[],.half [none,some (26,2)],none,false⟩:=by unfold modes; rfl
def Tm.oh (x:Tm):List OT:=[.str x.name,.ow (x.args.map Tm.osh)]
theorem Tm.VP (x:Tm):x.oh=[.str x.name,.ow (x.args.map Tm.osh)]:=rfl
theorem Tm.QS:∀ xs:List Tm,OT.CE (xs.map Tm.osh)=xs.map Tm.osh
 | []=>rfl
 | x :: xs=>by rw [zE,Tm.osh_eq]; simp only [OT.CE,OT.Jb,OT.half,Tm.QS xs]
theorem Tm.Tc:∀ xs:List Tm,OT.AS (xs.map Tm.oh)=true
 | []=>rfl
 | x :: xs=>by rw [zE,Tm.VP]; simp only [OT.AS,OT.DI,OT.full,Tm.osh_full,Tm.Tc xs,z6]
theorem Tm.Td:∀ xs:List Tm,OT.CE (xs.map Tm.oh)=xs.map Tm.osh
 | []=>rfl
 | x :: xs=>by rw [zE,zE,Tm.VP,Tm.osh_eq]; simp only [OT.CE,OT.Jb,OT.half,Tm.osh_er,Tm.Td xs]
theorem Tm.XJ:∀ xs:List Tm,OT.erss (xs.map Tm.oh)=xs.map Tm.d
 | []=>rfl
 | x :: xs=>by rw [zE,zE,Tm.VP,Tm.d_eq]; simp only [OT.erss,OT.ers,OT.er,Tm.osh_er,Tm.XJ xs]
theorem Tm.Si:∀ xs:List Tm,OT.CE (xs.map Tm.o)=xs.map Tm.osh
 | []=>rfl
 | x :: xs=>by rw [zE,zE,Tm.o_eq,Tm.osh_eq]; simp only [OT.CE,OT.Jb,OT.half,Tm.erss,Tm.Si xs]
theorem OT.Nx:∀ a b:List (List OT),OT.AS (a++b)=(OT.AS a&&OT.AS b)
 | [],b=>by simp [OT.AS]
 | x :: a,b=>by simp only [zT,OT.AS,OT.Nx a b,Bool.and_assoc]
theorem OT.Ny:∀ a b:List (List OT),OT.CE (a++b)=OT.CE a++OT.CE b
 | [],b=>by simp [OT.CE]
 | x :: a,b=>by simp only [zT,OT.CE,OT.Ny a b]
theorem OT.QT:∀ a b:List (List OT),OT.erss (a++b)=OT.erss a++OT.erss b
 | [],b=>by simp [OT.erss]
 | x :: a,b=>by simp only [zT,OT.erss,OT.QT a b]
attribute [go_sem] OT.Nx OT.Ny OT.QT Tm.osh_full Tm.osh_er Tm.QS Tm.Tc Tm.XJ Tm.Td Tm.Si
abbrev tmH (t:Tm) (g:Nat):SV:=.agg [.str t.name,.ref g]
abbrev La (t:Tm):Ob:=.row 26 2 (t.args.map Tm.osh)
theorem P9 (l:List Int) (hl:Bytes l) (hn:l.length≤1099511627776):∀ (d:Nat) (m:Int),m=d→d≤20→∀ p s:Int,0≤p→p+(4*2 ^ d:Nat)≤1099000000000→∃ t p' s',E 100 [.ptr 0 0,.int .i64 m] [cur l p s]=some (tmH t 1,[cur l p' s',La t])∧(p≤p'∧p'+2≤p+(4*2 ^ d:Nat))∧t.nodes+1≤2*2 ^ d:=by
 intro d
 have leaf:∀ (p1 s1:Int),0≤p1→p1≤1099500000000→∃ x p2 s2,E 51 [.ptr 0 0,.arr [[D.str ⟨#[88]⟩],[D.str ⟨#[89]⟩],[D.str ⟨#[90]⟩],[D.str ⟨#[97]⟩],[D.str ⟨#[98]⟩],[D.str ⟨#[88]⟩],[D.str ⟨#[97]⟩]]] [cur l p1 s1]=some (.str x,[cur l p2 s2])∧p1≤p2∧p2≤p1+1:=fun p1 s1 a b=>by
  obtain ⟨x,p2,s2,ho,_,h2,h3⟩:=Sh l hl hn [⟨#[88]⟩,⟨#[89]⟩,⟨#[90]⟩,⟨#[97]⟩,⟨#[98]⟩,⟨#[88]⟩,⟨#[97]⟩] (by decide) (by decide) p1 s1 a (by omega)
  simp only [zE,zG] at ho
  exact ⟨x,p2,s2,ho,h2,h3⟩
 have n1:∀ x,(Tm.mk x []).nodes=1:=fun x=>by rw [Tm.nodes_eq]; rfl
 induction d with
 | zero =>
  rintro m rfl _ p s h0 h1
  rw [show 2 ^ 0=1 by rfl] at h1
  obtain ⟨x,p1,s1,ho,h2,h3⟩:=leaf p s h0 (by omega)
  rw [show 2 ^ 0=1 by rfl]
  obtain ⟨Q,hQ⟩:∃ Q:SV × List Ob→Prop,Q=fun out=>∃ t p' s',out=(tmH t 1,[cur l p' s',La t])∧(p≤p'∧p'+2≤p+(4*1:Nat))∧t.nodes+1≤2*1:=⟨_,rfl⟩
  suffices hq0:∃ out,E 100 [.ptr 0 0,.int .i64 ((0:Nat):Int)] [cur l p s]=some out∧Q out by
   obtain ⟨out,hq1,hq2⟩:=hq0
   rw [hQ] at hq2
   obtain ⟨t,p',s',rfl,hq3⟩:=hq2
   exact ⟨t,p',s',hq1,hq3⟩
  refine AV CH AO (of_decide_eq_true rfl) ?_
  simp (disch:=omega) only [Cs,go_sem,Ab,ho,A4]
  rw [hQ]
  exact ⟨.mk x [],p1,s1,rfl,by omega,by rw [n1]; decide⟩
 | succ e ih =>
  intro m hm hd p s h0 h1
  have hpe:2 ^ (e+1)=2*2 ^ e:=by rw [Nat.pow_succ,Nat.mul_comm]
  have hp1:1≤2 ^ e:=Nat.one_le_two_pow
  have hp2:2 ^ e≤2 ^ 20:=zY (by omega) (by omega)
  have hp3:(2:Nat) ^ 20=1048576:=by decide
  have ih:=ih (m-1) (by omega) (by omega)
  rw [hpe] at h1 ⊢
  generalize 2 ^ e=q at *
  generalize hq2:2*q=q2 at *
  obtain ⟨Q,hQ⟩:∃ Q:SV × List Ob→Prop,Q=fun out=>∃ t p' s',out=(tmH t 1,[cur l p' s',La t])∧(p≤p'∧p'+2≤p+(4*q2:Nat))∧t.nodes+1≤2*q2:=⟨_,rfl⟩
  suffices hq0:∃ out,E 100 [.ptr 0 0,.int .i64 m] [cur l p s]=some out∧Q out by
   obtain ⟨out,hq1,hq2⟩:=hq0
   rw [hQ] at hq2
   obtain ⟨t,p',s',rfl,hq3⟩:=hq2
   exact ⟨t,p',s',hq1,hq3⟩
  by_cases hm1:m≤1
  ·have q1:(m≤1)=True:=eq_true hm1
   obtain ⟨x,p1,s1,ho,h2,h3⟩:=leaf p s h0 (by omega)
   refine AV CH AO (of_decide_eq_true rfl) ?_
   simp (disch:=omega) only [Cs,go_sem,Ab,ho,q1,A4]
   rw [hQ]
   exact ⟨.mk x [],p1,s1,rfl,by omega,by rw [n1]; omega⟩
  ·have q1:(m≤1)=False:=eq_false hm1
   obtain ⟨b1,p1,s1,hb1,g1,g2⟩:=OU l hl hn 3 (by omega) (by omega) p s h0 (by omega)
   cases b1 with
   | true =>
    obtain ⟨x,p2,s2,ho,h2,h3⟩:=leaf p1 s1 (by omega) (by omega)
    refine AV CH AO (of_decide_eq_true rfl) ?_
    simp (disch:=omega) only [Cs,go_sem,Ab,q1,hb1,ho,A4,AI]
    rw [hQ]
    exact ⟨.mk x [],p2,s2,rfl,by omega,by rw [n1]; omega⟩
   | false =>
    obtain ⟨b2,p2,s2,hb2,g3,g4⟩:=OU l hl hn 2 (by omega) (by omega) p1 s1 (by omega) (by omega)
    obtain ⟨t3,p3,s3,h3,⟨g5,g6⟩,g7⟩:=ih p2 s2 (by omega) (by omega)
    cases b2 with
    | true =>
     have e1:(Tm.mk ⟨#[102]⟩ [t3]).nodes=1+(t3.nodes+0):=by rw [Tm.nodes_eq]; rfl
     refine AV CH AO (of_decide_eq_true rfl) ?_
     simp (disch:=omega) only [Cs,go_sem,Ab,q1,hb1,hb2,h3,A4,AI,AO]
     rw [hQ]
     exact ⟨.mk ⟨#[102]⟩ [t3],p3,s3,rfl,by omega,by rw [e1]; omega⟩
    | false =>
     obtain ⟨t4,p4,s4,h4,⟨g8,g9⟩,g10⟩:=ih p3 s3 (by omega) (by omega)
     have e1:(Tm.mk ⟨#[103]⟩ [t3,t4]).nodes=1+(t3.nodes+(t4.nodes+0)):=by rw [Tm.nodes_eq]; rfl
     refine AV CH AO (of_decide_eq_true rfl) ?_
     simp (disch:=omega) only [Cs,go_sem,Ab,q1,hb1,hb2,h3,h4,A4,AI,AO]
     rw [hQ]
     exact ⟨.mk ⟨#[103]⟩ [t3,t4],p4,s4,rfl,by omega,by rw [e1]; omega⟩
theorem Lb (l:List Int) (hl:Bytes l) (hn:l.length≤1099511627776) (p s:Int) (h0:0≤p) (h1:p≤1098000000000):∃ t p' s',E 76 [.ptr 0 0] [cur l p s]=some (tmH t 1,[cur l p' s',La t])∧(p≤p'∧p'≤p+40)∧t.nodes≤20:=by
 obtain ⟨v,p1,s1,hv,⟨v0,v1⟩,g1,g2⟩:=ET l hl hn 3 (by omega) (by omega) p s h0 (by omega)
 have hp3:(2:Nat) ^ (1+v).toNat≤2 ^ 3:=zY (by omega) (by omega)
 obtain ⟨t,p2,s2,ht,⟨g3,g4⟩,g5⟩:=P9 l hl hn (1+v).toNat (1+v) (by omega) (by omega) p1 s1 (by omega) (by omega)
 have hp4:(2:Nat) ^ 3=8:=by decide
 refine ⟨t,p2,s2,?_,by omega,by omega⟩
 have hi:dec (inK .i64 (1+v))=true:=BQ (by omega) (by omega)
 refine Aj K0 AR (of_decide_eq_true rfl) ?_
 simp (disch:=omega) only [G7,go_sem,Ab,hv,ht,hi,At,AO]
theorem YH (l:List Int) (hl:Bytes l) (hn:l.length≤1099511627776) (p s:Int) (h0:0≤p) (h1:p≤1097000000000):∃ t p' s',E 98 [.ptr 0 0] [cur l p s]=some (tmH t 1,[cur l p' s',La t])∧(p≤p'∧p'≤p+100)∧t.nodes≤50:=by
 obtain ⟨Q,hQ⟩:∃ Q:SV × List Ob→Prop,Q=fun out=>∃ t p' s',out=(tmH t 1,[cur l p' s',La t])∧(p≤p'∧p'≤p+100)∧t.nodes≤50:=⟨_,rfl⟩
 suffices hq0:∃ out,E 98 [.ptr 0 0] [cur l p s]=some out∧Q out by
  obtain ⟨out,hq1,hq2⟩:=hq0
  rw [hQ] at hq2
  obtain ⟨t,p',s',rfl,hq3⟩:=hq2
  exact ⟨t,p',s',hq1,hq3⟩
 have hp4:(2:Nat) ^ 2=4:=by decide
 have e1:∀ x a,(Tm.mk x [a]).nodes=1+(a.nodes+0):=fun x a=>by rw [Tm.nodes_eq]; rfl
 have e2:∀ x a b,(Tm.mk x [a,b]).nodes=1+(a.nodes+(b.nodes+0)):=fun x a b=>by rw [Tm.nodes_eq]; rfl
 obtain ⟨v,p1,s1,hv,⟨v0,v1⟩,g1,g2⟩:=ET l hl hn 8 (by omega) (by omega) p s h0 (by omega)
 obtain ⟨ta,p2,s2,ha,⟨a3,a4⟩,a5⟩:=Lb l hl hn p1 s1 (by omega) (by omega)
 obtain ⟨tb,p3,s3,hb,⟨b3,b4⟩,b5⟩:=Lb l hl hn p2 s2 (by omega) (by omega)
 obtain ⟨tc,p4,s4,hc,⟨c3,c4⟩,c5⟩:=P9 l hl hn 2 2 rfl (by omega) p1 s1 (by omega) (by omega)
 obtain ⟨td,p5,s5,hd,⟨d3,d4⟩,d5⟩:=P9 l hl hn 2 2 rfl (by omega) p4 s4 (by omega) (by omega)
 rw [hp4] at c4 c5 d4 d5
 rcases (show v=0∨v=1∨v=2∨v=3∨v=4∨(¬ v=0∧¬ v=1∧¬ v=2∧¬ v=3∧¬ v=4) by omega) with rfl | rfl | rfl | rfl | rfl | ⟨k0,k1,k2,k3,k4⟩
 ·refine AV C7 Bg (of_decide_eq_true rfl) ?_
  simp (disch:=omega) only [Ch,go_sem,Ab,hv,ha,hb,hc,hd,At,AO,AR]
  rw [hQ]
  exact ⟨.mk ⟨#[61]⟩ [ta,tb],p3,s3,rfl,by omega,by rw [e2]; omega⟩
 ·refine AV C7 Bg (of_decide_eq_true rfl) ?_
  simp (disch:=omega) only [Ch,go_sem,Ab,hv,ha,hb,hc,hd,At,AO,AR]
  rw [hQ]
  exact ⟨.mk ⟨#[61]⟩ [ta,tb],p3,s3,rfl,by omega,by rw [e2]; omega⟩
 ·refine AV C7 Bg (of_decide_eq_true rfl) ?_
  simp (disch:=omega) only [Ch,go_sem,Ab,hv,ha,hb,hc,hd,At,AO,AR]
  rw [hQ]
  exact ⟨.mk ⟨#[114]⟩ [],p1,s1,rfl,by omega,by rw [Tm.nodes_eq]; show 1+0≤_; omega⟩
 ·refine AV C7 Bg (of_decide_eq_true rfl) ?_
  simp (disch:=omega) only [Ch,go_sem,Ab,hv,ha,hb,hc,hd,At,AO,AR]
  rw [hQ]
  exact ⟨.mk ⟨#[113]⟩ [tc,td],p5,s5,rfl,by omega,by rw [e2]; omega⟩
 ·refine AV C7 Bg (of_decide_eq_true rfl) ?_
  simp (disch:=omega) only [Ch,go_sem,Ab,hv,ha,hb,hc,hd,At,AO,AR]
  rw [hQ]
  exact ⟨.mk ⟨#[113]⟩ [tc,td],p5,s5,rfl,by omega,by rw [e2]; omega⟩
 ·have k0:=eq_false k0
  have k1:=eq_false k1
  have k2:=eq_false k2
  have k3:=eq_false k3
  have k4:=eq_false k4
  refine AV C7 Bg (of_decide_eq_true rfl) ?_
  simp (disch:=omega) only [Ch,go_sem,Ab,hv,hc,k0,k1,k2,k3,k4,At,AO,AR]
  rw [hQ]
  exact ⟨.mk ⟨#[112]⟩ [tc],p4,s4,rfl,by omega,by rw [e1]; omega⟩
def Gn:SC:=(.seq (.reg [⟨(some 4),none,(.alloc 26 [(.str ⟨#[]⟩),.nil])⟩]) (.seq (.reg [⟨some 6,none,.mv (.t 0)⟩,⟨(some 7),none,(.mkrow 9 1 [(.str ⟨#[]⟩)] 2 [(0,(.c (.str ⟨#[88]⟩))),(1,(.c (.str ⟨#[97]⟩)))])⟩,⟨some 8,none,.call 51 [(.t 6),(.t 7)]⟩,⟨(some 9),none,(.build [(.str ⟨#[]⟩),.nil] [(0,(1,(.t 8)))])⟩,⟨(some 5),none,(.alloc 26 [(.str ⟨#[]⟩),.nil])⟩,⟨none,none,(.store 2 (.t 5) (.t 9))⟩]) (.seq (.block 0 (.loop [0,1,0,0,1,1,0,0,0,0,0,0,0,0,0,0,0,0] (.seq (.seq (.reg [⟨some 10,none,.mv (.t 1)⟩,⟨some 11,none,.bin .gtr false (.t 10) (.c (.int .i64 1))⟩]) (.cond (.t 11) .skip (.exit 0))) (.seq (.block 1 (.reg [⟨some 14,none,.load true 2 (.t 5)⟩,⟨(some 15),none,(.mkrow 26 2 [(.str ⟨#[]⟩),.nil] 1 [(0,(.t 14))])⟩,⟨(some 16),none,(.build [(.str ⟨#[]⟩),.nil] [(0,(1,(.c (.str ⟨#[102]⟩)))),(1,(1,(.t 15)))])⟩,⟨none,none,(.store 2 (.t 5) (.t 16))⟩])) (.reg [⟨some 12,none,.mv (.t 1)⟩,⟨some 13,none,.bin .sub false (.t 12) (.c (.int .i64 1))⟩,⟨some 1,none,.mv (.t 13)⟩]))))) (.seq (.reg [⟨some 17,none,.load true 2 (.t 5)⟩,⟨none,none,(.store 2 (.t 4) (.t 17))⟩]) .ret))))
theorem JK:codeOf Tryz.prog 77=some ⟨18,Gn,[(.cell 4 true 2)]⟩:=by kernel_rfl
theorem BM:modes 77=⟨[],.half [none,some (26,2)],none,false⟩:=by unfold modes; rfl
def G8:SC:=(.seq (.reg [⟨(some 2),none,(.alloc 26 [(.str ⟨#[]⟩),.nil])⟩]) (.seq (.reg [⟨(some 7),none,(.build [(.str ⟨#[]⟩),.nil] [(0,(1,(.c (.str ⟨#[103]⟩))))])⟩,⟨(some 3),none,(.alloc 26 [(.str ⟨#[]⟩),.nil])⟩,⟨none,none,(.store 2 (.t 3) (.t 7))⟩]) (.seq (.seq (.reg [⟨some 4,none,.mv (.c (.int .i64 0))⟩]) (.block 0 (.loop [1,0,1,1,1,0,0,0,0,0,0,0,0,0,0,0,0,0,0,0,0,0,0,0,0,0,0,0,0,0,0,0,0,0,0,0,0,0,0,0,0,0,0,0,0,0,0,0,0,0,0,0,0,0] (.seq (.seq (.reg [⟨some 8,none,.mv (.t 4)⟩,⟨some 9,none,.bin .lss false (.t 8) (.c (.int .i64 4))⟩]) (.cond (.t 9) .skip (.exit 0))) (.seq (.block 1 (.seq (.reg [⟨(some 12),none,(.build [(.str ⟨#[]⟩),.nil] [(0,(1,(.c (.str ⟨#[104]⟩))))])⟩,⟨(some 5),none,(.alloc 26 [(.str ⟨#[]⟩),.nil])⟩,⟨none,none,(.store 2 (.t 5) (.t 12))⟩]) (.seq (.seq (.reg [⟨some 6,none,.mv (.c (.int .i64 0))⟩]) (.block 2 (.loop [1,0,1,1,1,1,1,0,0,0,0,0,0,0,0,0,0,0,0,0,0,0,0,0,0,0,0,0,0,0,0,0,0,0,0,0,0,0,0,0,0,0,0,0,0,0,0,0,0,0,0,0,0,0] (.seq (.seq (.reg [⟨some 13,none,.mv (.t 6)⟩,⟨some 14,none,.bin .lss false (.t 13) (.c (.int .i64 4))⟩]) (.cond (.t 14) .skip (.exit 2))) (.seq (.block 3 (.reg [⟨some 17,none,.faddr 1 (.t 5)⟩,⟨some 18,none,.load false 1 (.t 17)⟩,⟨(some 19),none,(.build [(.str ⟨#[]⟩),.nil] [(0,(1,(.c (.str ⟨#[97]⟩))))])⟩,⟨(some 20),none,(.mkrow 26 2 [(.str ⟨#[]⟩),.nil] 1 [(0,(.t 19))])⟩,⟨(some 21),none,(.build [(.str ⟨#[]⟩),.nil] [(0,(1,(.c (.str ⟨#[102]⟩)))),(1,(1,(.t 20)))])⟩,⟨(some 22),none,(.mkrow 26 2 [(.str ⟨#[]⟩),.nil] 1 [(0,(.t 21))])⟩,⟨(some 23),none,(.append 26 2 40 [(.str ⟨#[]⟩),.nil] (.t 18) (.t 22))⟩,⟨some 24,none,.faddr 1 (.t 5)⟩,⟨none,none,(.store 1 (.t 24) (.t 23))⟩])) (.reg [⟨some 15,none,.mv (.t 6)⟩,⟨some 16,none,.bin .add false (.t 15) (.c (.int .i64 1))⟩,⟨some 6,none,.mv (.t 16)⟩])))))) (.reg [⟨some 25,none,.faddr 1 (.t 3)⟩,⟨some 26,none,.load false 1 (.t 25)⟩,⟨some 27,none,.load true 2 (.t 5)⟩,⟨(some 28),none,(.mkrow 26 2 [(.str ⟨#[]⟩),.nil] 1 [(0,(.t 27))])⟩,⟨(some 29),none,(.append 26 2 40 [(.str ⟨#[]⟩),.nil] (.t 26) (.t 28))⟩,⟨some 30,none,.faddr 1 (.t 3)⟩,⟨none,none,(.store 1 (.t 30) (.t 29))⟩])))) (.reg [⟨some 10,none,.mv (.t 4)⟩,⟨some 11,none,.bin .add false (.t 10) (.c (.int .i64 1))⟩,⟨some 4,none,.mv (.t 11)⟩])))))) (.seq (.seq (.reg [⟨some 31,none,.mv (.t 0)⟩,⟨some 32,none,.call 97 [(.t 31),(.c (.int .i64 2))]⟩]) (.cond (.t 32) (.reg [⟨some 33,none,.faddr 1 (.t 3)⟩,⟨some 34,none,.load false 1 (.t 33)⟩,⟨some 35,none,.slice false 2 (.t 34) none (some (.c (.int .i64 3)))⟩,⟨some 36,none,.faddr 1 (.t 3)⟩,⟨none,none,(.store 1 (.t 36) (.t 35))⟩]) .skip)) (.seq (.seq (.reg [⟨some 37,none,.mv (.t 0)⟩,⟨some 38,none,.call 97 [(.t 37),(.c (.int .i64 2))]⟩,⟨some 39,none,.mv (.t 38)⟩,⟨(some 40),(some (39,true)),(.faddr 1 (.t 3))⟩,⟨(some 41),(some (39,true)),(.load false 1 (.t 40))⟩,⟨(some 42),(some (39,true)),(.len false (.t 41))⟩,⟨(some 43),(some (39,true)),(.bin .eql false (.t 42) (.c (.int .i64 3)))⟩,⟨some 44,none,.pick (.t 39) (.t 43) (.c (.bool false))⟩]) (.cond (.t 44) (.reg [⟨some 45,none,.faddr 1 (.t 3)⟩,⟨some 46,none,.load false 1 (.t 45)⟩,⟨(some 47),none,(.build [(.str ⟨#[]⟩),.nil] [(0,(1,(.c (.str ⟨#[98]⟩))))])⟩,⟨(some 48),none,(.mkrow 26 2 [(.str ⟨#[]⟩),.nil] 1 [(0,(.t 47))])⟩,⟨(some 49),none,(.build [(.str ⟨#[]⟩),.nil] [(0,(1,(.c (.str ⟨#[102]⟩)))),(1,(1,(.t 48)))])⟩,⟨(some 50),none,(.mkrow 26 2 [(.str ⟨#[]⟩),.nil] 1 [(0,(.t 49))])⟩,⟨(some 51),none,(.append 26 2 40 [(.str ⟨#[]⟩),.nil] (.t 46) (.t 50))⟩,⟨some 52,none,.faddr 1 (.t 3)⟩,⟨none,none,(.store 1 (.t 52) (.t 51))⟩]) .skip)) (.seq (.reg [⟨some 53,none,.load true 2 (.t 3)⟩,⟨none,none,(.store 2 (.t 2) (.t 53))⟩]) .ret))))))
theorem K1:codeOf Tryz.prog 78=some ⟨54,G8,[(.cell 2 true 2)]⟩:=by kernel_rfl
theorem BS:modes 78=⟨[],.half [none,some (26,2)],none,false⟩:=by unfold modes; rfl
def B6:SC:=(.seq (.reg [⟨(some 2),none,(.alloc 26 [(.str ⟨#[]⟩),.nil])⟩]) (.seq (.reg [⟨some 4,none,.mv (.t 0)⟩,⟨some 5,none,.call 76 [(.t 4)]⟩,⟨(some 3),none,(.alloc 26 [(.str ⟨#[]⟩),.nil])⟩,⟨none,none,(.store 2 (.t 3) (.t 5))⟩]) (.seq (.seq (.reg [⟨some 6,none,.mv (.t 0)⟩,⟨some 7,none,.call 50 [(.t 6),(.c (.int .i64 24))]⟩]) (.block 0 (.seq (.reg [⟨some 9,none,.bin .eql false (.t 7) (.c (.int .i64 0))⟩,⟨some 8,none,.mv (.t 9)⟩]) (.cond (.t 8) (.reg [⟨some 10,none,.mv (.t 0)⟩,⟨(some 11),none,(.mkrow 9 1 [(.str ⟨#[]⟩)] 14 [(0,(.c (.str ⟨#[]⟩))),(1,(.c (.str ⟨#[116,114,117,101]⟩))),(2,(.c (.str ⟨#[116,114,117,116,104]⟩))),(3,(.c (.str ⟨#[105,102]⟩))),(4,(.c (.str ⟨#[88,121,122,57]⟩))),(5,(.c (.str ⟨#[88,121,122,57,57]⟩))),(6,(.c (.str ⟨#[120,65]⟩))),(7,(.c (.str ⟨#[97,95,98]⟩))),(8,(.c (.str ⟨#[97,98,99,100,101,102]⟩))),(9,(.c (.str ⟨#[97,98,99,100,101,102,103]⟩))),(10,(.c (.str ⟨#[95,97]⟩))),(11,(.c (.str ⟨#[57]⟩))),(12,(.c (.str ⟨#[88,95]⟩))),(13,(.c (.str ⟨#[61]⟩)))])⟩,⟨some 12,none,.call 51 [(.t 10),(.t 11)]⟩,⟨some 13,none,.faddr 0 (.t 3)⟩,⟨none,none,(.store 1 (.t 13) (.t 12))⟩]) (.seq (.reg [⟨some 15,none,.bin .eql false (.t 7) (.c (.int .i64 1))⟩,⟨some 14,none,.mv (.t 15)⟩]) (.cond (.t 14) (.seq (.reg [⟨some 16,none,.mv (.t 0)⟩,⟨some 17,none,.mv (.t 0)⟩,⟨some 18,none,.call 50 [(.t 17),(.c (.int .i64 3))]⟩,⟨some 19,none,.bin .add false (.c (.int .i64 7)) (.t 18)⟩,⟨some 20,none,.call 77 [(.t 16),(.t 19)]⟩,⟨none,none,(.store 2 (.t 2) (.t 20))⟩]) .ret) (.seq (.reg [⟨some 22,none,.bin .eql false (.t 7) (.c (.int .i64 2))⟩,⟨some 21,none,.mv (.t 22)⟩]) (.cond (.t 21) (.seq (.reg [⟨some 23,none,.mv (.t 0)⟩,⟨some 24,none,.call 78 [(.t 23)]⟩,⟨none,none,(.store 2 (.t 2) (.t 24))⟩]) .ret) (.seq (.reg [⟨some 26,none,.bin .eql false (.t 7) (.c (.int .i64 3))⟩,⟨some 25,none,.mv (.t 26)⟩]) (.cond (.t 25) (.dreg [[],[0],[],[2],[],[4,3,2],[],[6,5,4,3,2],[3,2,5,4,7,6],[1,0,8,3,2,5,4,7,6],[0,1,2,3,4,5,6,7,8,9],[10,0,1,2,3,4,5,6,7,8,9]] [⟨some 27,none,.faddr 1 (.t 3)⟩,⟨some 28,none,.load false 1 (.t 27)⟩,⟨some 29,none,.mv (.t 0)⟩,⟨some 30,none,.call 76 [(.t 29)]⟩,⟨some 31,none,.mv (.t 0)⟩,⟨some 32,none,.call 76 [(.t 31)]⟩,⟨some 33,none,.mv (.t 0)⟩,⟨some 34,none,.call 76 [(.t 33)]⟩,⟨(some 35),none,(.mkrow 26 2 [(.str ⟨#[]⟩),.nil] 3 [(0,(.t 30)),(1,(.t 32)),(2,(.t 34))])⟩,⟨(some 36),none,(.append 26 2 40 [(.str ⟨#[]⟩),.nil] (.t 28) (.t 35))⟩,⟨some 37,none,.faddr 1 (.t 3)⟩,⟨none,none,(.store 1 (.t 37) (.t 36))⟩]) (.seq (.reg [⟨some 39,none,.bin .eql false (.t 7) (.c (.int .i64 4))⟩,⟨some 38,none,.mv (.t 39)⟩]) (.cond (.t 38) (.seq (.reg [⟨some 40,none,.faddr 1 (.t 3)⟩,⟨some 41,none,.load false 1 (.t 40)⟩,⟨some 42,none,.len false (.t 41)⟩,⟨some 43,none,.bin .gtr false (.t 42) (.c (.int .i64 0))⟩]) (.cond (.t 43) (.dreg [[],[0],[],[],[2,3],[],[5],[6,5],[7,6,5],[8,7,6,5],[4,2,3,9,8,7,6,5],[1,0,2,3,4,5,6,7,8,9,10],[11,1,0,2,3,4,5,6,7,8,9,10]] [⟨some 44,none,.faddr 1 (.t 3)⟩,⟨some 45,none,.load false 1 (.t 44)⟩,⟨some 46,none,.mv (.t 0)⟩,⟨(some 47),none,(.mkrow 9 1 [(.str ⟨#[]⟩)] 4 [(0,(.c (.str ⟨#[61]⟩))),(1,(.c (.str ⟨#[]⟩))),(2,(.c (.str ⟨#[81,49]⟩))),(3,(.c (.str ⟨#[98,50]⟩)))])⟩,⟨some 48,none,.call 51 [(.t 46),(.t 47)]⟩,⟨some 49,none,.faddr 1 (.t 3)⟩,⟨some 50,none,.load false 1 (.t 49)⟩,⟨some 51,none,.iaddr 2 (.t 50) (.c (.int .i64 0))⟩,⟨some 52,none,.faddr 1 (.t 51)⟩,⟨some 53,none,.load false 1 (.t 52)⟩,⟨(some 54),none,(.build [(.str ⟨#[]⟩),.nil] [(0,(1,(.t 48))),(1,(1,(.t 53)))])⟩,⟨some 55,none,.iaddr 2 (.t 45) (.c (.int .i64 0))⟩,⟨none,none,(.store 2 (.t 55) (.t 54))⟩]) .skip)) .skip)))))))))))) (.seq (.reg [⟨some 56,none,.load true 2 (.t 3)⟩,⟨none,none,(.store 2 (.t 2) (.t 56))⟩]) .ret))))
theorem BN:codeOf Tryz.prog 52=some ⟨57,B6,[(.cell 2 true 2)]⟩:=by kernel_rfl
theorem AD:modes 52=⟨[],.half [none,some (26,2)],none,false⟩:=by unfold modes; rfl
def twr (x:ByteArray):Nat→Tm
 | 0=>.mk x []
 | k+1=>.mk ⟨#[102]⟩ [twr x k]
theorem OV (x:ByteArray):∀ k,(twr x k).nodes=k+1
 | 0=>by rw [twr,Tm.nodes_eq]; rfl
 | k+1=>by
  have:(twr x (k+1)).nodes=1+((twr x k).nodes+0):=by rw [twr,Tm.nodes_eq]; rfl
  rw [this,OV x k]; omega
theorem XK (x:ByteArray):[[OT.str x,OT.ow []]]=[Tm.mk x []].map Tm.o:=by rw [zE,zG,Tm.o_eq]; rfl
theorem Zs (x:ByteArray) (l:List Tm):[[OT.str x,OT.ow (l.map Tm.o)]]=[Tm.mk x l].map Tm.o:=by rw [zE,zG,Tm.o_eq]; rfl
theorem Tm.X3 (x:Tm):OT.Jb x.o=x.osh:=by
 have:=Tm.Si [x]
 simp only [zE,zG,OT.CE,List.cons.injEq,and_true] at this
 exact this
theorem Tm.X4 (x:Tm):OT.DI x.o=true:=by
 have:=Tm.fus [x]
 simp only [zE,zG,OT.AS,zX] at this
 exact this
theorem Tm.F3 (x:Tm):x.o.length=2:=by rw [Tm.o_eq]; rfl
abbrev tZ:Ob:=.box 26 [.str ⟨#[]⟩,.nil]
theorem X5 (l:List Int) (hl:Bytes l) (hn:l.length≤1099511627776) (m:Int) (hm:1≤m) (hm2:m≤100) (p s:Int) (h0:0≤p) (h1:p≤1099000000000):∃ t p' s',E 77 [.ptr 0 0,.int .i64 m] [cur l p s]=some (tmH t 1,[cur l p' s',La t])∧(p≤p'∧p'≤p+1)∧t.nodes≤150:=by
 obtain ⟨Q,hQ⟩:∃ Q:SV × List Ob→Prop,Q=fun out=>∃ t p' s',out=(tmH t 1,[cur l p' s',La t])∧(p≤p'∧p'≤p+1)∧t.nodes≤150:=⟨_,rfl⟩
 suffices hq0:∃ out,E 77 [.ptr 0 0,.int .i64 m] [cur l p s]=some out∧Q out by
  obtain ⟨out,hq1,hq2⟩:=hq0
  rw [hQ] at hq2
  obtain ⟨t,p',s',rfl,hq3⟩:=hq2
  exact ⟨t,p',s',hq1,hq3⟩
 obtain ⟨x,p1,s1,ho,_,g1,g2⟩:=Sh l hl hn [⟨#[88]⟩,⟨#[97]⟩] (by decide) (by decide) p s h0 (by omega)
 simp only [zE,zG] at ho
 refine AV JK BM (of_decide_eq_true rfl) ?_
 simp (disch:=omega) only [Gn,go_sem,Ab,ho,A4]
 refine go_loop (α:=Nat) (fun k=>⟨slots 18 0 [(1,.int .i64 (m-(k:Nat))),(4,.ptr 1 0),(5,.ptr 2 0)],(if k=0 then [cur l p1 s1,tZ,.box 26 [.str x,.nil]] else [cur l p1 s1,tZ,.box 26 [.str ⟨#[102]⟩,.ref 3],.row 26 2 ([twr x (k-1)].map Tm.o)])⟩) (fun k=>(k:Int)≤m-1) (fun k=>(m-k).toNat) 0 (by omega) (by simp (disch:=omega) only [go_sem,Ab,eq_self,if_true,Int.natCast_zero,Int.sub_zero]) ?_
 intro k hk
 by_cases hlt:1<m-(k:Int)
 ·have q1:(1<m-(k:Int))=True:=eq_true hlt
  have hi:dec (inK .i64 (m-(k:Int)-1))=true:=BQ (by omega) (by omega)
  have q4:m-(k:Int)-1=m-((k+1:Nat):Int):=by omega
  have q5:(k+1=0)=False:=by simp
  have q6:k+1-1=k:=by omega
  rcases zF k with hk0 | hk0
  ·subst hk0
   have hs:=XK x
   have q7:m-((0:Nat):Int)-1=m-((0+1:Nat):Int):=by omega
   simp (disch:=omega) only [go_sem,Ab,q1,hi,eq_self,if_true]
   refine ⟨0+1,by omega,by omega,?_⟩
   simp (disch:=omega) only [go_sem,Ab,q5,if_false,q7]
   first | rfl | (rw [hs]; rfl)
  ·obtain ⟨j,rfl⟩:∃ j,k=j+1:=⟨k-1,by omega⟩
   have hs:=Zs ⟨#[102]⟩ [twr x j]
   have q8:(j+1=0)=False:=by simp
   have q9:j+1-1=j:=by omega
   simp (disch:=omega) only [go_sem,Ab,q1,hi,q8,q9,if_false]
   refine ⟨j+1+1,by omega,by omega,?_⟩
   simp (disch:=omega) only [go_sem,Ab,q5,q6,if_false,q4]
   first | rfl | (rw [hs]; rfl)
 ·have q1:(1<m-(k:Int))=False:=eq_false hlt
  have hnd:=OV x k
  rcases zF k with hk0 | hk0
  ·subst hk0
   simp (disch:=omega) only [go_sem,Ab,q1,eq_self,if_true]
   rw [hQ]
   exact ⟨twr x 0,p1,s1,rfl,by omega,by omega⟩
  ·obtain ⟨j,rfl⟩:∃ j,k=j+1:=⟨k-1,by omega⟩
   have q8:(j+1=0)=False:=by simp
   have q9:j+1-1=j:=by omega
   have hh:=Tm.X3 (twr x j)
   have hf:=Tm.X4 (twr x j)
   simp (disch:=omega) only [go_sem,Ab,q1,q8,q9,if_false,hh,hf]
   rw [hQ]
   exact ⟨twr x (j+1),p1,s1,rfl,by omega,by omega⟩
def wdF:Tm:=.mk ⟨#[102]⟩ [.mk ⟨#[97]⟩ []]
def wdP:Tm:=.mk ⟨#[104]⟩ (zL 4 wdF)
theorem F4:[OT.str ⟨#[102]⟩,OT.ow [[OT.str ⟨#[97]⟩,OT.ow []]]]=wdF.o:=by
 rw [wdF,Tm.o_eq]
 show _=[OT.str ⟨#[102]⟩,OT.ow ([Tm.mk ⟨#[97]⟩ []].map Tm.o)]
 rw [←XK]
theorem F5:[OT.str ⟨#[104]⟩,OT.ow [wdF.o,wdF.o,wdF.o,wdF.o]]=wdP.o:=by rw [wdP,Tm.o_eq]; rfl
theorem Nz {α β:Type} (f:α→β) (x:α) (n:Nat):(zL n x).map f++[f x]=(zL (n+1) x).map f:=by
 rw [List.replicate_succ',zW]; rfl
theorem Ub:wdF.nodes=2:=by rw [wdF,Tm.nodes_eq]; show 1+((Tm.mk _ []).nodes+0)=2; rw [Tm.nodes_eq]; rfl
theorem Lc:wdP.nodes=9:=by
 rw [wdP,Tm.nodes_eq]
 show 1+(wdF.nodes+(wdF.nodes+(wdF.nodes+(wdF.nodes+0))))=9
 rw [Ub]
theorem YI (l:List Int) (hl:Bytes l) (hn:l.length≤1099511627776) (p s:Int) (h0:0≤p) (h1:p≤1099000000000):∃ t p' s',E 78 [.ptr 0 0] [cur l p s]=some (tmH t 1,[cur l p' s',La t])∧(p≤p'∧p'≤p+2)∧t.nodes≤150:=by
 obtain ⟨Q,hQ⟩:∃ Q:SV × List Ob→Prop,Q=fun out=>∃ t p' s',out=(tmH t 1,[cur l p' s',La t])∧(p≤p'∧p'≤p+2)∧t.nodes≤150:=⟨_,rfl⟩
 suffices hq0:∃ out,E 78 [.ptr 0 0] [cur l p s]=some out∧Q out by
  obtain ⟨out,hq1,hq2⟩:=hq0
  rw [hQ] at hq2
  obtain ⟨t,p',s',rfl,hq3⟩:=hq2
  exact ⟨t,p',s',hq1,hq3⟩
 have h10:((1:Int)=0)=False:=by simp
 refine AV K1 BS (of_decide_eq_true rfl) ?_
 simp (disch:=omega) only [G8,go_sem,Ab]
 refine go_loop (α:=Int) (fun i=>⟨slots 54 0 [(0,.ptr 0 0),(2,.ptr 1 0),(3,.ptr 2 0),(4,.int .i64 i)],(if i=0 then [cur l p s,tZ,.box 26 [.str ⟨#[103]⟩,.nil]] else [cur l p s,tZ,.box 26 [.str ⟨#[103]⟩,.ref 3],.row 26 2 ((zL i.toNat wdP).map Tm.o)])⟩) (fun i=>∃ k:Nat,i=k∧k≤4) (fun i=>(4-i).toNat) 0 ⟨0,rfl,by omega⟩ (by simp (disch:=omega) only [go_sem,Ab,eq_self,if_true]) ?_
 rintro i ⟨k,hi,hk⟩
 have hni:i.toNat=k:=by omega
 have hni1:(i+1).toNat=k+1:=by omega
 rcases zI k 4 with hlt | hge
 ·have q1:(i<4)=True:=eq_true (by omega)
  have hi1:(i+1=0)=False:=by simp; omega
  have hsP:=Nz Tm.o wdP k
  rcases zF k with hk0 | hk0
  ·subst hk0
   obtain rfl:i=0:=hi
   simp (disch:=omega) only [go_sem,Ab,q1,eq_self,if_true,F4,F5,zH,Tm.F3]
   refine go_loop (α:=Int) (fun j=>⟨slots 54 0 [(0,.ptr 0 0),(2,.ptr 1 0),(3,.ptr 2 0),(4,.int .i64 0),(5,.ptr 3 0),(6,.int .i64 j)],(if (0:Int)=0 then (if j=0 then [cur l p s,tZ,.box 26 [.str ⟨#[103]⟩,.nil],.box 26 [.str ⟨#[104]⟩,.nil]] else [cur l p s,tZ,.box 26 [.str ⟨#[103]⟩,.nil],.box 26 [.str ⟨#[104]⟩,.ref 4],.row 26 2 ((zL j.toNat wdF).map Tm.o)]) else (if j=0 then [cur l p s,tZ,.box 26 [.str ⟨#[103]⟩,.ref 4],.box 26 [.str ⟨#[104]⟩,.nil],.row 26 2 ((zL (0:Int).toNat wdP).map Tm.o)] else [cur l p s,tZ,.box 26 [.str ⟨#[103]⟩,.ref 4],.box 26 [.str ⟨#[104]⟩,.ref 5],.row 26 2 ((zL (0:Int).toNat wdP).map Tm.o),.row 26 2 ((zL j.toNat wdF).map Tm.o)]))⟩) (fun j=>∃ k:Nat,j=k∧k≤4) (fun j=>(4-j).toNat) 0 ⟨0,rfl,by omega⟩ (by simp (disch:=omega) only [go_sem,Ab,eq_self,if_true,F4,F5,zH,Tm.F3]) ?_
   rintro j ⟨n,hj,hn4⟩
   have hnj:j.toNat=n:=by omega
   have hnj1:(j+1).toNat=n+1:=by omega
   have hj1:(j+1=0)=False:=by simp; omega
   rcases zI n 4 with hlt2 | hge2
   ·have q2:(j<4)=True:=eq_true (by omega)
    have hsF:=Nz Tm.o wdF n
    rcases zF n with hn0 | hn0
    ·subst hn0
     obtain rfl:j=0:=hj
     simp (disch:=omega) only [go_sem,Ab,q2,eq_self,if_true,F4,F5,zH,Tm.F3]
     refine ⟨1,⟨1,rfl,by omega⟩,by omega,?_⟩
     simp (disch:=omega) only [go_sem,Ab,eq_self,if_true,h10,if_false,F4,F5,zH,Tm.F3]
    ·have hj0:(j=0)=False:=by simp; omega
     simp (disch:=omega) only [go_sem,Ab,q2,eq_self,if_true,hj0,if_false,hnj,F4,F5,zH,Tm.F3]
     refine ⟨j+1,⟨n+1,by omega,by omega⟩,by omega,?_⟩
     simp (disch:=omega) only [go_sem,Ab,eq_self,if_true,hj1,if_false,hnj,hnj1,hsF,F4,F5,zH,Tm.F3]
   ·obtain rfl:n=4:=by omega
    have hj4:j=4:=hj
    subst hj4
    have q2:((4:Int)=0)=False:=by simp
    simp (disch:=omega) only [go_sem,Ab,q2,eq_self,if_true,if_false,F4,F5,zH,Tm.F3]
    refine ⟨1,⟨1,rfl,by omega⟩,by omega,?_⟩
    simp (disch:=omega) only [go_sem,Ab,h10,if_false,F4,F5,zH,Tm.F3]
  ·have hi0:(i=0)=False:=by simp; omega
   simp (disch:=omega) only [go_sem,Ab,q1,hi0,if_false,F4,F5,zH,Tm.F3]
   refine go_loop (α:=Int) (fun j=>⟨slots 54 0 [(0,.ptr 0 0),(2,.ptr 1 0),(3,.ptr 2 0),(4,.int .i64 i),(5,.ptr 3 0),(6,.int .i64 j)],(if i=0 then (if j=0 then [cur l p s,tZ,.box 26 [.str ⟨#[103]⟩,.nil],.box 26 [.str ⟨#[104]⟩,.nil]] else [cur l p s,tZ,.box 26 [.str ⟨#[103]⟩,.nil],.box 26 [.str ⟨#[104]⟩,.ref 4],.row 26 2 ((zL j.toNat wdF).map Tm.o)]) else (if j=0 then [cur l p s,tZ,.box 26 [.str ⟨#[103]⟩,.ref 4],.box 26 [.str ⟨#[104]⟩,.nil],.row 26 2 ((zL i.toNat wdP).map Tm.o)] else [cur l p s,tZ,.box 26 [.str ⟨#[103]⟩,.ref 4],.box 26 [.str ⟨#[104]⟩,.ref 5],.row 26 2 ((zL i.toNat wdP).map Tm.o),.row 26 2 ((zL j.toNat wdF).map Tm.o)]))⟩) (fun j=>∃ k:Nat,j=k∧k≤4) (fun j=>(4-j).toNat) 0 ⟨0,rfl,by omega⟩ (by simp (disch:=omega) only [go_sem,Ab,hi0,if_false,eq_self,if_true,F4,F5,zH,Tm.F3]) ?_
   rintro j ⟨n,hj,hn4⟩
   have hnj:j.toNat=n:=by omega
   have hnj1:(j+1).toNat=n+1:=by omega
   have hj1:(j+1=0)=False:=by simp; omega
   rcases zI n 4 with hlt2 | hge2
   ·have q2:(j<4)=True:=eq_true (by omega)
    have hsF:=Nz Tm.o wdF n
    rcases zF n with hn0 | hn0
    ·subst hn0
     obtain rfl:j=0:=hj
     simp (disch:=omega) only [go_sem,Ab,q2,hi0,if_false,eq_self,if_true,F4,F5,zH,Tm.F3]
     refine ⟨1,⟨1,rfl,by omega⟩,by omega,?_⟩
     simp (disch:=omega) only [go_sem,Ab,hi0,h10,if_false,F4,F5,zH,Tm.F3]
    ·have hj0:(j=0)=False:=by simp; omega
     simp (disch:=omega) only [go_sem,Ab,q2,hi0,hj0,if_false,hnj,F4,F5,zH,Tm.F3]
     refine ⟨j+1,⟨n+1,by omega,by omega⟩,by omega,?_⟩
     simp (disch:=omega) only [go_sem,Ab,hi0,hj1,if_false,hnj,hnj1,hsF,F4,F5,zH,Tm.F3]
   ·obtain rfl:n=4:=by omega
    have hj4:j=4:=hj
    subst hj4
    have q2:((4:Int)=0)=False:=by simp
    simp (disch:=omega) only [go_sem,Ab,q2,hi0,if_false,hni,F4,F5,zH,Tm.F3]
    refine ⟨i+1,⟨k+1,by omega,by omega⟩,by omega,?_⟩
    simp (disch:=omega) only [go_sem,Ab,hi1,if_false,hni1,hsP,F4,F5,zH,Tm.F3]
 ·obtain rfl:k=4:=by omega
  have hi4:i=4:=hi
  subst hi4
  have q2:((4:Int)=0)=False:=by simp
  obtain ⟨b1,p1,s1,hb1,g1,g2⟩:=OU l hl hn 2 (by omega) (by omega) p s h0 (by omega)
  obtain ⟨b2,p2,s2,hb2,g3,g4⟩:=OU l hl hn 2 (by omega) (by omega) p1 s1 (by omega) (by omega)
  have n4:(Tm.mk ⟨#[103]⟩ (zL 4 wdP)).nodes=37:=by
   rw [Tm.nodes_eq]
   show 1+(wdP.nodes+(wdP.nodes+(wdP.nodes+(wdP.nodes+0))))=37
   rw [Lc]
  have n3:(Tm.mk ⟨#[103]⟩ (zL 3 wdP)).nodes=28:=by
   rw [Tm.nodes_eq]
   show 1+(wdP.nodes+(wdP.nodes+(wdP.nodes+0)))=28
   rw [Lc]
  have n5:(Tm.mk ⟨#[103]⟩ (zL 3 wdP++[.mk ⟨#[102]⟩ [.mk ⟨#[98]⟩ []]])).nodes=30:=by
   rw [Tm.nodes_eq]
   show 1+(wdP.nodes+(wdP.nodes+(wdP.nodes+((Tm.mk _ [.mk _ []]).nodes+0))))=30
   rw [Lc,Tm.nodes_eq]
   show 1+(9+(9+(9+(1+((Tm.mk _ []).nodes+0)+0))))=30
   rw [Tm.nodes_eq]; rfl
  cases b1 <;> cases b2
  ·simp (disch:=omega) only [go_sem,Ab,q2,if_false,hb1,hb2,AI]
   rw [hQ]
   exact ⟨.mk ⟨#[103]⟩ (zL 4 wdP),p2,s2,rfl,by omega,by omega⟩
  ·simp (disch:=omega) only [go_sem,Ab,q2,if_false,hb1,hb2,AI]
   rw [hQ]
   exact ⟨.mk ⟨#[103]⟩ (zL 4 wdP),p2,s2,rfl,by omega,by omega⟩
  ·simp (disch:=omega) only [go_sem,Ab,q2,if_false,hb1,hb2,AI]
   rw [hQ]
   exact ⟨.mk ⟨#[103]⟩ (zL 3 wdP),p2,s2,rfl,by omega,by omega⟩
  ·simp (disch:=omega) only [go_sem,Ab,q2,if_false,hb1,hb2,AI]
   rw [hQ]
   exact ⟨.mk ⟨#[103]⟩ (zL 3 wdP++[.mk ⟨#[102]⟩ [.mk ⟨#[98]⟩ []]]),p2,s2,rfl,by omega,by omega⟩
theorem Tm.nodes_mk (x:ByteArray) (l:List Tm):(Tm.mk x l).nodes=1+Tm.nodeS l:=Tm.nodes_eq _
theorem Tm.nodeS_app:∀ (a b:List Tm),Tm.nodeS (a++b)=Tm.nodeS a+Tm.nodeS b
 | [],b=>by simp [Tm.nodeS]
 | x :: a,b=>by simp only [zT,Tm.nodeS,Tm.nodeS_app a b]; omega
theorem Tm.YJ (a b c:Tm):Tm.nodeS [a,b,c]=a.nodes+(b.nodes+(c.nodes+0)):=rfl
theorem Tm.VQ (t:Tm):t.args.length+1≤t.nodes:=by
 rw [Tm.nodes_eq]
 have:=Tm.length_le t.args
 omega
theorem Uc (l:List Int) (hl:Bytes l) (hn:l.length≤1099511627776) (p s:Int) (h0:0≤p) (h1:p≤1096000000000):∃ t p' s',E 52 [.ptr 0 0] [cur l p s]=some (tmH t 1,[cur l p' s',La t])∧(p≤p'∧p'≤p+400)∧t.nodes≤150:=by
 obtain ⟨Q,hQ⟩:∃ Q:SV × List Ob→Prop,Q=fun out=>∃ t p' s',out=(tmH t 1,[cur l p' s',La t])∧(p≤p'∧p'≤p+400)∧t.nodes≤150:=⟨_,rfl⟩
 suffices hq0:∃ out,E 52 [.ptr 0 0] [cur l p s]=some out∧Q out by
  obtain ⟨out,hq1,hq2⟩:=hq0
  rw [hQ] at hq2
  obtain ⟨t,p',s',rfl,hq3⟩:=hq2
  exact ⟨t,p',s',hq1,hq3⟩
 obtain ⟨t,p1,s1,ht,⟨g1,g2⟩,g3⟩:=Lb l hl hn p s h0 (by omega)
 obtain ⟨v,p2,s2,hv,⟨v0,v1⟩,g4,g5⟩:=ET l hl hn 24 (by omega) (by omega) p1 s1 (by omega) (by omega)
 have hal:=Tm.VQ t
 rcases (show v=0∨v=1∨v=2∨v=3∨v=4∨(¬ v=0∧¬ v=1∧¬ v=2∧¬ v=3∧¬ v=4) by omega) with rfl | rfl | rfl | rfl | rfl | ⟨k0,k1,k2,k3,k4⟩
 ·obtain ⟨x,p3,s3,ho,_,g6,g7⟩:=Sh l hl hn [⟨#[]⟩,⟨#[116,114,117,101]⟩,⟨#[116,114,117,116,104]⟩,⟨#[105,102]⟩,⟨#[88,121,122,57]⟩,⟨#[88,121,122,57,57]⟩,⟨#[120,65]⟩,⟨#[97,95,98]⟩,⟨#[97,98,99,100,101,102]⟩,⟨#[97,98,99,100,101,102,103]⟩,⟨#[95,97]⟩,⟨#[57]⟩,⟨#[88,95]⟩,⟨#[61]⟩] (by decide) (by decide) p2 s2 (by omega) (by omega)
  simp only [zE,zG] at ho
  refine AV BN AD (of_decide_eq_true rfl) ?_
  simp (disch:=omega) only [B6,go_sem,Ab,ht,hv,ho,At,AR,A4,BM,BS]
  rw [hQ]
  exact ⟨.mk x t.args,p3,s3,rfl,by omega,by rw [Tm.nodes_mk]; have:=Tm.nodes_eq t; omega⟩
 ·obtain ⟨u,p3,s3,hu,⟨u0,u1⟩,g6,g7⟩:=ET l hl hn 3 (by omega) (by omega) p2 s2 (by omega) (by omega)
  have hi:dec (inK .i64 (7+u))=true:=BQ (by omega) (by omega)
  obtain ⟨t2,p4,s4,ho,⟨g8,g9⟩,g10⟩:=X5 l hl hn (7+u) (by omega) (by omega) p3 s3 (by omega) (by omega)
  refine AV BN AD (of_decide_eq_true rfl) ?_
  simp (disch:=omega) only [B6,go_sem,Ab,ht,hv,hu,hi,ho,At,AR,A4,BM,BS]
  rw [hQ]
  exact ⟨t2,p4,s4,rfl,by omega,g10⟩
 ·obtain ⟨t2,p3,s3,ho,⟨g8,g9⟩,g10⟩:=YI l hl hn p2 s2 (by omega) (by omega)
  refine AV BN AD (of_decide_eq_true rfl) ?_
  simp (disch:=omega) only [B6,go_sem,Ab,ht,hv,ho,At,AR,A4,BM,BS]
  rw [hQ]
  exact ⟨t2,p3,s3,rfl,by omega,g10⟩
 ·obtain ⟨t2,p3,s3,hu,⟨a1,a2⟩,a3⟩:=Lb l hl hn p2 s2 (by omega) (by omega)
  obtain ⟨t3,p4,s4,hw,⟨b1,b2⟩,b3⟩:=Lb l hl hn p3 s3 (by omega) (by omega)
  obtain ⟨t4,p5,s5,hx,⟨c1,c2⟩,c3⟩:=Lb l hl hn p4 s4 (by omega) (by omega)
  refine AV BN AD (of_decide_eq_true rfl) ?_
  simp (disch:=omega) only [B6,go_sem,Ab,ht,hv,hu,hw,hx,At,AR,A4,BM,BS]
  rw [hQ]
  refine ⟨.mk t.name (t.args++[t2,t3,t4]),p5,s5,?_,by omega,by rw [Tm.nodes_mk,Tm.nodeS_app,Tm.YJ]; have:=Tm.nodes_eq t; omega⟩
  show _=(tmH (.mk t.name (t.args++[t2,t3,t4])) 1,[cur l p5 s5,.row 26 2 ((t.args++[t2,t3,t4]).map Tm.osh)])
  rw [zW]
  rfl
 ·rcases hc:t.args with _ | ⟨a0,ar⟩
  ·have q0:((0:Int)<(t.args.length:Int))=False:=eq_false (by rw [hc]; simp)
   rw [←hc] at *
   refine AV BN AD (of_decide_eq_true rfl) ?_
   simp (disch:=omega) only [B6,go_sem,Ab,ht,hv,q0,At,AR,A4,BM,BS]
   rw [hQ]
   exact ⟨t,p2,s2,rfl,by omega,by omega⟩
  ·have q0:((0:Int)<(t.args.length:Int))=True:=eq_true (by rw [hc]; simp)
   obtain ⟨x,p3,s3,ho,_,g6,g7⟩:=Sh l hl hn [⟨#[61]⟩,⟨#[]⟩,⟨#[81,49]⟩,⟨#[98,50]⟩] (by decide) (by decide) p2 s2 (by omega) (by omega)
   simp only [zE,zG] at ho
   have hm:t.args.map Tm.osh=[.str a0.name,.sh (a0.args.map Tm.d)] :: ar.map Tm.osh:=by rw [hc]; rfl
   have hgl:(t.args.map Tm.osh)[0]?=some [.str a0.name,.sh (a0.args.map Tm.d)]:=by rw [hm]; rfl
   have hst:∀ y,(t.args.map Tm.osh).set 0 y=y :: ar.map Tm.osh:=fun y=>by rw [hm]; rfl
   have q1:0<t.args.length:=by rw [hc]; simp
   have hnn:t.nodes=1+(a0.nodes+Tm.nodeS ar):=by rw [Tm.nodes_eq,hc]; rfl
   refine AV BN AD (of_decide_eq_true rfl) ?_
   simp (disch:=omega) only [B6,go_sem,Ab,ht,hv,q0,ho,hgl,hst,q1,At,AR,A4,BM,BS]
   rw [hQ]
   refine ⟨.mk t.name (.mk x a0.args :: ar),p3,s3,?_,by omega,?_⟩
   ·rfl
   ·rw [Tm.nodes_mk]
    show 1+((Tm.mk x a0.args).nodes+Tm.nodeS ar)≤_
    rw [Tm.nodes_mk]
    have:=Tm.nodes_eq a0
    omega
 ·have k0:=eq_false k0
  have k1:=eq_false k1
  have k2:=eq_false k2
  have k3:=eq_false k3
  have k4:=eq_false k4
  refine AV BN AD (of_decide_eq_true rfl) ?_
  simp (disch:=omega) only [B6,go_sem,Ab,ht,hv,k0,k1,k2,k3,k4,At,AR,A4,BM,BS]
  rw [hQ]
  exact ⟨t,p2,s2,rfl,by omega,by omega⟩
def Bi:SC:=(.seq (.reg [⟨(some 4),none,(.alloc 29 [(.int .i64 0),(.str ⟨#[]⟩),.nil,(.str ⟨#[]⟩),.nil])⟩]) (.seq (.seq (.reg [⟨some 6,none,.mv (.t 1)⟩,⟨some 7,none,.bin .leq false (.t 6) (.c (.int .i64 1))⟩,⟨some 8,none,.mv (.t 7)⟩,⟨(some 9),(some (8,false)),(.mv (.t 0))⟩,⟨(some 10),(some (8,false)),(.call 97 [(.t 9),(.c (.int .i64 4))])⟩,⟨some 11,none,.pick (.t 8) (.c (.bool true)) (.t 10)⟩]) (.cond (.t 11) (.seq (.seq (.reg [⟨some 12,none,.mv (.t 0)⟩,⟨some 13,none,.call 97 [(.t 12),(.c (.int .i64 16))]⟩]) (.cond (.t 13) (.seq (.reg [⟨some 14,none,.mv (.t 0)⟩,⟨some 15,none,.call 50 [(.t 14),(.c (.int .i64 2))]⟩,⟨some 16,none,.bin .add false (.c (.int .i64 1)) (.t 15)⟩,⟨(some 17),none,(.build [(.int .i64 0),(.str ⟨#[]⟩),.nil,(.str ⟨#[]⟩),.nil] [(0,(1,(.t 16)))])⟩,⟨none,none,(.store 5 (.t 4) (.t 17))⟩]) .ret) .skip)) (.seq (.reg [⟨some 18,none,.mv (.t 0)⟩,⟨some 19,none,.call 98 [(.t 18)]⟩,⟨(some 20),none,(.build [(.int .i64 0),(.str ⟨#[]⟩),.nil,(.str ⟨#[]⟩),.nil] [(0,(1,(.c (.int .i64 3)))),(1,(2,(.t 19)))])⟩,⟨none,none,(.store 5 (.t 4) (.t 20))⟩]) .ret)) .skip)) (.seq (.reg [⟨some 21,none,.mv (.t 0)⟩,⟨some 22,none,.mkrow 3 1 [(.int .i64 0)] 10 [(0,(.c (.int .i64 4))),(1,(.c (.int .i64 5))),(2,(.c (.int .i64 6))),(3,(.c (.int .i64 7))),(4,(.c (.int .i64 8))),(5,(.c (.int .i64 9))),(6,(.c (.int .i64 8))),(7,(.c (.int .i64 9))),(8,(.c (.int .i64 5))),(9,(.c (.int .i64 7)))]⟩,⟨some 23,none,.call 99 [(.t 21),(.t 22)]⟩,⟨some 5,none,.mv (.t 23)⟩]) (.seq (.seq (.reg [⟨some 24,none,.mv (.t 5)⟩,⟨some 25,none,.bin .eql false (.t 24) (.c (.int .i64 4))⟩]) (.cond (.t 25) (.seq (.reg [⟨some 26,none,.mv (.t 5)⟩,⟨some 27,none,.mv (.t 0)⟩,⟨some 28,none,.mv (.t 1)⟩,⟨some 29,none,.bin .sub false (.t 28) (.c (.int .i64 1))⟩,⟨some 30,none,.call 74 [(.t 27),(.t 29)]⟩,⟨(some 31),none,(.mkrow 29 5 [(.int .i64 0),(.str ⟨#[]⟩),.nil,(.str ⟨#[]⟩),.nil] 1 [(0,(.t 30))])⟩,⟨(some 32),none,(.build [(.int .i64 0),(.str ⟨#[]⟩),.nil,(.str ⟨#[]⟩),.nil] [(0,(1,(.t 26))),(4,(1,(.t 31)))])⟩,⟨none,none,(.store 5 (.t 4) (.t 32))⟩]) .ret) .skip)) (.seq (.seq (.reg [⟨some 33,none,.mv (.t 5)⟩,⟨some 34,none,.bin .eql false (.t 33) (.c (.int .i64 8))⟩,⟨some 35,none,.mv (.t 34)⟩,⟨(some 36),(some (35,false)),(.mv (.t 5))⟩,⟨(some 37),(some (35,false)),(.bin .eql false (.t 36) (.c (.int .i64 9)))⟩,⟨some 38,none,.pick (.t 35) (.c (.bool true)) (.t 37)⟩]) (.cond (.t 38) (.seq (.reg [⟨some 39,none,.mv (.t 5)⟩,⟨some 40,none,.mv (.t 0)⟩,⟨(some 41),none,(.mkrow 9 1 [(.str ⟨#[]⟩)] 4 [(0,(.c (.str ⟨#[88]⟩))),(1,(.c (.str ⟨#[89]⟩))),(2,(.c (.str ⟨#[90]⟩))),(3,(.c (.str ⟨#[88]⟩)))])⟩,⟨some 42,none,.call 51 [(.t 40),(.t 41)]⟩,⟨some 43,none,.mv (.t 0)⟩,⟨some 44,none,.mv (.t 1)⟩,⟨some 45,none,.bin .sub false (.t 44) (.c (.int .i64 1))⟩,⟨some 46,none,.call 74 [(.t 43),(.t 45)]⟩,⟨(some 47),none,(.mkrow 29 5 [(.int .i64 0),(.str ⟨#[]⟩),.nil,(.str ⟨#[]⟩),.nil] 1 [(0,(.t 46))])⟩,⟨(some 48),none,(.build [(.int .i64 0),(.str ⟨#[]⟩),.nil,(.str ⟨#[]⟩),.nil] [(0,(1,(.t 39))),(3,(1,(.t 42))),(4,(1,(.t 47)))])⟩,⟨none,none,(.store 5 (.t 4) (.t 48))⟩]) .ret) .skip)) (.seq (.reg [⟨some 49,none,.mv (.t 5)⟩,⟨some 50,none,.mv (.t 0)⟩,⟨some 51,none,.mv (.t 1)⟩,⟨some 52,none,.bin .sub false (.t 51) (.c (.int .i64 1))⟩,⟨some 53,none,.call 74 [(.t 50),(.t 52)]⟩,⟨some 54,none,.mv (.t 0)⟩,⟨some 55,none,.mv (.t 1)⟩,⟨some 56,none,.bin .sub false (.t 55) (.c (.int .i64 1))⟩,⟨some 57,none,.call 74 [(.t 54),(.t 56)]⟩,⟨(some 58),none,(.mkrow 29 5 [(.int .i64 0),(.str ⟨#[]⟩),.nil,(.str ⟨#[]⟩),.nil] 2 [(0,(.t 53)),(1,(.t 57))])⟩,⟨(some 59),none,(.build [(.int .i64 0),(.str ⟨#[]⟩),.nil,(.str ⟨#[]⟩),.nil] [(0,(1,(.t 49))),(4,(1,(.t 58)))])⟩,⟨none,none,(.store 5 (.t 4) (.t 59))⟩]) .ret))))))
theorem Bx:codeOf Tryz.prog 74=some ⟨60,Bi,[(.cell 4 true 5)]⟩:=by kernel_rfl
theorem AM:modes 74=⟨[],.half [none,none,some (26,2),none,some (29,5)],none,false⟩:=by unfold modes; rfl
def Fq:SC:=(.seq (.reg [⟨(some 2),none,(.alloc 29 [(.int .i64 0),(.str ⟨#[]⟩),.nil,(.str ⟨#[]⟩),.nil])⟩]) (.seq (.reg [⟨some 3,none,.mv (.t 0)⟩,⟨some 4,none,.mv (.t 0)⟩,⟨some 5,none,.call 50 [(.t 4),(.c (.int .i64 4))]⟩,⟨some 6,none,.bin .add false (.c (.int .i64 1)) (.t 5)⟩,⟨some 7,none,.call 74 [(.t 3),(.t 6)]⟩,⟨none,none,(.store 5 (.t 2) (.t 7))⟩]) .ret))
theorem Iw:codeOf Tryz.prog 49=some ⟨8,Fq,[(.cell 2 true 5)]⟩:=by kernel_rfl
theorem Bu:modes 49=⟨[],.half [none,none,some (26,2),none,some (29,5)],none,false⟩:=by unfold modes; rfl
def Fm.hs (x:Fm):List OT:=[.int x.op,.str x.atom.name,.sh (x.atom.args.map Tm.d),.str x.var,.sh (x.parts.map Fm.d)]
theorem Fm.PA:∀ xs:List Fm,OT.AS (xs.map Fm.hs)=true
 | []=>rfl
 | x :: xs=>by simp only [zE,OT.AS,Fm.hs,OT.DI,OT.full,Fm.PA xs,z6]
theorem Fm.VR:∀ xs:List Fm,OT.erss (xs.map Fm.hs)=xs.map Fm.d
 | []=>rfl
 | x :: xs=>by simp only [zE,OT.erss,Fm.hs,OT.ers,OT.er,Fm.VR xs,Fm.d_eq]
theorem Fm.Te:∀ xs:List Fm,OT.CE (xs.map Fm.hs)=xs.map Fm.hs
 | []=>rfl
 | x :: xs=>by simp only [zE,OT.CE,Fm.hs,OT.Jb,OT.half,Fm.Te xs]
attribute [go_sem] Fm.PA Fm.VR Fm.Te
abbrev fmH (x:Fm) (g h:Nat):SV:=.agg [.int .i64 x.op,.str x.atom.name,.ref g,.str x.var,.ref h]
abbrev QU (x:Fm):Ob:=.row 26 2 (x.atom.args.map Tm.osh)
abbrev Sj (x:Fm):Ob:=.row 29 5 (x.parts.map Fm.hs)
theorem Fm.Ca (op:Int) (a:Tm) (v:ByteArray) (l:List Fm):(Fm.mk op a v l).nodes=1+Fm.nodeS l:=Fm.nodes_eq _
theorem Fm.C1 {op:Int} {a:Tm} {v:ByteArray} {l:List Fm} (h1:a.nodes≤1099511627776) (h2:Fm.C0 l):(Fm.mk op a v l).tame:=by rw [Fm.H3]; exact ⟨h1,h2⟩
theorem Fm.N0 {a:Fm} (h:a.tame):Fm.C0 [a]:=by simp only [Fm.C0]; exact ⟨h,trivial⟩
theorem Fm.YK {a b:Fm} (h:a.tame) (k:b.tame):Fm.C0 [a,b]:=by simp only [Fm.C0]; exact ⟨h,k,trivial⟩
theorem Fs:Tm.zero.nodes=1:=by rw [Tm.nodes_eq]; rfl
theorem X6 (l:List Int) (hl:Bytes l) (hn:l.length≤1099511627776):∀ (d:Nat) (m:Int),m=d→d≤20→∀ p s:Int,0≤p→p+(120*2 ^ d:Nat)≤1080000000000→∃ x p' s',E 74 [.ptr 0 0,.int .i64 m] [cur l p s]=some (fmH x 1 2,[cur l p' s',QU x,Sj x])∧(p≤p'∧p'+10≤p+(120*2 ^ d:Nat))∧x.nodes+1≤2*2 ^ d∧x.tame:=by
 intro d
 have base:∀ (p1 s1:Int),0≤p1→p1≤1090000000000→∃ b2 p2 s2,E 97 [.ptr 0 0,.int .i64 16] [cur l p1 s1]=some (.bool b2,[cur l p2 s2])∧(p1≤p2∧p2≤p1+1)∧(∃ v p3 s3,E 50 [.ptr 0 0,.int .i64 2] [cur l p2 s2]=some (.int .i64 v,[cur l p3 s3])∧(0≤v∧v<2)∧p2≤p3∧p3≤p2+1)∧∃ t p4 s4,E 98 [.ptr 0 0] [cur l p2 s2]=some (tmH t 1,[cur l p4 s4,La t])∧(p2≤p4∧p4≤p2+100)∧t.nodes≤50:=fun p1 s1 a b=>by
  obtain ⟨b2,p2,s2,h1,h2,h3⟩:=OU l hl hn 16 (by omega) (by omega) p1 s1 a (by omega)
  exact ⟨b2,p2,s2,h1,⟨h2,h3⟩,ET l hl hn 2 (by omega) (by omega) p2 s2 (by omega) (by omega),YH l hl hn p2 s2 (by omega) (by omega)⟩
 induction d with
 | zero =>
  rintro m rfl _ p s h0 h1
  rw [show 2 ^ 0=1 by rfl] at h1 ⊢
  obtain ⟨Q,hQ⟩:∃ Q:SV × List Ob→Prop,Q=fun out=>∃ x p' s',out=(fmH x 1 2,[cur l p' s',QU x,Sj x])∧(p≤p'∧p'+10≤p+(120*1:Nat))∧x.nodes+1≤2*1∧x.tame:=⟨_,rfl⟩
  suffices hq0:∃ out,E 74 [.ptr 0 0,.int .i64 ((0:Nat):Int)] [cur l p s]=some out∧Q out by
   obtain ⟨out,hq1,hq2⟩:=hq0
   rw [hQ] at hq2
   obtain ⟨x,p',s',rfl,hq3⟩:=hq2
   exact ⟨x,p',s',hq1,hq3⟩
  obtain ⟨b2,p2,s2,hb2,⟨g3,g4⟩,⟨v,p3,s3,hv,⟨v0,v1⟩,g5,g6⟩,t,p4,s4,ht,⟨g7,g8⟩,g9⟩:=base p s (by omega) (by omega)
  cases b2 with
  | true =>
   have hi:dec (inK .i64 (1+v))=true:=BQ (by omega) (by omega)
   refine AV Bx AM (of_decide_eq_true rfl) ?_
   simp (disch:=omega) only [Bi,go_sem,Ab,hb2,hv,hi,AI,At,Bg]
   rw [hQ]
   exact ⟨.mk (1+v) Tm.zero ⟨#[]⟩ [],p3,s3,rfl,by omega,by rw [Fm.Ca]; show 1+0+1≤_; omega,Fm.C1 (by rw [Fs]; omega) trivial⟩
  | false =>
   refine AV Bx AM (of_decide_eq_true rfl) ?_
   simp (disch:=omega) only [Bi,go_sem,Ab,hb2,ht,AI,At,Bg]
   rw [hQ]
   exact ⟨.mk 3 t ⟨#[]⟩ [],p4,s4,rfl,by omega,by rw [Fm.Ca]; show 1+0+1≤_; omega,Fm.C1 (by omega) trivial⟩
 | succ e ih =>
  intro m hm hd p s h0 h1
  have hpe:2 ^ (e+1)=2*2 ^ e:=by rw [Nat.pow_succ,Nat.mul_comm]
  have hp1:1≤2 ^ e:=Nat.one_le_two_pow
  have hp2:2 ^ e≤2 ^ 20:=zY (by omega) (by omega)
  have hp3:(2:Nat) ^ 20=1048576:=by decide
  have ih:=ih (m-1) (by omega) (by omega)
  rw [hpe] at h1 ⊢
  generalize 2 ^ e=q at *
  generalize hq2:2*q=q2 at *
  obtain ⟨Q,hQ⟩:∃ Q:SV × List Ob→Prop,Q=fun out=>∃ x p' s',out=(fmH x 1 2,[cur l p' s',QU x,Sj x])∧(p≤p'∧p'+10≤p+(120*q2:Nat))∧x.nodes+1≤2*q2∧x.tame:=⟨_,rfl⟩
  suffices hq0:∃ out,E 74 [.ptr 0 0,.int .i64 m] [cur l p s]=some out∧Q out by
   obtain ⟨out,hq1,hq2⟩:=hq0
   rw [hQ] at hq2
   obtain ⟨x,p',s',rfl,hq3⟩:=hq2
   exact ⟨x,p',s',hq1,hq3⟩
  by_cases hm1:m≤1
  ·have q1:(m≤1)=True:=eq_true hm1
   obtain ⟨b2,p2,s2,hb2,⟨g3,g4⟩,⟨v,p3,s3,hv,⟨v0,v1⟩,g5,g6⟩,t,p4,s4,ht,⟨g7,g8⟩,g9⟩:=base p s (by omega) (by omega)
   cases b2 with
   | true =>
    have hi:dec (inK .i64 (1+v))=true:=BQ (by omega) (by omega)
    refine AV Bx AM (of_decide_eq_true rfl) ?_
    simp (disch:=omega) only [Bi,go_sem,Ab,q1,hb2,hv,hi,AI,At,Bg]
    rw [hQ]
    exact ⟨.mk (1+v) Tm.zero ⟨#[]⟩ [],p3,s3,rfl,by omega,by rw [Fm.Ca]; show 1+0+1≤_; omega,Fm.C1 (by rw [Fs]; omega) trivial⟩
   | false =>
    refine AV Bx AM (of_decide_eq_true rfl) ?_
    simp (disch:=omega) only [Bi,go_sem,Ab,q1,hb2,ht,AI,At,Bg]
    rw [hQ]
    exact ⟨.mk 3 t ⟨#[]⟩ [],p4,s4,rfl,by omega,by rw [Fm.Ca]; show 1+0+1≤_; omega,Fm.C1 (by omega) trivial⟩
  ·have q1:(m≤1)=False:=eq_false hm1
   obtain ⟨b1,p1,s1,hb1,g1,g2⟩:=OU l hl hn 4 (by omega) (by omega) p s h0 (by omega)
   cases b1 with
   | true =>
    obtain ⟨b2,p2,s2,hb2,⟨g3,g4⟩,⟨v,p3,s3,hv,⟨v0,v1⟩,g5,g6⟩,t,p4,s4,ht,⟨g7,g8⟩,g9⟩:=base p1 s1 (by omega) (by omega)
    cases b2 with
    | true =>
     have hi:dec (inK .i64 (1+v))=true:=BQ (by omega) (by omega)
     refine AV Bx AM (of_decide_eq_true rfl) ?_
     simp (disch:=omega) only [Bi,go_sem,Ab,q1,hb1,hb2,hv,hi,AI,At,Bg]
     rw [hQ]
     exact ⟨.mk (1+v) Tm.zero ⟨#[]⟩ [],p3,s3,rfl,by omega,by rw [Fm.Ca]; show 1+0+1≤_; omega,Fm.C1 (by rw [Fs]; omega) trivial⟩
    | false =>
     refine AV Bx AM (of_decide_eq_true rfl) ?_
     simp (disch:=omega) only [Bi,go_sem,Ab,q1,hb1,hb2,ht,AI,At,Bg]
     rw [hQ]
     exact ⟨.mk 3 t ⟨#[]⟩ [],p4,s4,rfl,by omega,by rw [Fm.Ca]; show 1+0+1≤_; omega,Fm.C1 (by omega) trivial⟩
   | false =>
    obtain ⟨op,p2,s2,hop,hmem,g3,g4⟩:=X2 l hl hn [4,5,6,7,8,9,8,9,5,7] (by decide) (by decide) p1 s1 (by omega) (by omega)
    simp only [zE,zG] at hop
    have hi:dec (inK .i64 (m-1))=true:=BQ (by omega) (by omega)
    by_cases ho4:op=4
    ·subst ho4
     obtain ⟨y,p3,s3,hy,⟨g5,g6⟩,g7,g8⟩:=ih p2 s2 (by omega) (by omega)
     refine AV Bx AM (of_decide_eq_true rfl) ?_
     simp (disch:=omega) only [Bi,go_sem,Ab,q1,hb1,hop,hi,hy,AI,CG,AM]
     rw [hQ]
     exact ⟨.mk 4 Tm.zero ⟨#[]⟩ [y],p3,s3,rfl,by omega,by rw [Fm.Ca]; show 1+(y.nodes+0)+1≤_; omega,Fm.C1 (by rw [Fs]; omega) (Fm.N0 g8)⟩
    ·have o4:(op=4)=False:=eq_false ho4
     by_cases ho8:op=8
     ·subst ho8
      obtain ⟨x,p3,s3,hx,_,g5,g6⟩:=Sh l hl hn [⟨#[88]⟩,⟨#[89]⟩,⟨#[90]⟩,⟨#[88]⟩] (by decide) (by decide) p2 s2 (by omega) (by omega)
      simp only [zE,zG] at hx
      obtain ⟨y,p4,s4,hy,⟨g7,g8⟩,g9,g10⟩:=ih p3 s3 (by omega) (by omega)
      refine AV Bx AM (of_decide_eq_true rfl) ?_
      simp (disch:=omega) only [Bi,go_sem,Ab,q1,hb1,hop,hi,hx,hy,AI,CG,A4,AM]
      rw [hQ]
      exact ⟨.mk 8 Tm.zero x [y],p4,s4,rfl,by omega,by rw [Fm.Ca]; show 1+(y.nodes+0)+1≤_; omega,Fm.C1 (by rw [Fs]; omega) (Fm.N0 g10)⟩
     ·have o8:(op=8)=False:=eq_false ho8
      by_cases ho9:op=9
      ·subst ho9
       obtain ⟨x,p3,s3,hx,_,g5,g6⟩:=Sh l hl hn [⟨#[88]⟩,⟨#[89]⟩,⟨#[90]⟩,⟨#[88]⟩] (by decide) (by decide) p2 s2 (by omega) (by omega)
       simp only [zE,zG] at hx
       obtain ⟨y,p4,s4,hy,⟨g7,g8⟩,g9,g10⟩:=ih p3 s3 (by omega) (by omega)
       refine AV Bx AM (of_decide_eq_true rfl) ?_
       simp (disch:=omega) only [Bi,go_sem,Ab,q1,hb1,hop,hi,hx,hy,AI,CG,A4,AM]
       rw [hQ]
       exact ⟨.mk 9 Tm.zero x [y],p4,s4,rfl,by omega,by rw [Fm.Ca]; show 1+(y.nodes+0)+1≤_; omega,Fm.C1 (by rw [Fs]; omega) (Fm.N0 g10)⟩
      ·have o9:(op=9)=False:=eq_false ho9
       obtain ⟨y,p3,s3,hy,⟨g5,g6⟩,g7,g8⟩:=ih p2 s2 (by omega) (by omega)
       obtain ⟨z,p4,s4,hz,⟨g9,g10⟩,g11,g12⟩:=ih p3 s3 (by omega) (by omega)
       refine AV Bx AM (of_decide_eq_true rfl) ?_
       simp (disch:=omega) only [Bi,go_sem,Ab,q1,hb1,hop,hi,hy,hz,o4,o8,o9,AI,CG,AM]
       rw [hQ]
       exact ⟨.mk op Tm.zero ⟨#[]⟩ [y,z],p4,s4,rfl,by omega,by rw [Fm.Ca]; show 1+(y.nodes+(z.nodes+0))+1≤_; omega,Fm.C1 (by rw [Fs]; omega) (Fm.YK g8 g12)⟩
theorem OW (l:List Int) (hl:Bytes l) (hn:l.length≤1099511627776) (p s:Int) (h0:0≤p) (h1:p≤1070000000000):∃ x p' s',E 49 [.ptr 0 0] [cur l p s]=some (fmH x 1 2,[cur l p' s',QU x,Sj x])∧(p≤p'∧p'≤p+2000)∧x.nodes≤31∧x.tame:=by
 obtain ⟨v,p1,s1,hv,⟨v0,v1⟩,g1,g2⟩:=ET l hl hn 4 (by omega) (by omega) p s h0 (by omega)
 have hp3:(2:Nat) ^ (1+v).toNat≤2 ^ 4:=zY (by omega) (by omega)
 have hp4:(2:Nat) ^ 4=16:=by decide
 obtain ⟨x,p2,s2,hx,⟨g3,g4⟩,g5,g6⟩:=X6 l hl hn (1+v).toNat (1+v) (by omega) (by omega) p1 s1 (by omega) (by omega)
 refine ⟨x,p2,s2,?_,by omega,by omega,g6⟩
 have hi:dec (inK .i64 (1+v))=true:=BQ (by omega) (by omega)
 refine Aj Iw Bu (of_decide_eq_true rfl) ?_
 simp (disch:=omega) only [Fq,go_sem,Ab,hv,hx,hi,At,AM]
def Jp:SC:=(.seq (.reg [⟨some 1,none,.boxv 29 5 (.t 0)⟩,⟨some 2,none,.mv (.c (.int .i64 0))⟩]) (.seq (.reg [⟨some 3,none,.mv (.c (.int .i64 1))⟩]) (.seq (.seq (.reg [⟨some 4,none,.mv (.c (.int .i64 0))⟩]) (.block 0 (.loop [0,1,0,1,1,0,0,0,0,0,0,0,0,0,0,0,0,0,0,0,0] (.seq (.seq (.reg [⟨some 5,none,.mv (.t 4)⟩,⟨some 6,none,.faddr 4 (.t 1)⟩,⟨some 7,none,.load false 1 (.t 6)⟩,⟨some 8,none,.len false (.t 7)⟩,⟨some 9,none,.bin .lss false (.t 5) (.t 8)⟩]) (.cond (.t 9) .skip (.exit 0))) (.seq (.block 1 (.reg [⟨some 12,none,.mv (.t 3)⟩,⟨some 13,none,.faddr 4 (.t 1)⟩,⟨some 14,none,.load false 1 (.t 13)⟩,⟨some 15,none,.mv (.t 4)⟩,⟨some 16,none,.iaddr 5 (.t 14) (.t 15)⟩,⟨some 17,none,.load true 5 (.t 16)⟩,⟨some 18,none,.call 53 [(.t 17)]⟩,⟨some 19,none,.bin .add false (.t 12) (.t 18)⟩,⟨some 3,none,.mv (.t 19)⟩])) (.reg [⟨some 10,none,.mv (.t 4)⟩,⟨some 11,none,.bin .add false (.t 10) (.c (.int .i64 1))⟩,⟨some 4,none,.mv (.t 11)⟩])))))) (.seq (.reg [⟨some 20,none,.mv (.t 3)⟩,⟨some 2,none,.mv (.t 20)⟩]) .ret))))
theorem NN:codeOf Tryz.prog 53=some ⟨21,Jp,[(.tmp 2)]⟩:=by kernel_rfl
theorem BD:modes 53=⟨[],.asis,none,false⟩:=by unfold modes; rfl
def AW:SC:=(.seq (.reg [⟨(some 2),none,(.alloc 29 [(.int .i64 0),(.str ⟨#[]⟩),.nil,(.str ⟨#[]⟩),.nil])⟩]) (.seq (.reg [⟨some 5,none,.mv (.t 0)⟩,⟨some 6,none,.call 49 [(.t 5)]⟩,⟨(some 3),none,(.alloc 29 [(.int .i64 0),(.str ⟨#[]⟩),.nil,(.str ⟨#[]⟩),.nil])⟩,⟨none,none,(.store 5 (.t 3) (.t 6))⟩]) (.seq (.seq (.reg [⟨some 7,none,.mv (.t 0)⟩,⟨some 8,none,.call 50 [(.t 7),(.c (.int .i64 24))]⟩]) (.block 0 (.seq (.reg [⟨some 10,none,.bin .eql false (.t 8) (.c (.int .i64 0))⟩,⟨some 9,none,.mv (.t 10)⟩]) (.cond (.t 9) (.reg [⟨some 11,none,.mv (.t 0)⟩,⟨some 12,none,.call 50 [(.t 11),(.c (.int .i64 11))]⟩,⟨some 13,none,.faddr 0 (.t 3)⟩,⟨none,none,(.store 1 (.t 13) (.t 12))⟩]) (.seq (.reg [⟨some 15,none,.bin .eql false (.t 8) (.c (.int .i64 1))⟩,⟨some 14,none,.mv (.t 15)⟩]) (.cond (.t 14) (.reg [⟨some 16,none,.mv (.t 0)⟩,⟨(some 17),none,(.mkrow 9 1 [(.str ⟨#[]⟩)] 3 [(0,(.c (.str ⟨#[88]⟩))),(1,(.c (.str ⟨#[97]⟩))),(2,(.c (.str ⟨#[]⟩)))])⟩,⟨some 18,none,.call 51 [(.t 16),(.t 17)]⟩,⟨some 19,none,.faddr 3 (.t 3)⟩,⟨none,none,(.store 1 (.t 19) (.t 18))⟩]) (.seq (.reg [⟨some 21,none,.bin .eql false (.t 8) (.c (.int .i64 2))⟩,⟨some 20,none,.mv (.t 21)⟩]) (.cond (.t 20) (.reg [⟨some 22,none,.mv (.t 0)⟩,⟨some 23,none,.call 52 [(.t 22)]⟩,⟨some 24,none,.faddr 1 (.t 3)⟩,⟨none,none,(.store 2 (.t 24) (.t 23))⟩]) (.seq (.reg [⟨some 26,none,.bin .eql false (.t 8) (.c (.int .i64 3))⟩,⟨some 25,none,.mv (.t 26)⟩]) (.cond (.t 25) (.dreg [[],[0],[],[2],[3,2],[1,0,4,3,2],[0,1,2,3,4,5],[6,0,1,2,3,4,5]] [⟨some 27,none,.faddr 4 (.t 3)⟩,⟨some 28,none,.load false 1 (.t 27)⟩,⟨some 29,none,.mv (.t 0)⟩,⟨some 30,none,.call 49 [(.t 29)]⟩,⟨(some 31),none,(.mkrow 29 5 [(.int .i64 0),(.str ⟨#[]⟩),.nil,(.str ⟨#[]⟩),.nil] 1 [(0,(.t 30))])⟩,⟨(some 32),none,(.append 29 5 88 [(.int .i64 0),(.str ⟨#[]⟩),.nil,(.str ⟨#[]⟩),.nil] (.t 28) (.t 31))⟩,⟨some 33,none,.faddr 4 (.t 3)⟩,⟨none,none,(.store 1 (.t 33) (.t 32))⟩]) (.seq (.reg [⟨some 35,none,.bin .eql false (.t 8) (.c (.int .i64 4))⟩,⟨some 34,none,.mv (.t 35)⟩]) (.cond (.t 34) (.seq (.reg [⟨some 36,none,.mv (.t 0)⟩,⟨some 37,none,.call 50 [(.t 36),(.c (.int .i64 5))]⟩,⟨some 38,none,.bin .add false (.c (.int .i64 36)) (.t 37)⟩,⟨some 4,none,.mv (.t 38)⟩]) (.block 1 (.loop [0,0,1,1,1,0,0,0,0,0,0,0,0,0,0,0,0,0,0,0,0,0,0,0,0,0,0,0,0,0,0,0,0,0,0,0,0,0,0,0,0,0,0,0,0,0,0,0,0,0,0,0,0,0,0,0,0,0,0] (.seq (.seq (.reg [⟨some 39,none,.load true 5 (.t 3)⟩,⟨some 40,none,.call 53 [(.t 39)]⟩,⟨some 41,none,.mv (.t 4)⟩,⟨some 42,none,.bin .lss false (.t 40) (.t 41)⟩]) (.cond (.t 42) .skip (.exit 1))) (.block 2 (.reg [⟨some 43,none,.load true 5 (.t 3)⟩,⟨(some 44),none,(.mkrow 29 5 [(.int .i64 0),(.str ⟨#[]⟩),.nil,(.str ⟨#[]⟩),.nil] 1 [(0,(.t 43))])⟩,⟨(some 45),none,(.build [(.int .i64 0),(.str ⟨#[]⟩),.nil,(.str ⟨#[]⟩),.nil] [(0,(1,(.c (.int .i64 4)))),(4,(1,(.t 44)))])⟩,⟨none,none,(.store 5 (.t 3) (.t 45))⟩])))))) (.seq (.reg [⟨some 47,none,.bin .eql false (.t 8) (.c (.int .i64 5))⟩,⟨some 46,none,.mv (.t 47)⟩]) (.cond (.t 46) (.seq (.reg [⟨some 48,none,.faddr 4 (.t 3)⟩,⟨some 49,none,.load false 1 (.t 48)⟩,⟨some 50,none,.len false (.t 49)⟩,⟨some 51,none,.bin .gtr false (.t 50) (.c (.int .i64 0))⟩]) (.cond (.t 51) (.dreg [[],[0],[],[2],[1,0,2,3],[4,1,0,2,3],[5,4,1,0,2,3]] [⟨some 52,none,.faddr 4 (.t 3)⟩,⟨some 53,none,.load false 1 (.t 52)⟩,⟨some 54,none,.mv (.t 0)⟩,⟨some 55,none,.call 50 [(.t 54),(.c (.int .i64 11))]⟩,⟨some 56,none,.iaddr 5 (.t 53) (.c (.int .i64 0))⟩,⟨some 57,none,.faddr 0 (.t 56)⟩,⟨none,none,(.store 1 (.t 57) (.t 55))⟩]) .skip)) .skip)))))))))))))) (.seq (.reg [⟨some 58,none,.load true 5 (.t 3)⟩,⟨none,none,(.store 5 (.t 2) (.t 58))⟩]) .ret))))
theorem Bl:codeOf Tryz.prog 25=some ⟨59,AW,[(.cell 2 true 5)]⟩:=by kernel_rfl
theorem AX:modes 25=⟨[],.half [none,none,some (26,2),none,some (29,5)],none,false⟩:=by unfold modes; rfl
theorem Ud (x:Fm) (hn:x.nodes≤1099511627776) (ih:∀ y∈x.parts,E 53 [y.sv] []=some (.int .i64 y.nodes,[])):E 53 [x.sv] []=some (.int .i64 x.nodes,[]):=by
 have hl:=Fm.length_le x.parts
 have hne:=Fm.nodes_eq x
 refine Aj NN BD (of_decide_eq_true rfl) ?_
 simp (disch:=omega) only [Jp,go_sem,Ab]
 refine go_loop (α:=Int × (Int)) (fun a=>⟨slots 21 0 [(1,.ptr 0 0),(3,.int .i64 (a.2)),(4,.int .i64 (a.1))],[.box 29 [.int .i64 x.op,.str x.atom.name,.arr (x.atom.args.map Tm.d),.str x.var,.arr (x.parts.map Fm.d)]]⟩) (fun a=>∃ k:Nat,a.1=k∧k≤(x.parts).length∧(a.2)=((1+Fm.nodeS (x.parts.take k):Nat):Int)) (fun a=>(x.parts).length-(a.1).toNat) (0,1) ⟨0,rfl,zO _,by rw [zU]; rfl⟩ (by simp (disch:=omega) only [go_sem,Ab]) ?_
 rintro ⟨i,n⟩ ⟨k,hi,hk,hR⟩
 dsimp only at hi hR
 have hni:i.toNat=k:=by omega
 have hni1:(i+1).toNat=k+1:=by omega
 rcases zI k (x.parts).length with hlt | hge
 ·have hg:=get_at Fm.d hlt
  rw [Fm.d_eq] at hg
  have hc:=ih x.parts[k] (zJ hlt)
  have ht:=Fm.MQ x.parts k hlt
  have htl:=Fm.NI x.parts (k+1)
  have hi2:dec (inK .i64 (n+(x.parts[k].nodes:Int)))=true:=BQ (by omega) (by omega)
  simp (disch:=omega) only [go_sem,Ab,hni,hg,hc,hi2,BD]
  exact ⟨(i+1,n+(x.parts[k].nodes:Int)),⟨k+1,by dsimp only; omega,hlt,by dsimp only; omega⟩,by dsimp only; omega,by first | trivial | rfl⟩
 ·obtain rfl:k=x.parts.length:=by omega
  rw [zS,← hne] at hR
  rw [←hR]
  simp (disch:=omega) only [go_sem,Ab,hni]
theorem QV (x:Fm) (hn:x.nodes≤1099511627776):E 53 [x.sv] []=some (.int .i64 x.nodes,[]) :=
 Ud x hn fun y hy=>QV y (by have:=Fm.nodes_mem hy; have:=Fm.nodes_eq x; omega)
termination_by SizeOf.sizeOf x
decreasing_by exact Fm.lt_of_mem hy
def Fz (x:Fm):Nat→Fm
 | 0=>x
 | k+1=>.mk 4 Tm.zero ⟨#[]⟩ [Fz x k]
theorem H9 (x:Fm):∀ k,(Fz x k).nodes=x.nodes+k
 | 0=>rfl
 | k+1=>by
  have:(Fz x (k+1)).nodes=1+((Fz x k).nodes+0):=by rw [Fz,Fm.Ca]; rfl
  rw [this,H9 x k]; omega
theorem OX {x:Fm} (h:x.tame):∀ k,(Fz x k).tame
 | 0=>h
 | k+1=>Fm.C1 (by rw [Fs]; omega) (Fm.N0 (OX h k))
theorem Fm.nodeS_app:∀ (a b:List Fm),Fm.nodeS (a++b)=Fm.nodeS a+Fm.nodeS b
 | [],b=>by simp [Fm.nodeS]
 | x :: a,b=>by simp only [zT,Fm.nodeS,Fm.nodeS_app a b]; omega
theorem Fm.OY:∀ {a b:List Fm},Fm.C0 a→Fm.C0 b→Fm.C0 (a++b)
 | [],b,_,h=>h
 | x :: a,b,h,k=>by
  simp only [Fm.C0] at h
  simp only [zT,Fm.C0]
  exact ⟨h.1,Fm.OY h.2 k⟩
theorem Fm.Tf {x:Fm} (h:x.tame):Fm.C0 x.parts:=by rw [Fm.H3] at h; exact h.2
theorem PB (l:List Int) (hl:Bytes l) (hn:l.length≤1099511627776) (p s:Int) (h0:0≤p) (h1:p≤1060000000000):∃ x p' s',E 25 [.ptr 0 0] [cur l p s]=some (fmH x 1 2,[cur l p' s',QU x,Sj x])∧(p≤p'∧p'≤p+5000)∧x.nodes≤100∧x.tame:=by
 obtain ⟨Q,hQ⟩:∃ Q:SV × List Ob→Prop,Q=fun out=>∃ x p' s',out=(fmH x 1 2,[cur l p' s',QU x,Sj x])∧(p≤p'∧p'≤p+5000)∧x.nodes≤100∧x.tame:=⟨_,rfl⟩
 suffices hq0:∃ out,E 25 [.ptr 0 0] [cur l p s]=some out∧Q out by
  obtain ⟨out,hq1,hq2⟩:=hq0
  rw [hQ] at hq2
  obtain ⟨x,p',s',rfl,hq3⟩:=hq2
  exact ⟨x,p',s',hq1,hq3⟩
 obtain ⟨x,p1,s1,hf,⟨g1,g2⟩,g3,hta⟩:=OW l hl hn p s h0 (by omega)
 obtain ⟨v,p2,s2,hv,⟨v0,v1⟩,g4,g5⟩:=ET l hl hn 24 (by omega) (by omega) p1 s1 (by omega) (by omega)
 have hlen:=Fm.length_le x.parts
 have hne:=Fm.nodes_eq x
 have hat:=Fm.IH hta
 have hps:=Fm.Tf hta
 rcases (show v=0∨v=1∨v=2∨v=3∨v=4∨v=5∨(¬ v=0∧¬ v=1∧¬ v=2∧¬ v=3∧¬ v=4∧¬ v=5) by omega) with rfl | rfl | rfl | rfl | rfl | rfl | ⟨k0,k1,k2,k3,k4,k5⟩
 ·obtain ⟨u,p3,s3,hu,_,g6,g7⟩:=ET l hl hn 11 (by omega) (by omega) p2 s2 (by omega) (by omega)
  refine AV Bl AX (of_decide_eq_true rfl) ?_
  simp (disch:=omega) only [AW,go_sem,Ab,hf,hv,hu,At,Bu,A4,AD,BD]
  rw [hQ]
  exact ⟨.mk u x.atom x.var x.parts,p3,s3,rfl,by omega,by rw [Fm.Ca]; omega,Fm.C1 hat hps⟩
 ·obtain ⟨y,p3,s3,hu,_,g6,g7⟩:=Sh l hl hn [⟨#[88]⟩,⟨#[97]⟩,⟨#[]⟩] (by decide) (by decide) p2 s2 (by omega) (by omega)
  simp only [zE,zG] at hu
  refine AV Bl AX (of_decide_eq_true rfl) ?_
  simp (disch:=omega) only [AW,go_sem,Ab,hf,hv,hu,At,Bu,A4,AD,BD]
  rw [hQ]
  exact ⟨.mk x.op x.atom y x.parts,p3,s3,rfl,by omega,by rw [Fm.Ca]; omega,Fm.C1 hat hps⟩
 ·obtain ⟨t,p3,s3,hu,⟨g6,g7⟩,g8⟩:=Uc l hl hn p2 s2 (by omega) (by omega)
  refine AV Bl AX (of_decide_eq_true rfl) ?_
  simp (disch:=omega) only [AW,go_sem,Ab,hf,hv,hu,At,Bu,A4,AD,BD]
  rw [hQ]
  exact ⟨.mk x.op t x.var x.parts,p3,s3,rfl,by omega,by rw [Fm.Ca]; omega,Fm.C1 (by omega) hps⟩
 ·obtain ⟨y,p3,s3,hu,⟨g6,g7⟩,g8,hty⟩:=OW l hl hn p2 s2 (by omega) (by omega)
  have hxl:x.parts.length≤31:=by omega
  refine AV Bl AX (of_decide_eq_true rfl) ?_
  simp (disch:=omega) only [AW,go_sem,Ab,hf,hv,hu,At,Bu,A4,AD,BD]
  rw [hQ]
  refine ⟨.mk x.op x.atom x.var (x.parts++[y]),p3,s3,?_,by omega,by rw [Fm.Ca,Fm.nodeS_app]; show 1+(_+(y.nodes+0))≤_; omega,Fm.C1 hat (Fm.OY hps (Fm.N0 hty))⟩
  show _=(fmH (.mk x.op x.atom x.var (x.parts++[y])) 1 2,[cur l p3 s3,QU x,.row 29 5 ((x.parts++[y]).map Fm.hs)])
  rw [zW]
  rfl
 ·obtain ⟨u,p3,s3,hu,⟨u0,u1⟩,g6,g7⟩:=ET l hl hn 5 (by omega) (by omega) p2 s2 (by omega) (by omega)
  have hi:dec (inK .i64 (36+u))=true:=BQ (by omega) (by omega)
  refine AV Bl AX (of_decide_eq_true rfl) ?_
  simp (disch:=omega) only [AW,go_sem,Ab,hf,hv,hu,hi,At,Bu,A4,AD,BD]
  refine go_loop (α:=Nat × List (List OT) × List (List OT)) (fun a=>⟨slots 59 0 [(2,.ptr 1 0),(3,.ptr 2 0),(4,.int .i64 (36+u))],(if a.1=0 then [cur l p3 s3,.box 29 [.int .i64 0,.str ⟨#[]⟩,.nil,.str ⟨#[]⟩,.nil],.box 29 [.int .i64 x.op,.str x.atom.name,.ref 3,.str x.var,.ref 4],QU x,Sj x] else [cur l p3 s3,.box 29 [.int .i64 0,.str ⟨#[]⟩,.nil,.str ⟨#[]⟩,.nil],.box 29 [.int .i64 4,.str ⟨#[]⟩,.nil,.str ⟨#[]⟩,.ref 3],.row 29 5 [[.int (Fz x (a.1-1)).op,.str (Fz x (a.1-1)).atom.name,.ow a.2.1,.str (Fz x (a.1-1)).var,.ow a.2.2]]])⟩) (fun a=>(a.1=0∨(OT.erss a.2.1=(Fz x (a.1-1)).atom.args.map Tm.d∧OT.erss a.2.2=(Fz x (a.1-1)).parts.map Fm.d∧OT.AS a.2.1=true∧OT.AS a.2.2=true))∧a.1≤50) (fun a=>50-a.1) (0,[],[]) ⟨.inl rfl,by omega⟩ (by simp (disch:=omega) only [go_sem,Ab,eq_self,if_true]) ?_
  rintro ⟨k,A,B⟩ ⟨hR,hk⟩
  dsimp only at hR hk
  have hsz:=QV (Fz x k) (by rw [H9]; omega)
  rw [H9] at hsz
  have hnn:=H9 x k
  rcases zF k with hk0 | hk0
  ·subst hk0
   have hsz:E 53 [.agg [.int .i64 x.op,.str x.atom.name,.arr (x.atom.args.map Tm.d),.str x.var,.arr (x.parts.map Fm.d)]] []=some (.int .i64 ((x.nodes+0:Nat):Int),[]):=hsz
   have q6:((0:Nat)+1=0)=False:=by simp
   by_cases hc:((x.nodes+0:Nat):Int)<36+u
   ·have q1:(((x.nodes+0:Nat):Int)<36+u)=True:=eq_true hc
    simp (disch:=omega) only [go_sem,Ab,hsz,q1,eq_self,if_true,BD]
    refine ⟨(0+1,x.atom.args.map Tm.osh,x.parts.map Fm.hs),⟨.inr ⟨Tm.osh_er _,Fm.VR _,Tm.osh_full _,Fm.PA _⟩,by dsimp only; omega⟩,by dsimp only; omega,?_⟩
    simp (disch:=omega) only [go_sem,Ab,q6,if_false,Nat.add_sub_cancel]
    first | rfl | exact ⟨rfl,rfl⟩
   ·exact absurd (show ((x.nodes+0:Nat):Int)<36+u by omega) hc
  ·obtain ⟨j,rfl⟩:∃ j,k=j+1:=⟨k-1,by omega⟩
   obtain ⟨e1,e2,e3,e4⟩:=hR.resolve_left (by omega)
   rw [Nat.add_sub_cancel] at e1 e2
   have hsv:(Fz x (j+1)).sv=.agg [.int .i64 4,.str ⟨#[]⟩,.arr [],.str ⟨#[]⟩,.arr [[.int (Fz x j).op,.str (Fz x j).atom.name,.arr ((Fz x j).atom.args.map Tm.d),.str (Fz x j).var,.arr ((Fz x j).parts.map Fm.d)]]]:=by
    show SV.agg [.int .i64 4,.str ⟨#[]⟩,.arr (([]:List Tm).map Tm.d),.str ⟨#[]⟩,.arr ([Fz x j].map Fm.d)]=_
    rw [zE,zG,zG,Fm.d_eq]
   rw [hsv] at hsz
   have q8:(j+1=0)=False:=by simp
   have q9:j+1-1=j:=by omega
   have q10:(j+1+1=0)=False:=by simp
   have q11:j+1+1-1=j+1:=by omega
   by_cases hc:((x.nodes+(j+1):Nat):Int)<36+u
   ·have q1:(((x.nodes+(j+1):Nat):Int)<36+u)=True:=eq_true hc
    simp (disch:=omega) only [go_sem,Ab,hsz,q1,q8,q9,if_false,e1,e2,e3,e4,BD]
    refine ⟨(j+1+1,[],[[.int (Fz x j).op,.str (Fz x j).atom.name,.ow A,.str (Fz x j).var,.ow B]]),⟨.inr ⟨?_,?_,rfl,?_⟩,by dsimp only; omega⟩,by dsimp only; omega,?_⟩
    ·dsimp only; rw [q11]; rfl
    ·dsimp only; rw [q11]
     simp only [OT.erss,OT.ers,OT.er,e1,e2]
     rw [show (Fz x (j+1)).parts=[Fz x j] from rfl,zE,zG,Fm.d_eq]
    ·simp only [OT.AS,OT.DI,OT.full,e3,e4,z6]
    ·simp (disch:=omega) only [go_sem,Ab,q10,q11,if_false]
     first | rfl | exact ⟨rfl,rfl⟩
   ·have q1:(((x.nodes+(j+1):Nat):Int)<36+u)=False:=eq_false hc
    simp (disch:=omega) only [go_sem,Ab,hsz,q1,q8,q9,if_false,e1,e2,e3,e4,BD]
    rw [hQ]
    exact ⟨Fz x (j+1),p3,s3,rfl,by omega,by omega,OX hta _⟩
 ·rcases hc:x.parts with _ | ⟨a0,ar⟩
  ·have q0:((0:Int)<(x.parts.length:Int))=False:=eq_false (by rw [hc]; simp)
   rw [←hc] at *
   refine AV Bl AX (of_decide_eq_true rfl) ?_
   simp (disch:=omega) only [AW,go_sem,Ab,hf,hv,q0,At,Bu,A4,AD,BD]
   rw [hQ]
   exact ⟨x,p2,s2,rfl,by omega,by omega,hta⟩
  ·have q0:((0:Int)<(x.parts.length:Int))=True:=eq_true (by rw [hc]; simp)
   obtain ⟨u,p3,s3,hu,_,g6,g7⟩:=ET l hl hn 11 (by omega) (by omega) p2 s2 (by omega) (by omega)
   have hm:x.parts.map Fm.hs=[.int a0.op,.str a0.atom.name,.sh (a0.atom.args.map Tm.d),.str a0.var,.sh (a0.parts.map Fm.d)] :: ar.map Fm.hs:=by rw [hc]; rfl
   have hgl:(x.parts.map Fm.hs)[0]?=some [.int a0.op,.str a0.atom.name,.sh (a0.atom.args.map Tm.d),.str a0.var,.sh (a0.parts.map Fm.d)]:=by rw [hm]; rfl
   have hst:∀ y,(x.parts.map Fm.hs).set 0 y=y :: ar.map Fm.hs:=fun y=>by rw [hm]; rfl
   have q1:0<x.parts.length:=by rw [hc]; simp
   have hnn:x.nodes=1+(a0.nodes+Fm.nodeS ar):=by rw [Fm.nodes_eq,hc]; rfl
   rw [hc] at hps
   simp only [Fm.C0] at hps
   refine AV Bl AX (of_decide_eq_true rfl) ?_
   simp (disch:=omega) only [AW,go_sem,Ab,hf,hv,q0,hu,hgl,hst,q1,At,Bu,A4,AD,BD]
   rw [hQ]
   refine ⟨.mk x.op x.atom x.var (.mk u a0.atom a0.var a0.parts :: ar),p3,s3,rfl,by omega,?_,Fm.C1 hat ?_⟩
   ·rw [Fm.Ca]
    show 1+((Fm.mk u a0.atom a0.var a0.parts).nodes+Fm.nodeS ar)≤_
    rw [Fm.Ca]
    have:=Fm.nodes_eq a0
    omega
   ·simp only [Fm.C0]
    exact ⟨Fm.C1 (Fm.IH hps.1) (Fm.Tf hps.1),hps.2⟩
 ·have k0:=eq_false k0
  have k1:=eq_false k1
  have k2:=eq_false k2
  have k3:=eq_false k3
  have k4:=eq_false k4
  have k5:=eq_false k5
  refine AV Bl AX (of_decide_eq_true rfl) ?_
  simp (disch:=omega) only [AW,go_sem,Ab,hf,hv,k0,k1,k2,k3,k4,k5,At,Bu,A4,AD,BD]
  rw [hQ]
  exact ⟨x,p2,s2,rfl,by omega,by omega,hta⟩
def Jq:SC:=(.seq (.reg [⟨some 1,none,.boxv 26 2 (.t 0)⟩,⟨(some 2),none,(.alloc 29 [(.int .i64 0),(.str ⟨#[]⟩),.nil,(.str ⟨#[]⟩),.nil])⟩]) (.seq (.reg [⟨some 3,none,.load true 2 (.t 1)⟩,⟨(some 4),none,(.build [(.int .i64 0),(.str ⟨#[]⟩),.nil,(.str ⟨#[]⟩),.nil] [(0,(1,(.c (.int .i64 3)))),(1,(2,(.t 3)))])⟩,⟨none,none,(.store 5 (.t 2) (.t 4))⟩]) .ret))
theorem NO:codeOf Tryz.prog 62=some ⟨5,Jq,[(.cell 2 true 5)]⟩:=by kernel_rfl
theorem Jr:modes 62=⟨[true],.own [none,none,some (26,2),none,some (29,5)],none,false⟩:=by unfold modes; rfl
theorem VS (y:Tm):E 62 [y.osv] y.obs=some (.agg [.int .i64 3,.str y.name,.ref 0,.str ⟨#[]⟩,.ref 1],[.row 26 2 (y.args.map Tm.o),.row 29 5 []]):=by
 refine Aj NO Jr (of_decide_eq_true rfl) ?_
 simp (disch:=omega) only [Jq,go_sem,Ab,Tm.osv,Tm.obs]
def E4:SC:=(.seq (.reg [⟨(some 2),none,(.mv (.c (.str ⟨#[]⟩)))⟩]) (.block 0 (.loop [1,0,0,0,0,0,0,0,0,0,0,0,0,0,0,0,0,0,0,0,0,0,0,0,0] (.block 1 (.seq (.reg [⟨some 4,none,.mv (.t 0)⟩,⟨some 5,none,.nilchk (.t 4)⟩,⟨some 6,none,.faddr 1 (.t 5)⟩,⟨some 7,none,.load false 1 (.t 6)⟩,⟨some 8,none,.bin .add false (.t 7) (.c (.int .i64 1))⟩,⟨some 9,none,.nilchk (.t 4)⟩,⟨some 10,none,.faddr 1 (.t 9)⟩,⟨none,none,(.store 1 (.t 10) (.t 8))⟩]) (.seq (.reg [⟨some 11,none,.mv (.t 0)⟩,⟨some 12,none,.nilchk (.t 11)⟩,⟨some 13,none,.faddr 1 (.t 12)⟩,⟨some 14,none,.load false 1 (.t 13)⟩,⟨some 15,none,.call 93 [(.t 14)]⟩,⟨(some 16),none,(.bin .add false (.c (.str ⟨#[86]⟩)) (.t 15))⟩,⟨some 3,none,.mv (.t 16)⟩]) (.seq (.reg [⟨some 17,none,.mv (.t 0)⟩,⟨some 18,none,.nilchk (.t 17)⟩,⟨some 19,none,.faddr 0 (.t 18)⟩,⟨some 20,none,.load false 1 (.t 19)⟩,⟨some 21,none,.mv (.t 3)⟩,⟨some 22,none,.call 90 [(.t 20),(.t 21)]⟩,⟨some 23,none,.un .not (.t 22)⟩]) (.cond (.t 23) (.seq (.reg [⟨some 24,none,.mv (.t 3)⟩,⟨some 2,none,.mv (.t 24)⟩]) .ret) .skip))))))))
theorem HA:codeOf Tryz.prog 64=some ⟨25,E4,[(.tmp 2)]⟩:=by kernel_rfl
theorem Do:modes 64=⟨[],.asis,none,false⟩:=by unfold modes; rfl
def Cn:SC:=(.seq (.reg [⟨some 3,none,.boxv 57 1 (.t 0)⟩,⟨some 4,none,.boxv 29 5 (.t 1)⟩,⟨some 5,none,.boxv 62 1 (.t 2)⟩,⟨(some 6),none,(.alloc 29 [(.int .i64 0),(.str ⟨#[]⟩),.nil,(.str ⟨#[]⟩),.nil])⟩]) (.seq (.seq (.reg [⟨some 12,none,.faddr 0 (.t 4)⟩,⟨some 13,none,.load false 1 (.t 12)⟩,⟨some 14,none,.bin .eql false (.t 13) (.c (.int .i64 3))⟩]) (.cond (.t 14) (.seq (.reg [⟨some 15,none,.faddr 1 (.t 4)⟩,⟨some 16,none,.load true 2 (.t 15)⟩,⟨some 17,none,.load false 1 (.t 5)⟩,⟨some 18,none,.call 63 [(.t 16),(.t 17)]⟩,⟨some 19,none,.call 62 [(.t 18)]⟩,⟨none,none,(.store 5 (.t 6) (.t 19))⟩]) .ret) .skip)) (.seq (.reg [⟨(some 7),none,(.mv (.c (.str ⟨#[]⟩)))⟩]) (.seq (.seq (.reg [⟨some 20,none,.faddr 0 (.t 4)⟩,⟨some 21,none,.load false 1 (.t 20)⟩,⟨some 22,none,.call 41 [(.t 21)]⟩]) (.cond (.t 22) (.seq (.reg [⟨some 23,none,.load false 1 (.t 3)⟩,⟨some 24,none,.call 64 [(.t 23)]⟩,⟨some 7,none,.mv (.t 24)⟩]) (.seq (.reg [⟨some 25,none,.mkmap true none⟩,⟨some 8,none,.mv (.t 25)⟩]) (.seq (.seq (.reg [⟨some 26,none,.load false 1 (.t 5)⟩,⟨some 27,none,.mkit (.t 26)⟩]) (.block 0 (.mloop [0,0,0,1,1,1,1,1,1,0,0,0,0,0,0,0,0,0,0,0,0,0,0,0,0,0,0,1,0,0,0,0,0,0,0,0,0,0,0,0,0,0,0,0,0,0,0] [0,0,0,1,1,1,1,1,1,0,0,0,0,0,0,0,0,0,0,0,0,0,0,0,0,0,0,0,0,0,0,0,0,0,0,0,0,0,0,0,0,0,0,0,0,0,0] (.t 27) 28 29 (.seq (.cond (.t 29) .skip (.exit 0)) (.block 1 (.seq (.reg [⟨some 30,none,.mcur (.t 27)⟩,⟨some 31,none,.ext (.t 30) 0⟩,⟨some 32,none,.ext (.t 30) 1⟩,⟨some 9,none,.mv (.t 31)⟩,⟨some 10,none,.mv (.t 32)⟩]) (.reg [⟨some 33,none,.mv (.t 8)⟩,⟨some 34,none,.mv (.t 9)⟩,⟨some 35,none,.mv (.t 10)⟩,⟨none,none,(.mset true (.t 33) (.t 34) (.t 35))⟩]))))))) (.seq (.reg [⟨some 36,none,.mv (.t 8)⟩,⟨some 37,none,.faddr 3 (.t 4)⟩,⟨some 38,none,.load false 1 (.t 37)⟩,⟨some 39,none,.mv (.t 7)⟩,⟨none,none,(.mset true (.t 36) (.t 38) (.t 39))⟩]) (.reg [⟨some 40,none,.mv (.t 8)⟩,⟨none,none,(.store 1 (.t 5) (.t 40))⟩]))))) .skip)) (.seq (.reg [⟨some 41,none,.load true 5 (.t 4)⟩,⟨some 42,none,.mkfn 65 [(.t 3),(.t 5)]⟩,⟨some 43,none,.call 31 [(.t 41),(.t 42)]⟩,⟨(some 11),none,(.alloc 29 [(.int .i64 0),(.str ⟨#[]⟩),.nil,(.str ⟨#[]⟩),.nil])⟩,⟨none,none,(.store 5 (.t 11) (.t 43))⟩]) (.seq (.reg [⟨some 44,none,.mv (.t 7)⟩,⟨some 45,none,.faddr 3 (.t 11)⟩,⟨none,none,(.store 1 (.t 45) (.t 44))⟩]) (.seq (.reg [⟨some 46,none,.load true 5 (.t 11)⟩,⟨none,none,(.store 5 (.t 6) (.t 46))⟩]) .ret)))))))
theorem CI:codeOf Tryz.prog 34=some ⟨47,Cn,[(.cell 6 true 5)]⟩:=by kernel_rfl
theorem B7:modes 34=⟨[],.own [none,none,some (26,2),none,some (29,5)],none,false⟩:=by unfold modes; rfl
def CA:SC:=(.seq (.reg [⟨some 3,none,.boxv 29 5 (.t 0)⟩,⟨(some 4),none,(.alloc 29 [(.int .i64 0),(.str ⟨#[]⟩),.nil,(.str ⟨#[]⟩),.nil])⟩]) (.seq (.reg [⟨some 5,none,.load false 1 (.t 1)⟩,⟨some 6,none,.load true 5 (.t 3)⟩,⟨some 7,none,.load false 1 (.t 2)⟩,⟨some 8,none,.call 34 [(.t 5),(.t 6),(.t 7)]⟩,⟨none,none,(.store 5 (.t 4) (.t 8))⟩]) .ret))
theorem D4:codeOf Tryz.prog 65=some ⟨9,CA,[(.cell 4 true 5)]⟩:=by kernel_rfl
theorem By:modes 65=⟨[],.own [none,none,some (26,2),none,some (29,5)],none,false⟩:=by unfold modes; rfl
theorem D5:Fu Tryz.prog 65=true:=by kernel_rfl
theorem VT (tk:List ByteArray) (c:Int) (h0:0≤c) (hc:c+tk.length≤1099511600000):E 64 [.ptr 0 0] [.box 60 [.ref 1,.int .i64 c],.row 9 1 (tk.map fun s=>[OT.str s])]=some (.str (pre BC (fresh BC tk c)),[.box 60 [.ref 1,.int .i64 (fresh BC tk c)],.row 9 1 (tk.map fun s=>[OT.str s])]):=by
 have hfr:=Di BC tk c
 refine Aj HA Do (of_decide_eq_true rfl) ?_
 simp (disch:=omega) only [E4,go_sem,Ab]
 refine go_loop (α:=Int) (fun a=>⟨slots 25 0 [(0,.ptr 0 0)],[.box 60 [.ref 1,.int .i64 a],.row 9 1 (tk.map fun s=>[OT.str s])]⟩) (fun a=>c≤a∧fresh BC tk a=fresh BC tk c) (fun a=>beyond BC tk a) c ⟨Int.le_refl _,rfl⟩ (by simp (disch:=omega) only [go_sem,Ab]) ?_
 rintro a ⟨ha,hR⟩
 have hfa:=Di BC tk a
 rw [hR] at hfa
 have hit:=Y8 (a+1) (by omega) (by omega)
 have hns:=O4 (show 0≤a+1 by omega) (by omega:a+1≤1099511627776)
 have hpre:(⟨#[86]⟩:ByteArray)++Q2 (a+1)=pre BC (a+1):=rfl
 have hs1:(⟨#[86]⟩:ByteArray).size=1:=rfl
 have hcn:=G2 tk (pre BC (a+1)) (by omega)
 by_cases hm:pre BC (a+1)∈tk
 ·rw [Au hm] at hcn
  simp (disch:=omega) only [go_sem,Ab,hit,hs1,hpre,hcn,Gd,AK]
  exact ⟨a+1,⟨by omega,by rw [←OK (by omega) hm]; exact hR⟩,FJ (by omega) hm,by first | trivial | rfl | exact ⟨rfl,rfl⟩⟩
 ·rw [Ai hm] at hcn
  have hnew:=KS hm
  rw [hR] at hnew
  rw [hnew]
  simp (disch:=omega) only [go_sem,Ab,hit,hs1,hpre,hcn,Gd,AK]
theorem PC (fid:Nat) (e:SEnv) (tk:List ByteArray) (f:Fm→Int→Fm × (Int)) (P:Nat→Int→Prop) (x:Fm) (c0:Int) (hP:P 0 c0) (hl:x.parts.length≤1099511627776) (hat:x.atom.nodes≤1099511627776) (hg:Fu Tryz.prog fid=true) (hm:(modes fid).hand=[]) (hr:∀ r,Fi (modes fid).res r=r)
  (hE:∀ (k:Nat) (h:k<x.parts.length) (c:Int),P k c→E fid [x.parts[k].sv,.ptr 0 0,.ptr 1 0] [.box 57 [.ptr 2 0],.box 62 [.mp true (Cm e)],.box 60 [.ref 3,.int .i64 c],.row 9 1 (tk.map fun s=>[OT.str s])]=some (.agg [.int .i64 (f x.parts[k] c).1.op,.str (f x.parts[k] c).1.atom.name,.ref 4,.str (f x.parts[k] c).1.var,.ref 5],[.box 57 [.ptr 2 0],.box 62 [.mp true (Cm e)],.box 60 [.ref 3,.int .i64 (f x.parts[k] c).2],.row 9 1 (tk.map fun s=>[OT.str s]),.row 26 2 ((f x.parts[k] c).1.atom.args.map Tm.o),.row 29 5 ((f x.parts[k] c).1.parts.map Fm.o)])∧P (k+1) (f x.parts[k] c).2) :
  E 31 [x.sv,.fn fid [.ptr 0 0,.ptr 1 0]] [.box 57 [.ptr 2 0],.box 62 [.mp true (Cm e)],.box 60 [.ref 3,.int .i64 c0],.row 9 1 (tk.map fun s=>[OT.str s])]=some (.agg [.int .i64 x.op,.str x.atom.name,.ref 4,.str x.var,.ref 5],[.box 57 [.ptr 2 0],.box 62 [.mp true (Cm e)],.box 60 [.ref 3,.int .i64 (Bo f x.parts c0).2],.row 9 1 (tk.map fun s=>[OT.str s]),.row 26 2 (x.atom.args.map Tm.o),.row 29 5 ((Bo f x.parts c0).1.map Fm.o)]):=by
 have hct:=Gb x.atom hat
 have h10:((1:Int)=0)=False:=by simp
 refine Aj Ed AZ (of_decide_eq_true rfl) ?_
 simp (disch:=omega) only [Dx,go_sem,Ab,hct,CM,Tm.osv,Tm.obs]
 refine go_loop (α:=Int × (Int) × (List Fm)) (fun a=>⟨slots 33 0 [(1,.fn fid [.ptr 0 0,.ptr 1 0]),(4,.ptr 4 0),(5,.ptr 5 0),(17,.arr (x.parts.map Fm.d)),(18,.int .i64 x.parts.length),(19,.int .i64 (a.1))],(if (a.1)=0 then [.box 57 [.ptr 2 0],.box 62 [.mp true (Cm e)],.box 60 [.ref 3,.int .i64 (a.2.1)],.row 9 1 (tk.map fun s=>[OT.str s]),.box 29 [.int .i64 0,.str ⟨#[]⟩,.nil,.str ⟨#[]⟩,.nil],.box 29 [.int .i64 x.op,.str x.atom.name,.ref 6,.str x.var,.nil],.row 26 2 (x.atom.args.map Tm.o)] else [.box 57 [.ptr 2 0],.box 62 [.mp true (Cm e)],.box 60 [.ref 3,.int .i64 (a.2.1)],.row 9 1 (tk.map fun s=>[OT.str s]),.box 29 [.int .i64 0,.str ⟨#[]⟩,.nil,.str ⟨#[]⟩,.nil],.box 29 [.int .i64 x.op,.str x.atom.name,.ref 6,.str x.var,.ref 7],.row 26 2 (x.atom.args.map Tm.o),.row 29 5 ((a.2.2).map Fm.o)])⟩) (fun a=>∃ k:Nat,a.1=k∧k≤(x.parts).length∧(a.2.2).length=k∧P k (a.2.1)∧Bo f x.parts c0=((a.2.2)++(Bo f (x.parts.drop k) (a.2.1)).1,(Bo f (x.parts.drop k) (a.2.1)).2)) (fun a=>(x.parts).length-(a.1).toNat) (0,c0,[]) ⟨0,rfl,zO _,rfl,hP,by rw [zM]; rfl⟩ (by simp (disch:=omega) only [go_sem,Ab,eq_self,if_true]) ?_
 rintro ⟨i,c,acc⟩ ⟨k,hi,hk,hR⟩
 dsimp only at hi hR
 have hni:i.toNat=k:=by omega
 have hni1:(i+1).toNat=k+1:=by omega
 rcases zI k (x.parts).length with hlt | hge
 ·have hgt:=get_at Fm.d hlt
  rw [Fm.d_eq] at hgt
  obtain ⟨hR1,hR2,hR3⟩:=hR
  obtain ⟨hc,hp⟩:=hE k hlt c hR2
  rw [zB hlt,Bo] at hR3
  obtain ⟨y,hy⟩:∃ y,y=f x.parts[k] c:=⟨_,rfl⟩
  rw [←hy] at hc hp hR3
  have hs:acc.map Fm.o++[[OT.int y.1.op,OT.str y.1.atom.name,OT.ow (y.1.atom.args.map Tm.o),OT.str y.1.var,OT.ow (y.1.parts.map Fm.o)]]=(acc++[y.1]).map Fm.o:=by rw [zW,zE,zG,Fm.o_eq]
  have hR3':Bo f x.parts c0=((acc++[y.1])++(Bo f (x.parts.drop (k+1)) y.2).1,(Bo f (x.parts.drop (k+1)) y.2).2):=by rw [hR3,List.append_assoc]; rfl
  rcases zF k with h0 | h0
  ·subst h0
   obtain rfl:i=0:=hi
   have ha0:acc=[]:=zC hR1
   subst ha0
   rw [zG,zP] at hs
   simp (disch:=omega) only [go_sem,Ab,hni,hgt,hc,hg,hm,hr,eq_self,if_true]
   refine ⟨(1,y.2,[]++[y.1]),⟨1,rfl,hlt,rfl,hp,hR3'⟩,by dsimp only; omega,?_⟩
   simp (disch:=omega) only [go_sem,Ab,h10,if_false,hs,zP]
  ·have hi0:(i=0)=False:=by simp; omega
   have hi1:(i+1=0)=False:=by simp; omega
   simp (disch:=omega) only [go_sem,Ab,hni,hgt,hc,hg,hm,hr,hi0,if_false]
   refine ⟨(i+1,y.2,acc++[y.1]),⟨k+1,by dsimp only; omega,hlt,by simp [hR1],hp,hR3'⟩,by dsimp only; omega,?_⟩
   simp (disch:=omega) only [go_sem,Ab,hi1,if_false,hs]
 ·obtain rfl:k=x.parts.length:=by omega
  obtain ⟨hR1,hR2,hR3⟩:=hR
  rw [zK hge,Bo,List.append_nil] at hR3
  rw [hR3]
  rcases zF x.parts.length with h0 | h0
  ·have hx:x.parts=[]:=zC h0
   obtain rfl:i=0:=by omega
   have ha0:acc=[]:=zC (by rw [hR1]; exact h0)
   subst ha0
   simp (disch:=omega) only [go_sem,Ab,hni,hx,eq_self,if_true,zG,zN]
  ·have hi0:(i=0)=False:=by simp; omega
   simp (disch:=omega) only [go_sem,Ab,hni,hi0,if_false]
theorem PD (fid:Nat) (e:SEnv) (tk:List ByteArray) (f:Fm→Int→Fm × (Int)) (P:Nat→Int→Prop) (x:Fm) (c0:Int) (hP:P 0 c0) (hl:x.parts.length≤1099511627776) (hat:x.atom.nodes≤1099511627776) (hg:Fu Tryz.prog fid=true) (hm:(modes fid).hand=[]) (hr:∀ r,Fi (modes fid).res r=r)
  (hE:∀ (k:Nat) (h:k<x.parts.length) (c:Int),P k c→E fid [x.parts[k].sv,.ptr 0 0,.ptr 1 0] [.box 57 [.ptr 2 0],.box 62 [.ref 3],.box 60 [.ref 4,.int .i64 c],.mp true (Cm e),.row 9 1 (tk.map fun s=>[OT.str s])]=some (.agg [.int .i64 (f x.parts[k] c).1.op,.str (f x.parts[k] c).1.atom.name,.ref 5,.str (f x.parts[k] c).1.var,.ref 6],[.box 57 [.ptr 2 0],.box 62 [.ref 3],.box 60 [.ref 4,.int .i64 (f x.parts[k] c).2],.mp true (Cm e),.row 9 1 (tk.map fun s=>[OT.str s]),.row 26 2 ((f x.parts[k] c).1.atom.args.map Tm.o),.row 29 5 ((f x.parts[k] c).1.parts.map Fm.o)])∧P (k+1) (f x.parts[k] c).2) :
  E 31 [x.sv,.fn fid [.ptr 0 0,.ptr 1 0]] [.box 57 [.ptr 2 0],.box 62 [.ref 3],.box 60 [.ref 4,.int .i64 c0],.mp true (Cm e),.row 9 1 (tk.map fun s=>[OT.str s])]=some (.agg [.int .i64 x.op,.str x.atom.name,.ref 5,.str x.var,.ref 6],[.box 57 [.ptr 2 0],.box 62 [.ref 3],.box 60 [.ref 4,.int .i64 (Bo f x.parts c0).2],.mp true (Cm e),.row 9 1 (tk.map fun s=>[OT.str s]),.row 26 2 (x.atom.args.map Tm.o),.row 29 5 ((Bo f x.parts c0).1.map Fm.o)]):=by
 have hct:=Gb x.atom hat
 have h10:((1:Int)=0)=False:=by simp
 refine Aj Ed AZ (of_decide_eq_true rfl) ?_
 simp (disch:=omega) only [Dx,go_sem,Ab,hct,CM,Tm.osv,Tm.obs]
 refine go_loop (α:=Int × (Int) × (List Fm)) (fun a=>⟨slots 33 0 [(1,.fn fid [.ptr 0 0,.ptr 1 0]),(4,.ptr 5 0),(5,.ptr 6 0),(17,.arr (x.parts.map Fm.d)),(18,.int .i64 x.parts.length),(19,.int .i64 (a.1))],(if (a.1)=0 then [.box 57 [.ptr 2 0],.box 62 [.ref 3],.box 60 [.ref 4,.int .i64 (a.2.1)],.mp true (Cm e),.row 9 1 (tk.map fun s=>[OT.str s]),.box 29 [.int .i64 0,.str ⟨#[]⟩,.nil,.str ⟨#[]⟩,.nil],.box 29 [.int .i64 x.op,.str x.atom.name,.ref 7,.str x.var,.nil],.row 26 2 (x.atom.args.map Tm.o)] else [.box 57 [.ptr 2 0],.box 62 [.ref 3],.box 60 [.ref 4,.int .i64 (a.2.1)],.mp true (Cm e),.row 9 1 (tk.map fun s=>[OT.str s]),.box 29 [.int .i64 0,.str ⟨#[]⟩,.nil,.str ⟨#[]⟩,.nil],.box 29 [.int .i64 x.op,.str x.atom.name,.ref 7,.str x.var,.ref 8],.row 26 2 (x.atom.args.map Tm.o),.row 29 5 ((a.2.2).map Fm.o)])⟩) (fun a=>∃ k:Nat,a.1=k∧k≤(x.parts).length∧(a.2.2).length=k∧P k (a.2.1)∧Bo f x.parts c0=((a.2.2)++(Bo f (x.parts.drop k) (a.2.1)).1,(Bo f (x.parts.drop k) (a.2.1)).2)) (fun a=>(x.parts).length-(a.1).toNat) (0,c0,[]) ⟨0,rfl,zO _,rfl,hP,by rw [zM]; rfl⟩ (by simp (disch:=omega) only [go_sem,Ab,eq_self,if_true]) ?_
 rintro ⟨i,c,acc⟩ ⟨k,hi,hk,hR⟩
 dsimp only at hi hR
 have hni:i.toNat=k:=by omega
 have hni1:(i+1).toNat=k+1:=by omega
 rcases zI k (x.parts).length with hlt | hge
 ·have hgt:=get_at Fm.d hlt
  rw [Fm.d_eq] at hgt
  obtain ⟨hR1,hR2,hR3⟩:=hR
  obtain ⟨hc,hp⟩:=hE k hlt c hR2
  rw [zB hlt,Bo] at hR3
  obtain ⟨y,hy⟩:∃ y,y=f x.parts[k] c:=⟨_,rfl⟩
  rw [←hy] at hc hp hR3
  have hs:acc.map Fm.o++[[OT.int y.1.op,OT.str y.1.atom.name,OT.ow (y.1.atom.args.map Tm.o),OT.str y.1.var,OT.ow (y.1.parts.map Fm.o)]]=(acc++[y.1]).map Fm.o:=by rw [zW,zE,zG,Fm.o_eq]
  have hR3':Bo f x.parts c0=((acc++[y.1])++(Bo f (x.parts.drop (k+1)) y.2).1,(Bo f (x.parts.drop (k+1)) y.2).2):=by rw [hR3,List.append_assoc]; rfl
  rcases zF k with h0 | h0
  ·subst h0
   obtain rfl:i=0:=hi
   have ha0:acc=[]:=zC hR1
   subst ha0
   rw [zG,zP] at hs
   simp (disch:=omega) only [go_sem,Ab,hni,hgt,hc,hg,hm,hr,eq_self,if_true]
   refine ⟨(1,y.2,[]++[y.1]),⟨1,rfl,hlt,rfl,hp,hR3'⟩,by dsimp only; omega,?_⟩
   simp (disch:=omega) only [go_sem,Ab,h10,if_false,hs,zP]
  ·have hi0:(i=0)=False:=by simp; omega
   have hi1:(i+1=0)=False:=by simp; omega
   simp (disch:=omega) only [go_sem,Ab,hni,hgt,hc,hg,hm,hr,hi0,if_false]
   refine ⟨(i+1,y.2,acc++[y.1]),⟨k+1,by dsimp only; omega,hlt,by simp [hR1],hp,hR3'⟩,by dsimp only; omega,?_⟩
   simp (disch:=omega) only [go_sem,Ab,hi1,if_false,hs]
 ·obtain rfl:k=x.parts.length:=by omega
  obtain ⟨hR1,hR2,hR3⟩:=hR
  rw [zK hge,Bo,List.append_nil] at hR3
  rw [hR3]
  rcases zF x.parts.length with h0 | h0
  ·have hx:x.parts=[]:=zC h0
   obtain rfl:i=0:=by omega
   have ha0:acc=[]:=zC (by rw [hR1]; exact h0)
   subst ha0
   simp (disch:=omega) only [go_sem,Ab,hni,hx,eq_self,if_true,zG,zN]
  ·have hi0:(i=0)=False:=by simp; omega
   simp (disch:=omega) only [go_sem,Ab,hni,hi0,if_false]
abbrev YL (tk:List ByteArray) (x:Fm):Prop:=∀ (e:SEnv) (c:Int),FinS e→0≤c→c+x.nodes*(tk.length+2:Nat)≤1099511000000→E 34 [.ptr 0 0,x.sv,.mp true (Cm e)] [.box 60 [.ref 1,.int .i64 c],.row 9 1 (tk.map fun s=>[OT.str s])]=some (.agg [.int .i64 (x.sep tk e c).1.op,.str (x.sep tk e c).1.atom.name,.ref 2,.str (x.sep tk e c).1.var,.ref 3],[.box 60 [.ref 1,.int .i64 (x.sep tk e c).2],.row 9 1 (tk.map fun s=>[OT.str s]),.row 26 2 ((x.sep tk e c).1.atom.args.map Tm.o),.row 29 5 ((x.sep tk e c).1.parts.map Fm.o)])
theorem YM (tk:List ByteArray) (x:Fm) (e:SEnv) (c:Int) (h:E 34 [.ptr 0 0,x.sv,.mp true (Cm e)] [.box 60 [.ref 1,.int .i64 c],.row 9 1 (tk.map fun s=>[OT.str s])]=some (.agg [.int .i64 (x.sep tk e c).1.op,.str (x.sep tk e c).1.atom.name,.ref 2,.str (x.sep tk e c).1.var,.ref 3],[.box 60 [.ref 1,.int .i64 (x.sep tk e c).2],.row 9 1 (tk.map fun s=>[OT.str s]),.row 26 2 ((x.sep tk e c).1.atom.args.map Tm.o),.row 29 5 ((x.sep tk e c).1.parts.map Fm.o)])):E 65 [x.sv,.ptr 0 0,.ptr 1 0] [.box 57 [.ptr 2 0],.box 62 [.mp true (Cm e)],.box 60 [.ref 3,.int .i64 c],.row 9 1 (tk.map fun s=>[OT.str s])]=some (.agg [.int .i64 (x.sep tk e c).1.op,.str (x.sep tk e c).1.atom.name,.ref 4,.str (x.sep tk e c).1.var,.ref 5],[.box 57 [.ptr 2 0],.box 62 [.mp true (Cm e)],.box 60 [.ref 3,.int .i64 (x.sep tk e c).2],.row 9 1 (tk.map fun s=>[OT.str s]),.row 26 2 ((x.sep tk e c).1.atom.args.map Tm.o),.row 29 5 ((x.sep tk e c).1.parts.map Fm.o)]):=by
 obtain ⟨r,hr⟩:∃ r,r=x.sep tk e c:=⟨_,rfl⟩
 rw [←hr] at h ⊢
 refine Aj D4 By (of_decide_eq_true rfl) ?_
 simp (disch:=omega) only [CA,go_sem,Ab,h,B7]
theorem YN (tk:List ByteArray) (x:Fm) (e:SEnv) (c:Int) (h:E 34 [.ptr 0 0,x.sv,.mp true (Cm e)] [.box 60 [.ref 1,.int .i64 c],.row 9 1 (tk.map fun s=>[OT.str s])]=some (.agg [.int .i64 (x.sep tk e c).1.op,.str (x.sep tk e c).1.atom.name,.ref 2,.str (x.sep tk e c).1.var,.ref 3],[.box 60 [.ref 1,.int .i64 (x.sep tk e c).2],.row 9 1 (tk.map fun s=>[OT.str s]),.row 26 2 ((x.sep tk e c).1.atom.args.map Tm.o),.row 29 5 ((x.sep tk e c).1.parts.map Fm.o)])):E 65 [x.sv,.ptr 0 0,.ptr 1 0] [.box 57 [.ptr 2 0],.box 62 [.ref 3],.box 60 [.ref 4,.int .i64 c],.mp true (Cm e),.row 9 1 (tk.map fun s=>[OT.str s])]=some (.agg [.int .i64 (x.sep tk e c).1.op,.str (x.sep tk e c).1.atom.name,.ref 5,.str (x.sep tk e c).1.var,.ref 6],[.box 57 [.ptr 2 0],.box 62 [.ref 3],.box 60 [.ref 4,.int .i64 (x.sep tk e c).2],.mp true (Cm e),.row 9 1 (tk.map fun s=>[OT.str s]),.row 26 2 ((x.sep tk e c).1.atom.args.map Tm.o),.row 29 5 ((x.sep tk e c).1.parts.map Fm.o)]):=by
 obtain ⟨r,hr⟩:∃ r,r=x.sep tk e c:=⟨_,rfl⟩
 rw [←hr] at h ⊢
 refine Aj D4 By (of_decide_eq_true rfl) ?_
 simp (disch:=omega) only [CA,go_sem,Ab,h,B7]
def EU:SC:=(.seq (.reg [⟨some 1,none,.boxv 29 5 (.t 0)⟩,⟨(some 2),none,(.alloc 29 [(.int .i64 0),(.str ⟨#[]⟩),.nil,(.str ⟨#[]⟩),.nil])⟩,⟨some 3,none,.mv (.c (.bool false))⟩]) (.seq (.seq (.reg [⟨some 4,none,.load true 5 (.t 1)⟩,⟨some 5,none,.call 16 [(.t 4)]⟩,⟨some 6,none,.un .not (.t 5)⟩]) (.cond (.t 6) (.seq (.reg [⟨(some 7),none,(.build [(.int .i64 0),(.str ⟨#[]⟩),.nil,(.str ⟨#[]⟩),.nil] [])⟩,⟨none,none,(.store 5 (.t 2) (.t 7))⟩,⟨some 3,none,.mv (.c (.bool false))⟩]) .ret) .skip)) (.seq (.reg [⟨some 8,none,.load true 5 (.t 1)⟩,⟨none,none,(.store 5 (.t 2) (.t 8))⟩,⟨some 3,none,.mv (.c (.bool true))⟩]) .ret)))
theorem Hq:codeOf Tryz.prog 17=some ⟨9,EU,[(.cell 2 true 5),(.tmp 3)]⟩:=by kernel_rfl
theorem Cb:modes 17=⟨[true],.own [none,none,some (26,2),none,some (29,5),none],none,false⟩:=by unfold modes; rfl
theorem Js (y:Fm) (hy:y.tame) (hn:y.nodes≤1099511627776) (hv:y.valid=true):E 17 [y.osv] y.obs=some (.tup [y.osv,.bool true],y.obs):=by
 have h:=Cr y hy hn
 rw [hv] at h
 refine Aj Hq Cb (of_decide_eq_true rfl) ?_
 simp (disch:=omega) only [EU,go_sem,Ab,h,AH,Fm.osv,Fm.obs,Tm.erss,Tm.noss,Fm.erss,Fm.noss]
theorem K2 (y:Fm) (hy:y.tame) (hn:y.nodes≤1099511627776) (hv:y.valid=false):E 17 [y.osv] y.obs=some (.tup [.agg [.int .i64 0,.str ⟨#[]⟩,.ref 2,.str ⟨#[]⟩,.ref 3],.bool false],[.row 26 2 (y.atom.args.map Tm.o),.row 29 5 (y.parts.map Fm.o),.row 26 2 [],.row 29 5 []]):=by
 have h:=Cr y hy hn
 rw [hv] at h
 refine Aj Hq Cb (of_decide_eq_true rfl) ?_
 simp (disch:=omega) only [EU,go_sem,Ab,h,AH,Fm.osv,Fm.obs,Tm.erss,Tm.noss,Fm.erss,Fm.noss]
def Hr:SC:=(.seq (.reg [⟨some 1,none,.boxv 29 5 (.t 0)⟩,⟨(some 2),none,(.alloc 29 [(.int .i64 0),(.str ⟨#[]⟩),.nil,(.str ⟨#[]⟩),.nil])⟩]) (.seq (.dreg [[],[0],[1,0],[2,1,0],[],[],[3,2,1,0,4,5],[6,3,2,1,0,4,5]] [⟨some 3,none,.load true 5 (.t 1)⟩,⟨some 4,none,.call 33 [(.t 3)]⟩,⟨some 5,none,.build [.nil,(.int .i64 0)] [(0,(1,(.t 4)))]⟩,⟨some 6,none,.boxv 60 2 (.t 5)⟩,⟨some 7,none,.load true 5 (.t 1)⟩,⟨some 8,none,.mkmap true none⟩,⟨some 9,none,.call 34 [(.t 6),(.t 7),(.t 8)]⟩,⟨none,none,(.store 5 (.t 2) (.t 9))⟩]) .ret))
theorem Ld:codeOf Tryz.prog 19=some ⟨10,Hr,[(.cell 2 true 5)]⟩:=by kernel_rfl
theorem DG:modes 19=⟨[],.own [none,none,some (26,2),none,some (29,5)],none,false⟩:=by unfold modes; rfl
def Cv:SC:=(.seq (.reg [⟨some 1,none,.boxv 29 5 (.t 0)⟩,⟨(some 2),none,(.alloc 29 [(.int .i64 0),(.str ⟨#[]⟩),.nil,(.str ⟨#[]⟩),.nil])⟩,⟨some 3,none,.mv (.c (.bool false))⟩]) (.seq (.seq (.reg [⟨some 4,none,.load true 5 (.t 1)⟩,⟨some 5,none,.call 16 [(.t 4)]⟩,⟨some 6,none,.un .not (.t 5)⟩]) (.cond (.t 6) (.seq (.reg [⟨(some 7),none,(.build [(.int .i64 0),(.str ⟨#[]⟩),.nil,(.str ⟨#[]⟩),.nil] [])⟩,⟨none,none,(.store 5 (.t 2) (.t 7))⟩,⟨some 3,none,.mv (.c (.bool false))⟩]) .ret) .skip)) (.seq (.reg [⟨some 8,none,.load true 5 (.t 1)⟩,⟨some 9,none,.call 19 [(.t 8)]⟩,⟨some 10,none,.call 17 [(.t 9)]⟩,⟨some 11,none,.ext (.t 10) 0⟩,⟨some 12,none,.ext (.t 10) 1⟩,⟨none,none,(.store 5 (.t 2) (.t 11))⟩,⟨some 3,none,.mv (.t 12)⟩]) .ret)))
theorem CU:codeOf Tryz.prog 7=some ⟨13,Cv,[(.cell 2 true 5),(.tmp 3)]⟩:=by kernel_rfl
theorem A9:modes 7=⟨[],.own [none,none,some (26,2),none,some (29,5),none],none,false⟩:=by unfold modes; rfl
theorem QW (tk:List ByteArray) (x:Fm) (hx:x.forms=true) (ih:∀ y∈x.parts,YL tk y):YL tk x:=by
 intro e c0 hf h0 hc0
 have hfo:=Fm.B8 hx
 have hpl:=Fm.length_le x.parts
 have hnq:=Fm.nodes_eq x
 have hat:=Fm.EW hfo
 have hse:=Fm.JG tk x e c0
 rw [hnq,yC,Int.add_mul] at hc0
 have hge1:((1:Nat):Int)*(tk.length+2:Nat)=tk.length+2:=by simp
 rw [hge1] at hc0
 have hgeS:(0:Int)≤(Fm.nodeS x.parts:Int)*(tk.length+2:Nat):=yF (by omega) (by omega)
 have hS2:(Fm.nodeS x.parts:Int)≤(Fm.nodeS x.parts:Int)*(tk.length+2:Nat):=by
  have h:=Int.mul_le_mul_of_nonneg_left (show (1:Int)≤((tk.length+2:Nat):Int) by omega) (show (0:Int)≤(Fm.nodeS x.parts:Int) by omega)
  rw [Int.mul_one] at h; exact h
 have hq0:=Cg x.op
 cases ho:dec (x.op=3) with
 | true =>
  rw [ho,cond_true] at hse
  rw [hse]
  have hrn:=OQ e x.atom (by omega)
  unfold RnC at hrn
  obtain ⟨z,hz⟩:∃ z,z=x.atom.rn e:=⟨_,rfl⟩
  rw [←hz] at hrn ⊢
  have hao:=VS z
  simp only [Tm.osv,Tm.obs] at hrn hao
  show E 34 [.ptr 0 0,x.sv,.mp true (Cm e)] [.box 60 [.ref 1,.int .i64 c0],.row 9 1 (tk.map fun s=>[OT.str s])]=some (.agg [.int .i64 3,.str z.name,.ref 2,.str ⟨#[]⟩,.ref 3],[.box 60 [.ref 1,.int .i64 c0],.row 9 1 (tk.map fun s=>[OT.str s]),.row 26 2 (z.args.map Tm.o),.row 29 5 []])
  refine Aj CI B7 (of_decide_eq_true rfl) ?_
  simp (disch:=omega) only [Cn,go_sem,Ab,ho,hrn,hao,BU,Jr]
 | false =>
  rw [ho,cond_false] at hse
  have hz:x.atom=Tm.zero:=Fm.EM hfo fun h=>by rw [Au h] at ho; cases ho
  cases hq:qB x.op with
  | false =>
   rw [hq,cond_false] at hse
   rw [hse,← hz]
   unfold qB at hq
   rw [hq] at hq0
   have hm:=PC 65 e tk (fun y c=>Fm.sep tk y e c) (fun k c=>0≤c∧c+(Fm.nodeS (x.parts.drop k):Int)*(tk.length+2:Nat)≤1099511000000) x c0 ⟨by omega,by rw [zM]; omega⟩ (by omega) (by omega) D5 (by rw [By]) (fun r=>by rw [By]; rfl) (fun k hk c hp=>by
    obtain ⟨p1,p2⟩:=hp
    rw [zB hk,Fm.nodeS,yC,Int.add_mul] at p2
    have hcnt:=Fm.Da tk x.parts[k] e c p1
    have hge0:(0:Int)≤(Fm.nodeS (x.parts.drop (k+1)):Int)*(tk.length+2:Nat):=yF (by omega) (by omega)
    exact ⟨YM tk x.parts[k] e c (ih x.parts[k] (zJ hk) e c hf p1 (by omega)),by omega,by omega⟩)
   obtain ⟨r,hr⟩:∃ r,r=Bo (fun y c=>Fm.sep tk y e c) x.parts c0:=⟨_,rfl⟩
   rw [←hr] at hm ⊢
   show E 34 [.ptr 0 0,x.sv,.mp true (Cm e)] [.box 60 [.ref 1,.int .i64 c0],.row 9 1 (tk.map fun s=>[OT.str s])]=some (.agg [.int .i64 x.op,.str x.atom.name,.ref 2,.str ⟨#[]⟩,.ref 3],[.box 60 [.ref 1,.int .i64 r.2],.row 9 1 (tk.map fun s=>[OT.str s]),.row 26 2 (x.atom.args.map Tm.o),.row 29 5 (r.1.map Fm.o)])
   refine Aj CI B7 (of_decide_eq_true rfl) ?_
   simp (disch:=omega) only [Cn,go_sem,Ab,ho,hq0,hm,AZ,Ac,Do]
  | true =>
   rw [hq,cond_true] at hse
   rw [hse,← hz]
   unfold qB at hq
   rw [hq] at hq0
   have hfr:=Di BC tk c0
   have hnx:=VT tk c0 h0 (by omega)
   obtain ⟨cf,hcf⟩:∃ cf,cf=fresh BC tk c0:=⟨_,rfl⟩
   rw [←hcf] at hnx hfr ⊢
   obtain ⟨v,hv⟩:∃ v,v=pre BC cf:=⟨_,rfl⟩
   rw [←hv] at hnx ⊢
   have hpm:=TU e x.var v
   obtain ⟨e1,he1⟩:∃ e1,e1=DP e x.var v:=⟨_,rfl⟩
   have hf1:FinS e1:=by rw [he1]; exact hf.put x.var v
   rw [←he1] at hpm ⊢
   have hm:=PD 65 e1 tk (fun y c=>Fm.sep tk y e1 c) (fun k c=>0≤c∧c+(Fm.nodeS (x.parts.drop k):Int)*(tk.length+2:Nat)≤1099511000000) x cf ⟨by omega,by rw [zM]; omega⟩ (by omega) (by omega) D5 (by rw [By]) (fun r=>by rw [By]; rfl) (fun k hk c hp=>by
    obtain ⟨p1,p2⟩:=hp
    rw [zB hk,Fm.nodeS,yC,Int.add_mul] at p2
    have hcnt:=Fm.Da tk x.parts[k] e1 c p1
    have hge0:(0:Int)≤(Fm.nodeS (x.parts.drop (k+1)):Int)*(tk.length+2:Nat):=yF (by omega) (by omega)
    exact ⟨YN tk x.parts[k] e1 c (ih x.parts[k] (zJ hk) e1 c hf1 p1 (by omega)),by omega,by omega⟩)
   obtain ⟨r,hr⟩:∃ r,r=Bo (fun y c=>Fm.sep tk y e1 c) x.parts cf:=⟨_,rfl⟩
   rw [←hr] at hm ⊢
   show E 34 [.ptr 0 0,x.sv,.mp true (Cm e)] [.box 60 [.ref 1,.int .i64 c0],.row 9 1 (tk.map fun s=>[OT.str s])]=some (.agg [.int .i64 x.op,.str x.atom.name,.ref 2,.str v,.ref 3],[.box 60 [.ref 1,.int .i64 r.2],.row 9 1 (tk.map fun s=>[OT.str s]),.row 26 2 (x.atom.args.map Tm.o),.row 29 5 (r.1.map Fm.o)])
   refine Aj CI B7 (of_decide_eq_true rfl) ?_
   simp (disch:=omega) only [Cn,go_sem,Ab,ho,hq0,hnx,Ac,Do]
   refine Vg (Cm e) hf.enum (.exit 0,⟨slots 47 0 [(3,.ptr 2 0),(4,.ptr 3 0),(5,.ptr 4 0),(6,.ptr 5 0),(7,.str v),(8,.ref 6)],[.box 60 [.ref 1,.int .i64 cf],.row 9 1 (tk.map fun s=>[OT.str s]),.box 57 [.ptr 0 0],.box 29 [.int .i64 x.op,.str x.atom.name,.arr (x.atom.args.map Tm.d),.str x.var,.arr (x.parts.map Fm.d)],.box 62 [.mp true (Cm e)],.box 29 [.int .i64 0,.str ⟨#[]⟩,.nil,.str ⟨#[]⟩,.nil],.mp true (Cm e)]⟩) (by simp (disch:=omega) only [go_sem,Ab,hpm,hm,AZ]) (fun p=>⟨slots 47 0 [(3,.ptr 2 0),(4,.ptr 3 0),(5,.ptr 4 0),(6,.ptr 5 0),(7,.str v),(8,.ref 6),(27,.ptr 7 0)],[.box 60 [.ref 1,.int .i64 cf],.row 9 1 (tk.map fun s=>[OT.str s]),.box 57 [.ptr 0 0],.box 29 [.int .i64 x.op,.str x.atom.name,.arr (x.atom.args.map Tm.d),.str x.var,.arr (x.parts.map Fm.d)],.box 62 [.mp true (Cm e)],.box 29 [.int .i64 0,.str ⟨#[]⟩,.nil,.str ⟨#[]⟩,.nil],.mp true (OI p),.it true (Cm e) (p.map (·.1)).reverse p.getLast?]⟩) 7 true (by simp (disch:=omega) only [go_sem,Ab]; exact ⟨rfl,rfl⟩) (fun p=>by simp (disch:=omega) only [go_sem,Ab]) (fun p q y _ _ hyq _=>?_) (fun p hp=>?_)
   ·cases q with
    | int i=>cases hyq
    | str s =>
     rw [FI] at hyq
     cases hs:e s with
     | none=>rw [hs] at hyq; cases hyq
     | some w =>
      rw [hs] at hyq
      obtain rfl:=yB hyq
      simp (disch:=omega) only [go_sem,Ab,RQ,List.getLast?_append,zW,List.reverse_append]
      rfl
   ·simp (disch:=omega) only [go_sem,Ab,Vy hp]
theorem N1 (tk:List ByteArray) (x:Fm) (hx:x.forms=true):YL tk x :=
 QW tk x hx fun y hy=>N1 tk y (Fm.BE hx hy)
termination_by SizeOf.sizeOf x
decreasing_by exact Fm.lt_of_mem hy
theorem Ue (x:Fm) (hx:x.forms=true) (hn:x.nodes≤40):x.vn≤1200∧x.free.length≤1200∧(x.nodes:Int)*(x.free.length+2:Nat)≤48080:=by
 have h1:=Fm.XI x hx
 have h2:=Hg (x.fv []) []
 have h3:=Fm.Nd x []
 have h4:x.free.length≤1200:=by
  simp only [zN] at h2
  show (HP [] (x.fv [])).length≤_
  omega
 refine ⟨by omega,h4,?_⟩
 have h5:=Nat.mul_le_mul hn (show x.free.length+2≤1202 by omega)
 rw [←Int.natCast_mul]
 omega
theorem QX (x:Fm) (hx:x.forms=true) (hn:x.nodes≤40):E 19 [x.sv] []=some ((Kt x).osv,(Kt x).obs):=by
 obtain ⟨b1,b2,b3⟩:=Ue x hx hn
 have hfr:=YF x hx (by omega) (by omega)
 have hs:=N1 x.free x hx (fun _=>none) 0 FinS.none (by omega) (by omega)
 rw [RR] at hs
 unfold Kt
 obtain ⟨r,hr⟩:∃ r,r=x.sep x.free (fun _=>none) 0:=⟨_,rfl⟩
 rw [←hr] at hs ⊢
 refine Aj Ld DG (of_decide_eq_true rfl) ?_
 simp (disch:=omega) only [Hr,go_sem,Ab,hfr,hs,Is,B7,Fm.osv,Fm.obs]
theorem IV (x:Fm) (hta:x.tame) (hn:x.nodes≤1099511627776):E 7 [x.sv] []=some (.tup [(Nm x).osv,.bool (Ku x)],(Nm x).obs):=by
 have h1:=Cr x hta hn
 have hz1:Fm.zero.osv=.agg [.int .i64 0,.str ⟨#[]⟩,.ref 0,.str ⟨#[]⟩,.ref 1]:=rfl
 have hz2:Fm.zero.obs=[.row 26 2 [],.row 29 5 []]:=rfl
 unfold Nm Ku
 cases hv:x.valid with
 | false =>
  rw [hv] at h1
  rw [zA,cond_false,hz1,hz2]
  refine Aj CU A9 (of_decide_eq_true rfl) ?_
  simp (disch:=omega) only [Cv,go_sem,Ab,h1,AH,DG,Cb,Fm.osv,Fm.obs]
 | true =>
  rw [hv] at h1
  rw [zD]
  have hva:=hv
  unfold Fm.valid at hva
  rw [zZ,decide_eq_true_eq] at hva
  obtain ⟨hva1,hva2⟩:=hva
  have hs:=QX x hva2 hva1
  obtain ⟨hp1,hp2⟩:=Fm.IO x.free x hva2 (fun _=>none) 0
  have e0:(x.sep x.free (fun _=>none) 0).1=Kt x:=rfl
  rw [e0] at hp1 hp2
  generalize Kt x=y at *
  cases hq:y.valid with
  | true =>
   have hi:=Js y hp1 (by omega) hq
   rw [cond_true]
   refine Aj CU A9 (of_decide_eq_true rfl) ?_
   simp (disch:=omega) only [Cv,go_sem,Ab,h1,hs,hi,AH,DG,Cb,Fm.osv,Fm.obs]
  | false =>
   have hi:=K2 y hp1 (by omega) hq
   rw [cond_false,hz1,hz2]
   refine Aj CU A9 (of_decide_eq_true rfl) ?_
   simp (disch:=omega) only [Cv,go_sem,Ab,h1,hs,hi,AH,DG,Cb,Fm.osv,Fm.obs]
def N2:SC:=(.seq (.reg [⟨some 1,none,.boxv 29 5 (.t 0)⟩,⟨(some 2),none,(.alloc 29 [(.int .i64 0),(.str ⟨#[]⟩),.nil,(.str ⟨#[]⟩),.nil])⟩]) (.seq (.reg [⟨some 3,none,.load true 5 (.t 1)⟩,⟨(some 4),none,(.mkrow 29 5 [(.int .i64 0),(.str ⟨#[]⟩),.nil,(.str ⟨#[]⟩),.nil] 1 [(0,(.t 3))])⟩,⟨(some 5),none,(.build [(.int .i64 0),(.str ⟨#[]⟩),.nil,(.str ⟨#[]⟩),.nil] [(0,(1,(.c (.int .i64 4)))),(4,(1,(.t 4)))])⟩,⟨none,none,(.store 5 (.t 2) (.t 5))⟩]) .ret))
theorem Sk:codeOf Tryz.prog 29=some ⟨6,N2,[(.cell 2 true 5)]⟩:=by kernel_rfl
theorem Dp:modes 29=⟨[true],.own [none,none,some (26,2),none,some (29,5)],none,false⟩:=by unfold modes; rfl
theorem Zt (y:Fm):E 29 [.agg [.int .i64 y.op,.str y.atom.name,.ref 0,.str y.var,.ref 1]] [.row 26 2 (y.atom.args.map Tm.o),.row 29 5 (y.parts.map Fm.o)]=some (.agg [.int .i64 4,.str ⟨#[]⟩,.ref 2,.str ⟨#[]⟩,.ref 3],[.gone,.gone,.row 26 2 [],.row 29 5 [Fm.o y]]):=by
 have ho:=Fm.o_eq y
 rw [ho]
 refine Aj Sk Dp (of_decide_eq_true rfl) ?_
 simp (disch:=omega) only [N2,go_sem,Ab,Fm.osv,Fm.obs]
def Jt:SC:=(.seq (.reg [⟨some 4,none,.boxv 29 5 (.t 1)⟩,⟨some 5,none,.boxv 29 5 (.t 2)⟩,⟨(some 6),none,(.alloc 29 [(.int .i64 0),(.str ⟨#[]⟩),.nil,(.str ⟨#[]⟩),.nil])⟩]) (.seq (.reg [⟨some 7,none,.mv (.t 0)⟩,⟨some 8,none,.load true 5 (.t 4)⟩,⟨some 9,none,.load true 5 (.t 5)⟩,⟨(some 10),none,(.mkrow 29 5 [(.int .i64 0),(.str ⟨#[]⟩),.nil,(.str ⟨#[]⟩),.nil] 2 [(0,(.t 8)),(1,(.t 9))])⟩,⟨(some 11),none,(.build [(.int .i64 0),(.str ⟨#[]⟩),.nil,(.str ⟨#[]⟩),.nil] [(0,(1,(.t 7))),(4,(1,(.t 10)))])⟩,⟨none,none,(.store 5 (.t 6) (.t 11))⟩]) .ret))
theorem NP:codeOf Tryz.prog 30=some ⟨12,Jt,[(.cell 6 true 5)]⟩:=by kernel_rfl
theorem Cw:modes 30=⟨[false,true,true],.own [none,none,some (26,2),none,some (29,5)],none,false⟩:=by unfold modes; rfl
theorem QY (op:Int) (y z:Fm):E 30 [.int .i64 op,.agg [.int .i64 y.op,.str y.atom.name,.ref 0,.str y.var,.ref 1],.agg [.int .i64 z.op,.str z.atom.name,.ref 2,.str z.var,.ref 3]] [.row 26 2 (y.atom.args.map Tm.o),.row 29 5 (y.parts.map Fm.o),.row 26 2 (z.atom.args.map Tm.o),.row 29 5 (z.parts.map Fm.o)]=some (.agg [.int .i64 op,.str ⟨#[]⟩,.ref 4,.str ⟨#[]⟩,.ref 5],[.gone,.gone,.gone,.gone,.row 26 2 [],.row 29 5 [Fm.o y,Fm.o z]]):=by
 have ho:=Fm.o_eq y
 have ho2:=Fm.o_eq z
 rw [ho,ho2]
 refine Aj NP Cw (of_decide_eq_true rfl) ?_
 simp (disch:=omega) only [Jt,go_sem,Ab,Fm.osv,Fm.obs]
end Go.Proofs.YtfgkiemoglcppaaGreatDoor
