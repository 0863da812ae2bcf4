/-
  Texts of this claim, one behind the other, each built on those ahead of it. No condition.
-/
import Derived.Test.YtkjpmfmjebkkiaaGreatK34b
import Derived.Test.YtkjpmfmjebkkiaaGreatK34c
set_option maxHeartbeats 16000000
open List renaming drop_eq_getElem_cons → zB, drop_eq_nil_of_le → zE, drop_zero → zG, getElem_mem → zH, length_cons → zI, eq_nil_of_length_eq_zero → zL, length_nil → zM, mem_cons → zO, getElem?_eq_getElem → zP, map_nil → zQ, nil_append → zS, foldl_cons → zT, append_nil → zV, length_map → zW, length_take → zY, all_eq_true → zZ, not_mem_nil → z6, map_map → z7, pairwise_cons → yA, map_cons → yB, getElem?_map → yC, getElem?_append_right → yE, length_append → yH, nodup_nil → yI, getElem?_set_self → yJ, nodup_cons → yM, getD_eq_getElem?_getD → yN, take_length → yR, mem_map → yT, length_set → yU, take_zero → yV, foldl_nil → yW, map → yX
open Bool renaming and_eq_true → zC, false_and → zD, true_and → zJ, and_false → zU, and_true → zX, and_self → yF, or_eq_true → yG, or_eq_false_iff → yL, false_eq_true → yO, eq_false_iff → yP
open Nat renaming lt_or_ge → zF, zero_le → zK, eq_zero_or_pos → zN, le_refl → zR, zero_add → z8, reduceEqDiff → yK, reduceAdd → yQ, add_zero → yS
open Int renaming toNat_zero → yD
set_option maxRecDepth 100000
set_option linter.unusedSimpArgs false
set_option linter.unusedVariables false
set_option linter.unusedSectionVars false
namespace Go.Proofs.YtkjpmfmjebkkiaaGreat
open Go.RowKit
def CP:SC:=(.seq (.reg [⟨some 2,none,.mv (.c (.bool false))⟩]) (.seq (.reg [⟨some 3,none,.mv (.t 0)⟩,⟨some 4,none,.bin .eql false (.t 3) (.c (.int .i64 8))⟩,⟨some 5,none,.mv (.t 4)⟩,⟨(some 6),(some (5,false)),(.mv (.t 0))⟩,⟨(some 7),(some (5,false)),(.bin .eql false (.t 6) (.c (.int .i64 9)))⟩,⟨some 8,none,.pick (.t 5) (.c (.bool true)) (.t 7)⟩,⟨some 2,none,.mv (.t 8)⟩]) .ret))
theorem Eu:codeOf Tryz.prog 153=some ⟨9,CP,[(.tmp 2)]⟩:=by kernel_rfl
theorem Ac:modes 153=⟨[],.asis,none,false⟩:=by unfold modes; rfl
def GQ:SC:=(.seq (.reg [⟨some 2,none,.mv (.c (.bool false))⟩]) (.seq (.reg [⟨some 3,none,.mv (.t 0)⟩,⟨some 4,none,.bin .eql false (.t 3) (.c (.int .i64 5))⟩,⟨some 5,none,.mv (.t 4)⟩,⟨(some 6),(some (5,false)),(.mv (.t 0))⟩,⟨(some 7),(some (5,false)),(.bin .eql false (.t 6) (.c (.int .i64 6)))⟩,⟨some 8,none,.pick (.t 5) (.c (.bool true)) (.t 7)⟩,⟨some 9,none,.mv (.t 8)⟩,⟨(some 10),(some (9,false)),(.mv (.t 0))⟩,⟨(some 11),(some (9,false)),(.bin .eql false (.t 10) (.c (.int .i64 7)))⟩,⟨some 12,none,.pick (.t 9) (.c (.bool true)) (.t 11)⟩,⟨some 2,none,.mv (.t 12)⟩]) .ret))
theorem Mi:codeOf Tryz.prog 154=some ⟨13,GQ,[(.tmp 2)]⟩:=by kernel_rfl
theorem Ah:modes 154=⟨[],.asis,none,false⟩:=by unfold modes; rfl
def Dw:SC:=(.seq (.reg [⟨some 1,none,.boxv 31 2 (.t 0)⟩,⟨some 2,none,.mv (.c (.bool false))⟩]) (.seq (.reg [⟨some 3,none,.faddr 0 (.t 1)⟩,⟨some 4,none,.load false 1 (.t 3)⟩,⟨(some 5),none,(.bin .eql false (.t 4) (.c (.str ⟨#[]⟩)))⟩,⟨some 6,none,.mv (.t 5)⟩,⟨(some 7),(some (6,true)),(.faddr 1 (.t 1))⟩,⟨(some 8),(some (6,true)),(.load false 1 (.t 7))⟩,⟨(some 9),(some (6,true)),(.len false (.t 8))⟩,⟨(some 10),(some (6,true)),(.bin .eql false (.t 9) (.c (.int .i64 0)))⟩,⟨some 11,none,.pick (.t 6) (.t 10) (.c (.bool false))⟩,⟨some 2,none,.mv (.t 11)⟩]) .ret))
theorem Fv:codeOf Tryz.prog 156=some ⟨12,Dw,[(.tmp 2)]⟩:=by kernel_rfl
theorem Af:modes 156=⟨[],.asis,none,false⟩:=by unfold modes; rfl
def FJ:SC:=(.seq (.reg [⟨some 1,none,.boxv 31 2 (.t 0)⟩,⟨some 2,none,.mv (.c (.bool false))⟩]) (.seq (.reg [⟨some 3,none,.faddr 0 (.t 1)⟩,⟨some 4,none,.load false 1 (.t 3)⟩,⟨(some 5),none,(.bin .eql false (.t 4) (.c (.str ⟨#[]⟩)))⟩,⟨some 6,none,.mv (.t 5)⟩,⟨(some 7),(some (6,true)),(.faddr 1 (.t 1))⟩,⟨(some 8),(some (6,true)),(.load false 1 (.t 7))⟩,⟨(some 9),(some (6,true)),(.len false (.t 8))⟩,⟨(some 10),(some (6,true)),(.bin .eql false (.t 9) (.c (.int .i64 0)))⟩,⟨some 11,none,.pick (.t 6) (.t 10) (.c (.bool false))⟩,⟨some 2,none,.mv (.t 11)⟩]) .ret))
theorem Jd:codeOf Tryz.prog 195=some ⟨12,FJ,[(.tmp 2)]⟩:=by kernel_rfl
theorem Al:modes 195=⟨[],.asis,none,false⟩:=by unfold modes; rfl
def AW:SC:=(.seq (.reg [⟨some 4,none,.mv (.c (.int .i64 0))⟩]) (.seq (.seq (.reg [⟨some 6,none,.mv (.t 0)⟩,⟨some 7,none,.len false (.t 6)⟩,⟨some 8,none,.mv (.c (.int .i64 0))⟩]) (.block 0 (.loop [1,1,0,0,0,0,0,1,1,0,0,0,0,0,0,0,0,0,0] (.seq (.reg [⟨some 9,none,.bin .lss false (.t 8) (.t 7)⟩]) (.seq (.cond (.t 9) .skip (.exit 0)) (.seq (.block 1 (.seq (.reg [⟨some 10,none,.mv (.t 8)⟩,⟨some 5,none,.mv (.t 10)⟩]) (.seq (.reg [⟨some 11,none,.mv (.t 1)⟩,⟨some 12,none,.mv (.t 0)⟩,⟨some 13,none,.mv (.t 5)⟩,⟨some 14,none,.iaddr 5 (.t 12) (.t 13)⟩,⟨some 15,none,.load true 5 (.t 14)⟩,⟨some 16,none,.callv (.t 11) [(.t 15)]⟩]) (.cond (.t 16) (.seq (.reg [⟨some 17,none,.mv (.t 5)⟩,⟨some 4,none,.mv (.t 17)⟩]) .ret) .skip)))) (.reg [⟨some 18,none,.bin .add false (.t 8) (.c (.int .i64 1))⟩,⟨some 8,none,.mv (.t 18)⟩]))))))) (.seq (.reg [⟨some 4,none,.mv (.c (.int .i64 (-(0+1))))⟩]) .ret)))
theorem BW:codeOf Tryz.prog 176=some ⟨19,AW,[(.tmp 4)]⟩:=by kernel_rfl
theorem AX:modes 176=⟨[],.asis,none,false⟩:=by unfold modes; rfl
def AR:SC:=(.seq (.reg [⟨some 4,none,.mv (.c (.bool false))⟩]) (.seq (.reg [⟨some 5,none,.mv (.t 0)⟩,⟨some 6,none,.mv (.t 1)⟩,⟨some 7,none,.call 176 [(.t 5),(.t 6)]⟩,⟨some 8,none,.bin .geq false (.t 7) (.c (.int .i64 0))⟩,⟨some 4,none,.mv (.t 8)⟩]) .ret))
theorem BK:codeOf Tryz.prog 124=some ⟨9,AR,[(.tmp 4)]⟩:=by kernel_rfl
theorem Aa:modes 124=⟨[],.asis,none,false⟩:=by unfold modes; rfl
theorem Mj (fid:Nat) (p:Fm→Bool) (xs:List Fm) (hl:xs.length≤1099511627776) (hg:IF Tryz.prog fid=true) (hm:(modes fid).hand=[]) (hE:∀ x∈xs,E fid [x.sv] []=some (.bool (p x),[])):E 176 [.arr (xs.map Fm.d),.fn fid []] []=some (.int .i64 (FF p xs 0),[]):=by
 refine Ai BW AX (of_decide_eq_true rfl) ?_
 simp (disch:=omega) only [AW,go_sem,Ab]
 refine go_loop (α:=Int) (fun a=>⟨slots 19 0 [(0,.arr (xs.map Fm.d)),(1,.fn fid []),(7,.int .i64 xs.length),(8,.int .i64 a)],[]⟩) (fun a=>∃ k:Nat,a=k∧k≤(xs).length∧FF p (xs.drop k) a=FF p xs 0) (fun a=>(xs).length-(a).toNat) 0 ⟨0,rfl,zK _,by rw [zG]⟩ (by simp (disch:=omega) only [go_sem,Ab]) ?_
 rintro i ⟨k,hi,hk,hR⟩
 have hni:i.toNat=k:=by omega
 have hni1:(i+1).toNat=k+1:=by omega
 rcases zF k (xs).length with hlt | hge
 ·have hg':=get_at Fm.d hlt
  rw [Fm.d_eq] at hg'
  have hc:=hE xs[k] (zH hlt)
  rw [zB hlt,FF] at hR
  cases hp:p xs[k] with
  | true =>
   rw [hp] at hc hR
   simp (disch:=omega) only [go_sem,Ab,hni,hg',hc,hg,hm]
   simpa using hR
  | false =>
   rw [hp] at hc hR
   simp (disch:=omega) only [go_sem,Ab,hni,hg',hc,hg,hm]
   exact ⟨i+1,⟨k+1,by omega,hlt,by simpa using hR⟩,by omega,by first | trivial | rfl⟩
 ·rw [zE hge,FF] at hR
  simp (disch:=omega) only [go_sem,Ab,hni]
  exact hR
theorem JF (fid:Nat) (p:Fm→Bool) (xs:List Fm) (hl:xs.length≤1099511627776) (hg:IF Tryz.prog fid=true) (hm:(modes fid).hand=[]) (hE:∀ x∈xs,E fid [x.sv] []=some (.bool (p x),[])):E 124 [.arr (xs.map Fm.d),.fn fid []] []=some (.bool (xs.any p),[]):=by
 have h:=Mj fid p xs hl hg hm hE
 refine Ai BK Aa (of_decide_eq_true rfl) ?_
 simp (disch:=omega) only [AR,go_sem,Ab,h,AX]
 rw [N8]
def Av:SC:=(.seq (.reg [⟨some 1,none,.boxv 34 5 (.t 0)⟩,⟨some 2,none,.mv (.c (.bool false))⟩]) (.seq (.reg [⟨some 3,none,.mv (.c (.int .i64 0))⟩]) (.seq (.block 0 (.seq (.seq (.reg [⟨some 5,none,.faddr 0 (.t 1)⟩,⟨some 6,none,.load false 1 (.t 5)⟩,⟨some 7,none,.bin .eql false (.t 6) (.c (.int .i64 1))⟩,⟨some 4,none,.mv (.t 7)⟩]) (.cond (.t 4) .skip (.seq (.reg [⟨some 8,none,.faddr 0 (.t 1)⟩,⟨some 9,none,.load false 1 (.t 8)⟩,⟨some 10,none,.bin .eql false (.t 9) (.c (.int .i64 2))⟩,⟨some 4,none,.mv (.t 10)⟩]) (.cond (.t 4) .skip (.reg [⟨some 11,none,.faddr 0 (.t 1)⟩,⟨some 12,none,.load false 1 (.t 11)⟩,⟨some 13,none,.bin .eql false (.t 12) (.c (.int .i64 3))⟩,⟨some 4,none,.mv (.t 13)⟩]))))) (.cond (.t 4) .skip (.seq (.seq (.reg [⟨some 15,none,.faddr 0 (.t 1)⟩,⟨some 16,none,.load false 1 (.t 15)⟩,⟨some 17,none,.bin .eql false (.t 16) (.c (.int .i64 4))⟩,⟨some 14,none,.mv (.t 17)⟩]) (.cond (.t 14) .skip (.reg [⟨some 18,none,.faddr 0 (.t 1)⟩,⟨some 19,none,.load false 1 (.t 18)⟩,⟨some 20,none,.call 153 [(.t 19)]⟩,⟨some 14,none,.mv (.t 20)⟩]))) (.cond (.t 14) (.reg [⟨some 3,none,.mv (.c (.int .i64 1))⟩]) (.seq (.reg [⟨some 22,none,.faddr 0 (.t 1)⟩,⟨some 23,none,.load false 1 (.t 22)⟩,⟨some 24,none,.call 154 [(.t 23)]⟩,⟨some 21,none,.mv (.t 24)⟩]) (.cond (.t 21) (.reg [⟨some 3,none,.mv (.c (.int .i64 2))⟩]) (.seq (.reg [⟨some 2,none,.mv (.c (.bool false))⟩]) .ret)))))))) (.seq (.seq (.reg [⟨some 25,none,.faddr 4 (.t 1)⟩,⟨some 26,none,.load false 1 (.t 25)⟩,⟨some 27,none,.len false (.t 26)⟩,⟨some 28,none,.mv (.t 3)⟩,⟨some 29,none,.bin .neq false (.t 27) (.t 28)⟩,⟨some 30,none,.mv (.t 29)⟩,⟨(some 31),(some (30,false)),(.faddr 0 (.t 1))⟩,⟨(some 32),(some (30,false)),(.load false 1 (.t 31))⟩,⟨(some 33),(some (30,false)),(.call 153 [(.t 32)])⟩,⟨(some 34),(some (30,false)),(.mv (.t 33))⟩,⟨(some 35),(some (34,true)),(.faddr 3 (.t 1))⟩,⟨(some 36),(some (34,true)),(.load false 1 (.t 35))⟩,⟨(some 37),(some (34,true)),(.call 127 [(.t 36)])⟩,⟨(some 38),(some (34,true)),(.un .not (.t 37))⟩,⟨(some 39),(some (30,false)),(.pick (.t 34) (.t 38) (.c (.bool false)))⟩,⟨some 40,none,.pick (.t 30) (.c (.bool true)) (.t 39)⟩,⟨some 41,none,.mv (.t 40)⟩,⟨(some 42),(some (41,false)),(.faddr 0 (.t 1))⟩,⟨(some 43),(some (41,false)),(.load false 1 (.t 42))⟩,⟨(some 44),(some (41,false)),(.call 153 [(.t 43)])⟩,⟨(some 45),(some (41,false)),(.un .not (.t 44))⟩,⟨(some 46),(some (41,false)),(.mv (.t 45))⟩,⟨(some 47),(some (46,true)),(.faddr 3 (.t 1))⟩,⟨(some 48),(some (46,true)),(.load false 1 (.t 47))⟩,⟨(some 49),(some (46,true)),(.bin .neq false (.t 48) (.c (.str ⟨#[]⟩)))⟩,⟨(some 50),(some (41,false)),(.pick (.t 46) (.t 49) (.c (.bool false)))⟩,⟨some 51,none,.pick (.t 41) (.c (.bool true)) (.t 50)⟩]) (.cond (.t 51) (.seq (.reg [⟨some 2,none,.mv (.c (.bool false))⟩]) .ret) .skip)) (.seq (.seq (.reg [⟨some 52,none,.faddr 0 (.t 1)⟩,⟨some 53,none,.load false 1 (.t 52)⟩,⟨some 54,none,.bin .eql false (.t 53) (.c (.int .i64 3))⟩,⟨some 55,none,.mv (.t 54)⟩,⟨(some 56),(some (55,true)),(.faddr 1 (.t 1))⟩,⟨(some 57),(some (55,true)),(.load true 2 (.t 56))⟩,⟨(some 58),(some (55,true)),(.call 155 [(.t 57)])⟩,⟨(some 59),(some (55,true)),(.un .not (.t 58))⟩,⟨some 60,none,.pick (.t 55) (.t 59) (.c (.bool false))⟩,⟨some 61,none,.mv (.t 60)⟩,⟨(some 62),(some (61,false)),(.faddr 0 (.t 1))⟩,⟨(some 63),(some (61,false)),(.load false 1 (.t 62))⟩,⟨(some 64),(some (61,false)),(.bin .neq false (.t 63) (.c (.int .i64 3)))⟩,⟨(some 65),(some (61,false)),(.mv (.t 64))⟩,⟨(some 66),(some (65,true)),(.faddr 1 (.t 1))⟩,⟨(some 67),(some (65,true)),(.load true 2 (.t 66))⟩,⟨(some 68),(some (65,true)),(.call 156 [(.t 67)])⟩,⟨(some 69),(some (65,true)),(.un .not (.t 68))⟩,⟨(some 70),(some (61,false)),(.pick (.t 65) (.t 69) (.c (.bool false)))⟩,⟨some 71,none,.pick (.t 61) (.c (.bool true)) (.t 70)⟩]) (.cond (.t 71) (.seq (.reg [⟨some 2,none,.mv (.c (.bool false))⟩]) .ret) .skip)) (.seq (.reg [⟨some 72,none,.faddr 4 (.t 1)⟩,⟨some 73,none,.load false 1 (.t 72)⟩,⟨some 74,none,.call 124 [(.t 73),(.c (.fn 157 []))]⟩,⟨some 75,none,.un .not (.t 74)⟩,⟨some 2,none,.mv (.t 75)⟩]) .ret))))))
theorem Ax:codeOf Tryz.prog 99=some ⟨76,Av,[(.tmp 2)]⟩:=by kernel_rfl
theorem Au:modes 99=⟨[],.asis,none,false⟩:=by unfold modes; rfl
def Gq:SC:=(.seq (.reg [⟨some 1,none,.boxv 34 5 (.t 0)⟩,⟨some 2,none,.mv (.c (.bool false))⟩]) (.seq (.reg [⟨some 3,none,.load true 5 (.t 1)⟩,⟨some 4,none,.call 99 [(.t 3)]⟩,⟨some 5,none,.un .not (.t 4)⟩,⟨some 2,none,.mv (.t 5)⟩]) .ret))
theorem Lp:codeOf Tryz.prog 157=some ⟨6,Gq,[(.tmp 2)]⟩:=by kernel_rfl
theorem Gr:modes 157=⟨[],.asis,none,false⟩:=by unfold modes; rfl
theorem Lq:IF Tryz.prog 157=true:=by kernel_rfl
def A9:SC:=(.seq (.reg [⟨some 1,none,.boxv 34 5 (.t 0)⟩,⟨some 2,none,.mv (.c (.bool false))⟩]) (.seq (.reg [⟨some 4,none,.faddr 4 (.t 1)⟩,⟨some 5,none,.load false 1 (.t 4)⟩,⟨some 6,none,.len false (.t 5)⟩,⟨some 3,none,.mv (.t 6)⟩]) (.seq (.seq (.reg [⟨some 7,none,.faddr 0 (.t 1)⟩,⟨some 8,none,.load false 1 (.t 7)⟩]) (.block 0 (.seq (.seq (.reg [⟨some 10,none,.bin .eql false (.t 8) (.c (.int .i64 1))⟩,⟨some 9,none,.mv (.t 10)⟩]) (.cond (.t 9) .skip (.reg [⟨some 11,none,.bin .eql false (.t 8) (.c (.int .i64 2))⟩,⟨some 9,none,.mv (.t 11)⟩]))) (.cond (.t 9) (.seq (.reg [⟨some 12,none,.mv (.t 3)⟩,⟨some 13,none,.bin .eql false (.t 12) (.c (.int .i64 0))⟩,⟨some 14,none,.mv (.t 13)⟩,⟨(some 15),(some (14,true)),(.faddr 1 (.t 1))⟩,⟨(some 16),(some (14,true)),(.load true 2 (.t 15))⟩,⟨(some 17),(some (14,true)),(.call 195 [(.t 16)])⟩,⟨some 18,none,.pick (.t 14) (.t 17) (.c (.bool false))⟩,⟨some 19,none,.mv (.t 18)⟩,⟨(some 20),(some (19,true)),(.faddr 3 (.t 1))⟩,⟨(some 21),(some (19,true)),(.load false 1 (.t 20))⟩,⟨(some 22),(some (19,true)),(.bin .eql false (.t 21) (.c (.str ⟨#[]⟩)))⟩,⟨some 23,none,.pick (.t 19) (.t 22) (.c (.bool false))⟩,⟨some 2,none,.mv (.t 23)⟩]) .ret) (.seq (.reg [⟨some 25,none,.bin .eql false (.t 8) (.c (.int .i64 3))⟩,⟨some 24,none,.mv (.t 25)⟩]) (.cond (.t 24) (.seq (.reg [⟨some 26,none,.mv (.t 3)⟩,⟨some 27,none,.bin .eql false (.t 26) (.c (.int .i64 0))⟩,⟨some 28,none,.mv (.t 27)⟩,⟨(some 29),(some (28,true)),(.faddr 1 (.t 1))⟩,⟨(some 30),(some (28,true)),(.load true 2 (.t 29))⟩,⟨(some 31),(some (28,true)),(.call 106 [(.t 30)])⟩,⟨some 32,none,.pick (.t 28) (.t 31) (.c (.bool false))⟩,⟨some 33,none,.mv (.t 32)⟩,⟨(some 34),(some (33,true)),(.faddr 3 (.t 1))⟩,⟨(some 35),(some (33,true)),(.load false 1 (.t 34))⟩,⟨(some 36),(some (33,true)),(.bin .eql false (.t 35) (.c (.str ⟨#[]⟩)))⟩,⟨some 37,none,.pick (.t 33) (.t 36) (.c (.bool false))⟩,⟨some 2,none,.mv (.t 37)⟩]) .ret) (.seq (.reg [⟨some 39,none,.bin .eql false (.t 8) (.c (.int .i64 4))⟩,⟨some 38,none,.mv (.t 39)⟩]) (.cond (.t 38) (.seq (.reg [⟨some 40,none,.mv (.t 3)⟩,⟨some 41,none,.bin .eql false (.t 40) (.c (.int .i64 1))⟩,⟨some 42,none,.mv (.t 41)⟩,⟨(some 43),(some (42,true)),(.faddr 1 (.t 1))⟩,⟨(some 44),(some (42,true)),(.load true 2 (.t 43))⟩,⟨(some 45),(some (42,true)),(.call 195 [(.t 44)])⟩,⟨some 46,none,.pick (.t 42) (.t 45) (.c (.bool false))⟩,⟨some 47,none,.mv (.t 46)⟩,⟨(some 48),(some (47,true)),(.faddr 3 (.t 1))⟩,⟨(some 49),(some (47,true)),(.load false 1 (.t 48))⟩,⟨(some 50),(some (47,true)),(.bin .eql false (.t 49) (.c (.str ⟨#[]⟩)))⟩,⟨some 51,none,.pick (.t 47) (.t 50) (.c (.bool false))⟩,⟨some 2,none,.mv (.t 51)⟩]) .ret) (.seq (.seq (.reg [⟨some 53,none,.bin .eql false (.t 8) (.c (.int .i64 5))⟩,⟨some 52,none,.mv (.t 53)⟩]) (.cond (.t 52) .skip (.seq (.reg [⟨some 54,none,.bin .eql false (.t 8) (.c (.int .i64 6))⟩,⟨some 52,none,.mv (.t 54)⟩]) (.cond (.t 52) .skip (.reg [⟨some 55,none,.bin .eql false (.t 8) (.c (.int .i64 7))⟩,⟨some 52,none,.mv (.t 55)⟩]))))) (.cond (.t 52) (.seq (.reg [⟨some 56,none,.mv (.t 3)⟩,⟨some 57,none,.bin .eql false (.t 56) (.c (.int .i64 2))⟩,⟨some 58,none,.mv (.t 57)⟩,⟨(some 59),(some (58,true)),(.faddr 1 (.t 1))⟩,⟨(some 60),(some (58,true)),(.load true 2 (.t 59))⟩,⟨(some 61),(some (58,true)),(.call 195 [(.t 60)])⟩,⟨some 62,none,.pick (.t 58) (.t 61) (.c (.bool false))⟩,⟨some 63,none,.mv (.t 62)⟩,⟨(some 64),(some (63,true)),(.faddr 3 (.t 1))⟩,⟨(some 65),(some (63,true)),(.load false 1 (.t 64))⟩,⟨(some 66),(some (63,true)),(.bin .eql false (.t 65) (.c (.str ⟨#[]⟩)))⟩,⟨some 67,none,.pick (.t 63) (.t 66) (.c (.bool false))⟩,⟨some 2,none,.mv (.t 67)⟩]) .ret) (.seq (.seq (.reg [⟨some 69,none,.bin .eql false (.t 8) (.c (.int .i64 8))⟩,⟨some 68,none,.mv (.t 69)⟩]) (.cond (.t 68) .skip (.reg [⟨some 70,none,.bin .eql false (.t 8) (.c (.int .i64 9))⟩,⟨some 68,none,.mv (.t 70)⟩]))) (.cond (.t 68) (.seq (.reg [⟨some 71,none,.mv (.t 3)⟩,⟨some 72,none,.bin .eql false (.t 71) (.c (.int .i64 1))⟩,⟨some 73,none,.mv (.t 72)⟩,⟨(some 74),(some (73,true)),(.faddr 1 (.t 1))⟩,⟨(some 75),(some (73,true)),(.load true 2 (.t 74))⟩,⟨(some 76),(some (73,true)),(.call 195 [(.t 75)])⟩,⟨some 77,none,.pick (.t 73) (.t 76) (.c (.bool false))⟩,⟨some 78,none,.mv (.t 77)⟩,⟨(some 79),(some (78,true)),(.faddr 3 (.t 1))⟩,⟨(some 80),(some (78,true)),(.load false 1 (.t 79))⟩,⟨(some 81),(some (78,true)),(.call 118 [(.t 80)])⟩,⟨some 82,none,.pick (.t 78) (.t 81) (.c (.bool false))⟩,⟨some 2,none,.mv (.t 82)⟩]) .ret) .skip)))))))))))) (.seq (.reg [⟨some 2,none,.mv (.c (.bool false))⟩]) .ret))))
theorem AB:codeOf Tryz.prog 151=some ⟨83,A9,[(.tmp 2)]⟩:=by kernel_rfl
theorem A6:modes 151=⟨[],.asis,none,false⟩:=by unfold modes; rfl
def EV:SC:=(.seq (.reg [⟨some 1,none,.boxv 34 5 (.t 0)⟩,⟨some 2,none,.mv (.c (.bool false))⟩]) (.seq (.seq (.reg [⟨some 4,none,.load true 5 (.t 1)⟩,⟨some 5,none,.call 151 [(.t 4)]⟩,⟨some 6,none,.un .not (.t 5)⟩]) (.cond (.t 6) (.seq (.reg [⟨some 2,none,.mv (.c (.bool false))⟩]) .ret) .skip)) (.seq (.seq (.reg [⟨some 3,none,.mv (.c (.int .i64 0))⟩]) (.block 0 (.loop [0,1,0,1,0,0,0,0,0,0,0,0,0,0,0,0,0,0,0,0,0] (.seq (.seq (.reg [⟨some 7,none,.mv (.t 3)⟩,⟨some 8,none,.faddr 4 (.t 1)⟩,⟨some 9,none,.load false 1 (.t 8)⟩,⟨some 10,none,.len false (.t 9)⟩,⟨some 11,none,.bin .lss false (.t 7) (.t 10)⟩]) (.cond (.t 11) .skip (.exit 0))) (.seq (.block 1 (.seq (.reg [⟨some 14,none,.faddr 4 (.t 1)⟩,⟨some 15,none,.load false 1 (.t 14)⟩,⟨some 16,none,.mv (.t 3)⟩,⟨some 17,none,.iaddr 5 (.t 15) (.t 16)⟩,⟨some 18,none,.load true 5 (.t 17)⟩,⟨some 19,none,.call 95 [(.t 18)]⟩,⟨some 20,none,.un .not (.t 19)⟩]) (.cond (.t 20) (.seq (.reg [⟨some 2,none,.mv (.c (.bool false))⟩]) .ret) .skip))) (.reg [⟨some 12,none,.mv (.t 3)⟩,⟨some 13,none,.bin .add false (.t 12) (.c (.int .i64 1))⟩,⟨some 3,none,.mv (.t 13)⟩])))))) (.seq (.reg [⟨some 2,none,.mv (.c (.bool true))⟩]) .ret))))
theorem HL:codeOf Tryz.prog 95=some ⟨21,EV,[(.tmp 2)]⟩:=by kernel_rfl
theorem BX:modes 95=⟨[],.asis,none,false⟩:=by unfold modes; rfl
def C2:SC:=(.seq (.reg [⟨some 1,none,.boxv 34 5 (.t 0)⟩,⟨some 2,none,.mv (.c (.bool false))⟩]) (.seq (.reg [⟨some 3,none,.load true 5 (.t 1)⟩,⟨some 4,none,.call 98 [(.t 3)]⟩,⟨some 5,none,.bin .leq false (.t 4) (.c (.int .i64 40))⟩,⟨some 6,none,.mv (.t 5)⟩,⟨(some 7),(some (6,true)),(.load true 5 (.t 1))⟩,⟨(some 8),(some (6,true)),(.call 99 [(.t 7)])⟩,⟨some 9,none,.pick (.t 6) (.t 8) (.c (.bool false))⟩,⟨some 2,none,.mv (.t 9)⟩]) .ret))
theorem D8:codeOf Tryz.prog 41=some ⟨10,C2,[(.tmp 2)]⟩:=by kernel_rfl
theorem BE:modes 41=⟨[],.asis,none,false⟩:=by unfold modes; rfl
def FK:SC:=(.seq (.reg [⟨some 1,none,.boxv 34 5 (.t 0)⟩,⟨some 2,none,.mv (.c (.bool false))⟩]) (.seq (.reg [⟨some 3,none,.load true 5 (.t 1)⟩,⟨some 4,none,.call 94 [(.t 3),(.c (.int .i64 40))]⟩,⟨some 5,none,.bin .leq false (.t 4) (.c (.int .i64 40))⟩,⟨some 6,none,.mv (.t 5)⟩,⟨(some 7),(some (6,true)),(.load true 5 (.t 1))⟩,⟨(some 8),(some (6,true)),(.call 95 [(.t 7)])⟩,⟨some 9,none,.pick (.t 6) (.t 8) (.c (.bool false))⟩,⟨some 2,none,.mv (.t 9)⟩]) .ret))
theorem Je:codeOf Tryz.prog 37=some ⟨10,FK,[(.tmp 2)]⟩:=by kernel_rfl
theorem Cz:modes 37=⟨[],.asis,none,false⟩:=by unfold modes; rfl
theorem BA (n:Int):E 153 [.int .i64 n] []=some (.bool (dec (n=8) || dec (n=9)),[]):=by
 cases h1:dec (n=8) with
 | true =>
  refine Ai Eu Ac (of_decide_eq_true rfl) ?_
  simp (disch:=omega) only [CP,go_sem,Ab,h1]
 | false =>
  refine Ai Eu Ac (of_decide_eq_true rfl) ?_
  simp (disch:=omega) only [CP,go_sem,Ab,h1]
theorem DO (n:Int):E 154 [.int .i64 n] []=some (.bool (dec (n=5) || dec (n=6) || dec (n=7)),[]):=by
 cases h1:dec (n=5) <;> cases h2:dec (n=6)
 all_goals
  refine Ai Mi Ah (of_decide_eq_true rfl) ?_
  simp (disch:=omega) only [GQ,go_sem,Ab,h1,h2]
theorem E6 (x:Tm):E 156 [x.sv] []=some (.bool x.isZ,[]):=by
 unfold Tm.isZ
 have hl:dec ((x.args.length:Int)=0)=(x.args.length == 0):=by
  rw [H0]
  cases x.args <;> simp <;> omega
 cases h1:dec (x.name=⟨#[]⟩) with
 | true =>
  refine Ai Fv Af (of_decide_eq_true rfl) ?_
  simp (disch:=omega) only [Dw,go_sem,Ab,h1]
  try rw [hl]
 | false =>
  refine Ai Fv Af (of_decide_eq_true rfl) ?_
  simp (disch:=omega) only [Dw,go_sem,Ab,h1]
theorem Kp (x:Tm):E 195 [x.sv] []=some (.bool x.isZ,[]):=by
 unfold Tm.isZ
 have hl:dec ((x.args.length:Int)=0)=(x.args.length == 0):=by
  rw [H0]
  cases x.args <;> simp <;> omega
 cases h1:dec (x.name=⟨#[]⟩) with
 | true =>
  refine Ai Jd Al (of_decide_eq_true rfl) ?_
  simp (disch:=omega) only [FJ,go_sem,Ab,h1]
  try rw [hl]
 | false =>
  refine Ai Jd Al (of_decide_eq_true rfl) ?_
  simp (disch:=omega) only [FJ,go_sem,Ab,h1]
theorem RL (x:Fm) (hn:x.atom.nodes≤1099511627776) (ho:x.op=1∨x.op=2):E 151 [x.sv] []=some (.bool x.form,[]):=by
 have hf:x.form=(x.parts.length == 0&&x.atom.isZ&&dec (x.var=⟨#[]⟩)):=by unfold Fm.form; rcases ho with ho | ho <;> simp [ho]
 rcases ho with ho | ho
 all_goals
  first
   |(have o1:dec (x.op=1)=true:=A4 ho)
   |(have o1:dec (x.op=1)=false:=An (by omega))
  first
   |(have o2:dec (x.op=2)=true:=A4 ho)
   |(have o2:dec (x.op=2)=false:=An (by omega))
  have o3:dec (x.op=3)=false:=An (by omega)
  have o4:dec (x.op=4)=false:=An (by omega)
  have o5:dec (x.op=5)=false:=An (by omega)
  have o6:dec (x.op=6)=false:=An (by omega)
  have o7:dec (x.op=7)=false:=An (by omega)
  have o8:dec (x.op=8)=false:=An (by omega)
  have o9:dec (x.op=9)=false:=An (by omega)
  have ha:=Kp x.atom
  have hv:=DZ x.var
  rw [hf]
  by_cases hl:x.parts.length=0
  ·have hl2:dec ((x.parts.length:Int)=0)=true:=A4 (by omega)
   rw [hl,beq_self_eq_true,zJ]
   cases hq:x.atom.isZ with
   | true =>
    rw [hq] at ha
    rw [zJ]
    refine Ai AB A6 (of_decide_eq_true rfl) ?_
    simp (disch:=omega) only [A9,go_sem,o1,o2,o3,o4,o5,o6,o7,o8,o9,hl2,ha,hv,Aj,Al,Ak]
    repeat ((first | (refine Az ?_ ?_; (focus (simp (disch:=omega) only [go_sem,o1,o2,o3,o4,o5,o6,o7,o8,o9,hl2,ha,hv,Aj,Al,Ak]; done))) | (refine A1 ?_ ?_; (focus (simp (disch:=omega) only [go_sem,o1,o2,o3,o4,o5,o6,o7,o8,o9,hl2,ha,hv,Aj,Al,Ak]; done)))); (try simp (disch:=omega) only [go_sem,o1,o2,o3,o4,o5,o6,o7,o8,o9,hl2,ha,hv,Aj,Al,Ak]))
   | false =>
    rw [hq] at ha
    rw [zD]
    refine Ai AB A6 (of_decide_eq_true rfl) ?_
    simp (disch:=omega) only [A9,go_sem,o1,o2,o3,o4,o5,o6,o7,o8,o9,hl2,ha,hv,Aj,Al,Ak]
    repeat ((first | (refine Az ?_ ?_; (focus (simp (disch:=omega) only [go_sem,o1,o2,o3,o4,o5,o6,o7,o8,o9,hl2,ha,hv,Aj,Al,Ak]; done))) | (refine A1 ?_ ?_; (focus (simp (disch:=omega) only [go_sem,o1,o2,o3,o4,o5,o6,o7,o8,o9,hl2,ha,hv,Aj,Al,Ak]; done)))); (try simp (disch:=omega) only [go_sem,o1,o2,o3,o4,o5,o6,o7,o8,o9,hl2,ha,hv,Aj,Al,Ak]))
  ·have hl2:dec ((x.parts.length:Int)=0)=false:=An (by omega)
   have hl3:(x.parts.length == 0)=false:=by simpa using hl
   rw [hl3,zD,zD]
   refine Ai AB A6 (of_decide_eq_true rfl) ?_
   simp (disch:=omega) only [A9,go_sem,o1,o2,o3,o4,o5,o6,o7,o8,o9,hl2,ha,hv,Aj,Al,Ak]
   repeat ((first | (refine Az ?_ ?_; (focus (simp (disch:=omega) only [go_sem,o1,o2,o3,o4,o5,o6,o7,o8,o9,hl2,ha,hv,Aj,Al,Ak]; done))) | (refine A1 ?_ ?_; (focus (simp (disch:=omega) only [go_sem,o1,o2,o3,o4,o5,o6,o7,o8,o9,hl2,ha,hv,Aj,Al,Ak]; done)))); (try simp (disch:=omega) only [go_sem,o1,o2,o3,o4,o5,o6,o7,o8,o9,hl2,ha,hv,Aj,Al,Ak]))
theorem WG (x:Fm) (hn:x.atom.nodes≤1099511627776) (ho:x.op=3):E 151 [x.sv] []=some (.bool x.form,[]):=by
 have hf:x.form=(x.parts.length == 0&&x.atom.atom&&dec (x.var=⟨#[]⟩)):=by unfold Fm.form; rcases ho with ho <;> simp [ho]
 rcases ho with ho
 all_goals
  have o1:dec (x.op=1)=false:=An (by omega)
  have o2:dec (x.op=2)=false:=An (by omega)
  have o3:dec (x.op=3)=true:=A4 ho
  have o4:dec (x.op=4)=false:=An (by omega)
  have o5:dec (x.op=5)=false:=An (by omega)
  have o6:dec (x.op=6)=false:=An (by omega)
  have o7:dec (x.op=7)=false:=An (by omega)
  have o8:dec (x.op=8)=false:=An (by omega)
  have o9:dec (x.op=9)=false:=An (by omega)
  have ha:=RJ x.atom (by omega)
  have hv:=DZ x.var
  rw [hf]
  by_cases hl:x.parts.length=0
  ·have hl2:dec ((x.parts.length:Int)=0)=true:=A4 (by omega)
   rw [hl,beq_self_eq_true,zJ]
   cases hq:x.atom.atom with
   | true =>
    rw [hq] at ha
    rw [zJ]
    refine Ai AB A6 (of_decide_eq_true rfl) ?_
    simp (disch:=omega) only [A9,go_sem,o1,o2,o3,o4,o5,o6,o7,o8,o9,hl2,ha,hv,Aj,Al,Ak]
    repeat ((first | (refine Az ?_ ?_; (focus (simp (disch:=omega) only [go_sem,o1,o2,o3,o4,o5,o6,o7,o8,o9,hl2,ha,hv,Aj,Al,Ak]; done))) | (refine A1 ?_ ?_; (focus (simp (disch:=omega) only [go_sem,o1,o2,o3,o4,o5,o6,o7,o8,o9,hl2,ha,hv,Aj,Al,Ak]; done)))); (try simp (disch:=omega) only [go_sem,o1,o2,o3,o4,o5,o6,o7,o8,o9,hl2,ha,hv,Aj,Al,Ak]))
   | false =>
    rw [hq] at ha
    rw [zD]
    refine Ai AB A6 (of_decide_eq_true rfl) ?_
    simp (disch:=omega) only [A9,go_sem,o1,o2,o3,o4,o5,o6,o7,o8,o9,hl2,ha,hv,Aj,Al,Ak]
    repeat ((first | (refine Az ?_ ?_; (focus (simp (disch:=omega) only [go_sem,o1,o2,o3,o4,o5,o6,o7,o8,o9,hl2,ha,hv,Aj,Al,Ak]; done))) | (refine A1 ?_ ?_; (focus (simp (disch:=omega) only [go_sem,o1,o2,o3,o4,o5,o6,o7,o8,o9,hl2,ha,hv,Aj,Al,Ak]; done)))); (try simp (disch:=omega) only [go_sem,o1,o2,o3,o4,o5,o6,o7,o8,o9,hl2,ha,hv,Aj,Al,Ak]))
  ·have hl2:dec ((x.parts.length:Int)=0)=false:=An (by omega)
   have hl3:(x.parts.length == 0)=false:=by simpa using hl
   rw [hl3,zD,zD]
   refine Ai AB A6 (of_decide_eq_true rfl) ?_
   simp (disch:=omega) only [A9,go_sem,o1,o2,o3,o4,o5,o6,o7,o8,o9,hl2,ha,hv,Aj,Al,Ak]
   repeat ((first | (refine Az ?_ ?_; (focus (simp (disch:=omega) only [go_sem,o1,o2,o3,o4,o5,o6,o7,o8,o9,hl2,ha,hv,Aj,Al,Ak]; done))) | (refine A1 ?_ ?_; (focus (simp (disch:=omega) only [go_sem,o1,o2,o3,o4,o5,o6,o7,o8,o9,hl2,ha,hv,Aj,Al,Ak]; done)))); (try simp (disch:=omega) only [go_sem,o1,o2,o3,o4,o5,o6,o7,o8,o9,hl2,ha,hv,Aj,Al,Ak]))
theorem WH (x:Fm) (hn:x.atom.nodes≤1099511627776) (ho:x.op=4):E 151 [x.sv] []=some (.bool x.form,[]):=by
 have hf:x.form=(x.parts.length == 1&&x.atom.isZ&&dec (x.var=⟨#[]⟩)):=by unfold Fm.form; rcases ho with ho <;> simp [ho]
 rcases ho with ho
 all_goals
  have o1:dec (x.op=1)=false:=An (by omega)
  have o2:dec (x.op=2)=false:=An (by omega)
  have o3:dec (x.op=3)=false:=An (by omega)
  have o4:dec (x.op=4)=true:=A4 ho
  have o5:dec (x.op=5)=false:=An (by omega)
  have o6:dec (x.op=6)=false:=An (by omega)
  have o7:dec (x.op=7)=false:=An (by omega)
  have o8:dec (x.op=8)=false:=An (by omega)
  have o9:dec (x.op=9)=false:=An (by omega)
  have ha:=Kp x.atom
  have hv:=DZ x.var
  rw [hf]
  by_cases hl:x.parts.length=1
  ·have hl2:dec ((x.parts.length:Int)=1)=true:=A4 (by omega)
   rw [hl,beq_self_eq_true,zJ]
   cases hq:x.atom.isZ with
   | true =>
    rw [hq] at ha
    rw [zJ]
    refine Ai AB A6 (of_decide_eq_true rfl) ?_
    simp (disch:=omega) only [A9,go_sem,o1,o2,o3,o4,o5,o6,o7,o8,o9,hl2,ha,hv,Aj,Al,Ak]
    repeat ((first | (refine Az ?_ ?_; (focus (simp (disch:=omega) only [go_sem,o1,o2,o3,o4,o5,o6,o7,o8,o9,hl2,ha,hv,Aj,Al,Ak]; done))) | (refine A1 ?_ ?_; (focus (simp (disch:=omega) only [go_sem,o1,o2,o3,o4,o5,o6,o7,o8,o9,hl2,ha,hv,Aj,Al,Ak]; done)))); (try simp (disch:=omega) only [go_sem,o1,o2,o3,o4,o5,o6,o7,o8,o9,hl2,ha,hv,Aj,Al,Ak]))
   | false =>
    rw [hq] at ha
    rw [zD]
    refine Ai AB A6 (of_decide_eq_true rfl) ?_
    simp (disch:=omega) only [A9,go_sem,o1,o2,o3,o4,o5,o6,o7,o8,o9,hl2,ha,hv,Aj,Al,Ak]
    repeat ((first | (refine Az ?_ ?_; (focus (simp (disch:=omega) only [go_sem,o1,o2,o3,o4,o5,o6,o7,o8,o9,hl2,ha,hv,Aj,Al,Ak]; done))) | (refine A1 ?_ ?_; (focus (simp (disch:=omega) only [go_sem,o1,o2,o3,o4,o5,o6,o7,o8,o9,hl2,ha,hv,Aj,Al,Ak]; done)))); (try simp (disch:=omega) only [go_sem,o1,o2,o3,o4,o5,o6,o7,o8,o9,hl2,ha,hv,Aj,Al,Ak]))
  ·have hl2:dec ((x.parts.length:Int)=1)=false:=An (by omega)
   have hl3:(x.parts.length == 1)=false:=by simpa using hl
   rw [hl3,zD,zD]
   refine Ai AB A6 (of_decide_eq_true rfl) ?_
   simp (disch:=omega) only [A9,go_sem,o1,o2,o3,o4,o5,o6,o7,o8,o9,hl2,ha,hv,Aj,Al,Ak]
   repeat ((first | (refine Az ?_ ?_; (focus (simp (disch:=omega) only [go_sem,o1,o2,o3,o4,o5,o6,o7,o8,o9,hl2,ha,hv,Aj,Al,Ak]; done))) | (refine A1 ?_ ?_; (focus (simp (disch:=omega) only [go_sem,o1,o2,o3,o4,o5,o6,o7,o8,o9,hl2,ha,hv,Aj,Al,Ak]; done)))); (try simp (disch:=omega) only [go_sem,o1,o2,o3,o4,o5,o6,o7,o8,o9,hl2,ha,hv,Aj,Al,Ak]))
theorem ND (x:Fm) (hn:x.atom.nodes≤1099511627776) (ho:x.op=5∨x.op=6∨x.op=7):E 151 [x.sv] []=some (.bool x.form,[]):=by
 have hf:x.form=(x.parts.length == 2&&x.atom.isZ&&dec (x.var=⟨#[]⟩)):=by unfold Fm.form; rcases ho with ho | ho | ho <;> simp [ho]
 rcases ho with ho | ho | ho
 all_goals
  have o1:dec (x.op=1)=false:=An (by omega)
  have o2:dec (x.op=2)=false:=An (by omega)
  have o3:dec (x.op=3)=false:=An (by omega)
  have o4:dec (x.op=4)=false:=An (by omega)
  first
   |(have o5:dec (x.op=5)=true:=A4 ho)
   |(have o5:dec (x.op=5)=false:=An (by omega))
  first
   |(have o6:dec (x.op=6)=true:=A4 ho)
   |(have o6:dec (x.op=6)=false:=An (by omega))
  first
   |(have o7:dec (x.op=7)=true:=A4 ho)
   |(have o7:dec (x.op=7)=false:=An (by omega))
  have o8:dec (x.op=8)=false:=An (by omega)
  have o9:dec (x.op=9)=false:=An (by omega)
  have ha:=Kp x.atom
  have hv:=DZ x.var
  rw [hf]
  by_cases hl:x.parts.length=2
  ·have hl2:dec ((x.parts.length:Int)=2)=true:=A4 (by omega)
   rw [hl,beq_self_eq_true,zJ]
   cases hq:x.atom.isZ with
   | true =>
    rw [hq] at ha
    rw [zJ]
    refine Ai AB A6 (of_decide_eq_true rfl) ?_
    simp (disch:=omega) only [A9,go_sem,o1,o2,o3,o4,o5,o6,o7,o8,o9,hl2,ha,hv,Aj,Al,Ak]
    repeat ((first | (refine Az ?_ ?_; (focus (simp (disch:=omega) only [go_sem,o1,o2,o3,o4,o5,o6,o7,o8,o9,hl2,ha,hv,Aj,Al,Ak]; done))) | (refine A1 ?_ ?_; (focus (simp (disch:=omega) only [go_sem,o1,o2,o3,o4,o5,o6,o7,o8,o9,hl2,ha,hv,Aj,Al,Ak]; done)))); (try simp (disch:=omega) only [go_sem,o1,o2,o3,o4,o5,o6,o7,o8,o9,hl2,ha,hv,Aj,Al,Ak]))
   | false =>
    rw [hq] at ha
    rw [zD]
    refine Ai AB A6 (of_decide_eq_true rfl) ?_
    simp (disch:=omega) only [A9,go_sem,o1,o2,o3,o4,o5,o6,o7,o8,o9,hl2,ha,hv,Aj,Al,Ak]
    repeat ((first | (refine Az ?_ ?_; (focus (simp (disch:=omega) only [go_sem,o1,o2,o3,o4,o5,o6,o7,o8,o9,hl2,ha,hv,Aj,Al,Ak]; done))) | (refine A1 ?_ ?_; (focus (simp (disch:=omega) only [go_sem,o1,o2,o3,o4,o5,o6,o7,o8,o9,hl2,ha,hv,Aj,Al,Ak]; done)))); (try simp (disch:=omega) only [go_sem,o1,o2,o3,o4,o5,o6,o7,o8,o9,hl2,ha,hv,Aj,Al,Ak]))
  ·have hl2:dec ((x.parts.length:Int)=2)=false:=An (by omega)
   have hl3:(x.parts.length == 2)=false:=by simpa using hl
   rw [hl3,zD,zD]
   refine Ai AB A6 (of_decide_eq_true rfl) ?_
   simp (disch:=omega) only [A9,go_sem,o1,o2,o3,o4,o5,o6,o7,o8,o9,hl2,ha,hv,Aj,Al,Ak]
   repeat ((first | (refine Az ?_ ?_; (focus (simp (disch:=omega) only [go_sem,o1,o2,o3,o4,o5,o6,o7,o8,o9,hl2,ha,hv,Aj,Al,Ak]; done))) | (refine A1 ?_ ?_; (focus (simp (disch:=omega) only [go_sem,o1,o2,o3,o4,o5,o6,o7,o8,o9,hl2,ha,hv,Aj,Al,Ak]; done)))); (try simp (disch:=omega) only [go_sem,o1,o2,o3,o4,o5,o6,o7,o8,o9,hl2,ha,hv,Aj,Al,Ak]))
theorem RN (x:Fm) (hn:x.atom.nodes≤1099511627776) (ho:x.op=8∨x.op=9):E 151 [x.sv] []=some (.bool x.form,[]):=by
 have hf:x.form=(x.parts.length == 1&&x.atom.isZ&&AT x.var):=by unfold Fm.form; rcases ho with ho | ho <;> simp [ho]
 rcases ho with ho | ho
 all_goals
  have o1:dec (x.op=1)=false:=An (by omega)
  have o2:dec (x.op=2)=false:=An (by omega)
  have o3:dec (x.op=3)=false:=An (by omega)
  have o4:dec (x.op=4)=false:=An (by omega)
  have o5:dec (x.op=5)=false:=An (by omega)
  have o6:dec (x.op=6)=false:=An (by omega)
  have o7:dec (x.op=7)=false:=An (by omega)
  first
   |(have o8:dec (x.op=8)=true:=A4 ho)
   |(have o8:dec (x.op=8)=false:=An (by omega))
  first
   |(have o9:dec (x.op=9)=true:=A4 ho)
   |(have o9:dec (x.op=9)=false:=An (by omega))
  have ha:=Kp x.atom
  have hv:=DZ x.var
  rw [hf]
  by_cases hl:x.parts.length=1
  ·have hl2:dec ((x.parts.length:Int)=1)=true:=A4 (by omega)
   rw [hl,beq_self_eq_true,zJ]
   cases hq:x.atom.isZ with
   | true =>
    rw [hq] at ha
    rw [zJ]
    refine Ai AB A6 (of_decide_eq_true rfl) ?_
    simp (disch:=omega) only [A9,go_sem,o1,o2,o3,o4,o5,o6,o7,o8,o9,hl2,ha,hv,Aj,Al,Ak]
    repeat ((first | (refine Az ?_ ?_; (focus (simp (disch:=omega) only [go_sem,o1,o2,o3,o4,o5,o6,o7,o8,o9,hl2,ha,hv,Aj,Al,Ak]; done))) | (refine A1 ?_ ?_; (focus (simp (disch:=omega) only [go_sem,o1,o2,o3,o4,o5,o6,o7,o8,o9,hl2,ha,hv,Aj,Al,Ak]; done)))); (try simp (disch:=omega) only [go_sem,o1,o2,o3,o4,o5,o6,o7,o8,o9,hl2,ha,hv,Aj,Al,Ak]))
   | false =>
    rw [hq] at ha
    rw [zD]
    refine Ai AB A6 (of_decide_eq_true rfl) ?_
    simp (disch:=omega) only [A9,go_sem,o1,o2,o3,o4,o5,o6,o7,o8,o9,hl2,ha,hv,Aj,Al,Ak]
    repeat ((first | (refine Az ?_ ?_; (focus (simp (disch:=omega) only [go_sem,o1,o2,o3,o4,o5,o6,o7,o8,o9,hl2,ha,hv,Aj,Al,Ak]; done))) | (refine A1 ?_ ?_; (focus (simp (disch:=omega) only [go_sem,o1,o2,o3,o4,o5,o6,o7,o8,o9,hl2,ha,hv,Aj,Al,Ak]; done)))); (try simp (disch:=omega) only [go_sem,o1,o2,o3,o4,o5,o6,o7,o8,o9,hl2,ha,hv,Aj,Al,Ak]))
  ·have hl2:dec ((x.parts.length:Int)=1)=false:=An (by omega)
   have hl3:(x.parts.length == 1)=false:=by simpa using hl
   rw [hl3,zD,zD]
   refine Ai AB A6 (of_decide_eq_true rfl) ?_
   simp (disch:=omega) only [A9,go_sem,o1,o2,o3,o4,o5,o6,o7,o8,o9,hl2,ha,hv,Aj,Al,Ak]
   repeat ((first | (refine Az ?_ ?_; (focus (simp (disch:=omega) only [go_sem,o1,o2,o3,o4,o5,o6,o7,o8,o9,hl2,ha,hv,Aj,Al,Ak]; done))) | (refine A1 ?_ ?_; (focus (simp (disch:=omega) only [go_sem,o1,o2,o3,o4,o5,o6,o7,o8,o9,hl2,ha,hv,Aj,Al,Ak]; done)))); (try simp (disch:=omega) only [go_sem,o1,o2,o3,o4,o5,o6,o7,o8,o9,hl2,ha,hv,Aj,Al,Ak]))
theorem WI (x:Fm) (hn:x.atom.nodes≤1099511627776):E 151 [x.sv] []=some (.bool x.form,[]):=by
 rcases RK x.op with h | h | h | h | h | h | h | h | h | h
 ·exact RL x hn (.inl h)
 ·exact RL x hn (.inr h)
 ·exact WG x hn h
 ·exact WH x hn h
 ·exact ND x hn (.inl h)
 ·exact ND x hn (.inr (.inl h))
 ·exact ND x hn (.inr (.inr h))
 ·exact RN x hn (.inl h)
 ·exact RN x hn (.inr h)
 ·obtain ⟨h1,h2,h3,h4,h5,h6,h7,h8,h9⟩:=h
  have hf:x.form=false:=by unfold Fm.form; simp [h1,h2,h3,h4,h5,h6,h7,h8,h9]
  have o1:=An h1
  have o2:=An h2
  have o3:=An h3
  have o4:=An h4
  have o5:=An h5
  have o6:=An h6
  have o7:=An h7
  have o8:=An h8
  have o9:=An h9
  rw [hf]
  refine Ai AB A6 (of_decide_eq_true rfl) ?_
  simp (disch:=omega) only [A9,go_sem,o1,o2,o3,o4,o5,o6,o7,o8,o9]
  repeat ((first | (refine Az ?_ ?_; (focus (simp (disch:=omega) only [go_sem,o1,o2,o3,o4,o5,o6,o7,o8,o9]; done))) | (refine A1 ?_ ?_; (focus (simp (disch:=omega) only [go_sem,o1,o2,o3,o4,o5,o6,o7,o8,o9]; done)))); (try simp (disch:=omega) only [go_sem,o1,o2,o3,o4,o5,o6,o7,o8,o9]))
theorem Tv (x:Fm) (ht:x.tame) (hn:x.nodes≤1099511627776) (ih:∀ y∈x.parts,E 95 [y.sv] []=some (.bool y.forms,[])):E 95 [x.sv] []=some (.bool x.forms,[]):=by
 have hl:=Fm.length_le x.parts
 have hx:=Fm.nodes_eq x
 have hf:=WI x (Fm.tame_at ht)
 rw [Fm.BV]
 cases hq:x.form with
 | false =>
  rw [hq] at hf
  rw [zD]
  refine Ai HL BX (of_decide_eq_true rfl) ?_
  simp (disch:=omega) only [EV,go_sem,Ab,hf,A6]
 | true =>
  rw [hq] at hf
  rw [zJ]
  refine Ai HL BX (of_decide_eq_true rfl) ?_
  simp (disch:=omega) only [EV,go_sem,Ab,hf,A6]
  refine go_loop (α:=Int) (fun a=>⟨slots 21 0 [(1,.ptr 0 0),(3,.int .i64 a)],[.box 34 [.int .i64 x.op,.str x.atom.name,.arr (x.atom.args.map Tm.d),.str x.var,.arr (x.parts.map Fm.d)]]⟩) (fun a=>∃ k:Nat,a=k∧k≤(x.parts).length∧Fm.CY (x.parts.drop k)=Fm.CY x.parts) (fun a=>(x.parts).length-(a).toNat) 0 ⟨0,rfl,zK _,by rw [zG]⟩ (by simp (disch:=omega) only [go_sem,Ab]) ?_
  rintro i ⟨k,hi,hk,hR⟩
  have hni:i.toNat=k:=by omega
  have hni1:(i+1).toNat=k+1:=by omega
  rcases zF k (x.parts).length with hlt | hge
  ·have hg:=get_at Fm.d hlt
   rw [Fm.d_eq] at hg
   have hc:=ih x.parts[k] (zH hlt)
   rw [zB hlt,Fm.CY] at hR
   cases hp:x.parts[k].forms with
   | true =>
    rw [hp] at hc hR
    rw [zJ] at hR
    simp (disch:=omega) only [go_sem,Ab,hni,hg,hc,BX]
    exact ⟨i+1,⟨k+1,by omega,hlt,hR⟩,by omega,by first | trivial | rfl⟩
   | false =>
    rw [hp] at hc hR
    rw [zD] at hR
    simp (disch:=omega) only [go_sem,Ab,hni,hg,hc,BX]
    exact hR
  ·rw [zE hge,Fm.CY] at hR
   simp (disch:=omega) only [go_sem,Ab,hni]
   exact hR
theorem PF (x:Fm) (ht:x.tame) (hn:x.nodes≤1099511627776):E 95 [x.sv] []=some (.bool x.forms,[]) :=
 Tv x ht hn fun y hy=>PF y (Fm.I9 ht hy) (by have:=Fm.nodes_mem hy; have:=Fm.nodes_eq x; omega)
termination_by SizeOf.sizeOf x
decreasing_by exact Fm.lt_of_mem hy
theorem PG (x:Fm) (hn:x.atom.nodes≤1099511627776) (hl0:x.parts.length≤1099511627776) (ho:x.op=1∨x.op=2) (h2:E 124 [.arr (x.parts.map Fm.d),.fn 157 []] []=some (.bool (x.parts.any fun y=>!y.forms),[])):E 99 [x.sv] []=some (.bool x.forms,[]):=by
 have hf:x.form=(x.parts.length == 0&&x.atom.isZ&&dec (x.var=⟨#[]⟩)):=by unfold Fm.form; rcases ho with ho | ho <;> simp [ho]
 rcases ho with ho | ho
 all_goals
  first
   |(have o1:dec (x.op=1)=true:=A4 ho)
   |(have o1:dec (x.op=1)=false:=An (by omega))
  first
   |(have o2:dec (x.op=2)=true:=A4 ho)
   |(have o2:dec (x.op=2)=false:=An (by omega))
  have o3:dec (x.op=3)=false:=An (by omega)
  have o4:dec (x.op=4)=false:=An (by omega)
  have o5:dec (x.op=5)=false:=An (by omega)
  have o6:dec (x.op=6)=false:=An (by omega)
  have o7:dec (x.op=7)=false:=An (by omega)
  have o8:dec (x.op=8)=false:=An (by omega)
  have o9:dec (x.op=9)=false:=An (by omega)
  have ha:=E6 x.atom
  have hv:=Cn x.var
  have hb:=DO x.op
  have hu:=BA x.op
  rw [o5,o6,o7] at hb
  rw [o8,o9] at hu
  rw [Fm.BV,hf,← Fm.any_not]
  by_cases hl:x.parts.length=0
  ·have hl2:dec ((x.parts.length:Int)=0)=true:=A4 (by omega)
   rw [hl,beq_self_eq_true,zJ]
   cases hw:dec (x.var=⟨#[]⟩) with
   | false =>
    try rw [hw] at hv
    rw [zU,zD]
    refine Ai Ax Au (of_decide_eq_true rfl) ?_
    simp (disch:=omega) only [Av,go_sem,o1,o2,o3,o4,o5,o6,o7,o8,o9,hl2,ha,hv,hb,hu,hw,h2,Ad,Af,Ae,Ac,Ah,Aa]
    repeat ((first | (refine Az ?_ ?_; (focus (simp (disch:=omega) only [go_sem,o1,o2,o3,o4,o5,o6,o7,o8,o9,hl2,ha,hv,hb,hu,hw,h2,Ad,Af,Ae,Ac,Ah,Aa]; done))) | (refine A1 ?_ ?_; (focus (simp (disch:=omega) only [go_sem,o1,o2,o3,o4,o5,o6,o7,o8,o9,hl2,ha,hv,hb,hu,hw,h2,Ad,Af,Ae,Ac,Ah,Aa]; done)))); (try simp (disch:=omega) only [go_sem,o1,o2,o3,o4,o5,o6,o7,o8,o9,hl2,ha,hv,hb,hu,hw,h2,Ad,Af,Ae,Ac,Ah,Aa]))
   | true =>
    try rw [hw] at hv
    rw [zX]
    cases hq:x.atom.isZ with
    | true =>
     rw [hq] at ha
     rw [zJ]
     refine Ai Ax Au (of_decide_eq_true rfl) ?_
     simp (disch:=omega) only [Av,go_sem,o1,o2,o3,o4,o5,o6,o7,o8,o9,hl2,ha,hv,hb,hu,hw,h2,Ad,Af,Ae,Ac,Ah,Aa]
     repeat ((first | (refine Az ?_ ?_; (focus (simp (disch:=omega) only [go_sem,o1,o2,o3,o4,o5,o6,o7,o8,o9,hl2,ha,hv,hb,hu,hw,h2,Ad,Af,Ae,Ac,Ah,Aa]; done))) | (refine A1 ?_ ?_; (focus (simp (disch:=omega) only [go_sem,o1,o2,o3,o4,o5,o6,o7,o8,o9,hl2,ha,hv,hb,hu,hw,h2,Ad,Af,Ae,Ac,Ah,Aa]; done)))); (try simp (disch:=omega) only [go_sem,o1,o2,o3,o4,o5,o6,o7,o8,o9,hl2,ha,hv,hb,hu,hw,h2,Ad,Af,Ae,Ac,Ah,Aa]))
    | false =>
     rw [hq] at ha
     rw [zD]
     refine Ai Ax Au (of_decide_eq_true rfl) ?_
     simp (disch:=omega) only [Av,go_sem,o1,o2,o3,o4,o5,o6,o7,o8,o9,hl2,ha,hv,hb,hu,hw,h2,Ad,Af,Ae,Ac,Ah,Aa]
     repeat ((first | (refine Az ?_ ?_; (focus (simp (disch:=omega) only [go_sem,o1,o2,o3,o4,o5,o6,o7,o8,o9,hl2,ha,hv,hb,hu,hw,h2,Ad,Af,Ae,Ac,Ah,Aa]; done))) | (refine A1 ?_ ?_; (focus (simp (disch:=omega) only [go_sem,o1,o2,o3,o4,o5,o6,o7,o8,o9,hl2,ha,hv,hb,hu,hw,h2,Ad,Af,Ae,Ac,Ah,Aa]; done)))); (try simp (disch:=omega) only [go_sem,o1,o2,o3,o4,o5,o6,o7,o8,o9,hl2,ha,hv,hb,hu,hw,h2,Ad,Af,Ae,Ac,Ah,Aa]))
  ·have hl2:dec ((x.parts.length:Int)=0)=false:=An (by omega)
   have hl3:(x.parts.length == 0)=false:=by simpa using hl
   rw [hl3,zD,zD,zD]
   refine Ai Ax Au (of_decide_eq_true rfl) ?_
   simp (disch:=omega) only [Av,go_sem,o1,o2,o3,o4,o5,o6,o7,o8,o9,hl2,ha,hv,hb,hu, h2,Ad,Af,Ae,Ac,Ah,Aa]
   repeat ((first | (refine Az ?_ ?_; (focus (simp (disch:=omega) only [go_sem,o1,o2,o3,o4,o5,o6,o7,o8,o9,hl2,ha,hv,hb,hu, h2,Ad,Af,Ae,Ac,Ah,Aa]; done))) | (refine A1 ?_ ?_; (focus (simp (disch:=omega) only [go_sem,o1,o2,o3,o4,o5,o6,o7,o8,o9,hl2,ha,hv,hb,hu, h2,Ad,Af,Ae,Ac,Ah,Aa]; done)))); (try simp (disch:=omega) only [go_sem,o1,o2,o3,o4,o5,o6,o7,o8,o9,hl2,ha,hv,hb,hu, h2,Ad,Af,Ae,Ac,Ah,Aa]))
theorem UV (x:Fm) (hn:x.atom.nodes≤1099511627776) (hl0:x.parts.length≤1099511627776) (ho:x.op=3) (h2:E 124 [.arr (x.parts.map Fm.d),.fn 157 []] []=some (.bool (x.parts.any fun y=>!y.forms),[])):E 99 [x.sv] []=some (.bool x.forms,[]):=by
 have hf:x.form=(x.parts.length == 0&&x.atom.atom&&dec (x.var=⟨#[]⟩)):=by unfold Fm.form; rcases ho with ho <;> simp [ho]
 rcases ho with ho
 all_goals
  have o1:dec (x.op=1)=false:=An (by omega)
  have o2:dec (x.op=2)=false:=An (by omega)
  have o3:dec (x.op=3)=true:=A4 ho
  have o4:dec (x.op=4)=false:=An (by omega)
  have o5:dec (x.op=5)=false:=An (by omega)
  have o6:dec (x.op=6)=false:=An (by omega)
  have o7:dec (x.op=7)=false:=An (by omega)
  have o8:dec (x.op=8)=false:=An (by omega)
  have o9:dec (x.op=9)=false:=An (by omega)
  have ha:=Ja x.atom (by omega)
  have hv:=Cn x.var
  have hb:=DO x.op
  have hu:=BA x.op
  rw [o5,o6,o7] at hb
  rw [o8,o9] at hu
  rw [Fm.BV,hf,← Fm.any_not]
  by_cases hl:x.parts.length=0
  ·have hl2:dec ((x.parts.length:Int)=0)=true:=A4 (by omega)
   rw [hl,beq_self_eq_true,zJ]
   cases hw:dec (x.var=⟨#[]⟩) with
   | false =>
    try rw [hw] at hv
    rw [zU,zD]
    refine Ai Ax Au (of_decide_eq_true rfl) ?_
    simp (disch:=omega) only [Av,go_sem,o1,o2,o3,o4,o5,o6,o7,o8,o9,hl2,ha,hv,hb,hu,hw,h2,Ad,Af,Ae,Ac,Ah,Aa]
    repeat ((first | (refine Az ?_ ?_; (focus (simp (disch:=omega) only [go_sem,o1,o2,o3,o4,o5,o6,o7,o8,o9,hl2,ha,hv,hb,hu,hw,h2,Ad,Af,Ae,Ac,Ah,Aa]; done))) | (refine A1 ?_ ?_; (focus (simp (disch:=omega) only [go_sem,o1,o2,o3,o4,o5,o6,o7,o8,o9,hl2,ha,hv,hb,hu,hw,h2,Ad,Af,Ae,Ac,Ah,Aa]; done)))); (try simp (disch:=omega) only [go_sem,o1,o2,o3,o4,o5,o6,o7,o8,o9,hl2,ha,hv,hb,hu,hw,h2,Ad,Af,Ae,Ac,Ah,Aa]))
   | true =>
    try rw [hw] at hv
    rw [zX]
    cases hq:x.atom.atom with
    | true =>
     rw [hq] at ha
     rw [zJ]
     refine Ai Ax Au (of_decide_eq_true rfl) ?_
     simp (disch:=omega) only [Av,go_sem,o1,o2,o3,o4,o5,o6,o7,o8,o9,hl2,ha,hv,hb,hu,hw,h2,Ad,Af,Ae,Ac,Ah,Aa]
     repeat ((first | (refine Az ?_ ?_; (focus (simp (disch:=omega) only [go_sem,o1,o2,o3,o4,o5,o6,o7,o8,o9,hl2,ha,hv,hb,hu,hw,h2,Ad,Af,Ae,Ac,Ah,Aa]; done))) | (refine A1 ?_ ?_; (focus (simp (disch:=omega) only [go_sem,o1,o2,o3,o4,o5,o6,o7,o8,o9,hl2,ha,hv,hb,hu,hw,h2,Ad,Af,Ae,Ac,Ah,Aa]; done)))); (try simp (disch:=omega) only [go_sem,o1,o2,o3,o4,o5,o6,o7,o8,o9,hl2,ha,hv,hb,hu,hw,h2,Ad,Af,Ae,Ac,Ah,Aa]))
    | false =>
     rw [hq] at ha
     rw [zD]
     refine Ai Ax Au (of_decide_eq_true rfl) ?_
     simp (disch:=omega) only [Av,go_sem,o1,o2,o3,o4,o5,o6,o7,o8,o9,hl2,ha,hv,hb,hu,hw,h2,Ad,Af,Ae,Ac,Ah,Aa]
     repeat ((first | (refine Az ?_ ?_; (focus (simp (disch:=omega) only [go_sem,o1,o2,o3,o4,o5,o6,o7,o8,o9,hl2,ha,hv,hb,hu,hw,h2,Ad,Af,Ae,Ac,Ah,Aa]; done))) | (refine A1 ?_ ?_; (focus (simp (disch:=omega) only [go_sem,o1,o2,o3,o4,o5,o6,o7,o8,o9,hl2,ha,hv,hb,hu,hw,h2,Ad,Af,Ae,Ac,Ah,Aa]; done)))); (try simp (disch:=omega) only [go_sem,o1,o2,o3,o4,o5,o6,o7,o8,o9,hl2,ha,hv,hb,hu,hw,h2,Ad,Af,Ae,Ac,Ah,Aa]))
  ·have hl2:dec ((x.parts.length:Int)=0)=false:=An (by omega)
   have hl3:(x.parts.length == 0)=false:=by simpa using hl
   rw [hl3,zD,zD,zD]
   refine Ai Ax Au (of_decide_eq_true rfl) ?_
   simp (disch:=omega) only [Av,go_sem,o1,o2,o3,o4,o5,o6,o7,o8,o9,hl2,ha,hv,hb,hu, h2,Ad,Af,Ae,Ac,Ah,Aa]
   repeat ((first | (refine Az ?_ ?_; (focus (simp (disch:=omega) only [go_sem,o1,o2,o3,o4,o5,o6,o7,o8,o9,hl2,ha,hv,hb,hu, h2,Ad,Af,Ae,Ac,Ah,Aa]; done))) | (refine A1 ?_ ?_; (focus (simp (disch:=omega) only [go_sem,o1,o2,o3,o4,o5,o6,o7,o8,o9,hl2,ha,hv,hb,hu, h2,Ad,Af,Ae,Ac,Ah,Aa]; done)))); (try simp (disch:=omega) only [go_sem,o1,o2,o3,o4,o5,o6,o7,o8,o9,hl2,ha,hv,hb,hu, h2,Ad,Af,Ae,Ac,Ah,Aa]))
theorem UW (x:Fm) (hn:x.atom.nodes≤1099511627776) (hl0:x.parts.length≤1099511627776) (ho:x.op=4) (h2:E 124 [.arr (x.parts.map Fm.d),.fn 157 []] []=some (.bool (x.parts.any fun y=>!y.forms),[])):E 99 [x.sv] []=some (.bool x.forms,[]):=by
 have hf:x.form=(x.parts.length == 1&&x.atom.isZ&&dec (x.var=⟨#[]⟩)):=by unfold Fm.form; rcases ho with ho <;> simp [ho]
 rcases ho with ho
 all_goals
  have o1:dec (x.op=1)=false:=An (by omega)
  have o2:dec (x.op=2)=false:=An (by omega)
  have o3:dec (x.op=3)=false:=An (by omega)
  have o4:dec (x.op=4)=true:=A4 ho
  have o5:dec (x.op=5)=false:=An (by omega)
  have o6:dec (x.op=6)=false:=An (by omega)
  have o7:dec (x.op=7)=false:=An (by omega)
  have o8:dec (x.op=8)=false:=An (by omega)
  have o9:dec (x.op=9)=false:=An (by omega)
  have ha:=E6 x.atom
  have hv:=Cn x.var
  have hb:=DO x.op
  have hu:=BA x.op
  rw [o5,o6,o7] at hb
  rw [o8,o9] at hu
  rw [Fm.BV,hf,← Fm.any_not]
  by_cases hl:x.parts.length=1
  ·have hl2:dec ((x.parts.length:Int)=1)=true:=A4 (by omega)
   rw [hl,beq_self_eq_true,zJ]
   cases hw:dec (x.var=⟨#[]⟩) with
   | false =>
    try rw [hw] at hv
    rw [zU,zD]
    refine Ai Ax Au (of_decide_eq_true rfl) ?_
    simp (disch:=omega) only [Av,go_sem,o1,o2,o3,o4,o5,o6,o7,o8,o9,hl2,ha,hv,hb,hu,hw,h2,Ad,Af,Ae,Ac,Ah,Aa]
    repeat ((first | (refine Az ?_ ?_; (focus (simp (disch:=omega) only [go_sem,o1,o2,o3,o4,o5,o6,o7,o8,o9,hl2,ha,hv,hb,hu,hw,h2,Ad,Af,Ae,Ac,Ah,Aa]; done))) | (refine A1 ?_ ?_; (focus (simp (disch:=omega) only [go_sem,o1,o2,o3,o4,o5,o6,o7,o8,o9,hl2,ha,hv,hb,hu,hw,h2,Ad,Af,Ae,Ac,Ah,Aa]; done)))); (try simp (disch:=omega) only [go_sem,o1,o2,o3,o4,o5,o6,o7,o8,o9,hl2,ha,hv,hb,hu,hw,h2,Ad,Af,Ae,Ac,Ah,Aa]))
   | true =>
    try rw [hw] at hv
    rw [zX]
    cases hq:x.atom.isZ with
    | true =>
     rw [hq] at ha
     rw [zJ]
     refine Ai Ax Au (of_decide_eq_true rfl) ?_
     simp (disch:=omega) only [Av,go_sem,o1,o2,o3,o4,o5,o6,o7,o8,o9,hl2,ha,hv,hb,hu,hw,h2,Ad,Af,Ae,Ac,Ah,Aa]
     repeat ((first | (refine Az ?_ ?_; (focus (simp (disch:=omega) only [go_sem,o1,o2,o3,o4,o5,o6,o7,o8,o9,hl2,ha,hv,hb,hu,hw,h2,Ad,Af,Ae,Ac,Ah,Aa]; done))) | (refine A1 ?_ ?_; (focus (simp (disch:=omega) only [go_sem,o1,o2,o3,o4,o5,o6,o7,o8,o9,hl2,ha,hv,hb,hu,hw,h2,Ad,Af,Ae,Ac,Ah,Aa]; done)))); (try simp (disch:=omega) only [go_sem,o1,o2,o3,o4,o5,o6,o7,o8,o9,hl2,ha,hv,hb,hu,hw,h2,Ad,Af,Ae,Ac,Ah,Aa]))
    | false =>
     rw [hq] at ha
     rw [zD]
     refine Ai Ax Au (of_decide_eq_true rfl) ?_
     simp (disch:=omega) only [Av,go_sem,o1,o2,o3,o4,o5,o6,o7,o8,o9,hl2,ha,hv,hb,hu,hw,h2,Ad,Af,Ae,Ac,Ah,Aa]
     repeat ((first | (refine Az ?_ ?_; (focus (simp (disch:=omega) only [go_sem,o1,o2,o3,o4,o5,o6,o7,o8,o9,hl2,ha,hv,hb,hu,hw,h2,Ad,Af,Ae,Ac,Ah,Aa]; done))) | (refine A1 ?_ ?_; (focus (simp (disch:=omega) only [go_sem,o1,o2,o3,o4,o5,o6,o7,o8,o9,hl2,ha,hv,hb,hu,hw,h2,Ad,Af,Ae,Ac,Ah,Aa]; done)))); (try simp (disch:=omega) only [go_sem,o1,o2,o3,o4,o5,o6,o7,o8,o9,hl2,ha,hv,hb,hu,hw,h2,Ad,Af,Ae,Ac,Ah,Aa]))
  ·have hl2:dec ((x.parts.length:Int)=1)=false:=An (by omega)
   have hl3:(x.parts.length == 1)=false:=by simpa using hl
   rw [hl3,zD,zD,zD]
   refine Ai Ax Au (of_decide_eq_true rfl) ?_
   simp (disch:=omega) only [Av,go_sem,o1,o2,o3,o4,o5,o6,o7,o8,o9,hl2,ha,hv,hb,hu, h2,Ad,Af,Ae,Ac,Ah,Aa]
   repeat ((first | (refine Az ?_ ?_; (focus (simp (disch:=omega) only [go_sem,o1,o2,o3,o4,o5,o6,o7,o8,o9,hl2,ha,hv,hb,hu, h2,Ad,Af,Ae,Ac,Ah,Aa]; done))) | (refine A1 ?_ ?_; (focus (simp (disch:=omega) only [go_sem,o1,o2,o3,o4,o5,o6,o7,o8,o9,hl2,ha,hv,hb,hu, h2,Ad,Af,Ae,Ac,Ah,Aa]; done)))); (try simp (disch:=omega) only [go_sem,o1,o2,o3,o4,o5,o6,o7,o8,o9,hl2,ha,hv,hb,hu, h2,Ad,Af,Ae,Ac,Ah,Aa]))
theorem Lr (x:Fm) (hn:x.atom.nodes≤1099511627776) (hl0:x.parts.length≤1099511627776) (ho:x.op=5∨x.op=6∨x.op=7) (h2:E 124 [.arr (x.parts.map Fm.d),.fn 157 []] []=some (.bool (x.parts.any fun y=>!y.forms),[])):E 99 [x.sv] []=some (.bool x.forms,[]):=by
 have hf:x.form=(x.parts.length == 2&&x.atom.isZ&&dec (x.var=⟨#[]⟩)):=by unfold Fm.form; rcases ho with ho | ho | ho <;> simp [ho]
 rcases ho with ho | ho | ho
 all_goals
  have o1:dec (x.op=1)=false:=An (by omega)
  have o2:dec (x.op=2)=false:=An (by omega)
  have o3:dec (x.op=3)=false:=An (by omega)
  have o4:dec (x.op=4)=false:=An (by omega)
  first
   |(have o5:dec (x.op=5)=true:=A4 ho)
   |(have o5:dec (x.op=5)=false:=An (by omega))
  first
   |(have o6:dec (x.op=6)=true:=A4 ho)
   |(have o6:dec (x.op=6)=false:=An (by omega))
  first
   |(have o7:dec (x.op=7)=true:=A4 ho)
   |(have o7:dec (x.op=7)=false:=An (by omega))
  have o8:dec (x.op=8)=false:=An (by omega)
  have o9:dec (x.op=9)=false:=An (by omega)
  have ha:=E6 x.atom
  have hv:=Cn x.var
  have hb:=DO x.op
  have hu:=BA x.op
  rw [o5,o6,o7] at hb
  rw [o8,o9] at hu
  rw [Fm.BV,hf,← Fm.any_not]
  by_cases hl:x.parts.length=2
  ·have hl2:dec ((x.parts.length:Int)=2)=true:=A4 (by omega)
   rw [hl,beq_self_eq_true,zJ]
   cases hw:dec (x.var=⟨#[]⟩) with
   | false =>
    try rw [hw] at hv
    rw [zU,zD]
    refine Ai Ax Au (of_decide_eq_true rfl) ?_
    simp (disch:=omega) only [Av,go_sem,o1,o2,o3,o4,o5,o6,o7,o8,o9,hl2,ha,hv,hb,hu,hw,h2,Ad,Af,Ae,Ac,Ah,Aa]
    repeat ((first | (refine Az ?_ ?_; (focus (simp (disch:=omega) only [go_sem,o1,o2,o3,o4,o5,o6,o7,o8,o9,hl2,ha,hv,hb,hu,hw,h2,Ad,Af,Ae,Ac,Ah,Aa]; done))) | (refine A1 ?_ ?_; (focus (simp (disch:=omega) only [go_sem,o1,o2,o3,o4,o5,o6,o7,o8,o9,hl2,ha,hv,hb,hu,hw,h2,Ad,Af,Ae,Ac,Ah,Aa]; done)))); (try simp (disch:=omega) only [go_sem,o1,o2,o3,o4,o5,o6,o7,o8,o9,hl2,ha,hv,hb,hu,hw,h2,Ad,Af,Ae,Ac,Ah,Aa]))
   | true =>
    try rw [hw] at hv
    rw [zX]
    cases hq:x.atom.isZ with
    | true =>
     rw [hq] at ha
     rw [zJ]
     refine Ai Ax Au (of_decide_eq_true rfl) ?_
     simp (disch:=omega) only [Av,go_sem,o1,o2,o3,o4,o5,o6,o7,o8,o9,hl2,ha,hv,hb,hu,hw,h2,Ad,Af,Ae,Ac,Ah,Aa]
     repeat ((first | (refine Az ?_ ?_; (focus (simp (disch:=omega) only [go_sem,o1,o2,o3,o4,o5,o6,o7,o8,o9,hl2,ha,hv,hb,hu,hw,h2,Ad,Af,Ae,Ac,Ah,Aa]; done))) | (refine A1 ?_ ?_; (focus (simp (disch:=omega) only [go_sem,o1,o2,o3,o4,o5,o6,o7,o8,o9,hl2,ha,hv,hb,hu,hw,h2,Ad,Af,Ae,Ac,Ah,Aa]; done)))); (try simp (disch:=omega) only [go_sem,o1,o2,o3,o4,o5,o6,o7,o8,o9,hl2,ha,hv,hb,hu,hw,h2,Ad,Af,Ae,Ac,Ah,Aa]))
    | false =>
     rw [hq] at ha
     rw [zD]
     refine Ai Ax Au (of_decide_eq_true rfl) ?_
     simp (disch:=omega) only [Av,go_sem,o1,o2,o3,o4,o5,o6,o7,o8,o9,hl2,ha,hv,hb,hu,hw,h2,Ad,Af,Ae,Ac,Ah,Aa]
     repeat ((first | (refine Az ?_ ?_; (focus (simp (disch:=omega) only [go_sem,o1,o2,o3,o4,o5,o6,o7,o8,o9,hl2,ha,hv,hb,hu,hw,h2,Ad,Af,Ae,Ac,Ah,Aa]; done))) | (refine A1 ?_ ?_; (focus (simp (disch:=omega) only [go_sem,o1,o2,o3,o4,o5,o6,o7,o8,o9,hl2,ha,hv,hb,hu,hw,h2,Ad,Af,Ae,Ac,Ah,Aa]; done)))); (try simp (disch:=omega) only [go_sem,o1,o2,o3,o4,o5,o6,o7,o8,o9,hl2,ha,hv,hb,hu,hw,h2,Ad,Af,Ae,Ac,Ah,Aa]))
  ·have hl2:dec ((x.parts.length:Int)=2)=false:=An (by omega)
   have hl3:(x.parts.length == 2)=false:=by simpa using hl
   rw [hl3,zD,zD,zD]
   refine Ai Ax Au (of_decide_eq_true rfl) ?_
   simp (disch:=omega) only [Av,go_sem,o1,o2,o3,o4,o5,o6,o7,o8,o9,hl2,ha,hv,hb,hu, h2,Ad,Af,Ae,Ac,Ah,Aa]
   repeat ((first | (refine Az ?_ ?_; (focus (simp (disch:=omega) only [go_sem,o1,o2,o3,o4,o5,o6,o7,o8,o9,hl2,ha,hv,hb,hu, h2,Ad,Af,Ae,Ac,Ah,Aa]; done))) | (refine A1 ?_ ?_; (focus (simp (disch:=omega) only [go_sem,o1,o2,o3,o4,o5,o6,o7,o8,o9,hl2,ha,hv,hb,hu, h2,Ad,Af,Ae,Ac,Ah,Aa]; done)))); (try simp (disch:=omega) only [go_sem,o1,o2,o3,o4,o5,o6,o7,o8,o9,hl2,ha,hv,hb,hu, h2,Ad,Af,Ae,Ac,Ah,Aa]))
theorem PH (x:Fm) (hn:x.atom.nodes≤1099511627776) (hl0:x.parts.length≤1099511627776) (ho:x.op=8∨x.op=9) (h2:E 124 [.arr (x.parts.map Fm.d),.fn 157 []] []=some (.bool (x.parts.any fun y=>!y.forms),[])):E 99 [x.sv] []=some (.bool x.forms,[]):=by
 have hf:x.form=(x.parts.length == 1&&x.atom.isZ&&AT x.var):=by unfold Fm.form; rcases ho with ho | ho <;> simp [ho]
 rcases ho with ho | ho
 all_goals
  have o1:dec (x.op=1)=false:=An (by omega)
  have o2:dec (x.op=2)=false:=An (by omega)
  have o3:dec (x.op=3)=false:=An (by omega)
  have o4:dec (x.op=4)=false:=An (by omega)
  have o5:dec (x.op=5)=false:=An (by omega)
  have o6:dec (x.op=6)=false:=An (by omega)
  have o7:dec (x.op=7)=false:=An (by omega)
  first
   |(have o8:dec (x.op=8)=true:=A4 ho)
   |(have o8:dec (x.op=8)=false:=An (by omega))
  first
   |(have o9:dec (x.op=9)=true:=A4 ho)
   |(have o9:dec (x.op=9)=false:=An (by omega))
  have ha:=E6 x.atom
  have hv:=Cn x.var
  have hb:=DO x.op
  have hu:=BA x.op
  rw [o5,o6,o7] at hb
  rw [o8,o9] at hu
  rw [Fm.BV,hf,← Fm.any_not]
  by_cases hl:x.parts.length=1
  ·have hl2:dec ((x.parts.length:Int)=1)=true:=A4 (by omega)
   rw [hl,beq_self_eq_true,zJ]
   cases hw:AT x.var with
   | false =>
    try rw [hw] at hv
    rw [zU,zD]
    refine Ai Ax Au (of_decide_eq_true rfl) ?_
    simp (disch:=omega) only [Av,go_sem,o1,o2,o3,o4,o5,o6,o7,o8,o9,hl2,ha,hv,hb,hu, h2,Ad,Af,Ae,Ac,Ah,Aa]
    repeat ((first | (refine Az ?_ ?_; (focus (simp (disch:=omega) only [go_sem,o1,o2,o3,o4,o5,o6,o7,o8,o9,hl2,ha,hv,hb,hu, h2,Ad,Af,Ae,Ac,Ah,Aa]; done))) | (refine A1 ?_ ?_; (focus (simp (disch:=omega) only [go_sem,o1,o2,o3,o4,o5,o6,o7,o8,o9,hl2,ha,hv,hb,hu, h2,Ad,Af,Ae,Ac,Ah,Aa]; done)))); (try simp (disch:=omega) only [go_sem,o1,o2,o3,o4,o5,o6,o7,o8,o9,hl2,ha,hv,hb,hu, h2,Ad,Af,Ae,Ac,Ah,Aa]))
   | true =>
    try rw [hw] at hv
    rw [zX]
    cases hq:x.atom.isZ with
    | true =>
     rw [hq] at ha
     rw [zJ]
     refine Ai Ax Au (of_decide_eq_true rfl) ?_
     simp (disch:=omega) only [Av,go_sem,o1,o2,o3,o4,o5,o6,o7,o8,o9,hl2,ha,hv,hb,hu, h2,Ad,Af,Ae,Ac,Ah,Aa]
     repeat ((first | (refine Az ?_ ?_; (focus (simp (disch:=omega) only [go_sem,o1,o2,o3,o4,o5,o6,o7,o8,o9,hl2,ha,hv,hb,hu, h2,Ad,Af,Ae,Ac,Ah,Aa]; done))) | (refine A1 ?_ ?_; (focus (simp (disch:=omega) only [go_sem,o1,o2,o3,o4,o5,o6,o7,o8,o9,hl2,ha,hv,hb,hu, h2,Ad,Af,Ae,Ac,Ah,Aa]; done)))); (try simp (disch:=omega) only [go_sem,o1,o2,o3,o4,o5,o6,o7,o8,o9,hl2,ha,hv,hb,hu, h2,Ad,Af,Ae,Ac,Ah,Aa]))
    | false =>
     rw [hq] at ha
     rw [zD]
     refine Ai Ax Au (of_decide_eq_true rfl) ?_
     simp (disch:=omega) only [Av,go_sem,o1,o2,o3,o4,o5,o6,o7,o8,o9,hl2,ha,hv,hb,hu, h2,Ad,Af,Ae,Ac,Ah,Aa]
     repeat ((first | (refine Az ?_ ?_; (focus (simp (disch:=omega) only [go_sem,o1,o2,o3,o4,o5,o6,o7,o8,o9,hl2,ha,hv,hb,hu, h2,Ad,Af,Ae,Ac,Ah,Aa]; done))) | (refine A1 ?_ ?_; (focus (simp (disch:=omega) only [go_sem,o1,o2,o3,o4,o5,o6,o7,o8,o9,hl2,ha,hv,hb,hu, h2,Ad,Af,Ae,Ac,Ah,Aa]; done)))); (try simp (disch:=omega) only [go_sem,o1,o2,o3,o4,o5,o6,o7,o8,o9,hl2,ha,hv,hb,hu, h2,Ad,Af,Ae,Ac,Ah,Aa]))
  ·have hl2:dec ((x.parts.length:Int)=1)=false:=An (by omega)
   have hl3:(x.parts.length == 1)=false:=by simpa using hl
   rw [hl3,zD,zD,zD]
   refine Ai Ax Au (of_decide_eq_true rfl) ?_
   simp (disch:=omega) only [Av,go_sem,o1,o2,o3,o4,o5,o6,o7,o8,o9,hl2,ha,hv,hb,hu, h2,Ad,Af,Ae,Ac,Ah,Aa]
   repeat ((first | (refine Az ?_ ?_; (focus (simp (disch:=omega) only [go_sem,o1,o2,o3,o4,o5,o6,o7,o8,o9,hl2,ha,hv,hb,hu, h2,Ad,Af,Ae,Ac,Ah,Aa]; done))) | (refine A1 ?_ ?_; (focus (simp (disch:=omega) only [go_sem,o1,o2,o3,o4,o5,o6,o7,o8,o9,hl2,ha,hv,hb,hu, h2,Ad,Af,Ae,Ac,Ah,Aa]; done)))); (try simp (disch:=omega) only [go_sem,o1,o2,o3,o4,o5,o6,o7,o8,o9,hl2,ha,hv,hb,hu, h2,Ad,Af,Ae,Ac,Ah,Aa]))
theorem Tw (x:Fm) (ht:x.tame) (hn:x.nodes≤1099511627776) (ih:∀ y∈x.parts,E 99 [y.sv] []=some (.bool y.forms,[])):E 99 [x.sv] []=some (.bool x.forms,[]):=by
 have hl:=Fm.length_le x.parts
 have hx:=Fm.nodes_eq x
 have ha:=Fm.tame_at ht
 have h1:∀ y∈x.parts,E 157 [y.sv] []=some (.bool (!y.forms),[]):=fun y hy=>by
  have h:=ih y hy
  refine Ai Lp Gr (of_decide_eq_true rfl) ?_
  simp (disch:=omega) only [Gq,go_sem,Ab,h,Au]
 have h2:=JF 157 (fun y=>!y.forms) x.parts (by omega) Lq (by rw [Gr]) h1
 rcases RK x.op with h | h | h | h | h | h | h | h | h | h
 ·exact PG x ha (by omega) (.inl h) h2
 ·exact PG x ha (by omega) (.inr h) h2
 ·exact UV x ha (by omega) h h2
 ·exact UW x ha (by omega) h h2
 ·exact Lr x ha (by omega) (.inl h) h2
 ·exact Lr x ha (by omega) (.inr (.inl h)) h2
 ·exact Lr x ha (by omega) (.inr (.inr h)) h2
 ·exact PH x ha (by omega) (.inl h) h2
 ·exact PH x ha (by omega) (.inr h) h2
 ·obtain ⟨k1,k2,k3,k4,k5,k6,k7,k8,k9⟩:=h
  have hf:x.form=false:=by unfold Fm.form; simp [k1,k2,k3,k4,k5,k6,k7,k8,k9]
  have o1:=An k1
  have o2:=An k2
  have o3:=An k3
  have o4:=An k4
  have o5:=An k5
  have o6:=An k6
  have o7:=An k7
  have o8:=An k8
  have o9:=An k9
  have hb:=DO x.op
  have hu:=BA x.op
  rw [o5,o6,o7] at hb
  rw [o8,o9] at hu
  rw [Fm.BV,hf,zD]
  refine Ai Ax Au (of_decide_eq_true rfl) ?_
  simp (disch:=omega) only [Av,go_sem,o1,o2,o3,o4,o5,o6,o7,o8,o9,hb,hu,Ac,Ah]
  repeat ((first | (refine Az ?_ ?_; (focus (simp (disch:=omega) only [go_sem,o1,o2,o3,o4,o5,o6,o7,o8,o9,hb,hu,Ac,Ah]; done))) | (refine A1 ?_ ?_; (focus (simp (disch:=omega) only [go_sem,o1,o2,o3,o4,o5,o6,o7,o8,o9,hb,hu,Ac,Ah]; done)))); (try simp (disch:=omega) only [go_sem,o1,o2,o3,o4,o5,o6,o7,o8,o9,hb,hu,Ac,Ah]))
theorem PI (x:Fm) (ht:x.tame) (hn:x.nodes≤1099511627776):E 99 [x.sv] []=some (.bool x.forms,[]) :=
 Tw x ht hn fun y hy=>PI y (Fm.I9 ht hy) (by have:=Fm.nodes_mem hy; have:=Fm.nodes_eq x; omega)
termination_by SizeOf.sizeOf x
decreasing_by exact Fm.lt_of_mem hy
theorem Gs (x:Fm) (ht:x.tame) (hn:x.nodes≤1099511627776):E 41 [x.sv] []=some (.bool x.valid,[]):=by
 have h1:=Uh x hn
 have h2:=PI x ht hn
 have h3:=Fm.cap_spec x
 unfold Fm.valid
 rcases zF 40 x.nodes with h5 | h5
 ·rw [decide_eq_false (by omega),zD]
  have d:dec (x.cap≤40)=false:=An (by omega)
  refine Ai D8 BE (of_decide_eq_true rfl) ?_
  simp (disch:=omega) only [C2,go_sem,Ab,h1,h2,d,CZ,Au]
 ·rw [decide_eq_true h5,zJ]
  have d:dec (x.cap≤40)=true:=A4 (by omega)
  refine Ai D8 BE (of_decide_eq_true rfl) ?_
  simp (disch:=omega) only [C2,go_sem,Ab,h1,h2,d,CZ,Au]
theorem WJ (x:Fm) (ht:x.tame) (hn:x.nodes≤1099511627776):E 37 [x.sv] []=some (.bool x.valid,[]):=by
 have h1:=Ui x 40 (by omega) (by omega) hn
 have h2:=PF x ht hn
 have h3:=Fm.many_spec x 40
 unfold Fm.valid
 rcases zF 40 x.nodes with h5 | h5
 ·rw [decide_eq_false (by omega),zD]
  have d:dec ((x.many 40)≤40)=false:=An (by omega)
  refine Ai Je Cz (of_decide_eq_true rfl) ?_
  simp (disch:=omega) only [FK,go_sem,Ab,h1,h2,d,Da,BX]
 ·rw [decide_eq_true h5,zJ]
  have d:dec ((x.many 40)≤40)=true:=A4 (by omega)
  refine Ai Je Cz (of_decide_eq_true rfl) ?_
  simp (disch:=omega) only [FK,go_sem,Ab,h1,h2,d,Da,BX]
def DP:SC:=(.seq (.reg [⟨some 2,none,.mv (.c .nil)⟩]) (.seq (.seq (.reg [⟨some 6,none,.mv (.t 0)⟩,⟨some 7,none,.len false (.t 6)⟩,⟨some 8,none,.bin .eql false (.t 7) (.c (.int .i64 0))⟩]) (.cond (.t 8) (.seq (.reg [⟨some 2,none,.mv (.c .nil)⟩]) .ret) .skip)) (.seq (.reg [⟨some 9,none,.mv (.t 0)⟩,⟨some 10,none,.len false (.t 9)⟩,⟨(some 11),none,(.mkslice 31 2 40 [(.str ⟨#[]⟩),.nil] (.t 10))⟩,⟨some 3,none,.mv (.t 11)⟩]) (.seq (.seq (.reg [⟨some 12,none,.mv (.t 0)⟩,⟨some 13,none,.len false (.t 12)⟩,⟨some 14,none,.mv (.c (.int .i64 0))⟩]) (.block 0 (.loop [0,0,0,1,0,0,0,0,0,0,0,0,1,1,1,0,0,0,0,0,0,0,0,0,0,0] (.seq (.reg [⟨some 15,none,.bin .lss false (.t 14) (.t 13)⟩]) (.seq (.cond (.t 15) .skip (.exit 0)) (.seq (.block 1 (.seq (.reg [⟨some 16,none,.mv (.t 14)⟩,⟨some 17,none,.iaddr 2 (.t 12) (.t 14)⟩,⟨some 18,none,.load true 2 (.t 17)⟩,⟨(some 5),none,(.alloc 31 [(.str ⟨#[]⟩),.nil])⟩,⟨some 4,none,.mv (.t 16)⟩,⟨none,none,(.store 2 (.t 5) (.t 18))⟩]) (.reg [⟨some 19,none,.mv (.t 3)⟩,⟨some 20,none,.mv (.t 4)⟩,⟨some 21,none,.load true 2 (.t 5)⟩,⟨some 22,none,.call 170 [(.t 21)]⟩,⟨some 23,none,.iaddr 2 (.t 19) (.t 20)⟩,⟨none,none,(.store 2 (.t 23) (.t 22))⟩]))) (.reg [⟨some 24,none,.bin .add false (.t 14) (.c (.int .i64 1))⟩,⟨some 14,none,.mv (.t 24)⟩]))))))) (.seq (.reg [⟨some 25,none,.mv (.t 3)⟩,⟨some 2,none,.mv (.t 25)⟩]) .ret)))))
theorem Gt:codeOf Tryz.prog 212=some ⟨26,DP,[(.tmp 2)]⟩:=by kernel_rfl
theorem DQ:modes 212=⟨[],.own [some (31,2)],none,false⟩:=by unfold modes; rfl
def GR:SC:=(.seq (.reg [⟨some 1,none,.boxv 31 2 (.t 0)⟩,⟨(some 2),none,(.alloc 31 [(.str ⟨#[]⟩),.nil])⟩]) (.seq (.dreg [[],[0],[],[2],[3,2],[1,0,4,3,2],[5,1,0,4,3,2]] [⟨some 3,none,.faddr 0 (.t 1)⟩,⟨some 4,none,.load false 1 (.t 3)⟩,⟨some 5,none,.faddr 1 (.t 1)⟩,⟨some 6,none,.load false 1 (.t 5)⟩,⟨some 7,none,.call 212 [(.t 6)]⟩,⟨(some 8),none,(.build [(.str ⟨#[]⟩),.nil] [(0,(1,(.t 4))),(1,(1,(.t 7)))])⟩,⟨none,none,(.store 2 (.t 2) (.t 8))⟩]) .ret))
theorem Mk:codeOf Tryz.prog 170=some ⟨9,GR,[(.cell 2 true 2)]⟩:=by kernel_rfl
theorem Ct:modes 170=⟨[],.asis,none,false⟩:=by unfold modes; rfl
def Kq:SC:=(.seq (.reg [⟨some 1,none,.boxv 31 2 (.t 0)⟩,⟨(some 2),none,(.alloc 31 [(.str ⟨#[]⟩),.nil])⟩]) (.seq (.reg [⟨some 5,none,.faddr 0 (.t 1)⟩,⟨some 6,none,.load false 1 (.t 5)⟩,⟨(some 7),none,(.build [(.str ⟨#[]⟩),.nil] [(0,(1,(.t 6)))])⟩,⟨(some 3),none,(.alloc 31 [(.str ⟨#[]⟩),.nil])⟩,⟨none,none,(.store 2 (.t 3) (.t 7))⟩]) (.seq (.seq (.reg [⟨some 4,none,.mv (.c (.int .i64 0))⟩]) (.block 0 (.loop [0,1,1,1,1,0,0,0,0,0,0,0,0,0,0,0,0,0,0,0,0,0,0,0,0,0,0] (.seq (.seq (.reg [⟨some 8,none,.mv (.t 4)⟩,⟨some 9,none,.faddr 1 (.t 1)⟩,⟨some 10,none,.load false 1 (.t 9)⟩,⟨some 11,none,.len false (.t 10)⟩,⟨some 12,none,.bin .lss false (.t 8) (.t 11)⟩]) (.cond (.t 12) .skip (.exit 0))) (.seq (.block 1 (.dreg [[],[0],[],[2],[],[3,2,4],[5,3,2,4],[6,5,3,2,4],[7,6,5,3,2,4],[1,0,8,7,6,5,3,2,4],[0,1,2,3,4,5,6,7,8,9],[10,0,1,2,3,4,5,6,7,8,9]] [⟨some 15,none,.faddr 1 (.t 3)⟩,⟨some 16,none,.load false 1 (.t 15)⟩,⟨some 17,none,.faddr 1 (.t 1)⟩,⟨some 18,none,.load false 1 (.t 17)⟩,⟨some 19,none,.mv (.t 4)⟩,⟨some 20,none,.iaddr 2 (.t 18) (.t 19)⟩,⟨some 21,none,.load true 2 (.t 20)⟩,⟨some 22,none,.call 108 [(.t 21)]⟩,⟨(some 23),none,(.mkrow 31 2 [(.str ⟨#[]⟩),.nil] 1 [(0,(.t 22))])⟩,⟨(some 24),none,(.append 31 2 40 [(.str ⟨#[]⟩),.nil] (.t 16) (.t 23))⟩,⟨some 25,none,.faddr 1 (.t 3)⟩,⟨none,none,(.store 1 (.t 25) (.t 24))⟩])) (.reg [⟨some 13,none,.mv (.t 4)⟩,⟨some 14,none,.bin .add false (.t 13) (.c (.int .i64 1))⟩,⟨some 4,none,.mv (.t 14)⟩])))))) (.seq (.reg [⟨some 26,none,.load true 2 (.t 3)⟩,⟨none,none,(.store 2 (.t 2) (.t 26))⟩]) .ret))))
theorem Q0:codeOf Tryz.prog 108=some ⟨27,Kq,[(.cell 2 true 2)]⟩:=by kernel_rfl
theorem CI:modes 108=⟨[],.frz,none,false⟩:=by unfold modes; rfl
theorem Q1 (xs:List Tm) (hl:xs.length≤1099511627776) (h:∀ x∈xs,E 170 [x.sv] []=some (x.osv,x.obs)):E 212 [.arr (xs.map Tm.d)] []=some (.ref 0,[.row 31 2 (xs.map Tm.o)]):=by
 cases xs with
 | nil =>
  refine Ai Gt DQ (of_decide_eq_true rfl) ?_
  simp (disch:=omega) only [DP,go_sem,Ab]
 | cons x0 xs0 =>
 generalize hxs:x0 :: xs0=xs at *
 have hpos:0<xs.length:=by rw [←hxs]; simp
 refine Ai Gt DQ (of_decide_eq_true rfl) ?_
 simp (disch:=omega) only [DP,go_sem,Ab]
 refine go_loop (α:=Int) (fun a=>⟨slots 26 0 [(3,.ref 0),(12,.arr (xs.map Tm.d)),(13,.int .i64 xs.length),(14,.int .i64 a)],[.row 31 2 (Fp Tm.o [.str ⟨#[]⟩,.ow []] xs a.toNat)]⟩) (fun a=>∃ k:Nat,a=k∧k≤(xs).length) (fun a=>(xs).length-(a).toNat) 0 ⟨0,rfl,zK _⟩ (by simp (disch:=omega) only [go_sem,Ab,JC,yD]) ?_
 rintro i ⟨k,hi,hk⟩
 have hni:i.toNat=k:=by omega
 have hni1:(i+1).toNat=k+1:=by omega
 rcases zF k (xs).length with hlt | hge
 ·have hg:=get_at Tm.d hlt
  rw [Tm.d_eq] at hg
  have hz:=Ll Tm.o [.str ⟨#[]⟩,.ow []] hlt
  have hc:=h xs[k] (zH hlt)
  have hs:=Lm Tm.o [.str ⟨#[]⟩,.ow []] hlt
  rw [Tm.o_eq] at hs
  simp (disch:=omega) only [go_sem,Ab,hni,hg,hc,hz,Lj,Ct,Tm.osv,Tm.obs]
  refine ⟨i+1,⟨k+1,by omega,hlt⟩,by omega,?_⟩
  simp (disch:=omega) only [go_sem,Ab,hni1,hs]
 ·obtain rfl:k=xs.length:=by omega
  simp (disch:=omega) only [go_sem,Ab,hni,Lk]
theorem RO (x:Tm) (h:E 212 [.arr (x.args.map Tm.d)] []=some (.ref 0,[.row 31 2 (x.args.map Tm.o)])):E 170 [x.sv] []=some (x.osv,x.obs):=by
 refine Ai Mk Ct (of_decide_eq_true rfl) ?_
 simp (disch:=omega) only [GR,go_sem,Ab,h,DQ]
theorem JG (x:Tm) (hn:x.nodes≤1099511627776):E 170 [x.sv] []=some (x.osv,x.obs) :=
 RO x (Q1 x.args (by have:=Tm.nodes_eq x; have:=Tm.length_le x.args; omega) fun y hy=>JG y (by have:=Tm.nodes_mem hy; have:=Tm.nodes_eq x; omega))
termination_by SizeOf.sizeOf x
decreasing_by exact Tm.lt_of_mem hy
def ZP (res:RM) (n0:Nat) (rs:List RX) (Q:SV × List Ob→Prop) (x:X) (st:St):Prop:=∃ out,Yt res n0 rs out x st∧Q out
theorem exq {α:Type} {a:α} {Q:α→Prop}:(∃ out,some a=some out∧Q out)=Q a:=propext ⟨fun ⟨o,h,q⟩=>by obtain rfl:=Option.some.inj h; exact q,fun q=>⟨a,rfl,q⟩⟩
theorem Z1 {res:RM} {n0:Nat} {rs:List RX} {Q:SV × List Ob→Prop} {sl:List SV} {ob:List Ob}:ZP res n0 rs Q .ret ⟨sl,ob⟩=∃ out,RB res n0 ob (Ox ⟨sl,ob⟩ rs)=some out∧Q out:=rfl
theorem Z2 {res:RM} {n0:Nat} {rs:List RX} {Q:SV × List Ob→Prop} {sl:List SV} {ob:List Ob}:ZP res n0 rs Q .normal ⟨sl,ob⟩=∃ out,RB res n0 ob (Ox ⟨sl,ob⟩ rs)=some out∧Q out:=rfl
attribute [go_sem] Z1 Z2 exq
def Tm.osh (x:Tm):List OT:=[.str x.name,.sh (x.args.map Tm.d)]
theorem Tm.osh_eq (x:Tm):x.osh=[.str x.name,.sh (x.args.map Tm.d)]:=rfl
theorem Tm.osh_full:∀ xs:List Tm,OT.A2 (xs.map Tm.osh)=true
 | []=>rfl
 | x :: xs=>by rw [yB,Tm.osh_eq]; simp [OT.A2,OT.Be,OT.full,Tm.osh_full xs]
theorem Tm.osh_er:∀ xs:List Tm,OT.erss (xs.map Tm.osh)=xs.map Tm.d
 | []=>rfl
 | x :: xs=>by rw [yB,yB,Tm.osh_eq,Tm.d_eq]; simp [OT.erss,OT.ers,OT.er,Tm.osh_er xs]
theorem NE {α β:Type} (f:α→β) {xs:List α} {k:Nat} (h:k<xs.length):(xs.take k).map f++[f xs[k]]=(xs.take (k+1)).map f:=by
 rw [List.take_succ_eq_append_getElem h,List.map_append]; rfl
theorem WK (x:Tm) (hn:x.nodes≤1099511627776) (ih:∀ y∈x.args,E 108 [y.sv] []=some (y.sv,[])):E 108 [x.sv] []=some (x.sv,[]):=by
 have hl:=Tm.length_le x.args
 have hne:=Tm.nodes_eq x
 have h10:((1:Int)=0)=False:=by simp
 have hfu:=Tm.osh_full x.args
 have her:=Tm.osh_er x.args
 refine Ai Q0 CI (of_decide_eq_true rfl) ?_
 simp (disch:=omega) only [Kq,go_sem,Ab]
 refine go_loop (α:=Int) (fun a=>⟨slots 27 0 [(1,.ptr 0 0),(2,.ptr 1 0),(3,.ptr 2 0),(4,.int .i64 a)],(if a=0 then [.box 31 [.str x.name,.arr (x.args.map Tm.d)],.box 31 [.str ⟨#[]⟩,.nil],.box 31 [.str x.name,.nil]] else [.box 31 [.str x.name,.arr (x.args.map Tm.d)],.box 31 [.str ⟨#[]⟩,.nil],.box 31 [.str x.name,.ref 3],.row 31 2 ((x.args.take a.toNat).map Tm.osh)])⟩) (fun a=>∃ k:Nat,a=k∧k≤(x.args).length) (fun a=>(x.args).length-(a).toNat) 0 ⟨0,rfl,zK _⟩ (by simp (disch:=omega) only [go_sem,Ab,eq_self,if_true]) ?_
 rintro i ⟨k,hi,hk⟩
 have hni:i.toNat=k:=by omega
 have hni1:(i+1).toNat=k+1:=by omega
 rcases zF k (x.args).length with hlt | hge
 ·have hg:=get_at Tm.d hlt
  rw [Tm.d_eq] at hg
  have hc:=ih x.args[k] (zH hlt)
  have hs:=NE Tm.osh hlt
  rw [Tm.osh_eq] at hs
  rcases zN k with h0 | h0
  ·subst h0
   obtain rfl:i=0:=hi
   rw [yV,zQ,zS] at hs
   simp (disch:=omega) only [go_sem,Ab,hni,hg,hc,CI,eq_self,if_true]
   refine ⟨1,⟨1,rfl,hlt⟩,by omega,?_⟩
   simp (disch:=omega) only [go_sem,Ab,h10,if_false,hs]
  ·have hi0:(i=0)=False:=by simp; omega
   have hi1:(i+1=0)=False:=by simp; omega
   have htl:(x.args.take k).length=k:=by rw [zY]; omega
   simp (disch:=omega) only [go_sem,Ab,hni,hg,hc,CI,hi0,if_false,htl]
   refine ⟨i+1,⟨k+1,by omega,hlt⟩,by omega,?_⟩
   simp (disch:=omega) only [go_sem,Ab,hni1,hi1,if_false,hs]
 ·obtain rfl:k=x.args.length:=by omega
  have ht:x.args.take x.args.length=x.args:=yR
  rcases zN x.args.length with h0 | h0
  ·have hx:x.args=[]:=zL h0
   obtain rfl:i=0:=by omega
   simp (disch:=omega) only [go_sem,Ab,hni,hx,eq_self,if_true,zQ,zM]
  ·have hi0:(i=0)=False:=by simp; omega
   simp (disch:=omega) only [go_sem,Ab,hni,hi0,if_false,ht,hfu,her]
theorem Q2 (x:Tm) (hn:x.nodes≤1099511627776):E 108 [x.sv] []=some (x.sv,[]) :=
 WK x hn fun y hy=>Q2 y (by have:=Tm.nodes_mem hy; have:=Tm.nodes_eq x; omega)
termination_by SizeOf.sizeOf x
decreasing_by exact Tm.lt_of_mem hy
def Fm.osh (x:Fm):List OT:=[.int x.op,.str x.atom.name,.sh (x.atom.args.map Tm.d),.str x.var,.sh (x.parts.map Fm.d)]
theorem Fm.osh_eq (x:Fm):x.osh=[.int x.op,.str x.atom.name,.sh (x.atom.args.map Tm.d),.str x.var,.sh (x.parts.map Fm.d)]:=rfl
theorem Fm.osh_full:∀ xs:List Fm,OT.A2 (xs.map Fm.osh)=true
 | []=>rfl
 | x :: xs=>by simp only [yB,OT.A2,Fm.osh,OT.Be,OT.full,Fm.osh_full xs,yF]
theorem Fm.osh_er:∀ xs:List Fm,OT.erss (xs.map Fm.osh)=xs.map Fm.d
 | []=>rfl
 | x :: xs=>by simp only [yB,OT.erss,Fm.osh,OT.ers,OT.er,Fm.osh_er xs,Fm.d_eq]
theorem Fm.eta (x:Fm):Fm.mk x.op x.atom x.var x.parts=x:=by
 obtain ⟨a,b,c,d⟩:=x
 rfl
def GS:SC:=(.seq (.reg [⟨some 2,none,.boxv 34 5 (.t 0)⟩,⟨(some 4),none,(.alloc 34 [(.int .i64 0),(.str ⟨#[]⟩),.nil,(.str ⟨#[]⟩),.nil])⟩]) (.seq (.dreg [[],[0],[],[2],[3,2],[],[5],[1,0,4,3,2,6,5],[],[8,7,1,0,4,3,2,6,5]] [⟨some 8,none,.faddr 0 (.t 2)⟩,⟨some 9,none,.load false 1 (.t 8)⟩,⟨some 10,none,.faddr 1 (.t 2)⟩,⟨some 11,none,.load true 2 (.t 10)⟩,⟨some 12,none,.call 170 [(.t 11)]⟩,⟨some 13,none,.faddr 3 (.t 2)⟩,⟨some 14,none,.load false 1 (.t 13)⟩,⟨(some 15),none,(.build [(.int .i64 0),(.str ⟨#[]⟩),.nil,(.str ⟨#[]⟩),.nil] [(0,(1,(.t 9))),(1,(2,(.t 12))),(3,(1,(.t 14)))])⟩,⟨(some 5),none,(.alloc 34 [(.int .i64 0),(.str ⟨#[]⟩),.nil,(.str ⟨#[]⟩),.nil])⟩,⟨none,none,(.store 5 (.t 5) (.t 15))⟩]) (.seq (.seq (.reg [⟨some 16,none,.faddr 4 (.t 2)⟩,⟨some 17,none,.load false 1 (.t 16)⟩,⟨some 18,none,.len false (.t 17)⟩,⟨some 19,none,.mv (.c (.int .i64 0))⟩]) (.block 0 (.loop [0,1,0,0,1,1,0,0,0,0,0,0,0,0,0,0,0,1,1,1,0,0,0,0,0,0,0,0,0,0,0,0,0] (.seq (.reg [⟨some 20,none,.bin .lss false (.t 19) (.t 18)⟩]) (.seq (.cond (.t 20) .skip (.exit 0)) (.seq (.block 1 (.seq (.reg [⟨some 21,none,.iaddr 5 (.t 17) (.t 19)⟩,⟨some 22,none,.load true 5 (.t 21)⟩,⟨(some 7),none,(.alloc 34 [(.int .i64 0),(.str ⟨#[]⟩),.nil,(.str ⟨#[]⟩),.nil])⟩,⟨none,none,(.store 5 (.t 7) (.t 22))⟩]) (.dreg [[],[0],[],[],[2,3],[4,2,3],[1,0,5,4,2,3],[0,1,2,3,4,5,6],[7,0,1,2,3,4,5,6]] [⟨some 23,none,.faddr 4 (.t 5)⟩,⟨some 24,none,.load false 1 (.t 23)⟩,⟨some 25,none,.mv (.t 1)⟩,⟨some 26,none,.load true 5 (.t 7)⟩,⟨some 27,none,.callv (.t 25) [(.t 26)]⟩,⟨(some 28),none,(.mkrow 34 5 [(.int .i64 0),(.str ⟨#[]⟩),.nil,(.str ⟨#[]⟩),.nil] 1 [(0,(.t 27))])⟩,⟨(some 29),none,(.append 34 5 88 [(.int .i64 0),(.str ⟨#[]⟩),.nil,(.str ⟨#[]⟩),.nil] (.t 24) (.t 28))⟩,⟨some 30,none,.faddr 4 (.t 5)⟩,⟨none,none,(.store 1 (.t 30) (.t 29))⟩]))) (.reg [⟨some 31,none,.bin .add false (.t 19) (.c (.int .i64 1))⟩,⟨some 19,none,.mv (.t 31)⟩]))))))) (.seq (.reg [⟨some 32,none,.load true 5 (.t 5)⟩,⟨none,none,(.store 5 (.t 4) (.t 32))⟩]) .ret))))
theorem Ml:codeOf Tryz.prog 129=some ⟨33,GS,[(.cell 4 true 5)]⟩:=by kernel_rfl
theorem GT:modes 129=⟨[],.own [none,none,some (31,2),none,some (34,5)],none,false⟩:=by unfold modes; rfl
def EW:SC:=(.seq (.reg [⟨some 1,none,.boxv 34 5 (.t 0)⟩,⟨(some 2),none,(.alloc 34 [(.int .i64 0),(.str ⟨#[]⟩),.nil,(.str ⟨#[]⟩),.nil])⟩]) (.seq (.reg [⟨some 3,none,.load true 5 (.t 1)⟩,⟨some 4,none,.call 129 [(.t 3),(.c (.fn 68 []))]⟩,⟨none,none,(.store 5 (.t 2) (.t 4))⟩]) .ret))
theorem JH:codeOf Tryz.prog 68=some ⟨5,EW,[(.cell 2 true 5)]⟩:=by kernel_rfl
theorem Dm:modes 68=⟨[],.own [none,none,some (31,2),none,some (34,5)],none,false⟩:=by unfold modes; rfl
theorem JI:IF Tryz.prog 68=true:=by kernel_rfl
def Kr:SC:=(.seq (.reg [⟨some 1,none,.boxv 34 5 (.t 0)⟩,⟨(some 2),none,(.alloc 34 [(.int .i64 0),(.str ⟨#[]⟩),.nil,(.str ⟨#[]⟩),.nil])⟩]) (.seq (.dreg [[],[0],[],[2],[3,2],[],[5],[1,0,4,3,2,6,5],[],[8,7,1,0,4,3,2,6,5]] [⟨some 5,none,.faddr 0 (.t 1)⟩,⟨some 6,none,.load false 1 (.t 5)⟩,⟨some 7,none,.faddr 1 (.t 1)⟩,⟨some 8,none,.load true 2 (.t 7)⟩,⟨some 9,none,.call 108 [(.t 8)]⟩,⟨some 10,none,.faddr 3 (.t 1)⟩,⟨some 11,none,.load false 1 (.t 10)⟩,⟨(some 12),none,(.build [(.int .i64 0),(.str ⟨#[]⟩),.nil,(.str ⟨#[]⟩),.nil] [(0,(1,(.t 6))),(1,(2,(.t 9))),(3,(1,(.t 11)))])⟩,⟨(some 3),none,(.alloc 34 [(.int .i64 0),(.str ⟨#[]⟩),.nil,(.str ⟨#[]⟩),.nil])⟩,⟨none,none,(.store 5 (.t 3) (.t 12))⟩]) (.seq (.seq (.reg [⟨some 4,none,.mv (.c (.int .i64 0))⟩]) (.block 0 (.loop [0,1,1,1,1,0,0,0,0,0,0,0,0,0,0,0,0,0,0,0,0,0,0,0,0,0,0,0,0,0,0,0] (.seq (.seq (.reg [⟨some 13,none,.mv (.t 4)⟩,⟨some 14,none,.faddr 4 (.t 1)⟩,⟨some 15,none,.load false 1 (.t 14)⟩,⟨some 16,none,.len false (.t 15)⟩,⟨some 17,none,.bin .lss false (.t 13) (.t 16)⟩]) (.cond (.t 17) .skip (.exit 0))) (.seq (.block 1 (.dreg [[],[0],[],[2],[],[3,2,4],[5,3,2,4],[6,5,3,2,4],[7,6,5,3,2,4],[1,0,8,7,6,5,3,2,4],[0,1,2,3,4,5,6,7,8,9],[10,0,1,2,3,4,5,6,7,8,9]] [⟨some 20,none,.faddr 4 (.t 3)⟩,⟨some 21,none,.load false 1 (.t 20)⟩,⟨some 22,none,.faddr 4 (.t 1)⟩,⟨some 23,none,.load false 1 (.t 22)⟩,⟨some 24,none,.mv (.t 4)⟩,⟨some 25,none,.iaddr 5 (.t 23) (.t 24)⟩,⟨some 26,none,.load true 5 (.t 25)⟩,⟨some 27,none,.call 61 [(.t 26)]⟩,⟨(some 28),none,(.mkrow 34 5 [(.int .i64 0),(.str ⟨#[]⟩),.nil,(.str ⟨#[]⟩),.nil] 1 [(0,(.t 27))])⟩,⟨(some 29),none,(.append 34 5 88 [(.int .i64 0),(.str ⟨#[]⟩),.nil,(.str ⟨#[]⟩),.nil] (.t 21) (.t 28))⟩,⟨some 30,none,.faddr 4 (.t 3)⟩,⟨none,none,(.store 1 (.t 30) (.t 29))⟩])) (.reg [⟨some 18,none,.mv (.t 4)⟩,⟨some 19,none,.bin .add false (.t 18) (.c (.int .i64 1))⟩,⟨some 4,none,.mv (.t 19)⟩])))))) (.seq (.reg [⟨some 31,none,.load true 5 (.t 3)⟩,⟨none,none,(.store 5 (.t 2) (.t 31))⟩]) .ret))))
theorem Q3:codeOf Tryz.prog 61=some ⟨32,Kr,[(.cell 2 true 5)]⟩:=by kernel_rfl
theorem E7:modes 61=⟨[],.frz,none,false⟩:=by unfold modes; rfl
theorem RP (fid:Nat) (g:Fm→Fm) (x:Fm) (hl:x.parts.length≤1099511627776) (hat:x.atom.nodes≤1099511627776) (hg:IF Tryz.prog fid=true) (hm:(modes fid).hand=[]) (hr:∀ r,Fl (modes fid).res r=r) (hE:∀ y∈x.parts,E fid [y.sv] []=some ((g y).osv,(g y).obs)):E 129 [x.sv,.fn fid []] []=some ((Fm.mk x.op x.atom x.var (x.parts.map g)).osv,(Fm.mk x.op x.atom x.var (x.parts.map g)).obs):=by
 have hct:=JG x.atom hat
 have h10:((1:Int)=0)=False:=by simp
 have hmm:∀ ys:List Fm,(ys.map g).map Fm.o=ys.map fun y=>Fm.o (g y):=fun ys=>by rw [z7]; rfl
 show _=some (SV.agg [.int .i64 x.op,.str x.atom.name,.ref 0,.str x.var,.ref 1],[Ob.row 31 2 (x.atom.args.map Tm.o),.row 34 5 ((x.parts.map g).map Fm.o)])
 rw [hmm]
 refine Ai Ml GT (of_decide_eq_true rfl) ?_
 simp (disch:=omega) only [GS,go_sem,Ab,hct,Ct,Tm.osv,Tm.obs]
 refine go_loop (α:=Int) (fun a=>⟨slots 33 0 [(1,.fn fid []),(4,.ptr 0 0),(5,.ptr 1 0),(17,.arr (x.parts.map Fm.d)),(18,.int .i64 x.parts.length),(19,.int .i64 a)],(if a=0 then [.box 34 [.int .i64 0,.str ⟨#[]⟩,.nil,.str ⟨#[]⟩,.nil],.box 34 [.int .i64 x.op,.str x.atom.name,.ref 2,.str x.var,.nil],.row 31 2 (x.atom.args.map Tm.o)] else [.box 34 [.int .i64 0,.str ⟨#[]⟩,.nil,.str ⟨#[]⟩,.nil],.box 34 [.int .i64 x.op,.str x.atom.name,.ref 2,.str x.var,.ref 3],.row 31 2 (x.atom.args.map Tm.o),.row 34 5 ((x.parts.take a.toNat).map fun y=>Fm.o (g y))])⟩) (fun a=>∃ k:Nat,a=k∧k≤(x.parts).length) (fun a=>(x.parts).length-(a).toNat) 0 ⟨0,rfl,zK _⟩ (by simp (disch:=omega) only [go_sem,Ab,eq_self,if_true]) ?_
 rintro i ⟨k,hi,hk⟩
 have hni:i.toNat=k:=by omega
 have hni1:(i+1).toNat=k+1:=by omega
 rcases zF k (x.parts).length with hlt | hge
 ·have hgt:=get_at Fm.d hlt
  rw [Fm.d_eq] at hgt
  have hc:=hE x.parts[k] (zH hlt)
  have hs:=NE (fun y=>Fm.o (g y)) hlt
  rw [Fm.o_eq] at hs
  rcases zN k with h0 | h0
  ·subst h0
   obtain rfl:i=0:=hi
   rw [yV,zQ,zS] at hs
   simp (disch:=omega) only [go_sem,Ab,hni,hgt,hc,hg,hm,hr,Fm.osv,Fm.obs,eq_self,if_true]
   refine ⟨1,⟨1,rfl,hlt⟩,by omega,?_⟩
   simp (disch:=omega) only [go_sem,Ab,h10,if_false,hs]
  ·have hi0:(i=0)=False:=by simp; omega
   have hi1:(i+1=0)=False:=by simp; omega
   have htl:(x.parts.take k).length=k:=by rw [zY]; omega
   simp (disch:=omega) only [go_sem,Ab,hni,hgt,hc,hg,hm,hr,Fm.osv,Fm.obs,hi0,if_false,htl]
   refine ⟨i+1,⟨k+1,by omega,hlt⟩,by omega,?_⟩
   simp (disch:=omega) only [go_sem,Ab,hni1,hi1,if_false,hs]
 ·obtain rfl:k=x.parts.length:=by omega
  have ht:x.parts.take x.parts.length=x.parts:=yR
  rcases zN x.parts.length with h0 | h0
  ·have hx:x.parts=[]:=zL h0
   obtain rfl:i=0:=by omega
   simp (disch:=omega) only [go_sem,Ab,hni,hx,eq_self,if_true,zQ,zM]
  ·have hi0:(i=0)=False:=by simp; omega
   simp (disch:=omega) only [go_sem,Ab,hni,hi0,if_false,ht]
theorem NF (x:Fm) (ht:x.tame) (hn:x.nodes≤1099511627776) (ih:∀ y∈x.parts,E 68 [y.sv] []=some (y.osv,y.obs)):E 68 [x.sv] []=some (x.osv,x.obs):=by
 have hx:=Fm.nodes_eq x
 have hl:=Fm.length_le x.parts
 have hat:=Fm.tame_at ht
 have h:=RP 68 (fun y=>y) x (by omega) (by omega) JI (by rw [Dm]) (fun r=>by rw [Dm]; rfl) ih
 rw [List.map_id',Fm.eta] at h
 refine Ai JH Dm (of_decide_eq_true rfl) ?_
 simp (disch:=omega) only [EW,go_sem,Ab,h,GT,Fm.osv,Fm.obs]
theorem Jf (x:Fm) (ht:x.tame) (hn:x.nodes≤1099511627776):E 68 [x.sv] []=some (x.osv,x.obs) :=
 NF x ht hn fun y hy=>Jf y (Fm.I9 ht hy) (by have:=Fm.nodes_mem hy; have:=Fm.nodes_eq x; omega)
termination_by SizeOf.sizeOf x
decreasing_by exact Fm.lt_of_mem hy
theorem WL (x:Fm) (ht:x.tame) (hn:x.nodes≤1099511627776) (ih:∀ y∈x.parts,E 61 [y.sv] []=some (y.sv,[])):E 61 [x.sv] []=some (x.sv,[]):=by
 have hx0:=Fm.nodes_eq x
 have hl:=Fm.length_le x.parts
 have hat:=Fm.tame_at ht
 have hct:=Q2 x.atom (by omega)
 have h10:((1:Int)=0)=False:=by simp
 have hfu:=Fm.osh_full x.parts
 have her:=Fm.osh_er x.parts
 refine Ai Q3 E7 (of_decide_eq_true rfl) ?_
 simp (disch:=omega) only [Kr,go_sem,Ab,hct,CI]
 refine go_loop (α:=Int) (fun a=>⟨slots 32 0 [(1,.ptr 0 0),(2,.ptr 1 0),(3,.ptr 2 0),(4,.int .i64 a)],(if a=0 then [.box 34 [.int .i64 x.op,.str x.atom.name,.arr (x.atom.args.map Tm.d),.str x.var,.arr (x.parts.map Fm.d)],.box 34 [.int .i64 0,.str ⟨#[]⟩,.nil,.str ⟨#[]⟩,.nil],.box 34 [.int .i64 x.op,.str x.atom.name,.arr (x.atom.args.map Tm.d),.str x.var,.nil]] else [.box 34 [.int .i64 x.op,.str x.atom.name,.arr (x.atom.args.map Tm.d),.str x.var,.arr (x.parts.map Fm.d)],.box 34 [.int .i64 0,.str ⟨#[]⟩,.nil,.str ⟨#[]⟩,.nil],.box 34 [.int .i64 x.op,.str x.atom.name,.arr (x.atom.args.map Tm.d),.str x.var,.ref 3],.row 34 5 ((x.parts.take a.toNat).map Fm.osh)])⟩) (fun a=>∃ k:Nat,a=k∧k≤(x.parts).length) (fun a=>(x.parts).length-(a).toNat) 0 ⟨0,rfl,zK _⟩ (by simp (disch:=omega) only [go_sem,Ab,eq_self,if_true]) ?_
 rintro i ⟨k,hi,hk⟩
 have hni:i.toNat=k:=by omega
 have hni1:(i+1).toNat=k+1:=by omega
 rcases zF k (x.parts).length with hlt | hge
 ·have hg:=get_at Fm.d hlt
  rw [Fm.d_eq] at hg
  have hc:=ih x.parts[k] (zH hlt)
  have hs:=NE Fm.osh hlt
  rw [Fm.osh_eq] at hs
  rcases zN k with h0 | h0
  ·subst h0
   obtain rfl:i=0:=hi
   rw [yV,zQ,zS] at hs
   simp (disch:=omega) only [go_sem,Ab,hni,hg,hc,E7,eq_self,if_true]
   refine ⟨1,⟨1,rfl,hlt⟩,by omega,?_⟩
   simp (disch:=omega) only [go_sem,Ab,h10,if_false,hs]
  ·have hi0:(i=0)=False:=by simp; omega
   have hi1:(i+1=0)=False:=by simp; omega
   have htl:(x.parts.take k).length=k:=by rw [zY]; omega
   simp (disch:=omega) only [go_sem,Ab,hni,hg,hc,E7,hi0,if_false,htl]
   refine ⟨i+1,⟨k+1,by omega,hlt⟩,by omega,?_⟩
   simp (disch:=omega) only [go_sem,Ab,hni1,hi1,if_false,hs]
 ·obtain rfl:k=x.parts.length:=by omega
  have ht2:x.parts.take x.parts.length=x.parts:=yR
  rcases zN x.parts.length with h0 | h0
  ·have hx:x.parts=[]:=zL h0
   obtain rfl:i=0:=by omega
   simp (disch:=omega) only [go_sem,Ab,hni,hx,eq_self,if_true,zQ,zM]
  ·have hi0:(i=0)=False:=by simp; omega
   simp (disch:=omega) only [go_sem,Ab,hni,hi0,if_false,ht2,hfu,her]
theorem Uj (x:Fm) (ht:x.tame) (hn:x.nodes≤1099511627776):E 61 [x.sv] []=some (x.sv,[]) :=
 WL x ht hn fun y hy=>Uj y (Fm.I9 ht hy) (by have:=Fm.nodes_mem hy; have:=Fm.nodes_eq x; omega)
termination_by SizeOf.sizeOf x
decreasing_by exact Fm.lt_of_mem hy
def Fw:SC:=(.seq (.reg [⟨some 5,none,.boxv 34 5 (.t 2)⟩,⟨(some 6),none,(.alloc 34 [(.int .i64 0),(.str ⟨#[]⟩),.nil,(.str ⟨#[]⟩),.nil])⟩]) (.seq (.reg [⟨some 7,none,.mv (.t 0)⟩,⟨some 8,none,.mv (.t 1)⟩,⟨some 9,none,.load true 5 (.t 5)⟩,⟨(some 10),none,(.mkrow 34 5 [(.int .i64 0),(.str ⟨#[]⟩),.nil,(.str ⟨#[]⟩),.nil] 1 [(0,(.t 9))])⟩,⟨(some 11),none,(.build [(.int .i64 0),(.str ⟨#[]⟩),.nil,(.str ⟨#[]⟩),.nil] [(0,(1,(.t 7))),(3,(1,(.t 8))),(4,(1,(.t 10)))])⟩,⟨none,none,(.store 5 (.t 6) (.t 11))⟩]) .ret))
theorem Ks:codeOf Tryz.prog 102=some ⟨12,Fw,[(.cell 6 true 5)]⟩:=by kernel_rfl
theorem Kt:modes 102=⟨[false,false,true],.own [none,none,some (31,2),none,some (34,5)],none,false⟩:=by unfold modes; rfl
theorem Q4 (op:Int) (v:ByteArray) (y:Fm):E 102 [.int .i64 op,.str v,y.osv] y.obs=some (.agg [.int .i64 op,.str ⟨#[]⟩,.ref 2,.str v,.ref 3],[.gone,.gone,.row 31 2 [],.row 34 5 [y.o]]):=by
 have ho:[[OT.int y.op,OT.str y.atom.name,OT.ow (y.atom.args.map Tm.o),OT.str y.var,OT.ow (y.parts.map Fm.o)]]=[y.o]:=by rw [Fm.o_eq]
 refine Ai Ks Kt (of_decide_eq_true rfl) ?_
 simp (disch:=omega) only [Fw,go_sem,Ab,Fm.osv,Fm.obs,ho]
def NG:SC:=(.seq (.reg [⟨some 1,none,.boxv 34 5 (.t 0)⟩,⟨(some 2),none,(.alloc 34 [(.int .i64 0),(.str ⟨#[]⟩),.nil,(.str ⟨#[]⟩),.nil])⟩]) (.seq (.reg [⟨some 3,none,.load true 5 (.t 1)⟩,⟨(some 4),none,(.mkrow 34 5 [(.int .i64 0),(.str ⟨#[]⟩),.nil,(.str ⟨#[]⟩),.nil] 1 [(0,(.t 3))])⟩,⟨(some 5),none,(.build [(.int .i64 0),(.str ⟨#[]⟩),.nil,(.str ⟨#[]⟩),.nil] [(0,(1,(.c (.int .i64 4)))),(4,(1,(.t 4)))])⟩,⟨none,none,(.store 5 (.t 2) (.t 5))⟩]) .ret))
theorem Tx:codeOf Tryz.prog 171=some ⟨6,NG,[(.cell 2 true 5)]⟩:=by kernel_rfl
theorem JJ:modes 171=⟨[true],.own [none,none,some (31,2),none,some (34,5)],none,false⟩:=by unfold modes; rfl
theorem ZQ (y:Fm):E 171 [.agg [.int .i64 y.op,.str y.atom.name,.ref 0,.str y.var,.ref 1]] [.row 31 2 (y.atom.args.map Tm.o),.row 34 5 (y.parts.map Fm.o)]=some (.agg [.int .i64 4,.str ⟨#[]⟩,.ref 2,.str ⟨#[]⟩,.ref 3],[.gone,.gone,.row 31 2 [],.row 34 5 [Fm.o y]]):=by
 have ho:=Fm.o_eq y
 rw [ho]
 refine Ai Tx JJ (of_decide_eq_true rfl) ?_
 simp (disch:=omega) only [NG,go_sem,Ab,Fm.osv,Fm.obs]
def Jg:SC:=(.seq (.reg [⟨some 4,none,.boxv 34 5 (.t 1)⟩,⟨some 5,none,.boxv 34 5 (.t 2)⟩,⟨(some 6),none,(.alloc 34 [(.int .i64 0),(.str ⟨#[]⟩),.nil,(.str ⟨#[]⟩),.nil])⟩]) (.seq (.reg [⟨some 7,none,.mv (.t 0)⟩,⟨some 8,none,.load true 5 (.t 4)⟩,⟨some 9,none,.load true 5 (.t 5)⟩,⟨(some 10),none,(.mkrow 34 5 [(.int .i64 0),(.str ⟨#[]⟩),.nil,(.str ⟨#[]⟩),.nil] 2 [(0,(.t 8)),(1,(.t 9))])⟩,⟨(some 11),none,(.build [(.int .i64 0),(.str ⟨#[]⟩),.nil,(.str ⟨#[]⟩),.nil] [(0,(1,(.t 7))),(4,(1,(.t 10)))])⟩,⟨none,none,(.store 5 (.t 6) (.t 11))⟩]) .ret))
theorem O7:codeOf Tryz.prog 114=some ⟨12,Jg,[(.cell 6 true 5)]⟩:=by kernel_rfl
theorem Jh:modes 114=⟨[false,true,true],.own [none,none,some (31,2),none,some (34,5)],none,false⟩:=by unfold modes; rfl
theorem WM (op:Int) (y z:Fm):E 114 [.int .i64 op,.agg [.int .i64 y.op,.str y.atom.name,.ref 0,.str y.var,.ref 1],.agg [.int .i64 z.op,.str z.atom.name,.ref 2,.str z.var,.ref 3]] [.row 31 2 (y.atom.args.map Tm.o),.row 34 5 (y.parts.map Fm.o),.row 31 2 (z.atom.args.map Tm.o),.row 34 5 (z.parts.map Fm.o)]=some (.agg [.int .i64 op,.str ⟨#[]⟩,.ref 4,.str ⟨#[]⟩,.ref 5],[.gone,.gone,.gone,.gone,.row 31 2 [],.row 34 5 [Fm.o y,Fm.o z]]):=by
 have ho:=Fm.o_eq y
 have ho2:=Fm.o_eq z
 rw [ho,ho2]
 refine Ai O7 Jh (of_decide_eq_true rfl) ?_
 simp (disch:=omega) only [Jg,go_sem,Ab,Fm.osv,Fm.obs]
theorem Tm.UX {x:Tm} (h:x.atom=true):x.expr=true:=by unfold Tm.expr; rw [h,Bool.or_true]
theorem Tm.JK {x:Tm} (h:x.atom=true):x.nodes≤30:=Tm.Tu (Tm.UX h)
theorem Tm.Q5 {x:Tm} (h:x.isZ=true):x=.mk ⟨#[]⟩ []:=by
 obtain ⟨n,a⟩:=x
 unfold Tm.isZ at h
 rw [zC] at h
 have h1:n=⟨#[]⟩:=Ap.1 h.1
 have h3:(a.length == 0)=true:=h.2
 have h2:a=[]:=zL (by simpa using h3)
 rw [h1,h2]
theorem Fm.IA {x:Fm} (h:x.form=true) (ho:x.op=3):x.parts=[]∧x.atom.atom=true∧x.var=⟨#[]⟩:=by
 unfold Fm.form at h
 simp only [ho] at h
 simp at h
 exact ⟨h.1.1,h.1.2,Ap.1 h.2⟩
theorem Fm.NH {x:Fm} (h:x.form=true) (ho:¬ x.op=3):x.atom=.mk ⟨#[]⟩ []:=by
 unfold Fm.form at h
 split at h
 ·rw [zC,zC] at h; exact Tm.Q5 h.1.2
 ·try rw [if_neg ho] at h
  split at h
  ·rw [zC,zC] at h; exact Tm.Q5 h.1.2
  ·split at h
   ·rw [zC,zC] at h; exact Tm.Q5 h.1.2
   ·split at h
    ·rw [zC,zC] at h; exact Tm.Q5 h.1.2
    ·cases h
theorem Fm.NI {x:Fm} (h:x.form=true) (ho:qB x.op=true):AT x.var=true∧∃ p,x.parts=[p]:=by
 unfold qB at ho
 rw [yG,Ap,Ap] at ho
 unfold Fm.form at h
 rw [if_neg (by omega),if_neg (by omega),if_neg (by omega),if_neg (by omega),if_pos (by omega),zC,zC] at h
 refine ⟨h.2,?_⟩
 have hl:x.parts.length=1:=by simpa using h.1.1
 match hq:x.parts,hl with
 | [p],_=>exact ⟨p,rfl⟩
theorem Fm.EX {x y:Fm} (h:x.forms=true) (hy:y∈x.parts):y.forms=true:=by
 rw [Fm.BV,zC,Fm.Lo,zZ] at h
 exact h.2 y hy
theorem Fm.EY {x:Fm} (h:x.forms=true):x.form=true:=by
 rw [Fm.BV,zC] at h
 exact h.1
theorem Fm.M7 {x:Fm} (h:x.form=true):x.atom.nodes≤30:=by
 by_cases ho:x.op=3
 ·exact Tm.JK (Fm.IA h ho).2.1
 ·rw [Fm.NH h ho,Tm.nodes_eq]
  simp [Tm.args,Tm.nodeS]
theorem Fm.EZ (x:Fm) (h:x.forms=true):x.tame:=by
 have key:∀ xs:List Fm,(∀ y∈xs,y.tame)→Fm.HK xs:=by
  intro xs
  induction xs with
  | nil=>intro _; rw [Fm.HK]; trivial
  | cons y ys ih=>intro hh; rw [Fm.HK]; exact ⟨hh y (by simp),ih fun z hz=>hh z (by simp [hz])⟩
 have h1:=Fm.M7 (Fm.EY h)
 rw [Fm.M6]
 exact ⟨by omega,key _ fun y hy=>Fm.EZ y (Fm.EX h hy)⟩
termination_by SizeOf.sizeOf x
decreasing_by exact Fm.lt_of_mem hy
def Ji:SC:=(.seq (.reg [⟨some 1,none,.boxv 31 2 (.t 0)⟩,⟨(some 2),none,(.alloc 34 [(.int .i64 0),(.str ⟨#[]⟩),.nil,(.str ⟨#[]⟩),.nil])⟩]) (.seq (.reg [⟨some 3,none,.load true 2 (.t 1)⟩,⟨(some 4),none,(.build [(.int .i64 0),(.str ⟨#[]⟩),.nil,(.str ⟨#[]⟩),.nil] [(0,(1,(.c (.int .i64 3)))),(1,(2,(.t 3)))])⟩,⟨none,none,(.store 5 (.t 2) (.t 4))⟩]) .ret))
theorem O8:codeOf Tryz.prog 169=some ⟨5,Ji,[(.cell 2 true 5)]⟩:=by kernel_rfl
theorem FL:modes 169=⟨[true],.own [none,none,some (31,2),none,some (34,5)],none,false⟩:=by unfold modes; rfl
theorem WN (y:Tm):E 169 [y.osv] y.obs=some (.agg [.int .i64 3,.str y.name,.ref 0,.str ⟨#[]⟩,.ref 1],[.row 31 2 (y.args.map Tm.o),.row 34 5 []]):=by
 refine Ai O8 FL (of_decide_eq_true rfl) ?_
 simp (disch:=omega) only [Ji,go_sem,Ab,Tm.osv,Tm.obs]
def BY:SC:=(.seq (.reg [⟨some 1,none,.boxv 89 3 (.t 0)⟩,⟨(some 2),none,(.alloc 34 [(.int .i64 0),(.str ⟨#[]⟩),.nil,(.str ⟨#[]⟩),.nil])⟩]) (.seq (.reg [⟨some 4,none,.faddr 1 (.t 1)⟩,⟨some 5,none,.load true 2 (.t 4)⟩,⟨some 6,none,.call 170 [(.t 5)]⟩,⟨some 7,none,.call 169 [(.t 6)]⟩,⟨(some 3),none,(.alloc 34 [(.int .i64 0),(.str ⟨#[]⟩),.nil,(.str ⟨#[]⟩),.nil])⟩,⟨none,none,(.store 5 (.t 3) (.t 7))⟩]) (.seq (.seq (.reg [⟨some 8,none,.faddr 0 (.t 1)⟩,⟨some 9,none,.load false 1 (.t 8)⟩,⟨some 10,none,.un .not (.t 9)⟩]) (.cond (.t 10) (.reg [⟨some 11,none,.load true 5 (.t 3)⟩,⟨some 12,none,.call 171 [(.t 11)]⟩,⟨none,none,(.store 5 (.t 3) (.t 12))⟩]) .skip)) (.seq (.reg [⟨some 13,none,.load true 5 (.t 3)⟩,⟨none,none,(.store 5 (.t 2) (.t 13))⟩]) .ret))))
theorem Dq:codeOf Tryz.prog 112=some ⟨14,BY,[(.cell 2 true 5)]⟩:=by kernel_rfl
theorem Bz:modes 112=⟨[],.own [none,none,some (31,2),none,some (34,5)],none,false⟩:=by unfold modes; rfl
theorem Fa (l:Lt) (hl:l.atom.nodes≤1099511627776):E 112 [l.sv] []=some ((ER l).osv,(ER l).obs):=by
 have h1:=JG l.atom hl
 have h2:=WN l.atom
 have h3:E 171 [.agg [.int .i64 3,.str l.atom.name,.ref 0,.str ⟨#[]⟩,.ref 1]] [.row 31 2 (l.atom.args.map Tm.o),.row 34 5 []]=some (.agg [.int .i64 4,.str ⟨#[]⟩,.ref 2,.str ⟨#[]⟩,.ref 3],[.gone,.gone,.row 31 2 [],.row 34 5 [Fm.o (Fm.at l.atom)]]):=ZQ (Fm.at l.atom)
 unfold ER
 have ea:Fm.o (Fm.at l.atom)=[.int 3,.str l.atom.name,.ow (l.atom.args.map Tm.o),.str ⟨#[]⟩,.ow []]:=rfl
 cases hp:l.pos with
 | true =>
  rw [cond_true]
  refine Ai Dq Bz (of_decide_eq_true rfl) ?_
  simp (disch:=omega) only [BY,go_sem,Ab,hp,h1,h2,h3,Ct,FL,JJ,Tm.osv,Tm.obs,Fm.osv,Fm.obs,Fm.at,Fm.neg,Fm.op,Fm.atom,Fm.var,Fm.parts]
 | false =>
  rw [cond_false]
  refine Ai Dq Bz (of_decide_eq_true rfl) ?_
  simp (disch:=omega) only [BY,go_sem,Ab,hp,h1,h2,h3,Ct,FL,JJ,Tm.osv,Tm.obs,Fm.osv,Fm.obs,Fm.at,Fm.neg,Fm.op,Fm.atom,Fm.var,Fm.parts]
  exact ⟨rfl,rfl⟩
def AZ:SC:=(.seq (.reg [⟨some 1,none,.boxv 46 1 (.t 0)⟩,⟨some 2,none,.mv (.c .any)⟩]) (.seq (.reg [⟨some 3,none,.mkfn 172 [(.t 1)]⟩,⟨some 2,none,.mv (.t 3)⟩]) .ret))
theorem Cf:codeOf Tryz.prog 113=some ⟨4,AZ,[(.tmp 2)]⟩:=by kernel_rfl
theorem Ba:modes 113=⟨[],.asis,none,false⟩:=by unfold modes; rfl
def d_impl_disjunction_0:SC:=(.reg [⟨(some 2),none,(.alloc 34 [(.int .i64 0),(.str ⟨#[]⟩),.nil,(.str ⟨#[]⟩),.nil])⟩])
theorem D9:trC Tryz.prog 30 (Ki Tryz.f55 0)=some d_impl_disjunction_0:=by kernel_rfl
def d_impl_disjunction_1:SC:=(.seq (.reg [⟨(some 6),none,(.mv (.t 0))⟩,⟨(some 7),none,(.len false (.t 6))⟩,⟨(some 8),none,(.bin .eql false (.t 7) (.c (.int .i64 0)))⟩]) (.cond (.t 8) (.seq (.reg [⟨(some 9),none,(.build [(.int .i64 0),(.str ⟨#[]⟩),.nil,(.str ⟨#[]⟩),.nil] [(0,(1,(.c (.int .i64 2))))])⟩,⟨none,none,(.store 5 (.t 2) (.t 9))⟩]) .ret) .skip))
theorem DA:trC Tryz.prog 30 (Ki Tryz.f55 1)=some d_impl_disjunction_1:=by kernel_rfl
def d_impl_disjunction_2:SC:=(.reg [⟨(some 10),none,(.mv (.t 0))⟩,⟨(some 11),none,(.mv (.t 0))⟩,⟨(some 12),none,(.len false (.t 11))⟩,⟨(some 13),none,(.bin .sub false (.t 12) (.c (.int .i64 1)))⟩,⟨(some 14),none,(.iaddr 3 (.t 10) (.t 13))⟩,⟨(some 15),none,(.load true 3 (.t 14))⟩,⟨(some 16),none,(.call 112 [(.t 15)])⟩,⟨(some 3),none,(.alloc 34 [(.int .i64 0),(.str ⟨#[]⟩),.nil,(.str ⟨#[]⟩),.nil])⟩,⟨none,none,(.store 5 (.t 3) (.t 16))⟩])
theorem Hh:trC Tryz.prog 30 (Ki Tryz.f55 2)=some d_impl_disjunction_2:=by kernel_rfl
def d_impl_disjunction_3:SC:=(.reg [⟨(some 17),none,(.mv (.t 0))⟩,⟨(some 18),none,(.mv (.t 0))⟩,⟨(some 19),none,(.len false (.t 18))⟩,⟨(some 20),none,(.bin .sub false (.t 19) (.c (.int .i64 1)))⟩,⟨(some 21),none,(.slice false 3 (.t 17) none (some (.t 20)))⟩,⟨(some 22),none,(.call 113 [(.t 21)])⟩])
theorem Hi:trC Tryz.prog 30 (Ki Tryz.f55 3)=some d_impl_disjunction_3:=by kernel_rfl
def d_impl_disjunction_4:SC:=(.seq (.reg [⟨(some 29),none,(.load true 5 (.t 3))⟩,⟨none,none,(.store 5 (.t 2) (.t 29))⟩]) .ret)
theorem Hj:trC Tryz.prog 30 (Ki Tryz.f55 4)=some d_impl_disjunction_4:=by kernel_rfl
def d_impl_disjunction_5:SC:=(.reg [⟨(some 5),none,(.alloc 89 [(.bool false),(.str ⟨#[]⟩),.nil])⟩,⟨none,none,(.store 3 (.t 5) (.t 24))⟩])
theorem Hk:trC Tryz.prog 30 (Ki Tryz.f55 5)=some d_impl_disjunction_5:=by kernel_rfl
def d_impl_disjunction_6:SC:=(.block 1 (.dreg [[],[0],[],[1,0,2],[3,1,0,2]] [⟨(some 25),none,(.load true 3 (.t 5))⟩,⟨(some 26),none,(.call 112 [(.t 25)])⟩,⟨(some 27),none,(.load true 5 (.t 3))⟩,⟨(some 28),none,(.call 114 [(.c (.int .i64 6)),(.t 26),(.t 27)])⟩,⟨none,none,(.store 5 (.t 3) (.t 28))⟩]))
theorem Hm:trC Tryz.prog 30 (Ki Tryz.f55 6)=some d_impl_disjunction_6:=by kernel_rfl
theorem Ev:AI (Tryz.f55.results.toList.map (KU Tryz.prog 30))=some [(.cell 2 true 5)]:=by kernel_rfl
theorem Yz (es:List (List D)):E 113 [.arr es] []=some (.fn 172 [.ptr 0 0],[.box 46 [.arr es]]):=by
 refine Ai Cf Ba (of_decide_eq_true rfl) ?_
 simp (disch:=omega) only [AZ,go_sem,Ab]
noncomputable def bo_impl_disjunction:Code:=.seq (Ki Tryz.f55 0) (.seq (Ki Tryz.f55 1) (.seq (Ki Tryz.f55 2) (.seq (.seq (Ki Tryz.f55 3) (.block 0 (.rangeFunc (.tmp 22) #[23,24] (Ki Tryz.f55 5) (Ki Tryz.f55 6)))) (Ki Tryz.f55 4))))
theorem Ew:Tryz.f55.body=some bo_impl_disjunction:=by rfl
theorem WO:Fun Tryz.prog 55 [.arr ([].map Lt.d)] [] (Ay []).osv (Ay []).obs:=by
 refine Pk (res:=.own [none,none,some (31,2),none,some (34,5)]) (r:=.agg [.int .i64 2,.str ⟨#[]⟩,.nil,.str ⟨#[]⟩,.nil]) (ob1:=[]) ?_ ?_
 ·refine SR (nt:=30) Nb Tryz.func55 Ew rfl D9 DA (by rfl) Ev (by simp) fun c hnt hm=>?_
  refine RD (by rfl) ?_
  simp (disch:=omega) only [d_impl_disjunction_0,d_impl_disjunction_1,go_sem,Ab]
  refine ⟨.inl rfl,.agg [.int .i64 2,.str ⟨#[]⟩,.nil,.str ⟨#[]⟩,.nil],[],rfl,?_⟩
  simp only [WeakC,leL,leV,leO,Rh,Ri,Am,sgp,SV.ren,SV.Hg,Ob.ren,Qg,Iy,Pe,Fh,IP,IP.setO1,zI,zM,yQ,yM,yI,zO,z6,or_false,false_or,not_false_eq_true,not_true_eq_false,true_and,and_true,and_self,yK,reduceCtorEq,zS,zV,yS,z8]
 ·simp (disch:=omega) only [go_sem,Ab]
  simp only [Ay,Fm.op,Fm.atom,Fm.var,Fm.parts,Tm.name,Tm.args,zQ,and_self]
theorem UY (ls:List Lt) (h0:0<ls.length) (hn:ls.length≤1099511627776) (hl:∀ l∈ls,l.atom.nodes≤1099511627776):Fun Tryz.prog 55 [.arr (ls.map Lt.d)] [] (Ay ls).osv (Ay ls).obs:=by
 obtain ⟨n,hn0⟩:∃ n,n=ls.length-1:=⟨_,rfl⟩
 obtain ⟨es,hes⟩:∃ es,es=(ls.map Lt.d).take n:=⟨_,rfl⟩
 have hel:es.length=n:=by rw [hes,zY,zW]; omega
 have hlast:∀ (h:n<ls.length),Ay (ls.drop n)=ER ls[n]:=fun h=>by
  rw [zB h,zE (by omega)]; rfl
 have hstep:∀ j (h:j<n),Ay (ls.drop j)=Fm.or (ER (ls[j]'(by omega))) (Ay (ls.drop (j+1))):=fun j h=>by
  rw [zB (by omega),zB (i:=j+1) (by omega)]
  rfl
 refine Wg (nt:=30) (n1:=3) (p:=2) (t:=46) (hs:=[0,2]) (es:=es) (el:=fun l=>.agg (l.map D.sv)) (obs:=fun k=>[.gone,.box 34 [.int .i64 ((Ay (ls.drop (n-k)))).op,.str ((Ay (ls.drop (n-k)))).atom.name,.ref 3,.str ((Ay (ls.drop (n-k)))).var,.ref 4],.gone,.row 31 2 (((Ay (ls.drop (n-k)))).atom.args.map Tm.o),.row 34 5 (((Ay (ls.drop (n-k)))).parts.map Fm.o)]) (obx:=fun _=>[]) (Rk:=fun _=>True) (Xk:=fun _=>False)
  (st1:=⟨slots 30 0 [(2,.ptr 0 0),(3,.ptr 1 0),(22,.fn 172 [.ptr 2 0])],[.box 34 [.int .i64 0,.str ⟨#[]⟩,.nil,.str ⟨#[]⟩,.nil],.box 34 [.int .i64 (Ay (ls.drop n)).op,.str (Ay (ls.drop n)).atom.name,.ref 3,.str (Ay (ls.drop n)).var,.ref 4],.box 46 [.arr es],.row 31 2 ((Ay (ls.drop n)).atom.args.map Tm.o),.row 34 5 ((Ay (ls.drop n)).parts.map Fm.o)]⟩)
  Nb Tryz.func55 Ew rfl D9 DA Hh Hi Hj Hk Hm (by rfl) Ev (by simp) ?head (by rfl) (by rfl) (by simp) ?hlv (by simp) (by rfl) ?hobi (by simp) (by omega) (by omega) (enters_of Tryz.func172 (by kernel_rfl) rfl) (Lc es ?hw ?hr) ?h0 trivial ?round ?tail ?stop
 case head =>
  intro c hnt hm
  refine RD (by rfl) ?_
  have hnl:n<ls.length:=by omega
  have q0:((ls.length:Int)=0)=False:=eq_false (by omega)
  have q1:((ls.length:Int)-1).toNat=n:=by omega
  have hg:=get_at Lt.d hnl
  have hd:=Lt.d_eq ls[n]
  have hf:=Fa ls[n] (hl _ (zH hnl))
  rw [←hlast hnl] at hf
  have hall:((ls.map Lt.d).all fun e=>e.length == 3)=true:=zZ.2 fun e he=>by
   obtain ⟨x,_,rfl⟩:=yT.1 he
   rfl
  have hb:=Yz es
  rw [hes] at hb ⊢
  simp (disch:=omega) only [d_impl_disjunction_0,d_impl_disjunction_1,d_impl_disjunction_2,d_impl_disjunction_3,q0,q1,hg,hd,hall,hf,hb,Fm.osv,Fm.obs,Bz,Ba,go_sem,Ab]
  refine .inl ⟨rfl,[0,3,4,1,2],?_⟩
  simp only [WeakC,leL,leV,leO,Rh,Ri,Am,sgp,SV.ren,SV.Hg,Ob.ren,Qg,Iy,Pe,Fh,IP,IP.setO1,zI,zM,yQ,yM,yI,zO,z6,or_false,false_or,not_false_eq_true,not_true_eq_false,true_and,and_true,and_self,yK,reduceCtorEq,zS,zV,yS,z8]
 case hlv =>
  intro g hg
  simp only [zO,z6,or_false] at hg
  rcases hg with rfl | rfl <;> trivial
 case hobi =>
  intro g hg
  simp only [zO,z6,or_false] at hg
  rcases hg with rfl | rfl <;> rfl
 case hw =>
  intro l hm
  rw [hes] at hm
  obtain ⟨x,_,rfl⟩:=yT.1 (List.mem_of_mem_take hm)
  rfl
 case hr=>rw [hel]; omega
 case h0=>rfl
 case stop=>intro k _ h; exact h.elim
 case round =>
  intro k hk _ c hnt hm
  have hkn:k<n:=by rw [←hel]; exact hk
  have hj:n-1-k<ls.length:=by omega
  have hje:n-(k+1)=n-1-k:=by omega
  have hjs:n-1-k+1=n-k:=by omega
  have hst:=hstep (n-1-k) (by omega)
  rw [hjs] at hst
  have he:(SV.agg ((es[es.length-1-k]'(by omega)).map D.sv))=(ls[n-1-k]).sv:=by
   simp only [hes,List.getElem_take,List.getElem_map,zY,zW]
   have e1:min n ls.length-1-k=n-1-k:=by omega
   simp only [e1]
   rfl
  rw [he,hel]
  have hf:=Fa ls[n-1-k] (hl _ (zH hj))
  have hb:=WM 6 (ER ls[n-1-k]) (Ay (ls.drop (n-k)))
  refine RD (by rfl) ?_
  simp (disch:=omega) only [d_impl_disjunction_5,go_sem,Ab]
  refine ⟨rfl,fun c' hnt' hm'=>?_⟩
  refine RD (by rfl) ?_
  simp (disch:=omega) only [d_impl_disjunction_6,hf,hb,Fm.osv,Fm.obs,Bz,Jh,go_sem,Ab]
  refine .inl ⟨rfl,trivial,[0,1,2,8,9],?_⟩
  simp only [hje,hst,Fm.or,Fm.op,Fm.atom,Fm.var,Fm.parts,Tm.name,Tm.args,yB,zQ,WeakC,leL,leV,leO,Rh,Ri,Am,sgp,SV.ren,SV.Hg,Ob.ren,Qg,Iy,Pe,Fh,IP,IP.setO1,zI,zM,yQ,yM,yI,zO,z6,or_false,false_or,not_false_eq_true,not_true_eq_false,true_and,and_true,and_self,yK,reduceCtorEq,zS,zV,yS,z8]
 case tail =>
  intro _ c hnt hm
  rw [hel]
  have e0:n-n=0:=by omega
  rw [e0,zG]
  simp only [Fo,zT,yW,Di,Am]
  refine RD (by rfl) ?_
  simp (disch:=omega) only [d_impl_disjunction_4,go_sem,Ab]
  refine ⟨.inl rfl,.agg [.int .i64 (Ay ls).op,.str (Ay ls).atom.name,.ref 3,.str (Ay ls).var,.ref 4],[3,4],rfl,?_⟩
  simp only [Fm.osv,Fm.obs,WeakC,leL,leV,leO,Rh,Ri,Am,sgp,SV.ren,SV.Hg,Ob.ren,Qg,Iy,Pe,Fh,IP,IP.setO1,zI,zM,yQ,yM,yI,zO,z6,or_false,false_or,not_false_eq_true,not_true_eq_false,true_and,and_true,and_self,yK,reduceCtorEq,zS,zV,yS,z8]
theorem WP (ls:List Lt) (hn:ls.length≤1099511627776) (hl:∀ l∈ls,l.atom.nodes≤1099511627776):Fun Tryz.prog 55 [.arr (ls.map Lt.d)] [] (Ay ls).osv (Ay ls).obs:=by
 cases ls with
 | nil=>exact WO
 | cons l r=>exact UY (l :: r) (by simp) hn hl
theorem Dn:modes 55=⟨[],.asis,some N1,false⟩:=by unfold modes; rfl
theorem O9 (ls:List Lt) (hn:ls.length≤1099511627776) (hl:∀ l∈ls,l.atom.nodes≤1099511627776):E 55 [.arr (ls.map Lt.d)] []=some ((Ay ls).osv,(Ay ls).obs):=by
 rw [N5 (g:=N1) (congrArg FM.ext Dn)]
 exact Wq ls (WP ls hn hl)
def DR:SC:=(.seq (.reg [⟨some 1,none,.boxv 34 5 (.t 0)⟩,⟨(some 2),none,(.alloc 34 [(.int .i64 0),(.str ⟨#[]⟩),.nil,(.str ⟨#[]⟩),.nil])⟩,⟨some 3,none,.mv (.c (.bool false))⟩]) (.seq (.seq (.reg [⟨some 4,none,.load true 5 (.t 1)⟩,⟨some 5,none,.call 41 [(.t 4)]⟩,⟨some 6,none,.un .not (.t 5)⟩]) (.cond (.t 6) (.seq (.reg [⟨(some 7),none,(.build [(.int .i64 0),(.str ⟨#[]⟩),.nil,(.str ⟨#[]⟩),.nil] [])⟩,⟨none,none,(.store 5 (.t 2) (.t 7))⟩,⟨some 3,none,.mv (.c (.bool false))⟩]) .ret) .skip)) (.seq (.reg [⟨some 8,none,.load true 5 (.t 1)⟩,⟨none,none,(.store 5 (.t 2) (.t 8))⟩,⟨some 3,none,.mv (.c (.bool true))⟩]) .ret)))
theorem Gu:codeOf Tryz.prog 42=some ⟨9,DR,[(.cell 2 true 5),(.tmp 3)]⟩:=by kernel_rfl
theorem CJ:modes 42=⟨[true],.own [none,none,some (31,2),none,some (34,5),none],none,false⟩:=by unfold modes; rfl
theorem OA (y:Fm) (hy:y.tame) (hn:y.nodes≤1099511627776) (hv:y.valid=true):E 42 [y.osv] y.obs=some (.tup [y.osv,.bool true],y.obs):=by
 have h:=Gs y hy hn
 rw [hv] at h
 refine Ai Gu CJ (of_decide_eq_true rfl) ?_
 simp (disch:=omega) only [DR,go_sem,Ab,h,BE,Fm.osv,Fm.obs,Tm.erss,Tm.noss,Fm.erss,Fm.noss]
theorem Q6 (y:Fm) (hy:y.tame) (hn:y.nodes≤1099511627776) (hv:y.valid=false):E 42 [y.osv] y.obs=some (.tup [.agg [.int .i64 0,.str ⟨#[]⟩,.ref 2,.str ⟨#[]⟩,.ref 3],.bool false],[.row 31 2 (y.atom.args.map Tm.o),.row 34 5 (y.parts.map Fm.o),.row 31 2 [],.row 34 5 []]):=by
 have h:=Gs y hy hn
 rw [hv] at h
 refine Ai Gu CJ (of_decide_eq_true rfl) ?_
 simp (disch:=omega) only [DR,go_sem,Ab,h,BE,Fm.osv,Fm.obs,Tm.erss,Tm.noss,Fm.erss,Fm.noss]
noncomputable def JL (a b:ByteArray):Int:=bif strLt a b then -1 else bif dec (a=b) then 0 else 1
noncomputable def NJ (a b:Int):Int:=bif dec (a<b) then -1 else bif dec (b<a) then 1 else 0
def orZ (x y:Int):Int:=if x=0 then y else x
mutual
noncomputable def Tm.cmp:Tm→Tm→Int
 | .mk n xs,y=>if AT n&&!AT y.name then -1 else if AT y.name&&!AT n then 1 else orZ (orZ (JL n y.name) (NJ xs.length y.args.length)) (Tm.Hn xs y.args)
noncomputable def Tm.Hn:List Tm→List Tm→Int
 | [],[]=>0
 | [],_ :: _=>-1
 | _ :: _,[]=>1
 | x :: xs,y :: ys=>orZ (Tm.cmp x y) (Tm.Hn xs ys)
end
theorem Tm.WQ (x y:Tm):x.cmp y=if AT x.name&&!AT y.name then -1 else if AT y.name&&!AT x.name then 1 else orZ (orZ (JL x.name y.name) (NJ x.args.length y.args.length)) (Tm.Hn x.args y.args):=by
 obtain ⟨n,xs⟩:=x
 rw [Tm.cmp]; rfl
def Jj (s:ByteArray):Bool:=decide (0<s.size)&&(Qm (HA s 0) == AT s)
mutual
def Tm.cok:Tm→Bool
 | .mk n xs=>Jj n&&Tm.Ty xs
def Tm.Ty:List Tm→Bool
 | []=>true
 | x :: xs=>Tm.cok x&&Tm.Ty xs
end
theorem Tm.NK (x:Tm):x.cok=(Jj x.name&&Tm.Ty x.args):=by
 obtain ⟨n,xs⟩:=x
 rw [Tm.cok]; rfl
theorem Tm.HM {xs:List Tm} (h:Tm.Ty xs=true) {y:Tm} (hy:y∈xs):y.cok=true:=by
 induction xs with
 | nil=>cases hy
 | cons x xs ih =>
  rw [Tm.Ty,zC] at h
  rcases zO.1 hy with rfl | hy
  ·exact h.1
  ·exact ih h.2 hy
def LS (b:Bool):Int:=if b then 1 else 0
noncomputable def Lt.cmp (x y:Lt):Int:=orZ (x.atom.cmp y.atom) (NJ (LS x.pos) (LS y.pos))
structure Ord3 {α:Type} (c:α→α→Int) (a b d:α):Prop where
 anti:c b a=- c a b
 zero:c a b=0 ↔ a=b
 trans:c a b<0→c b d<0→c a d<0
def Fb:SC:=(.seq (.reg [⟨some 2,none,.mv (.c (.bool false))⟩]) (.seq (.reg [⟨some 3,none,.mv (.t 0)⟩,⟨some 4,none,.bin .geq false (.t 3) (.c (.int .u8 65))⟩,⟨some 5,none,.mv (.t 4)⟩,⟨(some 6),(some (5,true)),(.mv (.t 0))⟩,⟨(some 7),(some (5,true)),(.bin .leq false (.t 6) (.c (.int .u8 90)))⟩,⟨some 8,none,.pick (.t 5) (.t 7) (.c (.bool false))⟩,⟨some 2,none,.mv (.t 8)⟩]) .ret))
theorem HN:codeOf Tryz.prog 177=some ⟨9,Fb,[(.tmp 2)]⟩:=by kernel_rfl
theorem Fc:modes 177=⟨[],.asis,none,false⟩:=by unfold modes; rfl
theorem PJ {xs ys:List Tm} {k:Nat} (h:k<xs.length) (h':k<ys.length):Tm.Hn (xs.drop k) (ys.drop k)=orZ (xs[k].cmp ys[k]) (Tm.Hn (xs.drop (k+1)) (ys.drop (k+1))):=by
 rw [zB h,zB h',Tm.Hn]
theorem Tz {xs ys:List Tm} {k:Nat} (h:k<xs.length) (h':ys.length≤k):Tm.Hn (xs.drop k) (ys.drop k)=1:=by
 rw [zB h,zE h',Tm.Hn]
theorem WR {xs ys:List Tm} {k:Nat} (h:xs.length≤k) (h':k<ys.length):Tm.Hn (xs.drop k) (ys.drop k)=-1:=by
 rw [zB h',zE h,Tm.Hn]
theorem PK {xs ys:List Tm} {k:Nat} (h:xs.length≤k) (h':ys.length≤k):Tm.Hn (xs.drop k) (ys.drop k)=0:=by
 rw [zE h',zE h,Tm.Hn]
theorem JM {p:Nat→Int→Bool} {s:ByteArray} (h:D7 p s s.size=true) (hs:0<s.size):p 0 (HA s 0)=true:=by
 unfold D7 at h
 rw [zZ] at h
 exact h 0 (List.mem_range.2 hs)
theorem UZ {s:ByteArray} (h:AT s=true):Jj s=true:=by
 have h0:=h
 unfold AT inB at h
 rw [zC,zC,decide_eq_true_eq,decide_eq_true_eq] at h
 have hs:0<s.size:=by omega
 have h1:=JM h.1 hs
 unfold HC at h1
 unfold Jj
 rw [h0]
 simp at h1
 simp [hs,h1]
theorem PL {s:ByteArray} (hs:0<s.size) (h:Qm (HA s 0)=false):Jj s=true:=by
 have hv:AT s=false:=by
  rw [yP]
  intro hv
  unfold AT at hv
  rw [zC] at hv
  have h1:=JM hv.1 hs
  unfold HC at h1
  rw [h] at h1
  simp at h1
 unfold Jj
 rw [hv,h]
 simp [hs]
theorem Va {s:ByteArray} (h:DM s=true):Jj s=true:=by
 unfold DM inB at h
 rw [zC,zC,zC,decide_eq_true_eq,decide_eq_true_eq] at h
 have hs:0<s.size:=by omega
 refine PL hs ?_
 have h1:=JM h.1.1 hs
 unfold IT at h1
 simp at h1
 have h2:=h1.1
 unfold R2 at h2
 unfold Qm
 simp at h2 ⊢
 omega
theorem Vb {s:ByteArray} (h:s.toList=[61]):Jj s=true:=by
 have hs:s.size=1:=by
  have:=congrArg List.length h
  rw [ByteArray.toList_eq] at this
  simpa using this
 refine PL (by omega) ?_
 unfold HA
 rw [h]
 rfl
mutual
theorem Tm.Ls:∀ x:Tm,x.names=true→x.cok=true
 | .mk n xs,h=>by
  rw [Tm.names] at h
  rw [Tm.cok,zC]
  split at h
  ·rename_i hv
   have:xs=[]:=by
    rw [beq_iff_eq] at h
    exact zL h
   subst this
   exact ⟨UZ hv,rfl⟩
  ·rw [zC,zC] at h
   exact ⟨Va h.1.1,Tm.JN xs h.2⟩
theorem Tm.JN:∀ xs:List Tm,Tm.ES xs=true→Tm.Ty xs=true
 | [],_=>rfl
 | x :: xs,h=>by
  rw [Tm.ES,zC] at h
  rw [Tm.Ty,zC]
  exact ⟨Tm.Ls x h.1,Tm.JN xs h.2⟩
end
theorem Tm.HO {x:Tm} (h:x.atom=true):x.cok=true:=by
 unfold Tm.atom at h
 rcases he:x.eqn with _ | _
 ·rw [he,if_neg (by simp),zC] at h
  unfold Tm.valid at h
  rw [zC] at h
  exact Tm.Ls x h.2.2
 ·rw [he,if_pos rfl,zC,zC] at h
  unfold Tm.eqn at he
  rw [Ap] at he
  rw [Tm.NK,zC]
  exact ⟨Vb (by rw [he,ByteArray.toList_eq]),Tm.JN _ h.2⟩
theorem Vd {s:ByteArray} {k:Nat} (h:k<s.size):Ht s k=HA s k:=by
 rw [←DK h]
 unfold Ht
 rw [show s[k]?=some s[k] from getElem?_pos s k h]; rfl
theorem Ve {s:ByteArray} (h:Jj s=true):0<s.size∧(dec (65≤Ht s 0)&&dec (Ht s 0≤90))=AT s:=by
 unfold Jj at h
 rw [zC,decide_eq_true_eq,beq_iff_eq] at h
 refine ⟨h.1,?_⟩
 rw [←h.2,Vd h.1,H0,H0]
 unfold Qm
 rfl
theorem JO (a:ByteArray):strLt a a=false:=by
 unfold strLt
 have key:∀ l:List UInt8,Op.bytesLess l l=false:=by
  intro l
  induction l with
  | nil=>rfl
  | cons x l ih=>simp [Op.bytesLess,ih]
 exact key _
def Fd:SC:=(.seq (.reg [⟨some 2,none,.mv (.c (.bool false))⟩]) (.seq (.reg [⟨some 3,none,.mv (.t 0)⟩,⟨some 4,none,.mv (.t 0)⟩,⟨some 5,none,.bin .neq false (.t 3) (.t 4)⟩,⟨some 2,none,.mv (.t 5)⟩]) .ret))
theorem JP:codeOf Tryz.prog 235=some ⟨6,Fd,[(.tmp 2)]⟩:=by kernel_rfl
theorem Co:modes 235=⟨[],.asis,none,false⟩:=by unfold modes; rfl
def GU:SC:=(.seq (.reg [⟨some 2,none,.mv (.c (.bool false))⟩]) (.seq (.reg [⟨some 3,none,.mv (.t 0)⟩,⟨some 4,none,.mv (.t 0)⟩,⟨some 5,none,.bin .neq false (.t 3) (.t 4)⟩,⟨some 2,none,.mv (.t 5)⟩]) .ret))
theorem Mm:codeOf Tryz.prog 211=some ⟨6,GU,[(.tmp 2)]⟩:=by kernel_rfl
theorem Dh:modes 211=⟨[],.asis,none,false⟩:=by unfold modes; rfl
def BL:SC:=(.seq (.reg [⟨some 4,none,.mv (.c (.int .i64 0))⟩]) (.seq (.reg [⟨some 7,none,.mv (.t 0)⟩,⟨some 8,none,.call 235 [(.t 7)]⟩,⟨some 5,none,.mv (.t 8)⟩]) (.seq (.reg [⟨some 9,none,.mv (.t 1)⟩,⟨some 10,none,.call 235 [(.t 9)]⟩,⟨some 6,none,.mv (.t 10)⟩]) (.seq (.seq (.reg [⟨some 11,none,.mv (.t 5)⟩]) (.cond (.t 11) (.seq (.seq (.reg [⟨some 12,none,.mv (.t 6)⟩]) (.cond (.t 12) (.seq (.reg [⟨some 4,none,.mv (.c (.int .i64 0))⟩]) .ret) .skip)) (.seq (.reg [⟨some 4,none,.mv (.c (.int .i64 (-(0+1))))⟩]) .ret)) .skip)) (.seq (.seq (.reg [⟨some 13,none,.mv (.t 6)⟩]) (.cond (.t 13) (.seq (.reg [⟨some 4,none,.mv (.c (.int .i64 1))⟩]) .ret) .skip)) (.seq (.seq (.reg [⟨some 14,none,.mv (.t 0)⟩,⟨some 15,none,.mv (.t 1)⟩,⟨some 16,none,.bin .lss false (.t 14) (.t 15)⟩]) (.cond (.t 16) (.seq (.reg [⟨some 4,none,.mv (.c (.int .i64 (-(0+1))))⟩]) .ret) .skip)) (.seq (.seq (.reg [⟨some 17,none,.mv (.t 0)⟩,⟨some 18,none,.mv (.t 1)⟩,⟨some 19,none,.bin .gtr false (.t 17) (.t 18)⟩]) (.cond (.t 19) (.seq (.reg [⟨some 4,none,.mv (.c (.int .i64 1))⟩]) .ret) .skip)) (.seq (.reg [⟨some 4,none,.mv (.c (.int .i64 0))⟩]) .ret))))))))
theorem CC:codeOf Tryz.prog 209=some ⟨20,BL,[(.tmp 4)]⟩:=by kernel_rfl
theorem Bw:modes 209=⟨[],.asis,none,false⟩:=by unfold modes; rfl
def C4:SC:=(.seq (.reg [⟨some 4,none,.mv (.c (.int .i64 0))⟩]) (.seq (.reg [⟨some 7,none,.mv (.t 0)⟩,⟨some 8,none,.call 211 [(.t 7)]⟩,⟨some 5,none,.mv (.t 8)⟩]) (.seq (.reg [⟨some 9,none,.mv (.t 1)⟩,⟨some 10,none,.call 211 [(.t 9)]⟩,⟨some 6,none,.mv (.t 10)⟩]) (.seq (.seq (.reg [⟨some 11,none,.mv (.t 5)⟩]) (.cond (.t 11) (.seq (.seq (.reg [⟨some 12,none,.mv (.t 6)⟩]) (.cond (.t 12) (.seq (.reg [⟨some 4,none,.mv (.c (.int .i64 0))⟩]) .ret) .skip)) (.seq (.reg [⟨some 4,none,.mv (.c (.int .i64 (-(0+1))))⟩]) .ret)) .skip)) (.seq (.seq (.reg [⟨some 13,none,.mv (.t 6)⟩]) (.cond (.t 13) (.seq (.reg [⟨some 4,none,.mv (.c (.int .i64 1))⟩]) .ret) .skip)) (.seq (.seq (.reg [⟨some 14,none,.mv (.t 0)⟩,⟨some 15,none,.mv (.t 1)⟩,⟨some 16,none,.bin .lss false (.t 14) (.t 15)⟩]) (.cond (.t 16) (.seq (.reg [⟨some 4,none,.mv (.c (.int .i64 (-(0+1))))⟩]) .ret) .skip)) (.seq (.seq (.reg [⟨some 17,none,.mv (.t 0)⟩,⟨some 18,none,.mv (.t 1)⟩,⟨some 19,none,.bin .gtr false (.t 17) (.t 18)⟩]) (.cond (.t 19) (.seq (.reg [⟨some 4,none,.mv (.c (.int .i64 1))⟩]) .ret) .skip)) (.seq (.reg [⟨some 4,none,.mv (.c (.int .i64 0))⟩]) .ret))))))))
theorem Dx:codeOf Tryz.prog 167=some ⟨20,C4,[(.tmp 4)]⟩:=by kernel_rfl
theorem B4:modes 167=⟨[],.asis,none,false⟩:=by unfold modes; rfl
def Ku:SC:=(.seq (.reg [⟨some 2,none,.mv (.c (.int .i64 0))⟩]) (.seq (.reg [⟨some 3,none,.mv (.c (.int .i64 0))⟩]) (.seq (.seq (.reg [⟨some 6,none,.mv (.t 0)⟩,⟨some 7,none,.len false (.t 6)⟩,⟨some 8,none,.mv (.c (.int .i64 0))⟩]) (.block 0 (.loop [0,0,0,1,0,0,1,1,1,0,0,0,0,0,0,0,0,0] (.seq (.reg [⟨some 9,none,.bin .lss false (.t 8) (.t 7)⟩]) (.seq (.cond (.t 9) .skip (.exit 0)) (.seq (.block 1 (.seq (.reg [⟨some 10,none,.iaddr 1 (.t 6) (.t 8)⟩,⟨some 11,none,.load false 1 (.t 10)⟩,⟨some 5,none,.mv (.t 11)⟩]) (.seq (.reg [⟨some 12,none,.mv (.t 5)⟩,⟨some 13,none,.mv (.t 3)⟩,⟨some 14,none,.bin .neq false (.t 12) (.t 13)⟩]) (.cond (.t 14) (.seq (.reg [⟨some 15,none,.mv (.t 5)⟩,⟨some 2,none,.mv (.t 15)⟩]) .ret) .skip)))) (.reg [⟨some 16,none,.bin .add false (.t 8) (.c (.int .i64 1))⟩,⟨some 8,none,.mv (.t 16)⟩]))))))) (.seq (.reg [⟨some 17,none,.mv (.t 3)⟩,⟨some 2,none,.mv (.t 17)⟩]) .ret))))
theorem Q7:codeOf Tryz.prog 165=some ⟨18,Ku,[(.tmp 2)]⟩:=by kernel_rfl
theorem E8:modes 165=⟨[],.asis,none,false⟩:=by unfold modes; rfl
theorem RQ (a:ByteArray):E 235 [.str a] []=some (.bool false,[]):=by
 refine Ai JP Co (of_decide_eq_true rfl) ?_
 simp (disch:=omega) only [Fd,go_sem,Ab]
theorem RR (a:Int):E 211 [.int .i64 a] []=some (.bool false,[]):=by
 refine Ai Mm Dh (of_decide_eq_true rfl) ?_
 simp (disch:=omega) only [GU,go_sem,Ab]
theorem T0 (a b:ByteArray):E 209 [.str a,.str b] []=some (.int .i64 (JL a b),[]):=by
 have h1:=RQ a
 have h2:=RQ b
 unfold JL
 cases h3:strLt a b
 ·cases h4:dec (a=b)
  ·refine Ai CC Bw (of_decide_eq_true rfl) ?_
   simp (disch:=omega) only [BL,go_sem,Ab,h1,h2,h3,h4,Co]
  ·refine Ai CC Bw (of_decide_eq_true rfl) ?_
   simp (disch:=omega) only [BL,go_sem,Ab,h1,h2,h3,h4,Co]
 ·refine Ai CC Bw (of_decide_eq_true rfl) ?_
  simp (disch:=omega) only [BL,go_sem,Ab,h1,h2,h3,Co]
theorem NL (a b:Int):E 167 [.int .i64 a,.int .i64 b] []=some (.int .i64 (NJ a b),[]):=by
 have h1:=RR a
 have h2:=RR b
 unfold NJ
 cases h3:dec (a<b)
 ·cases h4:dec (b<a)
  ·refine Ai Dx B4 (of_decide_eq_true rfl) ?_
   simp (disch:=omega) only [C4,go_sem,Ab,h1,h2,h3,h4,Dh]
  ·refine Ai Dx B4 (of_decide_eq_true rfl) ?_
   simp (disch:=omega) only [C4,go_sem,Ab,h1,h2,h3,h4,Dh]
 ·refine Ai Dx B4 (of_decide_eq_true rfl) ?_
  simp (disch:=omega) only [C4,go_sem,Ab,h1,h2,h3,Dh]
def orL:List Int→Int
 | []=>0
 | x :: xs=>if x=0 then orL xs else x
theorem ZU (xs:List Int) (hl:xs.length≤1099511627776):E 165 [.arr (xs.map fun n=>[D.int n])] []=some (.int .i64 (orL xs),[]):=by
 refine Ai Q7 E8 (of_decide_eq_true rfl) ?_
 simp (disch:=omega) only [Ku,go_sem,Ab]
 refine go_loop (α:=Int) (fun a=>⟨slots 18 0 [(3,.int .i64 0),(6,.arr (xs.map fun n=>[D.int n])),(7,.int .i64 xs.length),(8,.int .i64 a)],[]⟩) (fun a=>∃ k:Nat,a=k∧k≤(xs).length∧orL (xs.drop k)=orL xs) (fun a=>(xs).length-(a).toNat) 0 ⟨0,rfl,zK _,by rw [zG]⟩ (by simp (disch:=omega) only [go_sem,Ab]) ?_
 rintro i ⟨k,hi,hk,hR⟩
 have hni:i.toNat=k:=by omega
 have hni1:(i+1).toNat=k+1:=by omega
 rcases zF k (xs).length with hlt | hge
 ·have hg:=get_at (fun n=>[D.int n]) hlt
  rw [zB hlt,orL] at hR
  by_cases h0:xs[k]=0
  ·rw [if_pos h0] at hR
   simp (disch:=omega) only [go_sem,Ab,hni,hg,h0]
   exact ⟨i+1,⟨k+1,by omega,hlt,hR⟩,by omega,by first | trivial | rfl⟩
  ·rw [if_neg h0] at hR
   simp (disch:=omega) only [go_sem,Ab,hni,hg,h0]
   exact hR
 ·rw [zE hge,orL] at hR
  simp (disch:=omega) only [go_sem,Ab,hni]
  exact hR
theorem YB (a b:Int):E 165 [.arr [[.int a],[.int b]]] []=some (.int .i64 (orZ a b),[]):=by
 have h:=ZU [a,b] (by simp)
 have e:orL [a,b]=orZ a b:=by
  simp only [orL,orZ]
  split
  ·split <;> omega
  ·rfl
 rw [e] at h
 exact h
def Kv:SC:=(.seq (.reg [⟨some 1,none,.boxv 31 2 (.t 0)⟩,⟨some 2,none,.mv (.c (.bool false))⟩]) (.seq (.reg [⟨some 3,none,.faddr 0 (.t 1)⟩,⟨some 4,none,.load false 1 (.t 3)⟩,⟨some 5,none,.idx (.t 4) (.c (.int .i64 0))⟩,⟨some 6,none,.call 177 [(.t 5)]⟩,⟨some 2,none,.mv (.t 6)⟩]) .ret))
theorem Q8:codeOf Tryz.prog 187=some ⟨7,Kv,[(.tmp 2)]⟩:=by kernel_rfl
theorem CK:modes 187=⟨[],.asis,none,false⟩:=by unfold modes; rfl
theorem Vf (n:Int):E 177 [.int .u8 n] []=some (.bool (dec (65≤n)&&dec (n≤90)),[]):=by
 cases h1:dec (65≤n)
 ·refine Ai HN Fc (of_decide_eq_true rfl) ?_
  simp (disch:=omega) only [Fb,go_sem,Ab,h1]
 ·refine Ai HN Fc (of_decide_eq_true rfl) ?_
  simp (disch:=omega) only [Fb,go_sem,Ab,h1]
theorem Q9 (x:Tm) (h:x.cok=true):E 187 [x.sv] []=some (.bool (AT x.name),[]):=by
 rw [Tm.NK,zC] at h
 obtain ⟨h1,h2⟩:=Ve h.1
 have h3:=Vf (Ht x.name 0)
 rw [h2] at h3
 refine Ai Q8 CK (of_decide_eq_true rfl) ?_
 simp (disch:=omega) only [Kv,go_sem,Ab,h3,Fc]
theorem Tm.IB {x:Tm} (h:x.atom=true):(AT x.name=true→x.args=[])∧∀ y∈x.args,y.names=true:=by
 unfold Tm.atom at h
 cases he:x.eqn with
 | true =>
  rw [he,if_pos rfl,zC,zC] at h
  have h2:=h.2
  rw [Tm.I7,zZ] at h2
  refine ⟨fun hv=>?_,h2⟩
  have hn:=Ap.1 he
  have hnv0:AT ⟨#[61]⟩=false:=by kernel_rfl
  rw [hn,hnv0] at hv
  cases hv
 | false =>
  rw [he,if_neg (by simp),zC] at h
  have hnm:x.names=true:=by have h3:=h.2; unfold Tm.valid at h3; rw [zC] at h3; exact h3.2
  exact ⟨fun hv=>Tm.P7 hnm hv,fun y hy=>Tm.Ln hnm hy⟩
theorem Tm.Uk (x:Tm):x.vs=bif AT x.name then [x.name] else Tm.vsL x.args:=by
 obtain ⟨n,a⟩:=x
 rw [Tm.vs]; rfl
theorem Tm.Ul {v:ByteArray}:∀ {xs:List Tm},v∈Tm.vsL xs ↔ ∃ x∈xs,v∈x.vs
 | []=>by simp [Tm.vsL]
 | x :: xs=>by rw [Tm.vsL,List.mem_append,Tm.Ul (xs:=xs)]; simp
theorem Tm.Um:∀ xs:List Tm,(∀ x∈xs,x.vs.length≤x.nodes)→(Tm.vsL xs).length≤Tm.nodeS xs
 | [],_=>by simp [Tm.vsL]
 | x :: xs,h=>by
  have h1:=h x (by simp)
  have h2:=Tm.Um xs fun y hy=>h y (by simp [hy])
  rw [Tm.vsL,Tm.nodeS,yH]; omega
theorem Tm.JQ (x:Tm):x.vs.length≤x.nodes:=by
 have h:=Tm.Um x.args fun y hy=>Tm.JQ y
 rw [Tm.Uk,Tm.nodes_eq]
 cases AT x.name with
 | true=>simp
 | false=>simp only [cond_false]; omega
termination_by SizeOf.sizeOf x
decreasing_by exact Tm.lt_of_mem hy
noncomputable def GM (l:List ByteArray) (n:ByteArray):List ByteArray:=bif dec (n∈l) then l else l++[n]
theorem WS (l:List ByteArray) (n:ByteArray):(GM l n).length≤l.length+1:=by
 unfold GM
 cases dec (n∈l) <;> simp
theorem WT {l:List ByteArray} {n m:ByteArray}:m∈GM l n ↔ m∈l∨m=n:=by
 unfold GM
 by_cases h:n∈l
 ·rw [A4 h,cond_true]
  exact ⟨.inl,fun h'=>h'.elim id fun e=>e▸h⟩
 ·rw [An h,cond_false]
  simp
theorem T1 {l:List ByteArray} {n:ByteArray} (h:l.Nodup):(GM l n).Nodup:=by
 unfold GM
 by_cases k:n∈l
 ·rw [A4 k]; exact h
 ·rw [An k,cond_false,List.nodup_append]
  exact ⟨h,by simp,fun a ha b hb e=>by simp at hb; subst hb; subst e; exact k ha⟩
noncomputable def B7 (l ns:List ByteArray):List ByteArray:=ns.foldl GM l
theorem Gv:∀ (ns l:List ByteArray),(B7 l ns).length≤l.length+ns.length
 | [],l=>by simp [B7]
 | n :: ns,l=>by
  have h:=Gv ns (GM l n)
  have h2:=WS l n
  simp only [B7,zT,zI] at h ⊢
  omega
theorem RS:∀ {ns l:List ByteArray} {m:ByteArray},m∈B7 l ns ↔ m∈l∨m∈ns
 | [],l,m=>by simp [B7]
 | n :: ns,l,m=>by
  have h:=RS (ns:=ns) (l:=GM l n) (m:=m)
  simp only [B7,zT] at h ⊢
  rw [h,WT]
  simp only [zO]
  exact or_assoc
theorem NM:∀ {ns l:List ByteArray},l.Nodup→(B7 l ns).Nodup
 | [],l,h=>h
 | n :: ns,l,h=>NM (ns:=ns) (T1 h)
theorem NN (l a b:List ByteArray):B7 l (a++b)=B7 (B7 l a) b:=List.foldl_append
def Cu:SC:=(.seq (.reg [⟨some 4,none,.mv (.c (.int .i64 0))⟩]) (.seq (.seq (.reg [⟨some 6,none,.mv (.t 0)⟩,⟨some 7,none,.len false (.t 6)⟩,⟨some 8,none,.mv (.c (.int .i64 0))⟩]) (.block 0 (.loop [1,1,0,0,0,0,0,1,1,0,0,0,0,0,0,0,0,0,0] (.seq (.reg [⟨some 9,none,.bin .lss false (.t 8) (.t 7)⟩]) (.seq (.cond (.t 9) .skip (.exit 0)) (.seq (.block 1 (.seq (.reg [⟨some 10,none,.mv (.t 8)⟩,⟨some 5,none,.mv (.t 10)⟩]) (.seq (.reg [⟨some 11,none,.mv (.t 1)⟩,⟨some 12,none,.mv (.t 0)⟩,⟨some 13,none,.mv (.t 5)⟩,⟨some 14,none,.iaddr 1 (.t 12) (.t 13)⟩,⟨some 15,none,.load false 1 (.t 14)⟩,⟨some 16,none,.bin .eql false (.t 11) (.t 15)⟩]) (.cond (.t 16) (.seq (.reg [⟨some 17,none,.mv (.t 5)⟩,⟨some 4,none,.mv (.t 17)⟩]) .ret) .skip)))) (.reg [⟨some 18,none,.bin .add false (.t 8) (.c (.int .i64 1))⟩,⟨some 8,none,.mv (.t 18)⟩]))))))) (.seq (.reg [⟨some 4,none,.mv (.c (.int .i64 (-(0+1))))⟩]) .ret)))
theorem Ep:codeOf Tryz.prog 214=some ⟨19,Cu,[(.tmp 4)]⟩:=by kernel_rfl
theorem Cv:modes 214=⟨[],.asis,none,false⟩:=by unfold modes; rfl
def BS:SC:=(.seq (.reg [⟨some 4,none,.mv (.c (.bool false))⟩]) (.seq (.reg [⟨some 5,none,.mv (.t 0)⟩,⟨some 6,none,.mv (.t 1)⟩,⟨some 7,none,.call 214 [(.t 5),(.t 6)]⟩,⟨some 8,none,.bin .geq false (.t 7) (.c (.int .i64 0))⟩,⟨some 4,none,.mv (.t 8)⟩]) .ret))
theorem D5:codeOf Tryz.prog 180=some ⟨9,BS,[(.tmp 4)]⟩:=by kernel_rfl
theorem A8:modes 180=⟨[],.asis,none,false⟩:=by unfold modes; rfl
theorem WU (xs:List ByteArray) (n:ByteArray) (hl:xs.length≤1099511627776):E 214 [.arr (xs.map fun s=>[D.str s]),.str n] []=some (.int .i64 (FF (fun s=>dec (n=s)) xs 0),[]):=by
 refine Ai Ep Cv (of_decide_eq_true rfl) ?_
 simp (disch:=omega) only [Cu,go_sem,Ab]
 refine go_loop (α:=Int) (fun a=>⟨slots 19 0 [(0,.arr (xs.map fun s=>[D.str s])),(1,.str n),(7,.int .i64 xs.length),(8,.int .i64 a)],[]⟩) (fun a=>∃ k:Nat,a=k∧k≤(xs).length∧FF (fun s=>dec (n=s)) (xs.drop k) a=FF (fun s=>dec (n=s)) xs 0) (fun a=>(xs).length-(a).toNat) 0 ⟨0,rfl,zK _,by rw [zG]⟩ (by simp (disch:=omega) only [go_sem,Ab]) ?_
 rintro i ⟨k,hi,hk,hR⟩
 have hni:i.toNat=k:=by omega
 have hni1:(i+1).toNat=k+1:=by omega
 rcases zF k (xs).length with hlt | hge
 ·have hg:=get_at (fun s=>[D.str s]) hlt
  rw [zB hlt,FF] at hR
  cases hp:dec (n=xs[k]) with
  | true =>
   rw [hp] at hR
   simp (disch:=omega) only [go_sem,Ab,hni,hg,hp]
   simpa using hR
  | false =>
   rw [hp] at hR
   simp (disch:=omega) only [go_sem,Ab,hni,hg,hp]
   exact ⟨i+1,⟨k+1,by omega,hlt,by simpa using hR⟩,by omega,by first | trivial | rfl⟩
 ·rw [zE hge,FF] at hR
  simp (disch:=omega) only [go_sem,Ab,hni]
  exact hR
theorem HP (xs:List ByteArray) (n:ByteArray) (hl:xs.length≤1099511627776):E 180 [.arr (xs.map fun s=>[D.str s]),.str n] []=some (.bool (dec (n∈xs)),[]):=by
 have h:=WU xs n hl
 have e:dec (n∈xs)=dec (0≤FF (fun s=>dec (n=s)) xs 0):=by
  rw [N8]
  by_cases hm:n∈xs
  ·rw [A4 hm]
   exact (List.any_eq_true.2 ⟨n,hm,A4 rfl⟩).symm
  ·rw [An hm]
   refine Eq.symm (yP.2 fun h=>?_)
   obtain ⟨x,h1,h2⟩:=List.any_eq_true.1 h
   have e:=Ap.1 h2
   subst e
   exact hm h1
 rw [e]
 refine Ai D5 A8 (of_decide_eq_true rfl) ?_
 simp (disch:=omega) only [BS,go_sem,Ab,h,Cv]
theorem IC:∀ (ns l:List ByteArray),l.length≤(B7 l ns).length
 | [],l=>by simp [B7]
 | n :: ns,l=>by
  have h:=IC ns (GM l n)
  have h2:l.length≤(GM l n).length:=by unfold GM; cases dec (n∈l) <;> simp
  simp only [B7,zT] at h ⊢
  omega
def CD:SC:=(.seq (.reg [⟨some 3,none,.boxv 31 2 (.t 1)⟩,⟨some 4,none,.mv (.c .nil)⟩]) (.seq (.seq (.reg [⟨some 7,none,.faddr 1 (.t 3)⟩,⟨some 8,none,.load false 1 (.t 7)⟩,⟨some 9,none,.len false (.t 8)⟩,⟨some 10,none,.bin .eql false (.t 9) (.c (.int .i64 0))⟩,⟨some 11,none,.mv (.t 10)⟩,⟨(some 12),(some (11,true)),(.load true 2 (.t 3))⟩,⟨(some 13),(some (11,true)),(.call 187 [(.t 12)])⟩,⟨some 14,none,.pick (.t 11) (.t 13) (.c (.bool false))⟩]) (.cond (.t 14) (.seq (.seq (.reg [⟨some 15,none,.mv (.t 0)⟩,⟨some 16,none,.faddr 0 (.t 3)⟩,⟨some 17,none,.load false 1 (.t 16)⟩,⟨some 18,none,.call 180 [(.t 15),(.t 17)]⟩,⟨some 19,none,.un .not (.t 18)⟩]) (.cond (.t 19) (.reg [⟨some 20,none,.mv (.t 0)⟩,⟨some 21,none,.faddr 0 (.t 3)⟩,⟨some 22,none,.load false 1 (.t 21)⟩,⟨(some 23),none,(.mkrow 9 1 [(.str ⟨#[]⟩)] 1 [(0,(.t 22))])⟩,⟨(some 24),none,(.append 9 1 16 [(.str ⟨#[]⟩)] (.t 20) (.t 23))⟩,⟨some 0,none,.mv (.t 24)⟩]) .skip)) (.seq (.reg [⟨some 25,none,.mv (.t 0)⟩,⟨some 4,none,.mv (.t 25)⟩]) .ret)) .skip)) (.seq (.seq (.reg [⟨some 26,none,.faddr 1 (.t 3)⟩,⟨some 27,none,.load false 1 (.t 26)⟩,⟨some 28,none,.len false (.t 27)⟩,⟨some 29,none,.mv (.c (.int .i64 0))⟩]) (.block 0 (.loop [1,0,0,0,0,0,0,0,0,0,0,0,0,0,0,0,0,0,0,0,0,0,0,0,0,0,0,1,1,1,0,0,0,0,0,0,0,0] (.seq (.reg [⟨some 30,none,.bin .lss false (.t 29) (.t 28)⟩]) (.seq (.cond (.t 30) .skip (.exit 0)) (.seq (.block 1 (.seq (.reg [⟨some 31,none,.iaddr 2 (.t 27) (.t 29)⟩,⟨some 32,none,.load true 2 (.t 31)⟩,⟨(some 6),none,(.alloc 31 [(.str ⟨#[]⟩),.nil])⟩,⟨none,none,(.store 2 (.t 6) (.t 32))⟩]) (.reg [⟨some 33,none,.mv (.t 0)⟩,⟨some 34,none,.load true 2 (.t 6)⟩,⟨some 35,none,.call 191 [(.t 33),(.t 34)]⟩,⟨some 0,none,.mv (.t 35)⟩]))) (.reg [⟨some 36,none,.bin .add false (.t 29) (.c (.int .i64 1))⟩,⟨some 29,none,.mv (.t 36)⟩]))))))) (.seq (.reg [⟨some 37,none,.mv (.t 0)⟩,⟨some 4,none,.mv (.t 37)⟩]) .ret))))
theorem Dy:codeOf Tryz.prog 191=some ⟨38,CD,[(.tmp 4)]⟩:=by kernel_rfl
theorem BB:modes 191=⟨[true],.asis,none,false⟩:=by unfold modes; rfl
abbrev WV (x:Tm):Prop:=∀ l:List ByteArray,l.length+x.nodes≤1048576→E 191 [.ref 0,x.sv] [.row 9 1 (l.map fun s=>[OT.str s])]=some ((bif dec (l.length<(B7 l x.vs).length) then .ref 1 else .ref 0),(bif dec (l.length<(B7 l x.vs).length) then [.gone,.row 9 1 ((B7 l x.vs).map fun s=>[OT.str s])] else [.row 9 1 ((B7 l x.vs).map fun s=>[OT.str s])]))
theorem NO (x:Tm) (hva:AT x.name=true→x.args=[]) (hc:x.cok=true) (ih:∀ y∈x.args,WV y):WV x:=by
 intro l hn
 have hl:=Tm.length_le x.args
 have hne:=Tm.nodes_eq x
 have hv:=Q9 x hc
 have hvs:=Tm.Uk x
 rcases zN x.args.length with h0 | h0
 ·have hx0:x.args=[]:=zL h0
  have hz:((x.args.length:Int)=0)=True:=by rw [hx0]; simp
  cases hvv:AT x.name with
  | true =>
   rw [hvv] at hv hvs
   have h1:=HP l x.name (by omega)
   rw [hvs]
   cases hm:dec (x.name∈l) with
   | true =>
    have e:B7 l [x.name]=l:=by simp only [B7,zT,yW,GM,hm,cond_true]
    rw [hm] at h1
    simp only [cond_true,e]
    refine Ai Dy BB (of_decide_eq_true rfl) ?_
    simp (disch:=omega) only [CD,go_sem,Ab,hz,hv,h1,CK,A8]
   | false =>
    have e:B7 l [x.name]=l++[x.name]:=by simp only [B7,zT,yW,GM,hm,cond_false]
    have hg:l.length<(l++[x.name]).length:=by simp
    rw [hm] at h1
    simp only [cond_true,e,A4 hg]
    refine Ai Dy BB (of_decide_eq_true rfl) ?_
    simp (disch:=omega) only [CD,go_sem,Ab,hz,hv,h1,CK,A8]
    simp only [List.map_append,yB,zQ]
  | false =>
   rw [hvv] at hv hvs
   have e:B7 l x.vs=l:=by rw [hvs,hx0]; simp only [cond_false,Tm.vsL]; rfl
   rw [e]
   refine Ai Dy BB (of_decide_eq_true rfl) ?_
   simp (disch:=omega) only [CD,go_sem,Ab,hz,hv,CK]
   refine go_loop (α:=Int) (fun a=>⟨slots 38 0 [(0,.ref 0),(27,.arr (x.args.map Tm.d)),(28,.int .i64 x.args.length),(29,.int .i64 a)],[.row 9 1 (l.map fun s=>[OT.str s])]⟩) (fun a=>∃ k:Nat,a=k∧k≤(x.args).length) (fun a=>(x.args).length-(a).toNat) 0 ⟨0,rfl,zK _⟩ (by simp (disch:=omega) only [go_sem,Ab]) ?_
   rintro i ⟨k,hi,hk⟩
   have hni:i.toNat=k:=by omega
   have hni1:(i+1).toNat=k+1:=by omega
   rcases zF k (x.args).length with hlt | hge
   ·omega
   ·simp (disch:=omega) only [go_sem,Ab,hni]
 ·have hz:((x.args.length:Int)=0)=False:=eq_false (by omega)
  have hvv:AT x.name=false:=by
   cases h:AT x.name with
   | false=>rfl
   | true=>rw [hva h] at h0; simp at h0
  rw [hvv] at hvs
  simp only [cond_false] at hvs
  rw [hvs]
  refine Ai Dy BB (of_decide_eq_true rfl) ?_
  simp (disch:=omega) only [CD,go_sem,Ab,hz]
  refine go_loop (α:=Int × (List ByteArray)) (fun a=>⟨slots 38 0 [(0,(bif dec (l.length<(a.2).length) then .ref 1 else .ref 0)),(27,.arr (x.args.map Tm.d)),(28,.int .i64 x.args.length),(29,.int .i64 (a.1))],(bif dec (l.length<(a.2).length) then [.gone,.row 9 1 ((a.2).map fun s=>[OT.str s])] else [.row 9 1 ((a.2).map fun s=>[OT.str s])])⟩) (fun a=>∃ k:Nat,a.1=k∧k≤(x.args).length∧B7 (a.2) (Tm.vsL (x.args.drop k))=B7 l (Tm.vsL x.args)∧(a.2).length+Tm.nodeS (x.args.drop k)≤1048576∧l.length≤(a.2).length) (fun a=>(x.args).length-(a.1).toNat) (0,l) ⟨0,rfl,zK _,by rw [zG],by rw [zG]; dsimp only; omega,zR _⟩ (by simp (disch:=omega) only [go_sem,Ab]) ?_
  rintro ⟨i,acc⟩ ⟨k,hi,hk,hR⟩
  dsimp only at hi hR
  have hni:i.toNat=k:=by omega
  have hni1:(i+1).toNat=k+1:=by omega
  rcases zF k (x.args).length with hlt | hge
  ·have hg:=get_at Tm.d hlt
   rw [Tm.d_eq] at hg
   obtain ⟨hR1,hR2,hR3⟩:=hR
   rw [zB hlt,Tm.vsL,NN] at hR1
   rw [zB hlt,Tm.nodeS] at hR2
   have hc:=ih x.args[k] (zH hlt) acc (by omega)
   have hlen:=Gv x.args[k].vs acc
   have hgr:=IC x.args[k].vs acc
   have hvl:=Tm.JQ x.args[k]
   obtain ⟨acc2,ha2⟩:∃ a,a=B7 acc x.args[k].vs:=⟨_,rfl⟩
   rw [←ha2] at hc hlen hgr hR1
   rcases zF l.length acc.length with q1 | q1 <;> rcases zF acc.length acc2.length with q2 | q2
   all_goals
    first
     |rw [A4 q2] at hc
     |rw [An (Nat.not_lt.2 q2)] at hc
    simp only [cond_true,cond_false] at hc
    simp (disch:=omega) only [go_sem,Ab,hni,hg,hc,BB]
    refine ⟨(i+1,acc2),⟨k+1,by dsimp only; omega,hlt,hR1,by dsimp only; omega,by dsimp only; omega⟩,by dsimp only; omega,?_⟩
    first | done | simp (disch:=omega) only [go_sem,Ab]
  ·rw [zE hge,Tm.vsL] at hR
   obtain ⟨hR1,hR2,hR3⟩:=hR
   have hR1:acc=B7 l (Tm.vsL x.args):=hR1
   rw [←hR1]
   rcases zF l.length acc.length with q1 | q1
   ·simp (disch:=omega) only [go_sem,Ab,hni]
   ·simp (disch:=omega) only [go_sem,Ab,hni]
theorem PM (x:Tm) (hx:x.names=true) (hc:x.cok=true):WV x :=
 NO x (fun h=>Tm.P7 hx h) hc fun y hy=>PM y (Tm.Ln hx hy) (by rw [Tm.NK,zC] at hc; exact Tm.HM hc.2 hy)
termination_by SizeOf.sizeOf x
decreasing_by exact Tm.lt_of_mem hy
noncomputable def QA (l:List ByteArray):List ByteArray:=(srt (l.map (·.toList))).map fun x=>⟨x.toArray⟩
theorem Vg (l:List ByteArray):(QA l).Perm l:=by
 unfold QA
 have h:(srt (l.map (·.toList))).Perm (l.map (·.toList)):=List.mergeSort_perm _ _
 have h2:=h.map fun x:List UInt8=>(⟨x.toArray⟩:ByteArray)
 rw [z7] at h2
 have e:((fun x:List UInt8=>(⟨x.toArray⟩:ByteArray)) ∘ fun x:ByteArray=>x.toList)=id:=by
  funext x
  exact J9 x
 rw [e,List.map_id] at h2
 exact h2
theorem AL:modes 160=⟨[true],.asis,some sortStr,false⟩:=by unfold modes; rfl
theorem Un (l:List ByteArray) (hl:l.length≤1099511627776):E 160 [.ref 0] [.row 9 1 (l.map fun s=>[OT.str s])]=some (.tup [],[.row 9 1 ((QA l).map fun s=>[OT.str s])]):=by
 rw [N5 (g:=sortStr) (congrArg FM.ext AL)]
 unfold sortStr
 simp only
 rw [A4 ⟨by first | trivial | rfl,fun e he=>by obtain ⟨s,_,rfl⟩:=yT.1 he; exact ⟨s,rfl⟩,by simpa using hl⟩,cond_true]
 have e1:(l.map fun s=>[OT.str s]).map (fun e=>(Td e).toList)=l.map (·.toList):=by rw [z7]; rfl
 rw [e1]
 unfold QA
 rw [z7]
 rfl
noncomputable def Tm.vars (x:Tm):List ByteArray:=QA (B7 [] x.vs)
def DS:SC:=(.seq (.reg [⟨some 1,none,.boxv 31 2 (.t 0)⟩,⟨some 2,none,.mv (.c .nil)⟩]) (.seq (.reg [⟨(some 4),none,(.mkrow 9 1 [(.str ⟨#[]⟩)] 0 [])⟩,⟨some 5,none,.load true 2 (.t 1)⟩,⟨some 6,none,.call 191 [(.t 4),(.t 5)]⟩,⟨some 3,none,.mv (.t 6)⟩]) (.seq (.reg [⟨some 7,none,.mv (.t 3)⟩,⟨some 8,none,.call 160 [(.t 7)]⟩]) (.seq (.reg [⟨some 9,none,.mv (.t 3)⟩,⟨some 2,none,.mv (.t 9)⟩]) .ret))))
theorem Gw:codeOf Tryz.prog 202=some ⟨10,DS,[(.tmp 2)]⟩:=by kernel_rfl
theorem DT:modes 202=⟨[],.asis,none,false⟩:=by unfold modes; rfl
theorem QB (x:Tm) (hcol:WV x) (hn:x.nodes≤1048576):E 202 [x.sv] []=some (.ref 0,[.row 9 1 (x.vars.map fun s=>[OT.str s])]):=by
 have h1:=hcol [] (by simpa using hn)
 have hl:=Gv x.vs []
 have hv:=Tm.JQ x
 rw [zM,z8] at hl
 have h2:=Un (B7 [] x.vs) (by omega)
 rw [zQ,zM] at h1
 unfold Tm.vars
 rcases zF 0 (B7 [] x.vs).length with q | q
 ·rw [A4 q] at h1
  simp only [cond_true] at h1
  refine Ai Gw DT (of_decide_eq_true rfl) ?_
  simp (disch:=omega) only [DS,go_sem,Ab,h1,h2,BB,AL]
 ·rw [An (by omega)] at h1
  simp only [cond_false] at h1
  refine Ai Gw DT (of_decide_eq_true rfl) ?_
  simp (disch:=omega) only [DS,go_sem,Ab,h1,h2,BB,AL]
theorem T2 (x:Tm) (h:x.atom=true):WV x :=
 NO x (Tm.IB h).1 (Tm.HO h) fun y hy=>PM y ((Tm.IB h).2 y hy) (Tm.Ls y ((Tm.IB h).2 y hy))
theorem NP:∀ {xs:List ByteArray} {n m:ByteArray},m∈D4 xs n ↔ m∈xs∨m=n
 | [],n,m=>by simp [D4]
 | x :: xs,n,m=>by
  rw [D4]
  cases strLt x n with
  | true=>rw [cond_true,zO,NP,zO,or_assoc]
  | false =>
   rw [cond_false]
   by_cases h:x=n
   ·rw [A4 h,cond_true]
    exact ⟨.inl,fun h'=>h'.elim id fun e=>by subst e; subst h; simp⟩
   ·rw [An h,cond_false,zO]
    exact or_comm
theorem NQ:∀ (xs:List ByteArray) (n:ByteArray),(D4 xs n).length≤xs.length+1
 | [],n=>by simp [D4]
 | x :: xs,n=>by
  have h:=NQ xs n
  rw [D4]
  cases strLt x n with
  | true=>simp only [cond_true,zI]; omega
  | false =>
   rw [cond_false]
   cases dec (x=n) with
   | true=>simp only [cond_true,zI]; omega
   | false=>simp only [cond_false,zI]; omega
theorem Uo:∀ (xs:List ByteArray) (n:ByteArray),Cd xs n≤xs.length
 | [],n=>by simp [Cd]
 | x :: xs,n=>by
  have h:=Uo xs n
  rw [Cd]
  cases strLt x n with
  | true=>simp only [cond_true,zI]; omega
  | false=>simp only [cond_false,zI]; omega
theorem NR:∀ {xs:List ByteArray} {n:ByteArray} (h:Cd xs n<xs.length),xs[Cd xs n]=n→D4 xs n=xs
 | [],n,h,_=>by simp at h
 | x :: xs,n,h,e=>by
  rw [D4]
  cases hq:strLt x n with
  | true =>
   simp only [Cd,hq,cond_true,zI,List.getElem_cons_succ] at h e
   rw [cond_true,NR (by omega) e]
  | false =>
   simp only [Cd,hq,cond_false,List.getElem_cons_zero] at e
   rw [cond_false,A4 e]; rfl
theorem NS:∀ {xs:List ByteArray} {n:ByteArray},(∀ h:Cd xs n<xs.length,¬ xs[Cd xs n]=n)→D4 xs n=xs.take (Cd xs n)++n :: xs.drop (Cd xs n)
 | [],n,_=>by simp [D4,Cd]
 | x :: xs,n,h=>by
  rw [D4]
  cases hq:strLt x n with
  | true =>
   simp only [Cd,hq,cond_true,zI,List.getElem_cons_succ] at h ⊢
   rw [NS fun h'=>h (by omega)]
   simp
  | false =>
   simp only [Cd,hq,cond_false,List.getElem_cons_zero] at h ⊢
   rw [An (h (by simp))]
   simp
theorem Vh {xs:List ByteArray} {n:ByteArray} {k:Nat} (h:k+Cd (xs.drop k) n=Cd xs n) (hk:k<xs.length):(strLt xs[k] n=true∧k+1+Cd (xs.drop (k+1)) n=Cd xs n)∨(strLt xs[k] n=false∧k=Cd xs n):=by
 rw [zB hk,Cd] at h
 cases hq:strLt xs[k] n with
 | true=>rw [hq,cond_true] at h; exact .inl ⟨rfl,by omega⟩
 | false=>rw [hq,cond_false] at h; exact .inr ⟨rfl,by omega⟩
theorem Y0 (xs:List ByteArray) (k:Nat):((xs.map fun s=>[D.str s]).take k).map (fun x=>x.map D.ot)=(xs.take k).map fun s=>[OT.str s]:=by
 rw [←List.map_take,z7]; rfl
theorem Y1 (xs:List ByteArray) (k:Nat):((xs.map fun s=>[D.str s]).drop k).map (fun x=>x.map D.ot)=(xs.drop k).map fun s=>[OT.str s]:=by
 rw [←List.map_drop,z7]; rfl
theorem QC (xs:List ByteArray):((xs.map fun s=>[OT.str s]).all fun l=>l.length == 1)=true:=by
 rw [List.all_map,zZ]
 intro x _; rfl
theorem RT (xs:List ByteArray):((xs.map fun s=>[D.str s]).all fun l=>l.length == 1)=true:=by
 rw [List.all_map,zZ]
 intro x _; rfl
def Kw:SC:=(.seq (.reg [⟨some 4,none,.mv (.c .nil)⟩]) (.seq (.reg [⟨some 5,none,.mv (.c (.int .i64 0))⟩]) (.seq (.block 0 (.loop [1,1,0,0,0,1,0,0,0,0,0,0,0,0,0,0,0,0,0,0,0,0,0,0,0,0,0,0,0,0,0,0,0,0,0,0,0,0,0,0,0,0,0,0,0] (.seq (.seq (.reg [⟨some 6,none,.mv (.t 5)⟩,⟨some 7,none,.mv (.t 0)⟩,⟨some 8,none,.len false (.t 7)⟩,⟨some 9,none,.bin .lss false (.t 6) (.t 8)⟩,⟨some 10,none,.mv (.t 9)⟩,⟨(some 11),(some (10,true)),(.mv (.t 0))⟩,⟨(some 12),(some (10,true)),(.mv (.t 5))⟩,⟨(some 13),(some (10,true)),(.iaddr 1 (.t 11) (.t 12))⟩,⟨(some 14),(some (10,true)),(.load false 1 (.t 13))⟩,⟨(some 15),(some (10,true)),(.mv (.t 1))⟩,⟨(some 16),(some (10,true)),(.bin .lss false (.t 14) (.t 15))⟩,⟨some 17,none,.pick (.t 10) (.t 16) (.c (.bool false))⟩]) (.cond (.t 17) .skip (.exit 0))) (.block 1 (.reg [⟨some 18,none,.mv (.t 5)⟩,⟨some 19,none,.bin .add false (.t 18) (.c (.int .i64 1))⟩,⟨some 5,none,.mv (.t 19)⟩]))))) (.seq (.seq (.reg [⟨some 20,none,.mv (.t 5)⟩,⟨some 21,none,.mv (.t 0)⟩,⟨some 22,none,.len false (.t 21)⟩,⟨some 23,none,.bin .lss false (.t 20) (.t 22)⟩,⟨some 24,none,.mv (.t 23)⟩,⟨(some 25),(some (24,true)),(.mv (.t 0))⟩,⟨(some 26),(some (24,true)),(.mv (.t 5))⟩,⟨(some 27),(some (24,true)),(.iaddr 1 (.t 25) (.t 26))⟩,⟨(some 28),(some (24,true)),(.load false 1 (.t 27))⟩,⟨(some 29),(some (24,true)),(.mv (.t 1))⟩,⟨(some 30),(some (24,true)),(.bin .eql false (.t 28) (.t 29))⟩,⟨some 31,none,.pick (.t 24) (.t 30) (.c (.bool false))⟩]) (.cond (.t 31) (.seq (.reg [⟨some 32,none,.mv (.t 0)⟩,⟨some 4,none,.mv (.t 32)⟩]) .ret) .skip)) (.seq (.dreg [[],[],[],[1,2],[0,3,1,2],[],[5],[4,0,3,1,2,6,5],[],[],[8,9],[7,4,0,3,1,2,6,5,10,8,9],[11,7,4,0,3,1,2,6,5,10,8,9]] [⟨(some 33),none,(.mkrow 9 1 [(.str ⟨#[]⟩)] 0 [])⟩,⟨some 34,none,.mv (.t 0)⟩,⟨some 35,none,.mv (.t 5)⟩,⟨some 36,none,.slice false 1 (.t 34) none (some (.t 35))⟩,⟨(some 37),none,(.append 9 1 16 [(.str ⟨#[]⟩)] (.t 33) (.t 36))⟩,⟨some 38,none,.mv (.t 1)⟩,⟨(some 39),none,(.mkrow 9 1 [(.str ⟨#[]⟩)] 1 [(0,(.t 38))])⟩,⟨(some 40),none,(.append 9 1 16 [(.str ⟨#[]⟩)] (.t 37) (.t 39))⟩,⟨some 41,none,.mv (.t 0)⟩,⟨some 42,none,.mv (.t 5)⟩,⟨some 43,none,.slice false 1 (.t 41) (some (.t 42)) none⟩,⟨(some 44),none,(.append 9 1 16 [(.str ⟨#[]⟩)] (.t 40) (.t 43))⟩,⟨some 4,none,.mv (.t 44)⟩]) .ret)))))
theorem QD:codeOf Tryz.prog 198=some ⟨45,Kw,[(.tmp 4)]⟩:=by kernel_rfl
theorem E9:modes 198=⟨[],.frz,none,false⟩:=by unfold modes; rfl
theorem Up (xs:List ByteArray) (n:ByteArray) (hl:xs.length≤1048576):E 198 [.arr (xs.map fun s=>[D.str s]),.str n] []=some (.arr ((D4 xs n).map fun s=>[D.str s]),[]):=by
 have e1:=Y0 xs (Cd xs n)
 have e2:=Y1 xs (Cd xs n)
 have e3:=QC (xs.take (Cd xs n))
 have e4:=QC (xs.drop (Cd xs n))
 have e5:=RT xs
 have l1:=Uo xs n
 have e6:(xs.map fun s=>[D.str s]).take xs.length=xs.map fun s=>[D.str s]:=List.take_of_length_le (by simp)
 have e7:(xs.take (Cd xs n)).length=Cd xs n:=by rw [zY]; omega
 have e8:(xs.drop (Cd xs n)).length=xs.length-Cd xs n:=List.length_drop
 have hf:∀ ys:List ByteArray,ys=D4 xs n→(ys.map fun s=>[OT.str s])=(D4 xs n).map fun s=>[OT.str s]:=fun ys h=>by rw [h]
 refine Ai QD E9 (of_decide_eq_true rfl) ?_
 simp (disch:=omega) only [Kw,go_sem,Ab]
 refine go_loop (α:=Int) (fun a=>⟨slots 45 0 [(0,.arr (xs.map fun s=>[D.str s])),(1,.str n),(5,.int .i64 a)],[]⟩) (fun a=>∃ k:Nat,a=k∧k≤(xs).length∧k+Cd (xs.drop k) n=Cd xs n) (fun a=>(xs).length-(a).toNat) 0 ⟨0,rfl,zK _,by rw [zG,z8]⟩ (by simp (disch:=omega) only [go_sem,Ab]) ?_
 rintro i ⟨k,hi,hk,hR⟩
 have hni:i.toNat=k:=by omega
 have hni1:(i+1).toNat=k+1:=by omega
 rcases zF k (xs).length with hlt | hge
 ·have hg:=get_at (fun s=>[D.str s]) hlt
  rcases Vh hR hlt with ⟨q,hR'⟩ | ⟨q,hk'⟩
  ·simp (disch:=omega) only [go_sem,Ab,hni,hg,q]
   exact ⟨i+1,⟨k+1,by omega,hlt,hR'⟩,by omega,by first | trivial | rfl⟩
  ·subst hk'
   by_cases h0:xs[Cd xs n]=n
   ·have hi0:=NR hlt h0
    rw [hi0]
    simp (disch:=omega) only [go_sem,Ab,hni,hg,q,h0,e6,JO,C9]
   ·have hi0:=NS (fun _=>h0)
    have hx:(xs.take (Cd xs n)).map (fun s=>[OT.str s])++([[OT.str n]]++(xs.drop (Cd xs n)).map (fun s=>[OT.str s]))=(D4 xs n).map fun s=>[OT.str s]:=by rw [hi0]; simp
    have hx2:(xs.take (Cd xs n)).map (fun s=>[OT.str s])++[[OT.str n]]++(xs.drop (Cd xs n)).map (fun s=>[OT.str s])=(D4 xs n).map fun s=>[OT.str s]:=by rw [hi0]; simp
    simp (disch:=omega) only [go_sem,Ab,hni,hg,q,h0,e1,e2,e3,e4,e5,e6,e7,e8,hx2,yH,yD]
 ·obtain rfl:k=xs.length:=by omega
  have hk':xs.length=Cd xs n:=by rw [←hR,zE (zR _)]; simp [Cd]
  have hi0:=NS (xs:=xs) (n:=n) (fun h=>by omega)
  have hx2:(xs.take (Cd xs n)).map (fun s=>[OT.str s])++[[OT.str n]]++(xs.drop (Cd xs n)).map (fun s=>[OT.str s])=(D4 xs n).map fun s=>[OT.str s]:=by rw [hi0]; simp
  rw [hk'] at hni
  simp (disch:=omega) only [go_sem,Ab,hni,e1,e2,e3,e4,e5,e6,e7,e8,hx2,yH,yD]
theorem El:∀ (ns l:List ByteArray),(Ce l ns).length≤l.length+ns.length
 | [],l=>by simp [Ce]
 | n :: ns,l=>by
  have h:=El ns (D4 l n)
  have h2:=NQ l n
  simp only [Ce,zT,zI] at h ⊢
  omega
theorem Kx:∀ {ns l:List ByteArray} {m:ByteArray},m∈Ce l ns ↔ m∈l∨m∈ns
 | [],l,m=>by simp [Ce]
 | n :: ns,l,m=>by
  have h:=Kx (ns:=ns) (l:=D4 l n) (m:=m)
  simp only [Ce,zT] at h ⊢
  rw [h,NP]
  simp only [zO]
  exact or_assoc
theorem NT (l a b:List ByteArray):Ce l (a++b)=Ce (Ce l a) b:=List.foldl_append
def FN:SC:=(.seq (.reg [⟨some 3,none,.boxv 31 2 (.t 1)⟩,⟨some 4,none,.mv (.c .nil)⟩]) (.seq (.seq (.reg [⟨some 6,none,.faddr 0 (.t 3)⟩,⟨some 7,none,.load false 1 (.t 6)⟩,⟨some 8,none,.call 118 [(.t 7)]⟩]) (.cond (.t 8) (.seq (.reg [⟨some 9,none,.mv (.t 0)⟩,⟨some 10,none,.faddr 0 (.t 3)⟩,⟨some 11,none,.load false 1 (.t 10)⟩,⟨some 12,none,.call 198 [(.t 9),(.t 11)]⟩,⟨some 4,none,.mv (.t 12)⟩]) .ret) .skip)) (.seq (.seq (.reg [⟨some 5,none,.mv (.c (.int .i64 0))⟩]) (.block 0 (.loop [1,0,0,1,0,1,0,0,0,0,0,0,0,0,0,0,0,0,0,0,0,0,0,0,0,0,0,0] (.seq (.seq (.reg [⟨some 13,none,.mv (.t 5)⟩,⟨some 14,none,.faddr 1 (.t 3)⟩,⟨some 15,none,.load false 1 (.t 14)⟩,⟨some 16,none,.len false (.t 15)⟩,⟨some 17,none,.bin .lss false (.t 13) (.t 16)⟩]) (.cond (.t 17) .skip (.exit 0))) (.seq (.block 1 (.reg [⟨some 20,none,.mv (.t 0)⟩,⟨some 21,none,.faddr 1 (.t 3)⟩,⟨some 22,none,.load false 1 (.t 21)⟩,⟨some 23,none,.mv (.t 5)⟩,⟨some 24,none,.iaddr 2 (.t 22) (.t 23)⟩,⟨some 25,none,.load true 2 (.t 24)⟩,⟨some 26,none,.call 185 [(.t 20),(.t 25)]⟩,⟨some 0,none,.mv (.t 26)⟩])) (.reg [⟨some 18,none,.mv (.t 5)⟩,⟨some 19,none,.bin .add false (.t 18) (.c (.int .i64 1))⟩,⟨some 5,none,.mv (.t 19)⟩])))))) (.seq (.reg [⟨some 27,none,.mv (.t 0)⟩,⟨some 4,none,.mv (.t 27)⟩]) .ret))))
theorem Jk:codeOf Tryz.prog 185=some ⟨28,FN,[(.tmp 4)]⟩:=by kernel_rfl
theorem Ea:modes 185=⟨[],.asis,none,false⟩:=by unfold modes; rfl
def Jl:SC:=(.seq (.reg [⟨some 1,none,.boxv 31 2 (.t 0)⟩,⟨some 2,none,.mv (.c .nil)⟩]) (.seq (.reg [⟨(some 3),none,(.mkrow 9 1 [(.str ⟨#[]⟩)] 0 [])⟩,⟨some 4,none,.load true 2 (.t 1)⟩,⟨some 5,none,.call 185 [(.t 3),(.t 4)]⟩,⟨some 2,none,.mv (.t 5)⟩]) .ret))
theorem OB:codeOf Tryz.prog 196=some ⟨6,Jl,[(.tmp 2)]⟩:=by kernel_rfl
theorem Jm:modes 196=⟨[],.frz,none,false⟩:=by unfold modes; rfl
abbrev WW (x:Tm):Prop:=∀ l:List ByteArray,l.length+x.nodes≤1048576→E 185 [.arr (l.map fun s=>[D.str s]),x.sv] []=some (.arr ((Ce l x.vs).map fun s=>[D.str s]),[])
theorem Vi (x:Tm) (ih:∀ y∈x.args,WW y):WW x:=by
 intro l hn
 have hl:=Tm.length_le x.args
 have hne:=Tm.nodes_eq x
 have hvs:=Tm.Uk x
 have hp:=Up l x.name (by omega)
 cases hvv:AT x.name with
 | true =>
  rw [hvv] at hvs
  have e:Ce l x.vs=D4 l x.name:=by rw [hvs]; rfl
  rw [e]
  refine Ai Jk Ea (of_decide_eq_true rfl) ?_
  simp (disch:=omega) only [FN,go_sem,Ab,hvv,hp,Ak,DZ,E9]
 | false =>
  rw [hvv] at hvs
  simp only [cond_false] at hvs
  rw [hvs]
  refine Ai Jk Ea (of_decide_eq_true rfl) ?_
  simp (disch:=omega) only [FN,go_sem,Ab,hvv,Ak,DZ]
  refine go_loop (α:=Int × (List ByteArray)) (fun a=>⟨slots 28 0 [(0,.arr ((a.2).map fun s=>[D.str s])),(3,.ptr 0 0),(5,.int .i64 (a.1))],[.box 31 [.str x.name,.arr (x.args.map Tm.d)]]⟩) (fun a=>∃ k:Nat,a.1=k∧k≤(x.args).length∧Ce (a.2) (Tm.vsL (x.args.drop k))=Ce l (Tm.vsL x.args)∧(a.2).length+Tm.nodeS (x.args.drop k)≤1048576) (fun a=>(x.args).length-(a.1).toNat) (0,l) ⟨0,rfl,zK _,by rw [zG],by rw [zG]; dsimp only; omega⟩ (by simp (disch:=omega) only [go_sem,Ab]) ?_
  rintro ⟨i,acc⟩ ⟨k,hi,hk,hR⟩
  dsimp only at hi hR
  have hni:i.toNat=k:=by omega
  have hni1:(i+1).toNat=k+1:=by omega
  rcases zF k (x.args).length with hlt | hge
  ·have hg:=get_at Tm.d hlt
   rw [Tm.d_eq] at hg
   obtain ⟨hR1,hR2⟩:=hR
   rw [zB hlt,Tm.vsL,NT] at hR1
   rw [zB hlt,Tm.nodeS] at hR2
   have hc:=ih x.args[k] (zH hlt) acc (by omega)
   have hlen:=El x.args[k].vs acc
   have hvl:=Tm.JQ x.args[k]
   simp (disch:=omega) only [go_sem,Ab,hni,hg,hc,Ea]
   exact ⟨(i+1,Ce acc x.args[k].vs),⟨k+1,by dsimp only; omega,hlt,hR1,by dsimp only; omega⟩,by dsimp only; omega,by first | trivial | rfl⟩
  ·rw [zE hge,Tm.vsL] at hR
   obtain ⟨hR1,hR2⟩:=hR
   have hR1:acc=Ce l (Tm.vsL x.args):=hR1
   rw [←hR1]
   simp (disch:=omega) only [go_sem,Ab,hni]
theorem RU (x:Tm):WW x:=Vi x fun y hy=>RU y
termination_by SizeOf.sizeOf x
decreasing_by exact Tm.lt_of_mem hy
theorem WX (x:Tm) (hn:x.nodes≤1048576):E 196 [x.sv] []=some (.arr ((Ce [] x.vs).map fun s=>[D.str s]),[]):=by
 have h:=RU x [] (by simpa using hn)
 rw [zQ] at h
 refine Ai OB Jm (of_decide_eq_true rfl) ?_
 simp (disch:=omega) only [Jl,go_sem,Ab,h,Ea]
theorem NU:∀ x y:List UInt8,Op.bytesLess x y=true→Op.bytesLess y x=false
 | [],[],h=>by simp [Op.bytesLess] at h
 | [],_ :: _,_=>rfl
 | _ :: _,[],h=>by simp [Op.bytesLess] at h
 | a :: x,b :: y,h=>by
  simp only [Op.bytesLess,yG,decide_eq_true_eq,zC,beq_iff_eq] at h
  simp only [Op.bytesLess,yL,decide_eq_false_iff_not]
  rcases h with h | ⟨rfl,h⟩
  ·have h2:¬ b<a:=by intro h3; exact absurd (UInt8.lt_trans h h3) (UInt8.lt_irrefl _)
   have h3:(b == a)=false:=by
    rw [beq_eq_false_iff_ne]; rintro rfl; exact UInt8.lt_irrefl _ h
   exact ⟨h2,by rw [h3]; rfl⟩
  ·exact ⟨UInt8.lt_irrefl _,by rw [NU x y h]; simp⟩
theorem NV:∀ x y:List UInt8,Op.bytesLess x y=false→Op.bytesLess y x=false→x=y
 | [],[],_,_=>rfl
 | [],_ :: _,h,_=>by simp [Op.bytesLess] at h
 | _ :: _,[],_,h=>by simp [Op.bytesLess] at h
 | a :: x,b :: y,h,k=>by
  simp only [Op.bytesLess,yL,decide_eq_false_iff_not] at h k
  have hab:a=b:=by
   have h1:=h.1; have h2:=k.1
   rw [UInt8.lt_iff_toNat_lt] at h1 h2
   exact UInt8.toNat_inj.1 (by omega)
  subst hab
  have h1:Op.bytesLess x y=false:=by simpa using h.2
  have h2:Op.bytesLess y x=false:=by simpa using k.2
  rw [NV x y h1 h2]
theorem RV {a b:ByteArray} (h:strLt a b=true):strLt b a=false:=NU _ _ h
theorem LT {a b:ByteArray} (h:strLt a b=false) (h':strLt b a=false):a=b:=KX (NV _ _ h h')
theorem NW:∀ x y z:List UInt8,Op.bytesLess x y=true→Op.bytesLess y z=true→Op.bytesLess x z=true
 | _,_,[],_,h=>by simp [Op.bytesLess] at h
 | [],[],_ :: _,h,_=>by simp [Op.bytesLess] at h
 | [],_ :: _,_ :: _,_,_=>rfl
 | _ :: _,[],_ :: _,h,_=>by simp [Op.bytesLess] at h
 | a :: x,b :: y,c :: z,h,k=>by
  simp only [Op.bytesLess,yG,decide_eq_true_eq,zC,beq_iff_eq] at h k ⊢
  rcases h with h | ⟨rfl,h⟩
  ·rcases k with k | ⟨rfl,k⟩
   ·exact .inl (UInt8.lt_trans h k)
   ·exact .inl h
  ·rcases k with k | ⟨rfl,k⟩
   ·exact .inl k
   ·exact .inr ⟨rfl,NW x y z h k⟩
theorem RW {a b c:ByteArray} (h:strLt a b=true) (k:strLt b c=true):strLt a c=true:=NW _ _ _ h k
theorem Uq:∀ x y:List UInt8,Op.bytesLess x y=true ↔ x<y
 | [],[]=>by simp [Op.bytesLess]
 | [],b :: y=>by simp [Op.bytesLess]
 | a :: x,[]=>by simp [Op.bytesLess]
 | a :: x,b :: y=>by
  have h:=Uq x y
  rw [List.cons_lt_cons_iff,← h]
  simp only [Op.bytesLess,yG,decide_eq_true_eq,zC,beq_iff_eq]
theorem WY (a b:ByteArray):strLt a b=true ↔ a.toList<b.toList:=Uq _ _
theorem PN (n:ByteArray):∀ xs:List ByteArray,xs.Pairwise (fun x y=>strLt x y=true)→(D4 xs n).Pairwise fun x y=>strLt x y=true
 | [],_=>by simp [D4]
 | x :: xs,h=>by
  rw [D4]
  rw [yA] at h
  cases hq:strLt x n with
  | true =>
   rw [cond_true,yA]
   refine ⟨fun y hy=>?_,PN n xs h.2⟩
   rcases NP.1 hy with hy | rfl
   ·exact h.1 y hy
   ·exact hq
  | false =>
   rw [cond_false]
   by_cases he:x=n
   ·rw [A4 he,cond_true,yA]; exact h
   ·rw [An he,cond_false,yA,yA]
    have hn:strLt n x=true:=by
     cases hh:strLt n x with
     | true=>rfl
     | false=>exact absurd (LT hq hh) he
    refine ⟨fun y hy=>?_,h⟩
    rcases zO.1 hy with rfl | hy
    ·exact hn
    ·exact RW hn (h.1 y hy)
theorem PO:∀ (ns xs:List ByteArray),xs.Pairwise (fun x y=>strLt x y=true)→(Ce xs ns).Pairwise fun x y=>strLt x y=true
 | [],xs,h=>h
 | n :: ns,xs,h=>PO ns (D4 xs n) (PN n xs h)
theorem T3 {xs:List ByteArray} (h:xs.Pairwise fun x y=>strLt x y=true):xs.Nodup :=
 h.imp fun {a b} hab e=>by rw [e,JO] at hab; cases hab
theorem Vj (l:List ByteArray):(QA l).Pairwise fun x y=>strLt y x=false:=by
 unfold QA srt
 rw [List.pairwise_map]
 have h:=List.pairwise_mergeSort (le:=fun x y:List UInt8=>decide (x≤y)) (fun a b c h k=>by
  rw [decide_eq_true_eq] at h k ⊢; exact List.le_trans h k) (fun a b=>by
  rw [yG,decide_eq_true_eq,decide_eq_true_eq]; exact List.le_total a b) (l.map (·.toList))
 refine h.imp fun {a b} hab=>?_
 rw [decide_eq_true_eq] at hab
 rw [yP]
 intro hh
 have:=(WY _ _).1 hh
 rw [ByteArray.toList_eq,ByteArray.toList_eq] at this
 exact absurd this (List.not_lt.2 hab)
theorem PP (ns:List ByteArray):QA (B7 [] ns)=Ce [] ns:=by
 have h1:=PO ns [] List.Pairwise.nil
 have n1:=T3 h1
 have n2:(B7 [] ns).Nodup:=NM yI
 have hp:(QA (B7 [] ns)).Perm (Ce [] ns):=(Vg _).trans ((List.perm_ext_iff_of_nodup n2 n1).2 fun a=>by rw [RS,Kx])
 refine List.Perm.eq_of_pairwise (le:=fun x y=>strLt y x=false) (fun a b _ _ h k=>LT k h) (Vj _) (h1.imp fun h=>RV h) hp
theorem Fm.RY (x:Fm) (b:List ByteArray):x.fv b=bif dec (x.op=3) then (Ce [] x.atom.vs).filter (fun n=>!dec (n∈b)) else Fm.fvL x.parts (bif qB x.op then b++[x.var] else b):=by
 obtain ⟨op,atom,var,parts⟩:=x
 rw [Fm.fv]; rfl
theorem Fm.Ur {m:ByteArray} {b:List ByteArray}:∀ {xs:List Fm},m∈Fm.fvL xs b ↔ ∃ x∈xs,m∈x.fv b
 | []=>by simp [Fm.fvL]
 | x :: xs=>by rw [Fm.fvL,List.mem_append,Fm.Ur (xs:=xs)]; simp
theorem Fm.Us (b:List ByteArray):∀ xs:List Fm,(∀ x∈xs,(x.fv b).length≤x.vn)→(Fm.fvL xs b).length≤Fm.vnS xs
 | [],_=>by simp [Fm.fvL]
 | x :: xs,h=>by
  have h1:=h x (by simp)
  have h2:=Fm.Us b xs fun y hy=>h y (by simp [hy])
  rw [Fm.fvL,Fm.vnS,yH]; omega
theorem Fm.JR (x:Fm):∀ b:List ByteArray,(x.fv b).length≤x.vn:=by
 intro b
 rw [Fm.RY,Fm.Ug]
 cases dec (x.op=3) with
 | true =>
  simp only [cond_true]
  have h1:=List.length_filter_le (fun n=>!dec (n∈b)) (Ce [] x.atom.vs)
  have h2:=El x.atom.vs []
  have h3:=Tm.JQ x.atom
  simp only [zM] at h2
  omega
 | false =>
  simp only [cond_false]
  have h:=Fm.Us (bif qB x.op then b++[x.var] else b) x.parts fun y hy=>Fm.JR y _
  omega
termination_by SizeOf.sizeOf x
decreasing_by exact Fm.lt_of_mem hy
theorem Fm.WZ:∀ xs:List Fm,(∀ x∈xs,x.vn≤30*x.nodes)→Fm.vnS xs≤30*Fm.nodeS xs
 | [],_=>by simp [Fm.vnS]
 | x :: xs,h=>by
  have h1:=h x (by simp)
  have h2:=Fm.WZ xs fun y hy=>h y (by simp [hy])
  rw [Fm.vnS,Fm.nodeS]; omega
theorem Fm.YC (x:Fm) (h:x.forms=true):x.vn≤30*x.nodes:=by
 have h1:=Fm.WZ x.parts fun y hy=>Fm.YC y (Fm.EX h hy)
 have h2:=Fm.M7 (Fm.EY h)
 rw [Fm.Ug,Fm.nodes_eq]; omega
termination_by SizeOf.sizeOf x
decreasing_by exact Fm.lt_of_mem hy
theorem Fm.Xa (x:Fm) (n:ByteArray):n∈x.free ↔ n∈x.fv []:=by unfold Fm.free; rw [Kx]; simp
theorem Xb (xs:List ByteArray) (h:xs.length≤1048576):E 203 [.arr (xs.map fun s=>[D.str s])] []=some (.ref 0,[.row 9 1 (xs.map fun s=>[OT.str s])]):=by
 rw [N5 (g:=Lg) (by unfold modes; rfl)]
 unfold Lg
 simp only
 rw [A4 ⟨fun e he=>by obtain ⟨s,_,rfl⟩:=yT.1 he; exact ⟨s,rfl⟩,by simpa using h⟩,cond_true,z7]
 rfl
theorem Er:modes 203=⟨[],.asis,some Lg,false⟩:=by unfold modes; rfl
theorem QE {x:Fm} (h:x.form=true) (ho:x.op=3):E 202 [x.atom.sv] []=some (.ref 0,[.row 9 1 ((Ce [] x.atom.vs).map fun s=>[OT.str s])]):=by
 have ha:=(Fm.IA h ho).2.1
 have hn:=Tm.JK ha
 have h1:=QB x.atom (T2 x.atom ha) (by omega)
 have e:x.atom.vars=Ce [] x.atom.vs:=PP _
 rw [e] at h1
 exact h1
theorem RZ (b acc:List ByteArray) (n:ByteArray) (ns:List ByteArray):B7 acc ((n :: ns).filter fun m=>!dec (m∈b))=B7 (bif dec (n∈b) then acc else GM acc n) (ns.filter fun m=>!dec (m∈b)):=by
 rw [List.filter_cons]
 cases dec (n∈b) with
 | true=>rfl
 | false=>rfl
def Eb:SC:=(.seq (.reg [⟨some 4,none,.boxv 34 5 (.t 1)⟩,⟨some 6,none,.mv (.c .nil)⟩]) (.seq (.seq (.reg [⟨some 11,none,.faddr 0 (.t 4)⟩,⟨some 12,none,.load false 1 (.t 11)⟩,⟨some 13,none,.bin .eql false (.t 12) (.c (.int .i64 3))⟩]) (.cond (.t 13) (.seq (.seq (.reg [⟨some 14,none,.faddr 1 (.t 4)⟩,⟨some 15,none,.load true 2 (.t 14)⟩,⟨some 16,none,.call 202 [(.t 15)]⟩,⟨some 17,none,.len false (.t 16)⟩,⟨some 18,none,.mv (.c (.int .i64 0))⟩]) (.block 0 (.loop [1,0,1,0,0,0,0,0,0,0,0,0,0,0,0,0,1,1,1,0,0,0,0,0,0,0,0,0,0,0,0,0,0,0,0,0,0,0,0,0,0,0,0,0,0,0,0,0,0,0,0,0,0,0,0,0,0,0,0,0] (.seq (.reg [⟨some 19,none,.bin .lss false (.t 18) (.t 17)⟩]) (.seq (.cond (.t 19) .skip (.exit 0)) (.seq (.block 1 (.seq (.reg [⟨some 20,none,.iaddr 1 (.t 16) (.t 18)⟩,⟨some 21,none,.load false 1 (.t 20)⟩,⟨some 8,none,.mv (.t 21)⟩]) (.seq (.reg [⟨some 22,none,.mv (.t 2)⟩,⟨some 23,none,.mv (.t 8)⟩,⟨some 24,none,.call 180 [(.t 22),(.t 23)]⟩,⟨some 25,none,.un .not (.t 24)⟩,⟨some 26,none,.mv (.t 25)⟩,⟨(some 27),(some (26,true)),(.mv (.t 0))⟩,⟨(some 28),(some (26,true)),(.mv (.t 8))⟩,⟨(some 29),(some (26,true)),(.call 180 [(.t 27),(.t 28)])⟩,⟨(some 30),(some (26,true)),(.un .not (.t 29))⟩,⟨some 31,none,.pick (.t 26) (.t 30) (.c (.bool false))⟩]) (.cond (.t 31) (.reg [⟨some 32,none,.mv (.t 0)⟩,⟨some 33,none,.mv (.t 8)⟩,⟨(some 34),none,(.mkrow 9 1 [(.str ⟨#[]⟩)] 1 [(0,(.t 33))])⟩,⟨(some 35),none,(.append 9 1 16 [(.str ⟨#[]⟩)] (.t 32) (.t 34))⟩,⟨some 0,none,.mv (.t 35)⟩]) .skip)))) (.reg [⟨some 36,none,.bin .add false (.t 18) (.c (.int .i64 1))⟩,⟨some 18,none,.mv (.t 36)⟩]))))))) (.seq (.reg [⟨some 37,none,.mv (.t 0)⟩,⟨some 6,none,.mv (.t 37)⟩]) .ret)) .skip)) (.seq (.seq (.reg [⟨some 38,none,.faddr 0 (.t 4)⟩,⟨some 39,none,.load false 1 (.t 38)⟩,⟨some 40,none,.call 153 [(.t 39)]⟩]) (.cond (.t 40) (.dreg [[],[0],[],[2],[3,2],[1,0,4,3,2],[5,1,0,4,3,2]] [⟨some 41,none,.mv (.t 2)⟩,⟨some 42,none,.call 203 [(.t 41)]⟩,⟨some 43,none,.faddr 3 (.t 4)⟩,⟨some 44,none,.load false 1 (.t 43)⟩,⟨(some 45),none,(.mkrow 9 1 [(.str ⟨#[]⟩)] 1 [(0,(.t 44))])⟩,⟨(some 46),none,(.append 9 1 16 [(.str ⟨#[]⟩)] (.t 42) (.t 45))⟩,⟨some 2,none,.mv (.t 46)⟩]) .skip)) (.seq (.seq (.reg [⟨some 47,none,.faddr 4 (.t 4)⟩,⟨some 48,none,.load false 1 (.t 47)⟩,⟨some 49,none,.len false (.t 48)⟩,⟨some 50,none,.mv (.c (.int .i64 0))⟩]) (.block 2 (.loop [1,0,1,0,0,0,0,0,0,0,0,0,0,0,0,0,0,0,0,0,0,0,0,0,0,0,0,0,0,0,0,0,0,0,0,0,0,0,0,0,0,0,0,0,0,0,0,0,1,1,1,0,0,0,0,0,0,0,0,0] (.seq (.reg [⟨some 51,none,.bin .lss false (.t 50) (.t 49)⟩]) (.seq (.cond (.t 51) .skip (.exit 2)) (.seq (.block 3 (.seq (.reg [⟨some 52,none,.iaddr 5 (.t 48) (.t 50)⟩,⟨some 53,none,.load true 5 (.t 52)⟩,⟨(some 10),none,(.alloc 34 [(.int .i64 0),(.str ⟨#[]⟩),.nil,(.str ⟨#[]⟩),.nil])⟩,⟨none,none,(.store 5 (.t 10) (.t 53))⟩]) (.reg [⟨some 54,none,.mv (.t 0)⟩,⟨some 55,none,.load true 5 (.t 10)⟩,⟨some 56,none,.mv (.t 2)⟩,⟨some 57,none,.call 159 [(.t 54),(.t 55),(.t 56)]⟩,⟨some 0,none,.mv (.t 57)⟩]))) (.reg [⟨some 58,none,.bin .add false (.t 50) (.c (.int .i64 1))⟩,⟨some 50,none,.mv (.t 58)⟩]))))))) (.seq (.reg [⟨some 59,none,.mv (.t 0)⟩,⟨some 6,none,.mv (.t 59)⟩]) .ret)))))
theorem FO:codeOf Tryz.prog 159=some ⟨60,Eb,[(.tmp 6)]⟩:=by kernel_rfl
theorem BQ:modes 159=⟨[true],.asis,none,false⟩:=by unfold modes; rfl
def HQ:SC:=(.seq (.reg [⟨some 1,none,.boxv 34 5 (.t 0)⟩,⟨some 2,none,.mv (.c .nil)⟩]) (.seq (.reg [⟨(some 4),none,(.mkrow 9 1 [(.str ⟨#[]⟩)] 0 [])⟩,⟨some 5,none,.load true 5 (.t 1)⟩,⟨some 6,none,.call 159 [(.t 4),(.t 5),(.c .nil)]⟩,⟨some 3,none,.mv (.t 6)⟩]) (.seq (.reg [⟨some 7,none,.mv (.t 3)⟩,⟨some 8,none,.call 160 [(.t 7)]⟩]) (.seq (.reg [⟨some 9,none,.mv (.t 3)⟩,⟨some 2,none,.mv (.t 9)⟩]) .ret))))
theorem LU:codeOf Tryz.prog 101=some ⟨10,HQ,[(.tmp 2)]⟩:=by kernel_rfl
theorem LV:modes 101=⟨[],.frz,none,false⟩:=by unfold modes; rfl
abbrev Z3 (x:Fm):Prop:=∀ l b:List ByteArray,l.length+x.vn≤1048576→b.length+x.nodes≤1048576→E 159 [.ref 0,x.sv,.arr (b.map fun s=>[D.str s])] [.row 9 1 (l.map fun s=>[OT.str s])]=some ((bif dec (l.length<(B7 l (x.fv b)).length) then .ref 1 else .ref 0),(bif dec (l.length<(B7 l (x.fv b)).length) then [.gone,.row 9 1 ((B7 l (x.fv b)).map fun s=>[OT.str s])] else [.row 9 1 ((B7 l (x.fv b)).map fun s=>[OT.str s])]))
theorem Vl (x:Fm) (hx:x.forms=true) (ih:∀ y∈x.parts,Z3 y):Z3 x:=by
 intro l b hn hb
 have hfo:=Fm.EY hx
 have hvn:=Fm.Ug x
 have hnd:=Fm.nodes_eq x
 have hpl:=Fm.length_le x.parts
 have hfv:=Fm.RY x b
 have hat:=Fm.M7 hfo
 have hgl:dec (l.length<l.length)=false:=An (by omega)
 have hxs:x.sv=.agg [.int .i64 x.op,.str x.atom.name,.arr (x.atom.args.map Tm.d),.str x.var,.arr (x.parts.map Fm.d)]:=rfl
 have has:x.atom.sv=.agg [.str x.atom.name,.arr (x.atom.args.map Tm.d)]:=rfl
 cases ho:dec (x.op=3) with
 | true =>
  rw [ho] at hfv
  simp only [cond_true] at hfv
  have hv:=QE hfo (Ap.1 ho)
  have hil:=El x.atom.vs []
  have hvl:=Tm.JQ x.atom
  simp only [zM] at hil
  obtain ⟨ns,hns⟩:∃ ns,ns=Ce [] x.atom.vs:=⟨_,rfl⟩
  rw [←hns] at hv hfv hil
  rw [hfv]
  refine Ai FO BQ (of_decide_eq_true rfl) ?_
  simp (disch:=omega) only [Eb,go_sem,Ab,ho,hv,DT]
  refine go_loop (α:=Int × (List ByteArray)) (fun a=>⟨slots 60 0 [(0,(bif dec (l.length<(a.2).length) then .ref 1 else .ref 0)),(2,.arr (b.map fun s=>[D.str s])),(16,(bif dec (l.length<(a.2).length) then .ref 2 else .ref 1)),(17,.int .i64 ns.length),(18,.int .i64 (a.1))],(bif dec (l.length<(a.2).length) then [.gone,.row 9 1 ((a.2).map fun s=>[OT.str s]),.row 9 1 (ns.map fun s=>[OT.str s])] else [.row 9 1 ((a.2).map fun s=>[OT.str s]),.row 9 1 (ns.map fun s=>[OT.str s])])⟩) (fun a=>∃ k:Nat,a.1=k∧k≤(ns).length∧B7 (a.2) ((ns.drop k).filter fun m=>!dec (m∈b))=B7 l (ns.filter fun m=>!dec (m∈b))∧(a.2).length+(ns.length-k)≤1048576∧l.length≤(a.2).length) (fun a=>(ns).length-(a.1).toNat) (0,l) ⟨0,rfl,zK _,by rw [zG],by dsimp only; omega,zR _⟩ (by simp (disch:=omega) only [go_sem,Ab,hgl]) ?_
  rintro ⟨i,acc⟩ ⟨k,hi,hk,hR⟩
  dsimp only at hi hR
  have hni:i.toNat=k:=by omega
  have hni1:(i+1).toNat=k+1:=by omega
  rcases zF k (ns).length with hlt | hge
  ·have hg:(ns.map fun s=>[OT.str s])[k]?=some [OT.str ns[k]]:=by rw [yC,zP hlt]; rfl
   obtain ⟨hR1,hR2,hR3⟩:=hR
   rw [zB hlt,RZ] at hR1
   have c1:=HP b ns[k] (by omega)
   have c2:=HP acc ns[k] (by omega)
   rcases zF l.length acc.length with q1 | q1
   all_goals
    cases hq:dec (ns[k]∈b) with
    | true =>
     rw [hq] at c1 hR1
     simp only [cond_true] at hR1
     simp (disch:=omega) only [go_sem,Ab,hni,hg,c1,c2,A8]
     refine ⟨(i+1,acc),⟨k+1,by dsimp only; omega,hlt,hR1,by dsimp only; omega,by dsimp only; omega⟩,by dsimp only; omega,?_⟩
     first | done | simp (disch:=omega) only [go_sem,Ab]
    | false =>
     rw [hq] at c1 hR1
     simp only [cond_false] at hR1
     cases hm:dec (ns[k]∈acc) with
     | true =>
      have e2:GM acc ns[k]=acc:=by unfold GM; rw [hm]; rfl
      rw [hm] at c2
      rw [e2] at hR1
      simp (disch:=omega) only [go_sem,Ab,hni,hg,c1,c2,A8]
      refine ⟨(i+1,acc),⟨k+1,by dsimp only; omega,hlt,hR1,by dsimp only; omega,by dsimp only; omega⟩,by dsimp only; omega,?_⟩
      first | done | simp (disch:=omega) only [go_sem,Ab]
     | false =>
      have e2:GM acc ns[k]=acc++[ns[k]]:=by unfold GM; rw [hm]; rfl
      have hl1:(acc.map fun s=>[OT.str s])++[[OT.str ns[k]]]=(acc++[ns[k]]).map fun s=>[OT.str s]:=by simp
      have q2:dec (l.length<(acc++[ns[k]]).length)=true:=A4 (by simp; omega)
      rw [hm] at c2
      rw [e2] at hR1
      simp (disch:=omega) only [go_sem,Ab,hni,hg,c1,c2,hl1,A8]
      refine ⟨(i+1,acc++[ns[k]]),⟨k+1,by dsimp only; omega,hlt,hR1,by simp; omega,by simp; omega⟩,by dsimp only; omega,?_⟩
      first | done | simp (disch:=omega) only [go_sem,Ab,q2,hl1]
  ·rw [zE hge] at hR
   obtain ⟨hR1,hR2,hR3⟩:=hR
   have hR1:acc=_:=hR1
   rw [←hR1]
   rcases zF l.length acc.length with q1 | q1
   ·simp (disch:=omega) only [go_sem,Ab,hni]
   ·simp (disch:=omega) only [go_sem,Ab,hni]
 | false =>
  rw [ho] at hfv
  simp only [cond_false] at hfv
  have hu:=BA x.op
  cases hq:qB x.op with
  | false =>
   rw [hq] at hfv
   simp only [cond_false] at hfv
   rw [hfv]
   unfold qB at hq
   rw [hq] at hu
   obtain ⟨b',hb'⟩:∃ b',b'=b:=⟨_,rfl⟩
   have hbl:b'.length≤b.length+1:=by rw [hb']; omega
   rw [←hb']
   refine Ai FO BQ (of_decide_eq_true rfl) ?_
   simp (disch:=omega) only [Eb,go_sem,Ab,ho,hu,Ac]
   refine go_loop (α:=Int × (List ByteArray)) (fun a=>⟨slots 60 0 [(0,(bif dec (l.length<(a.2).length) then .ref 1 else .ref 0)),(2,.arr (b'.map fun s=>[D.str s])),(48,.arr (x.parts.map Fm.d)),(49,.int .i64 x.parts.length),(50,.int .i64 (a.1))],(bif dec (l.length<(a.2).length) then [.gone,.row 9 1 ((a.2).map fun s=>[OT.str s])] else [.row 9 1 ((a.2).map fun s=>[OT.str s])])⟩) (fun a=>∃ k:Nat,a.1=k∧k≤(x.parts).length∧B7 (a.2) (Fm.fvL (x.parts.drop k) b')=B7 l (Fm.fvL x.parts b')∧(a.2).length+Fm.vnS (x.parts.drop k)≤1048576∧l.length≤(a.2).length) (fun a=>(x.parts).length-(a.1).toNat) (0,l) ⟨0,rfl,zK _,by rw [zG],by rw [zG]; dsimp only; omega,zR _⟩ (by simp (disch:=omega) only [go_sem,Ab,hgl]) ?_
   rintro ⟨i,acc⟩ ⟨k,hi,hk,hR⟩
   dsimp only at hi hR
   have hni:i.toNat=k:=by omega
   have hni1:(i+1).toNat=k+1:=by omega
   rcases zF k (x.parts).length with hlt | hge
   ·have hg:=get_at Fm.d hlt
    rw [Fm.d_eq] at hg
    obtain ⟨hR1,hR2,hR3⟩:=hR
    rw [zB hlt,Fm.fvL,NN] at hR1
    rw [zB hlt,Fm.vnS] at hR2
    have hnm:=Fm.nodes_le x.parts k hlt
    have hc:=ih x.parts[k] (zH hlt) acc b' (by omega) (by omega)
    have hlen:=Gv (x.parts[k].fv b') acc
    have hgr:=IC (x.parts[k].fv b') acc
    have hvl:=Fm.JR x.parts[k] b'
    obtain ⟨acc2,ha2⟩:∃ a,a=B7 acc (x.parts[k].fv b'):=⟨_,rfl⟩
    rw [←ha2] at hc hlen hgr hR1
    rcases zF l.length acc.length with q1 | q1 <;> rcases zF acc.length acc2.length with q2 | q2
    all_goals
     first
      |rw [A4 q2] at hc
      |rw [An (Nat.not_lt.2 q2)] at hc
     simp only [cond_true,cond_false] at hc
     simp (disch:=omega) only [go_sem,Ab,hni,hg,hc,BQ]
     refine ⟨(i+1,acc2),⟨k+1,by dsimp only; omega,hlt,hR1,by dsimp only; omega,by dsimp only; omega⟩,by dsimp only; omega,?_⟩
     first | done | simp (disch:=omega) only [go_sem,Ab]
   ·rw [zE hge,Fm.fvL] at hR
    obtain ⟨hR1,hR2,hR3⟩:=hR
    have hR1:acc=_:=hR1
    rw [←hR1]
    rcases zF l.length acc.length with q1 | q1
    ·simp (disch:=omega) only [go_sem,Ab,hni]
    ·simp (disch:=omega) only [go_sem,Ab,hni]
  | true =>
   rw [hq] at hfv
   simp only [cond_true] at hfv
   rw [hfv]
   unfold qB at hq
   rw [hq] at hu
   have hcl:=Xb b (by omega)
   have hl1:(b.map fun s=>[OT.str s])++[[OT.str x.var]]=(b++[x.var]).map fun s=>[OT.str s]:=by simp
   obtain ⟨b',hb'⟩:∃ b',b'=b++[x.var]:=⟨_,rfl⟩
   have hbl:b'.length≤b.length+1:=by rw [hb']; simp
   rw [←hb'] at hl1
   rw [←hb']
   refine Ai FO BQ (of_decide_eq_true rfl) ?_
   simp (disch:=omega) only [Eb,go_sem,Ab,ho,hu,hcl,hl1,Ac,Er]
   refine go_loop (α:=Int × (List ByteArray)) (fun a=>⟨slots 60 0 [(0,(bif dec (l.length<(a.2).length) then .ref 1 else .ref 0)),(2,(bif dec (l.length<(a.2).length) then .ref 2 else .ref 1)),(48,.arr (x.parts.map Fm.d)),(49,.int .i64 x.parts.length),(50,.int .i64 (a.1))],(bif dec (l.length<(a.2).length) then [.gone,.row 9 1 ((a.2).map fun s=>[OT.str s]),.row 9 1 (b'.map fun s=>[OT.str s])] else [.row 9 1 ((a.2).map fun s=>[OT.str s]),.row 9 1 (b'.map fun s=>[OT.str s])])⟩) (fun a=>∃ k:Nat,a.1=k∧k≤(x.parts).length∧B7 (a.2) (Fm.fvL (x.parts.drop k) b')=B7 l (Fm.fvL x.parts b')∧(a.2).length+Fm.vnS (x.parts.drop k)≤1048576∧l.length≤(a.2).length) (fun a=>(x.parts).length-(a.1).toNat) (0,l) ⟨0,rfl,zK _,by rw [zG],by rw [zG]; dsimp only; omega,zR _⟩ (by simp (disch:=omega) only [go_sem,Ab,hgl]) ?_
   rintro ⟨i,acc⟩ ⟨k,hi,hk,hR⟩
   dsimp only at hi hR
   have hni:i.toNat=k:=by omega
   have hni1:(i+1).toNat=k+1:=by omega
   rcases zF k (x.parts).length with hlt | hge
   ·have hg:=get_at Fm.d hlt
    rw [Fm.d_eq] at hg
    obtain ⟨hR1,hR2,hR3⟩:=hR
    rw [zB hlt,Fm.fvL,NN] at hR1
    rw [zB hlt,Fm.vnS] at hR2
    have hnm:=Fm.nodes_le x.parts k hlt
    have hc:=ih x.parts[k] (zH hlt) acc b' (by omega) (by omega)
    have hlen:=Gv (x.parts[k].fv b') acc
    have hgr:=IC (x.parts[k].fv b') acc
    have hvl:=Fm.JR x.parts[k] b'
    obtain ⟨acc2,ha2⟩:∃ a,a=B7 acc (x.parts[k].fv b'):=⟨_,rfl⟩
    rw [←ha2] at hc hlen hgr hR1
    rcases zF l.length acc.length with q1 | q1 <;> rcases zF acc.length acc2.length with q2 | q2
    all_goals
     first
      |rw [A4 q2] at hc
      |rw [An (Nat.not_lt.2 q2)] at hc
     simp only [cond_true,cond_false] at hc
     simp (disch:=omega) only [go_sem,Ab,hni,hg,hc,BQ]
     refine ⟨(i+1,acc2),⟨k+1,by dsimp only; omega,hlt,hR1,by dsimp only; omega,by dsimp only; omega⟩,by dsimp only; omega,?_⟩
     first | done | simp (disch:=omega) only [go_sem,Ab]
   ·rw [zE hge,Fm.fvL] at hR
    obtain ⟨hR1,hR2,hR3⟩:=hR
    have hR1:acc=_:=hR1
    rw [←hR1]
    rcases zF l.length acc.length with q1 | q1
    ·simp (disch:=omega) only [go_sem,Ab,hni]
    ·simp (disch:=omega) only [go_sem,Ab,hni]
theorem Sa (x:Fm) (hx:x.forms=true):Z3 x :=
 Vl x hx fun y hy=>Sa y (Fm.EX hx hy)
termination_by SizeOf.sizeOf x
decreasing_by exact Fm.lt_of_mem hy
theorem Z4 (x:Fm) (hx:x.forms=true) (hv:x.vn≤1048576) (hn:x.nodes≤1048576):E 101 [x.sv] []=some (.arr (x.free.map fun s=>[D.str s]),[]):=by
 have h1:=Sa x hx [] [] (by simpa using hv) (by simpa using hn)
 have hl:=Gv (x.fv []) []
 have hfl:=Fm.JR x []
 rw [zM,z8] at hl
 have h2:=Un (B7 [] (x.fv [])) (by omega)
 rw [PP] at h2
 rw [zQ,zQ,zM] at h1
 unfold Fm.free
 have hxs:x.sv=.agg [.int .i64 x.op,.str x.atom.name,.arr (x.atom.args.map Tm.d),.str x.var,.arr (x.parts.map Fm.d)]:=rfl
 rcases zF 0 (B7 [] (x.fv [])).length with q | q
 ·rw [A4 q] at h1
  simp only [cond_true] at h1
  refine Ai LU LV (of_decide_eq_true rfl) ?_
  simp (disch:=omega) only [HQ,go_sem,Ab,h1,h2,BQ,AL,M5,Kj,OT.erss,OT.A2]
 ·rw [An (by omega)] at h1
  simp only [cond_false] at h1
  refine Ai LU LV (of_decide_eq_true rfl) ?_
  simp (disch:=omega) only [HQ,go_sem,Ab,h1,h2,BQ,AL,M5,Kj,OT.erss,OT.A2]
def LW:SC:=(.seq (.reg [⟨some 4,none,.mv (.c (.bool false))⟩]) (.seq (.seq (.reg [⟨some 5,none,.mv (.c (.int .i64 0))⟩]) (.block 0 (.loop [1,1,0,0,0,1,0,0,0,0,0,0,0,0,0,0,0,0] (.seq (.seq (.reg [⟨some 6,none,.mv (.t 5)⟩,⟨some 7,none,.mv (.t 0)⟩,⟨some 8,none,.len false (.t 7)⟩,⟨some 9,none,.bin .lss false (.t 6) (.t 8)⟩]) (.cond (.t 9) .skip (.exit 0))) (.seq (.block 1 (.seq (.reg [⟨some 12,none,.mv (.t 0)⟩,⟨some 13,none,.mv (.t 5)⟩,⟨some 14,none,.iaddr 1 (.t 12) (.t 13)⟩,⟨some 15,none,.load false 1 (.t 14)⟩,⟨some 16,none,.mv (.t 1)⟩,⟨some 17,none,.bin .eql false (.t 15) (.t 16)⟩]) (.cond (.t 17) (.seq (.reg [⟨some 4,none,.mv (.c (.bool true))⟩]) .ret) .skip))) (.reg [⟨some 10,none,.mv (.t 5)⟩,⟨some 11,none,.bin .add false (.t 10) (.c (.int .i64 1))⟩,⟨some 5,none,.mv (.t 11)⟩])))))) (.seq (.reg [⟨some 4,none,.mv (.c (.bool false))⟩]) .ret)))
theorem Sc:codeOf Tryz.prog 197=some ⟨18,LW,[(.tmp 4)]⟩:=by kernel_rfl
theorem HR:modes 197=⟨[],.asis,none,false⟩:=by unfold modes; rfl
theorem Z5 (xs:List ByteArray) (n:ByteArray) (hl:xs.length≤1099511627776):E 197 [.arr (xs.map fun s=>[D.str s]),.str n] []=some (.bool (dec (n∈xs)),[]):=by
 refine Ai Sc HR (of_decide_eq_true rfl) ?_
 simp (disch:=omega) only [LW,go_sem,Ab]
 refine go_loop (α:=Int) (fun a=>⟨slots 18 0 [(0,.arr (xs.map fun s=>[D.str s])),(1,.str n),(5,.int .i64 a)],[]⟩) (fun a=>∃ k:Nat,a=k∧k≤(xs).length∧dec (n∈xs.drop k)=dec (n∈xs)) (fun a=>(xs).length-(a).toNat) 0 ⟨0,rfl,zK _,by rw [zG]⟩ (by simp (disch:=omega) only [go_sem,Ab]) ?_
 rintro i ⟨k,hi,hk,hR⟩
 have hni:i.toNat=k:=by omega
 have hni1:(i+1).toNat=k+1:=by omega
 rcases zF k (xs).length with hlt | hge
 ·have hg:=get_at (fun s=>[D.str s]) hlt
  rw [zB hlt] at hR
  by_cases hp:xs[k]=n
  ·have hq:=eq_true hp
   have ht:dec (n∈xs)=true:=A4 (hp▸zH hlt)
   simp (disch:=omega) only [go_sem,Ab,hni,hg,hq]
   exact ht.symm
  ·have hq:=eq_false hp
   have hR:dec (n∈xs.drop (k+1))=dec (n∈xs):=by
    rw [←hR]
    exact Z0 (by simp only [zO]; exact ⟨.inr,fun h=>h.elim (fun e=>absurd e.symm hp) id⟩)
   simp (disch:=omega) only [go_sem,Ab,hni,hg,hq]
   exact ⟨i+1,⟨k+1,by omega,hlt,hR⟩,by omega,by first | trivial | rfl⟩
 ·rw [zE hge,An (by simp)] at hR
  simp (disch:=omega) only [go_sem,Ab,hni]
  exact hR
def Ec:SC:=(.seq (.reg [⟨some 4,none,.boxv 34 5 (.t 1)⟩,⟨some 6,none,.mv (.c .nil)⟩]) (.seq (.seq (.reg [⟨some 10,none,.faddr 0 (.t 4)⟩,⟨some 11,none,.load false 1 (.t 10)⟩,⟨some 12,none,.bin .eql false (.t 11) (.c (.int .i64 3))⟩]) (.cond (.t 12) (.seq (.reg [⟨some 13,none,.faddr 1 (.t 4)⟩,⟨some 14,none,.load true 2 (.t 13)⟩,⟨some 15,none,.call 196 [(.t 14)]⟩,⟨some 7,none,.mv (.t 15)⟩]) (.seq (.reg [⟨some 8,none,.mv (.c (.int .i64 0))⟩]) (.block 0 (.loop [1,0,1,0,1,0,0,1,1,0,0,0,0,0,0,0,0,0,0,0,0,0,0,0,0,0,0,0,0,0,0,0,0,0,0,0,0,0,0,0,0,0,0,0,0,0,0,0,0,0,0,0,0,0,0,0,0,0,0,0,0,0,0,0,0,0] (.seq (.seq (.reg [⟨some 16,none,.mv (.t 8)⟩,⟨some 17,none,.mv (.t 7)⟩,⟨some 18,none,.len false (.t 17)⟩,⟨some 19,none,.bin .lss false (.t 16) (.t 18)⟩]) (.cond (.t 19) .skip (.exit 0))) (.seq (.block 1 (.seq (.reg [⟨some 22,none,.mv (.t 2)⟩,⟨some 23,none,.mv (.t 7)⟩,⟨some 24,none,.mv (.t 8)⟩,⟨some 25,none,.iaddr 1 (.t 23) (.t 24)⟩,⟨some 26,none,.load false 1 (.t 25)⟩,⟨some 27,none,.call 197 [(.t 22),(.t 26)]⟩,⟨some 28,none,.un .not (.t 27)⟩]) (.cond (.t 28) (.reg [⟨some 29,none,.mv (.t 0)⟩,⟨some 30,none,.mv (.t 7)⟩,⟨some 31,none,.mv (.t 8)⟩,⟨some 32,none,.iaddr 1 (.t 30) (.t 31)⟩,⟨some 33,none,.load false 1 (.t 32)⟩,⟨some 34,none,.call 198 [(.t 29),(.t 33)]⟩,⟨some 0,none,.mv (.t 34)⟩]) .skip))) (.reg [⟨some 20,none,.mv (.t 8)⟩,⟨some 21,none,.bin .add false (.t 20) (.c (.int .i64 1))⟩,⟨some 8,none,.mv (.t 21)⟩]))))))) .skip)) (.seq (.seq (.reg [⟨some 35,none,.faddr 0 (.t 4)⟩,⟨some 36,none,.load false 1 (.t 35)⟩,⟨some 37,none,.bin .eql false (.t 36) (.c (.int .i64 8))⟩,⟨some 38,none,.mv (.t 37)⟩,⟨(some 39),(some (38,false)),(.faddr 0 (.t 4))⟩,⟨(some 40),(some (38,false)),(.load false 1 (.t 39))⟩,⟨(some 41),(some (38,false)),(.bin .eql false (.t 40) (.c (.int .i64 9)))⟩,⟨some 42,none,.pick (.t 38) (.c (.bool true)) (.t 41)⟩]) (.cond (.t 42) (.dreg [[],[],[0,1],[],[3],[4,3],[2,0,1,5,4,3],[6,2,0,1,5,4,3]] [⟨(some 43),none,(.mkrow 9 1 [(.str ⟨#[]⟩)] 0 [])⟩,⟨some 44,none,.mv (.t 2)⟩,⟨(some 45),none,(.append 9 1 16 [(.str ⟨#[]⟩)] (.t 43) (.t 44))⟩,⟨some 46,none,.faddr 3 (.t 4)⟩,⟨some 47,none,.load false 1 (.t 46)⟩,⟨(some 48),none,(.mkrow 9 1 [(.str ⟨#[]⟩)] 1 [(0,(.t 47))])⟩,⟨(some 49),none,(.append 9 1 16 [(.str ⟨#[]⟩)] (.t 45) (.t 48))⟩,⟨some 2,none,.mv (.t 49)⟩]) .skip)) (.seq (.seq (.reg [⟨some 9,none,.mv (.c (.int .i64 0))⟩]) (.block 2 (.loop [1,0,1,0,1,0,0,0,0,1,0,0,0,0,0,0,0,0,0,0,0,0,0,0,0,0,0,0,0,0,0,0,0,0,0,0,0,0,0,0,0,0,0,0,0,0,0,0,0,0,0,0,0,0,0,0,0,0,0,0,0,0,0,0,0,0] (.seq (.seq (.reg [⟨some 50,none,.mv (.t 9)⟩,⟨some 51,none,.faddr 4 (.t 4)⟩,⟨some 52,none,.load false 1 (.t 51)⟩,⟨some 53,none,.len false (.t 52)⟩,⟨some 54,none,.bin .lss false (.t 50) (.t 53)⟩]) (.cond (.t 54) .skip (.exit 2))) (.seq (.block 3 (.reg [⟨some 57,none,.mv (.t 0)⟩,⟨some 58,none,.faddr 4 (.t 4)⟩,⟨some 59,none,.load false 1 (.t 58)⟩,⟨some 60,none,.mv (.t 9)⟩,⟨some 61,none,.iaddr 5 (.t 59) (.t 60)⟩,⟨some 62,none,.load true 5 (.t 61)⟩,⟨some 63,none,.mv (.t 2)⟩,⟨some 64,none,.call 152 [(.t 57),(.t 62),(.t 63)]⟩,⟨some 0,none,.mv (.t 64)⟩])) (.reg [⟨some 55,none,.mv (.t 9)⟩,⟨some 56,none,.bin .add false (.t 55) (.c (.int .i64 1))⟩,⟨some 9,none,.mv (.t 56)⟩])))))) (.seq (.reg [⟨some 65,none,.mv (.t 0)⟩,⟨some 6,none,.mv (.t 65)⟩]) .ret)))))
theorem FP:codeOf Tryz.prog 152=some ⟨66,Ec,[(.tmp 6)]⟩:=by kernel_rfl
theorem C0:modes 152=⟨[],.asis,none,false⟩:=by unfold modes; rfl
def Jn:SC:=(.seq (.reg [⟨some 1,none,.boxv 34 5 (.t 0)⟩,⟨some 2,none,.mv (.c .nil)⟩]) (.seq (.reg [⟨(some 3),none,(.mkrow 9 1 [(.str ⟨#[]⟩)] 0 [])⟩,⟨some 4,none,.load true 5 (.t 1)⟩,⟨(some 5),none,(.mkrow 9 1 [(.str ⟨#[]⟩)] 0 [])⟩,⟨some 6,none,.call 152 [(.t 3),(.t 4),(.t 5)]⟩,⟨some 2,none,.mv (.t 6)⟩]) .ret))
theorem OC:codeOf Tryz.prog 96=some ⟨7,Jn,[(.tmp 2)]⟩:=by kernel_rfl
theorem Jo:modes 96=⟨[],.asis,none,false⟩:=by unfold modes; rfl
theorem Sd (b acc:List ByteArray) (n:ByteArray) (ns:List ByteArray):Ce acc ((n :: ns).filter fun m=>!dec (m∈b))=Ce (bif dec (n∈b) then acc else D4 acc n) (ns.filter fun m=>!dec (m∈b)):=by
 rw [List.filter_cons]
 cases dec (n∈b) with
 | true=>rfl
 | false=>rfl
abbrev Z6 (x:Fm):Prop:=∀ l b:List ByteArray,l.length+x.vn≤1048576→b.length+x.nodes≤1048576→E 152 [.arr (l.map fun s=>[D.str s]),x.sv,.arr (b.map fun s=>[D.str s])] []=some (.arr ((Ce l (x.fv b)).map fun s=>[D.str s]),[])
theorem Vm (x:Fm) (hx:x.forms=true) (ih:∀ y∈x.parts,Z6 y):Z6 x:=by
 intro l b hn hb
 have hfo:=Fm.EY hx
 have hvn:=Fm.Ug x
 have hnd:=Fm.nodes_eq x
 have hpl:=Fm.length_le x.parts
 have hfv:=Fm.RY x b
 have hat:=Fm.M7 hfo
 have hxs:x.sv=.agg [.int .i64 x.op,.str x.atom.name,.arr (x.atom.args.map Tm.d),.str x.var,.arr (x.parts.map Fm.d)]:=rfl
 cases ho:dec (x.op=3) with
 | true =>
  rw [ho] at hfv
  simp only [cond_true] at hfv
  have ho3:=Ap.1 ho
  have hp0:=(Fm.IA hfo ho3).1
  have o8:dec (x.op=8)=false:=An (by omega)
  have o9:dec (x.op=9)=false:=An (by omega)
  have hv:=WX x.atom (by omega)
  have hil:=El x.atom.vs []
  have hvl:=Tm.JQ x.atom
  simp only [zM] at hil
  obtain ⟨ns,hns⟩:∃ ns,ns=Ce [] x.atom.vs:=⟨_,rfl⟩
  rw [←hns] at hv hfv hil
  rw [hfv]
  refine Ai FP C0 (of_decide_eq_true rfl) ?_
  simp (disch:=omega) only [Ec,go_sem,Ab,ho,hv,Jm]
  refine go_loop (α:=Int × (List ByteArray)) (fun a=>⟨slots 66 0 [(0,.arr ((a.2).map fun s=>[D.str s])),(2,.arr (b.map fun s=>[D.str s])),(4,.ptr 0 0),(7,.arr (ns.map fun s=>[D.str s])),(8,.int .i64 (a.1))],[.box 34 [.int .i64 x.op,.str x.atom.name,.arr (x.atom.args.map Tm.d),.str x.var,.arr (x.parts.map Fm.d)]]⟩) (fun a=>∃ k:Nat,a.1=k∧k≤(ns).length∧Ce (a.2) ((ns.drop k).filter fun m=>!dec (m∈b))=Ce l (ns.filter fun m=>!dec (m∈b))∧(a.2).length+(ns.length-k)≤1048576) (fun a=>(ns).length-(a.1).toNat) (0,l) ⟨0,rfl,zK _,by rw [zG],by dsimp only; omega⟩ (by simp (disch:=omega) only [go_sem,Ab]) ?_
  rintro ⟨i,acc⟩ ⟨k,hi,hk,hR⟩
  dsimp only at hi hR
  have hni:i.toNat=k:=by omega
  have hni1:(i+1).toNat=k+1:=by omega
  rcases zF k (ns).length with hlt | hge
  ·have hg:=get_at (fun s=>[D.str s]) hlt
   obtain ⟨hR1,hR2⟩:=hR
   rw [zB hlt,Sd] at hR1
   have c1:=Z5 b ns[k] (by omega)
   have c2:=Up acc ns[k] (by omega)
   have hul:=NQ acc ns[k]
   cases hq:dec (ns[k]∈b) with
   | true =>
    rw [hq] at c1 hR1
    simp only [cond_true] at hR1
    simp (disch:=omega) only [go_sem,Ab,hni,hg,c1,c2,HR,E9]
    exact ⟨(i+1,acc),⟨k+1,by dsimp only; omega,hlt,hR1,by dsimp only; omega⟩,by dsimp only; omega,by first | trivial | rfl⟩
   | false =>
    rw [hq] at c1 hR1
    simp only [cond_false] at hR1
    simp (disch:=omega) only [go_sem,Ab,hni,hg,c1,c2,HR,E9]
    exact ⟨(i+1,D4 acc ns[k]),⟨k+1,by dsimp only; omega,hlt,hR1,by dsimp only; omega⟩,by dsimp only; omega,by first | trivial | rfl⟩
  ·rw [zE hge] at hR
   obtain ⟨hR1,hR2⟩:=hR
   have hR1:acc=_:=hR1
   rw [←hR1]
   simp (disch:=omega) only [go_sem,Ab,hni,o8,o9]
   refine go_loop (α:=Int) (fun a=>⟨slots 66 0 [(0,.arr (acc.map fun s=>[D.str s])),(2,.arr (b.map fun s=>[D.str s])),(4,.ptr 0 0),(9,.int .i64 a)],[.box 34 [.int .i64 x.op,.str x.atom.name,.arr (x.atom.args.map Tm.d),.str x.var,.arr (x.parts.map Fm.d)]]⟩) (fun a=>∃ k:Nat,a=k∧k≤(x.parts).length) (fun a=>(x.parts).length-(a).toNat) 0 ⟨0,rfl,zK _⟩ (by simp (disch:=omega) only [go_sem,Ab]) ?_
   rintro i ⟨k,hi,hk⟩
   have hni:i.toNat=k:=by omega
   have hni1:(i+1).toNat=k+1:=by omega
   rcases zF k (x.parts).length with hlt | hge
   ·rw [hp0] at hlt
    simp at hlt
   ·simp (disch:=omega) only [go_sem,Ab,hni]
 | false =>
  rw [ho] at hfv
  simp only [cond_false] at hfv
  cases o8:dec (x.op=8) <;> cases o9:dec (x.op=9)
  all_goals
   have hq:qB x.op=(dec (x.op=8) || dec (x.op=9)):=rfl
   rw [o8,o9] at hq
   simp only [Bool.or_self,Bool.or_true,Bool.or_false,Bool.true_or,Bool.false_or] at hq
   rw [hq] at hfv
   simp only [cond_true,cond_false] at hfv
   rw [hfv]
  ·obtain ⟨b',hb'⟩:∃ b',b'=b:=⟨_,rfl⟩
   have hbl:b'.length≤b.length+1:=by rw [hb']; omega
   rw [←hb']
   refine Ai FP C0 (of_decide_eq_true rfl) ?_
   simp (disch:=omega) only [Ec,go_sem,Ab,ho,o8,o9]
   refine go_loop (α:=Int × (List ByteArray)) (fun a=>⟨slots 66 0 [(0,.arr ((a.2).map fun s=>[D.str s])),(2,.arr (b'.map fun s=>[D.str s])),(4,.ptr 0 0),(9,.int .i64 (a.1))],[.box 34 [.int .i64 x.op,.str x.atom.name,.arr (x.atom.args.map Tm.d),.str x.var,.arr (x.parts.map Fm.d)]]⟩) (fun a=>∃ k:Nat,a.1=k∧k≤(x.parts).length∧Ce (a.2) (Fm.fvL (x.parts.drop k) b')=Ce l (Fm.fvL x.parts b')∧(a.2).length+Fm.vnS (x.parts.drop k)≤1048576) (fun a=>(x.parts).length-(a.1).toNat) (0,l) ⟨0,rfl,zK _,by rw [zG],by rw [zG]; dsimp only; omega⟩ (by simp (disch:=omega) only [go_sem,Ab]) ?_
   rintro ⟨i,acc⟩ ⟨k,hi,hk,hR⟩
   dsimp only at hi hR
   have hni:i.toNat=k:=by omega
   have hni1:(i+1).toNat=k+1:=by omega
   rcases zF k (x.parts).length with hlt | hge
   ·have hg:=get_at Fm.d hlt
    rw [Fm.d_eq] at hg
    obtain ⟨hR1,hR2⟩:=hR
    rw [zB hlt,Fm.fvL,NT] at hR1
    rw [zB hlt,Fm.vnS] at hR2
    have hnm:=Fm.nodes_le x.parts k hlt
    have hc:=ih x.parts[k] (zH hlt) acc b' (by omega) (by omega)
    have hlen:=El (x.parts[k].fv b') acc
    have hvl:=Fm.JR x.parts[k] b'
    simp (disch:=omega) only [go_sem,Ab,hni,hg,hc,C0]
    exact ⟨(i+1,Ce acc (x.parts[k].fv b')),⟨k+1,by dsimp only; omega,hlt,hR1,by dsimp only; omega⟩,by dsimp only; omega,by first | trivial | rfl⟩
   ·rw [zE hge,Fm.fvL] at hR
    obtain ⟨hR1,hR2⟩:=hR
    have hR1:acc=_:=hR1
    rw [←hR1]
    simp (disch:=omega) only [go_sem,Ab,hni]
  all_goals
   have hbm:((b.map fun s=>[D.str s]).map fun x=>x.map D.ot)=b.map fun s=>[OT.str s]:=by rw [z7]; rfl
   have hal:=RT b
   have hal2:=QC b
   have hl1:(b.map fun s=>[OT.str s])++[[OT.str x.var]]=(b++[x.var]).map fun s=>[OT.str s]:=by simp
   obtain ⟨b',hb'⟩:∃ b',b'=b++[x.var]:=⟨_,rfl⟩
   have hbl:b'.length≤b.length+1:=by rw [hb']; simp
   rw [←hb'] at hl1
   rw [←hb']
   have hp1:x.parts.length=1:=by
    obtain ⟨_,p,hp⟩:=Fm.NI hfo hq
    rw [hp]; rfl
   have h10:((1:Int)=0)=False:=by simp
   refine Ai FP C0 (of_decide_eq_true rfl) ?_
   simp (disch:=omega) only [Ec,go_sem,Ab,ho,o8,o9,hbm,hal,hal2,hl1,zS]
   refine go_loop (α:=Int × (List ByteArray)) (fun a=>⟨slots 66 0 [(0,.arr ((a.2).map fun s=>[D.str s])),(2,(if (a.1)=0 then .ref 0 else .any)),(4,(if (a.1)=0 then .ptr 1 0 else .ptr 0 0)),(9,.int .i64 (a.1))],(if (a.1)=0 then [.row 9 1 (b'.map fun s=>[OT.str s]),.box 34 [.int .i64 x.op,.str x.atom.name,.arr (x.atom.args.map Tm.d),.str x.var,.arr (x.parts.map Fm.d)]] else [.box 34 [.int .i64 x.op,.str x.atom.name,.arr (x.atom.args.map Tm.d),.str x.var,.arr (x.parts.map Fm.d)]])⟩) (fun a=>∃ k:Nat,a.1=k∧k≤(x.parts).length∧Ce (a.2) (Fm.fvL (x.parts.drop k) b')=Ce l (Fm.fvL x.parts b')∧(a.2).length+Fm.vnS (x.parts.drop k)≤1048576) (fun a=>(x.parts).length-(a.1).toNat) (0,l) ⟨0,rfl,zK _,by rw [zG],by rw [zG]; dsimp only; omega⟩ (by simp (disch:=omega) only [go_sem,Ab,eq_self,if_true]) ?_
   rintro ⟨i,acc⟩ ⟨k,hi,hk,hR⟩
   dsimp only at hi hR
   have hni:i.toNat=k:=by omega
   have hni1:(i+1).toNat=k+1:=by omega
   rcases zF k (x.parts).length with hlt | hge
   ·have hg:=get_at Fm.d hlt
    rw [Fm.d_eq] at hg
    obtain rfl:k=0:=by omega
    obtain rfl:i=0:=by omega
    obtain ⟨hR1,hR2⟩:=hR
    rw [zB hlt,Fm.fvL,NT] at hR1
    rw [zB hlt,Fm.vnS] at hR2
    rw [z8] at hR1 hR2
    have hnm:=Fm.nodes_le x.parts 0 hlt
    have hc:=ih x.parts[0] (zH hlt) acc b' (by omega) (by omega)
    have hlen:=El (x.parts[0].fv b') acc
    have hvl:=Fm.JR x.parts[0] b'
    simp (disch:=omega) only [go_sem,Ab,hni,hg,hc,C0,eq_self,if_true]
    refine ⟨(1,Ce acc (x.parts[0].fv b')),⟨1,rfl,hlt,hR1,by dsimp only; omega⟩,by dsimp only; omega,?_⟩
    simp (disch:=omega) only [go_sem,Ab,h10,if_false]
   ·rw [zE hge,Fm.fvL] at hR
    obtain ⟨hR1,hR2⟩:=hR
    have hR1:acc=_:=hR1
    rw [←hR1]
    have hi0:(i=0)=False:=by simp; omega
    simp (disch:=omega) only [go_sem,Ab,hni,hi0,if_false]
theorem Se (x:Fm) (hx:x.forms=true):Z6 x :=
 Vm x hx fun y hy=>Se y (Fm.EX hx hy)
termination_by SizeOf.sizeOf x
decreasing_by exact Fm.lt_of_mem hy
theorem Xc (x:Fm) (hx:x.forms=true) (hv:x.vn≤1048576) (hn:x.nodes≤1048576):E 96 [x.sv] []=some (.arr (x.free.map fun s=>[D.str s]),[]):=by
 have h1:=Se x hx [] [] (by simpa using hv) (by simpa using hn)
 rw [zQ] at h1
 unfold Fm.free
 have hxs:x.sv=.agg [.int .i64 x.op,.str x.atom.name,.arr (x.atom.args.map Tm.d),.str x.var,.arr (x.parts.map Fm.d)]:=rfl
 refine Ai OC Jo (of_decide_eq_true rfl) ?_
 simp (disch:=omega) only [Jn,go_sem,Ab,h1,C0]
theorem Tm.Ut (x:Tm):∀ m∈x.vs,AT m=true:=by
 have ih:∀ y∈x.args,∀ m∈y.vs,AT m=true:=fun y hy=>Tm.Ut y
 intro m hm
 rw [Tm.Uk] at hm
 cases hv:AT x.name with
 | true =>
  rw [hv,cond_true,List.mem_singleton] at hm
  rw [hm]; exact hv
 | false =>
  rw [hv,cond_false] at hm
  obtain ⟨y,hy,h⟩:=Tm.Ul.1 hm
  exact ih y hy m h
termination_by SizeOf.sizeOf x
decreasing_by exact Tm.lt_of_mem hy
theorem Fm.Xd (x:Fm):∀ b,∀ m∈x.fv b,AT m=true:=by
 have ih:∀ y∈x.parts,∀ b,∀ m∈y.fv b,AT m=true:=fun y hy=>Fm.Xd y
 intro b m hm
 rw [Fm.RY] at hm
 cases h3:dec (x.op=3) with
 | true =>
  rw [h3,cond_true,List.mem_filter] at hm
  exact Tm.Ut _ m ((Kx.1 hm.1).elim (fun h=>by cases h) id)
 | false =>
  rw [h3,cond_false] at hm
  obtain ⟨y,hy,h⟩:=Fm.Ur.1 hm
  exact ih y hy _ m h
termination_by SizeOf.sizeOf x
decreasing_by exact Fm.lt_of_mem hy
theorem Fm.Xe (x:Fm):∀ m∈x.free,AT m=true:=fun m hm=>Fm.Xd x [] m ((Fm.Xa x m).1 hm)
theorem T4 {m:ByteArray} (h:AT m=true):m.size≤4:=by
 unfold AT inB at h
 rw [zC,zC,decide_eq_true_eq,decide_eq_true_eq] at h
 omega
theorem Fm.Ky (x:Fm):x.free.length≤x.vn:=by
 have h2:=El (x.fv []) []
 have h3:=Fm.JR x []
 simp only [zM] at h2
 show (Ce [] (x.fv [])).length≤_
 omega
theorem Fm.NX (n:ByteArray) (ns:List ByteArray) (x:Fm):Fm.cls (n :: ns) x=.all n (Fm.cls ns x):=rfl
theorem Fm.Lu (x:Fm):∀ ns,(Fm.cls ns x).nodes=ns.length+x.nodes
 | []=>by show x.nodes=0+x.nodes; omega
 | n :: ns=>by
  rw [Fm.NX,Fm.nodes_eq]
  show 1+Fm.nodeS [Fm.cls ns x]=_
  rw [Fm.nodeS,Fm.nodeS,Fm.Lu x ns,zI]; omega
theorem Fm.NY {x:Fm} (h:x.tame):∀ ns,(Fm.cls ns x).tame
 | []=>h
 | n :: ns=>by
  rw [Fm.NX,Fm.M6]
  refine ⟨?_,?_⟩
  ·show (Tm.mk ⟨#[]⟩ []).nodes≤_
   rw [Tm.nodes_eq]; show 1+Tm.nodeS []≤_; rw [Tm.nodeS]; omega
  ·show Fm.HK [Fm.cls ns x]
   rw [Fm.HK,Fm.HK]; exact ⟨Fm.NY h ns,trivial⟩
noncomputable def Mn (x:Fm):Fm:=Fm.cls x.free x
theorem FQ:modes 43=⟨[],.asis,some GJ,false⟩:=by unfold modes; rfl
theorem Xf (x:Fm) (hx:x.forms=true) (hn:x.nodes≤1048576) (hv:x.vn≤1048576):E 43 [x.sv] []=some ((Mn x).osv,(Mn x).obs):=by
 rw [N5 (g:=GJ) (congrArg FM.ext FQ)]
 refine Tj x ⟨?_,fun s hs=>Yc ?_,Qu (Jf x (Fm.EZ x hx) (by omega)),Qu (Z4 x hx hv hn),fun n y=>Qu (Q4 8 n y)⟩
 ·have:=Fm.Ky x; omega
 ·have:=T4 (Fm.Xe x s hs); omega
def HS:SC:=(.seq (.reg [⟨some 1,none,.boxv 34 5 (.t 0)⟩,⟨(some 2),none,(.alloc 34 [(.int .i64 0),(.str ⟨#[]⟩),.nil,(.str ⟨#[]⟩),.nil])⟩]) (.seq (.reg [⟨some 6,none,.load true 5 (.t 1)⟩,⟨some 7,none,.call 61 [(.t 6)]⟩,⟨(some 3),none,(.alloc 34 [(.int .i64 0),(.str ⟨#[]⟩),.nil,(.str ⟨#[]⟩),.nil])⟩,⟨none,none,(.store 5 (.t 3) (.t 7))⟩]) (.seq (.reg [⟨some 8,none,.load true 5 (.t 1)⟩,⟨some 9,none,.call 96 [(.t 8)]⟩,⟨some 4,none,.mv (.t 9)⟩]) (.seq (.seq (.reg [⟨some 10,none,.mv (.t 4)⟩,⟨some 11,none,.len false (.t 10)⟩,⟨some 12,none,.bin .sub false (.t 11) (.c (.int .i64 1))⟩,⟨some 5,none,.mv (.t 12)⟩]) (.block 0 (.loop [0,0,1,1,1,1,0,0,0,0,0,0,0,0,0,0,0,0,0,0,0,0,0,0,0] (.seq (.seq (.reg [⟨some 13,none,.mv (.t 5)⟩,⟨some 14,none,.bin .geq false (.t 13) (.c (.int .i64 0))⟩]) (.cond (.t 14) .skip (.exit 0))) (.seq (.block 1 (.dreg [[],[],[0,1],[2,0,1],[],[4],[3,2,0,1,5,4],[6,3,2,0,1,5,4]] [⟨some 17,none,.mv (.t 4)⟩,⟨some 18,none,.mv (.t 5)⟩,⟨some 19,none,.iaddr 1 (.t 17) (.t 18)⟩,⟨some 20,none,.load false 1 (.t 19)⟩,⟨some 21,none,.load true 5 (.t 3)⟩,⟨(some 22),none,(.mkrow 34 5 [(.int .i64 0),(.str ⟨#[]⟩),.nil,(.str ⟨#[]⟩),.nil] 1 [(0,(.t 21))])⟩,⟨(some 23),none,(.build [(.int .i64 0),(.str ⟨#[]⟩),.nil,(.str ⟨#[]⟩),.nil] [(0,(1,(.c (.int .i64 8)))),(3,(1,(.t 20))),(4,(1,(.t 22)))])⟩,⟨none,none,(.store 5 (.t 3) (.t 23))⟩])) (.reg [⟨some 15,none,.mv (.t 5)⟩,⟨some 16,none,.bin .sub false (.t 15) (.c (.int .i64 1))⟩,⟨some 5,none,.mv (.t 16)⟩])))))) (.seq (.reg [⟨some 24,none,.load true 5 (.t 3)⟩,⟨none,none,(.store 5 (.t 2) (.t 24))⟩]) .ret)))))
theorem NZ:codeOf Tryz.prog 38=some ⟨25,HS,[(.cell 2 true 5)]⟩:=by kernel_rfl
theorem CE:modes 38=⟨[],.frz,none,false⟩:=by unfold modes; rfl
def clo:List ByteArray→Fm→List OT
 | [],x=>x.osh
 | n :: ns,x=>[.int 8,.str ⟨#[]⟩,.ow [],.str n,.ow [clo ns x]]
theorem Sf (x:Fm):∀ ns,OT.Be (clo ns x)=true
 | []=>by simp only [clo,Fm.osh,OT.Be,OT.full,yF]
 | n :: ns=>by simp only [clo,OT.Be,OT.full,OT.A2,Sf x ns,yF]
theorem Xg (x:Fm):∀ ns,OT.ers (clo ns x)=(Fm.cls ns x).d
 | []=>by
  show OT.ers x.osh=x.d
  rw [Fm.d_eq,Fm.osh_eq]
  simp only [OT.ers,OT.er]
 | n :: ns=>by
  rw [Fm.NX,Fm.d_eq,clo]
  simp only [OT.ers,OT.er,OT.erss,Xg x ns]
  rfl
theorem Y2 {ns:List ByteArray} {k:Nat} (h:k<ns.length) (x:Fm):[.int 8,.str ⟨#[]⟩,.ow [],.str (ns.getD k ⟨#[]⟩),.ow [clo (ns.drop (k+1)) x]]=clo (ns.drop k) x:=by
 rw [zB h,clo,yN,zP h]
 rfl
theorem Vn (x:Fm) (hx:x.forms=true) (hn:x.nodes≤1048576) (hv:x.vn≤1048576):E 38 [x.sv] []=some ((Mn x).sv,[]):=by
 have h1:=Uj x (Fm.EZ x hx) (by omega)
 have h2:=Xc x hx hv hn
 have hfl:=Fm.Ky x
 have hxs:x.sv=.agg [.int .i64 x.op,.str x.atom.name,.arr (x.atom.args.map Tm.d),.str x.var,.arr (x.parts.map Fm.d)]:=rfl
 unfold Mn
 obtain ⟨ns,hns⟩:∃ ns,ns=x.free:=⟨_,rfl⟩
 rw [←hns] at h2 hfl ⊢
 refine Ai NZ CE (of_decide_eq_true rfl) ?_
 simp (disch:=omega) only [HS,go_sem,Ab,h1,h2,E7,Jo]
 refine go_loop (α:=Nat) (fun k=>⟨slots 25 0 [(2,.ptr 0 0),(3,.ptr 1 0),(4,.arr (ns.map fun s=>[D.str s])),(5,.int .i64 ((k:Int)-1))],(if k=ns.length then [.box 34 [.int .i64 0,.str ⟨#[]⟩,.nil,.str ⟨#[]⟩,.nil],.box 34 [.int .i64 x.op,.str x.atom.name,.arr (x.atom.args.map Tm.d),.str x.var,.arr (x.parts.map Fm.d)]] else [.box 34 [.int .i64 0,.str ⟨#[]⟩,.nil,.str ⟨#[]⟩,.nil],.box 34 [.int .i64 8,.str ⟨#[]⟩,.nil,.str (ns.getD k ⟨#[]⟩),.ref 2],.row 34 5 [clo (ns.drop (k+1)) x]])⟩) (fun k=>k≤ns.length) (fun k=>k) ns.length (zR _) (by simp (disch:=omega) only [go_sem,Ab,eq_self,if_true]) ?_
 intro k hk
 rcases zN k with h0 | h0
 ·subst h0
  have q1:(((0:Nat):Int)-1<0)=True:=eq_true (by omega)
  have q2:(0≤((0:Nat):Int)-1)=False:=eq_false (by omega)
  rcases zN ns.length with hl | hl
  ·have hnil:ns=[]:=zL hl
   have hl':(0=ns.length)=True:=eq_true hl.symm
   have e1:(Fm.cls ns x).sv=x.sv:=by rw [hnil]; rfl
   rw [e1]
   simp (disch:=omega) only [go_sem,Ab,q1,q2,hl',if_true]
  ·have hl':(0=ns.length)=False:=eq_false (by omega)
   have e1:(Fm.cls ns x).sv=.agg [.int .i64 8,.str ⟨#[]⟩,.arr [],.str (ns.getD 0 ⟨#[]⟩),.arr [OT.ers (clo (ns.drop 1) x)]]:=by
    rw [Xg]
    obtain ⟨n,r,rfl⟩:∃ n r,ns=n :: r:=by
     cases ns with
     | nil=>simp at hl
     | cons n r=>exact ⟨n,r,rfl⟩
    rfl
   have e2:=Sf x (ns.drop 1)
   rw [e1]
   simp (disch:=omega) only [go_sem,Ab,q1,q2,hl',if_false,e2]
 ·obtain ⟨k,rfl⟩:∃ k',k=k'+1:=⟨k-1,by omega⟩
  have hlt:k<ns.length:=by omega
  have hni:(((k+1:Nat):Int)-1).toNat=k:=by omega
  have q2:(0≤((k+1:Nat):Int)-1)=True:=eq_true (by omega)
  have hg:(ns.map fun s=>[D.str s])[k]?=some [D.str (ns.getD k ⟨#[]⟩)]:=by
   rw [yC,zP hlt,yN,zP hlt]; rfl
  have hk':(k=ns.length)=False:=eq_false (by omega)
  have hb:((k+1:Nat):Int)-1<((ns.map fun s=>[D.str s]).length:Int):=by rw [zW]; omega
  have hii:((k+1:Nat):Int)-1-1=(k:Int)-1:=by omega
  by_cases hl:k+1=ns.length
  ·have hl':(k+1=ns.length)=True:=eq_true hl
   have hd:clo (ns.drop (k+1)) x=[.int x.op,.str x.atom.name,.sh (x.atom.args.map Tm.d),.str x.var,.sh (x.parts.map Fm.d)]:=by rw [zE (by omega)]; rfl
   simp (disch:=omega) only [go_sem,Ab,q2,hl',if_true,if_false,hni,hg]
   refine ⟨k,by omega,by omega,?_⟩
   simp (disch:=omega) only [go_sem,Ab,hk',if_false,hd,hii]
  ·have hl':(k+1=ns.length)=False:=eq_false hl
   have hd:=Y2 (show k+1<ns.length by omega) x
   simp (disch:=omega) only [go_sem,Ab,q2,hl',if_true,if_false,hni,hg]
   refine ⟨k,by omega,by omega,?_⟩
   simp (disch:=omega) only [go_sem,Ab,hk',if_false,hd,hii]
def AE:SC:=(.seq (.reg [⟨some 6,none,.mv (.c (.int .i64 0))⟩]) (.seq (.seq (.reg [⟨some 11,none,.mv (.t 0)⟩,⟨some 12,none,.len false (.t 11)⟩,⟨some 13,none,.mv (.c (.int .i64 0))⟩]) (.block 0 (.loop [1,1,1,0,0,0,0,0,0,0,0,1,1,1,0,0,0,0,0,0,0,0,0,0,0,0,0,0,0,0,0,0,0,0,0,0,0,0,0] (.seq (.reg [⟨some 14,none,.bin .lss false (.t 13) (.t 12)⟩]) (.seq (.cond (.t 14) .skip (.exit 0)) (.seq (.block 1 (.seq (.reg [⟨some 15,none,.mv (.t 13)⟩,⟨some 16,none,.iaddr 2 (.t 11) (.t 13)⟩,⟨some 17,none,.load true 2 (.t 16)⟩,⟨(some 8),none,(.alloc 31 [(.str ⟨#[]⟩),.nil])⟩,⟨some 7,none,.mv (.t 15)⟩,⟨none,none,(.store 2 (.t 8) (.t 17))⟩]) (.seq (.seq (.reg [⟨some 18,none,.mv (.t 7)⟩,⟨some 19,none,.mv (.t 1)⟩,⟨some 20,none,.len false (.t 19)⟩,⟨some 21,none,.bin .geq false (.t 18) (.t 20)⟩]) (.cond (.t 21) (.seq (.reg [⟨some 6,none,.mv (.c (.int .i64 1))⟩]) .ret) .skip)) (.seq (.reg [⟨some 22,none,.mv (.t 1)⟩,⟨some 23,none,.mv (.t 7)⟩,⟨some 24,none,.iaddr 2 (.t 22) (.t 23)⟩,⟨some 25,none,.load true 2 (.t 24)⟩,⟨(some 9),none,(.alloc 31 [(.str ⟨#[]⟩),.nil])⟩,⟨none,none,(.store 2 (.t 9) (.t 25))⟩]) (.seq (.reg [⟨some 26,none,.mv (.t 2)⟩,⟨some 27,none,.load true 2 (.t 8)⟩,⟨some 28,none,.load true 2 (.t 9)⟩,⟨some 29,none,.callv (.t 26) [(.t 27),(.t 28)]⟩,⟨some 10,none,.mv (.t 29)⟩]) (.seq (.reg [⟨some 30,none,.mv (.t 10)⟩,⟨some 31,none,.bin .neq false (.t 30) (.c (.int .i64 0))⟩]) (.cond (.t 31) (.seq (.reg [⟨some 32,none,.mv (.t 10)⟩,⟨some 6,none,.mv (.t 32)⟩]) .ret) .skip))))))) (.reg [⟨some 33,none,.bin .add false (.t 13) (.c (.int .i64 1))⟩,⟨some 13,none,.mv (.t 33)⟩]))))))) (.seq (.seq (.reg [⟨some 34,none,.mv (.t 0)⟩,⟨some 35,none,.len false (.t 34)⟩,⟨some 36,none,.mv (.t 1)⟩,⟨some 37,none,.len false (.t 36)⟩,⟨some 38,none,.bin .lss false (.t 35) (.t 37)⟩]) (.cond (.t 38) (.seq (.reg [⟨some 6,none,.mv (.c (.int .i64 (-(0+1))))⟩]) .ret) .skip)) (.seq (.reg [⟨some 6,none,.mv (.c (.int .i64 0))⟩]) .ret))))
theorem Bk:codeOf Tryz.prog 210=some ⟨39,AE,[(.tmp 6)]⟩:=by kernel_rfl
theorem AF:modes 210=⟨[],.asis,none,false⟩:=by unfold modes; rfl
def CQ:SC:=(.seq (.reg [⟨some 2,none,.boxv 31 2 (.t 0)⟩,⟨some 3,none,.boxv 31 2 (.t 1)⟩,⟨some 4,none,.mv (.c (.int .i64 0))⟩]) (.seq (.dreg [[],[0],[],[2,1,0],[1,0,3,2],[3,2,1,0,4]] [⟨some 8,none,.load true 2 (.t 2)⟩,⟨some 9,none,.call 187 [(.t 8)]⟩,⟨some 10,none,.load true 2 (.t 3)⟩,⟨some 11,none,.call 187 [(.t 10)]⟩,⟨some 5,none,.mv (.t 9)⟩,⟨some 6,none,.mv (.t 11)⟩]) (.seq (.block 0 (.seq (.reg [⟨some 13,none,.mv (.t 5)⟩,⟨some 14,none,.mv (.t 13)⟩,⟨(some 15),(some (14,true)),(.mv (.t 6))⟩,⟨(some 16),(some (14,true)),(.un .not (.t 15))⟩,⟨some 17,none,.pick (.t 14) (.t 16) (.c (.bool false))⟩,⟨some 12,none,.mv (.t 17)⟩]) (.cond (.t 12) (.seq (.reg [⟨some 4,none,.mv (.c (.int .i64 (-(0+1))))⟩]) .ret) (.seq (.reg [⟨some 19,none,.mv (.t 6)⟩,⟨some 20,none,.mv (.t 19)⟩,⟨(some 21),(some (20,true)),(.mv (.t 5))⟩,⟨(some 22),(some (20,true)),(.un .not (.t 21))⟩,⟨some 23,none,.pick (.t 20) (.t 22) (.c (.bool false))⟩,⟨some 18,none,.mv (.t 23)⟩]) (.cond (.t 18) (.seq (.reg [⟨some 4,none,.mv (.c (.int .i64 1))⟩]) .ret) .skip))))) (.seq (.seq (.dreg [[],[0],[],[2],[1,0,3,2],[],[5],[6,5],[],[8],[9,8],[7,6,5,10,9,8,4,1,0,3,2],[4,1,0,3,2,11,7,6,5,10,9,8],[12,4,1,0,3,2,11,7,6,5,10,9,8],[13,12,4,1,0,3,2,11,7,6,5,10,9,8]] [⟨some 24,none,.faddr 0 (.t 2)⟩,⟨some 25,none,.load false 1 (.t 24)⟩,⟨some 26,none,.faddr 0 (.t 3)⟩,⟨some 27,none,.load false 1 (.t 26)⟩,⟨some 28,none,.call 209 [(.t 25),(.t 27)]⟩,⟨some 29,none,.faddr 1 (.t 2)⟩,⟨some 30,none,.load false 1 (.t 29)⟩,⟨some 31,none,.len false (.t 30)⟩,⟨some 32,none,.faddr 1 (.t 3)⟩,⟨some 33,none,.load false 1 (.t 32)⟩,⟨some 34,none,.len false (.t 33)⟩,⟨some 35,none,.call 167 [(.t 31),(.t 34)]⟩,⟨some 36,none,.mkrow 3 1 [(.int .i64 0)] 2 [(0,(.t 28)),(1,(.t 35))]⟩,⟨some 37,none,.call 165 [(.t 36)]⟩,⟨some 7,none,.mv (.t 37)⟩]) (.seq (.reg [⟨some 38,none,.mv (.t 7)⟩,⟨some 39,none,.bin .neq false (.t 38) (.c (.int .i64 0))⟩]) (.cond (.t 39) (.seq (.reg [⟨some 40,none,.mv (.t 7)⟩,⟨some 4,none,.mv (.t 40)⟩]) .ret) .skip))) (.seq (.reg [⟨some 41,none,.faddr 1 (.t 2)⟩,⟨some 42,none,.load false 1 (.t 41)⟩,⟨some 43,none,.faddr 1 (.t 3)⟩,⟨some 44,none,.load false 1 (.t 43)⟩,⟨some 45,none,.call 210 [(.t 42),(.t 44),(.c (.fn 166 []))]⟩,⟨some 4,none,.mv (.t 45)⟩]) .ret)))))
theorem Ex:codeOf Tryz.prog 166=some ⟨46,CQ,[(.tmp 4)]⟩:=by kernel_rfl
theorem BT:modes 166=⟨[],.asis,none,false⟩:=by unfold modes; rfl
theorem II:IF Tryz.prog 166=true:=by kernel_rfl
theorem OD (fid:Nat) (xs ys:List Tm) (hl:xs.length≤1099511627776) (hl':ys.length≤1099511627776) (hg:IF Tryz.prog fid=true) (hm:(modes fid).hand=[]) (hE:∀ x∈xs,∀ y∈ys,E fid [x.sv,y.sv] []=some (.int .i64 (x.cmp y),[])):E 210 [.arr (xs.map Tm.d),.arr (ys.map Tm.d),.fn fid []] []=some (.int .i64 (Tm.Hn xs ys),[]):=by
 refine Ai Bk AF (of_decide_eq_true rfl) ?_
 simp (disch:=omega) only [AE,go_sem,Ab]
 refine go_loop (α:=Int) (fun a=>⟨slots 39 0 [(0,.arr (xs.map Tm.d)),(1,.arr (ys.map Tm.d)),(2,.fn fid []),(11,.arr (xs.map Tm.d)),(12,.int .i64 xs.length),(13,.int .i64 a)],[]⟩) (fun a=>∃ k:Nat,a=k∧k≤(xs).length∧k≤ys.length∧Tm.Hn (xs.drop k) (ys.drop k)=Tm.Hn xs ys) (fun a=>(xs).length-(a).toNat) 0 ⟨0,rfl,zK _,zK _,by rw [zG,zG]⟩ (by simp (disch:=omega) only [go_sem,Ab]) ?_
 rintro i ⟨k,hi,hk,hR⟩
 have hni:i.toNat=k:=by omega
 have hni1:(i+1).toNat=k+1:=by omega
 rcases zF k (xs).length with hlt | hge
 ·obtain ⟨hk',hR⟩:=hR
  have hgx:=get_at Tm.d hlt
  rw [Tm.d_eq] at hgx
  rcases zF k ys.length with hlt' | hge'
  ·have hgy:=get_at Tm.d hlt'
   rw [Tm.d_eq] at hgy
   have hc:=hE xs[k] (zH hlt) ys[k] (zH hlt')
   rw [PJ hlt hlt'] at hR
   by_cases h0:xs[k].cmp ys[k]=0
   ·rw [orZ,if_pos h0] at hR
    rw [h0] at hc
    simp (disch:=omega) only [go_sem,Ab,hni,hgx,hgy,hc,hg,hm]
    exact ⟨i+1,⟨k+1,by omega,hlt,hlt',hR⟩,by omega,by first | trivial | rfl⟩
   ·rw [orZ,if_neg h0] at hR
    simp (disch:=omega) only [go_sem,Ab,hni,hgx,hgy,hc,hg,hm,h0]
    exact hR
  ·rw [Tz hlt hge'] at hR
   simp (disch:=omega) only [go_sem,Ab,hni,hgx]
   exact hR
 ·obtain ⟨hk',hR⟩:=hR
  obtain rfl:k=xs.length:=by omega
  rcases zF xs.length ys.length with hlt' | hge'
  ·rw [WR (zR _) hlt'] at hR
   simp (disch:=omega) only [go_sem,Ab,hni]
   exact hR
  ·rw [PK (zR _) hge'] at hR
   simp (disch:=omega) only [go_sem,Ab,hni]
   exact hR
abbrev Vo (f:FuncId) (x y:Tm):Prop:=x.cok=true→y.cok=true→x.nodes≤1099511627776→y.nodes≤1099511627776→E f [x.sv,y.sv] []=some (.int .i64 (x.cmp y),[])
theorem Mo (x:Tm) (ih:∀ x'∈x.args,∀ y,Vo 166 x' y) (y:Tm):Vo 166 x y:=by
 intro hx hy hnx hny
 have lx:=Tm.length_le x.args
 have ly:=Tm.length_le y.args
 have nx:=Tm.nodes_eq x
 have ny:=Tm.nodes_eq y
 have h1:=Q9 x hx
 have h2:=Q9 y hy
 have h3:=T0 x.name y.name
 have h4:=NL x.args.length y.args.length
 have h5:=YB (JL x.name y.name) (NJ x.args.length y.args.length)
 rw [Tm.NK,zC] at hx hy
 have h6:=OD 166 x.args y.args (by omega) (by omega) II (by rw [BT]) fun x' hx' y' hy'=>ih x' hx' y' (Tm.HM hx.2 hx') (Tm.HM hy.2 hy') (by have:=Tm.nodes_mem hx'; omega) (by have:=Tm.nodes_mem hy'; omega)
 rw [Tm.WQ]
 cases vx:AT x.name <;> rw [vx] at h1 <;> cases vy:AT y.name <;> rw [vy] at h2
 all_goals
  simp only [Bool.not_true,Bool.not_false,zX,zU,zJ,zD,if_true,if_false,yO]
  by_cases h0:orZ (JL x.name y.name) (NJ x.args.length y.args.length)=0
  ·rw [h0] at h5
   try rw [h0]
   refine Ai Ex BT (of_decide_eq_true rfl) ?_
   simp (disch:=omega) only [CQ,go_sem,Ab,h1,h2,h3,h4,h5,h6,CK,Bw,B4,E8,AF]
   try rfl
  ·try rw [orZ.eq_1 (orZ _ _) _,if_neg h0]
   refine Ai Ex BT (of_decide_eq_true rfl) ?_
   simp (disch:=omega) only [CQ,go_sem,Ab,h0,h1,h2,h3,h4,h5,CK,Bw,B4,E8]
theorem HT (x y:Tm):Vo 166 x y:=Mo x (fun x' hx' y'=>HT x' y') y
termination_by SizeOf.sizeOf x
decreasing_by exact Tm.lt_of_mem hx'
def Ed:SC:=(.seq (.reg [⟨some 4,none,.mv (.c (.int .i64 0))⟩]) (.seq (.block 0 (.seq (.reg [⟨some 6,none,.mv (.t 0)⟩,⟨some 7,none,.mv (.t 1)⟩,⟨some 8,none,.bin .lss false (.t 6) (.t 7)⟩,⟨some 5,none,.mv (.t 8)⟩]) (.cond (.t 5) (.seq (.reg [⟨some 4,none,.mv (.c (.int .i64 (-(0+1))))⟩]) .ret) (.seq (.reg [⟨some 10,none,.mv (.t 0)⟩,⟨some 11,none,.mv (.t 1)⟩,⟨some 12,none,.bin .gtr false (.t 10) (.t 11)⟩,⟨some 9,none,.mv (.t 12)⟩]) (.cond (.t 9) (.seq (.reg [⟨some 4,none,.mv (.c (.int .i64 1))⟩]) .ret) .skip))))) (.seq (.reg [⟨some 4,none,.mv (.c (.int .i64 0))⟩]) .ret)))
theorem FR:codeOf Tryz.prog 208=some ⟨13,Ed,[(.tmp 4)]⟩:=by kernel_rfl
theorem Ee:modes 208=⟨[],.asis,none,false⟩:=by unfold modes; rfl
def Bo:SC:=(.seq (.reg [⟨some 2,none,.boxv 31 2 (.t 0)⟩,⟨some 3,none,.boxv 31 2 (.t 1)⟩,⟨some 4,none,.mv (.c (.int .i64 0))⟩]) (.seq (.dreg [[],[0],[1,0],[],[3],[4,3,2,1,0],[2,1,0,5,4,3],[5,4,3,2,1,0,6]] [⟨some 9,none,.faddr 0 (.t 2)⟩,⟨some 10,none,.load false 1 (.t 9)⟩,⟨some 11,none,.call 118 [(.t 10)]⟩,⟨some 12,none,.faddr 0 (.t 3)⟩,⟨some 13,none,.load false 1 (.t 12)⟩,⟨some 14,none,.call 118 [(.t 13)]⟩,⟨some 5,none,.mv (.t 11)⟩,⟨some 6,none,.mv (.t 14)⟩]) (.seq (.block 0 (.seq (.reg [⟨some 16,none,.mv (.t 5)⟩,⟨some 17,none,.mv (.t 16)⟩,⟨(some 18),(some (17,true)),(.mv (.t 6))⟩,⟨(some 19),(some (17,true)),(.un .not (.t 18))⟩,⟨some 20,none,.pick (.t 17) (.t 19) (.c (.bool false))⟩,⟨some 15,none,.mv (.t 20)⟩]) (.cond (.t 15) (.seq (.reg [⟨some 4,none,.mv (.c (.int .i64 (-(0+1))))⟩]) .ret) (.seq (.reg [⟨some 22,none,.mv (.t 5)⟩,⟨some 23,none,.un .not (.t 22)⟩,⟨some 24,none,.mv (.t 23)⟩,⟨(some 25),(some (24,true)),(.mv (.t 6))⟩,⟨some 26,none,.pick (.t 24) (.t 25) (.c (.bool false))⟩,⟨some 21,none,.mv (.t 26)⟩]) (.cond (.t 21) (.seq (.reg [⟨some 4,none,.mv (.c (.int .i64 1))⟩]) .ret) (.seq (.reg [⟨some 28,none,.faddr 0 (.t 2)⟩,⟨some 29,none,.load false 1 (.t 28)⟩,⟨some 30,none,.faddr 0 (.t 3)⟩,⟨some 31,none,.load false 1 (.t 30)⟩,⟨some 32,none,.bin .neq false (.t 29) (.t 31)⟩,⟨some 27,none,.mv (.t 32)⟩]) (.cond (.t 27) (.seq (.reg [⟨some 33,none,.faddr 0 (.t 2)⟩,⟨some 34,none,.load false 1 (.t 33)⟩,⟨some 35,none,.faddr 0 (.t 3)⟩,⟨some 36,none,.load false 1 (.t 35)⟩,⟨some 37,none,.call 208 [(.t 34),(.t 36)]⟩,⟨some 4,none,.mv (.t 37)⟩]) .ret) (.seq (.reg [⟨some 39,none,.faddr 1 (.t 2)⟩,⟨some 40,none,.load false 1 (.t 39)⟩,⟨some 41,none,.len false (.t 40)⟩,⟨some 42,none,.faddr 1 (.t 3)⟩,⟨some 43,none,.load false 1 (.t 42)⟩,⟨some 44,none,.len false (.t 43)⟩,⟨some 45,none,.bin .lss false (.t 41) (.t 44)⟩,⟨some 38,none,.mv (.t 45)⟩]) (.cond (.t 38) (.seq (.reg [⟨some 4,none,.mv (.c (.int .i64 (-(0+1))))⟩]) .ret) (.seq (.reg [⟨some 47,none,.faddr 1 (.t 2)⟩,⟨some 48,none,.load false 1 (.t 47)⟩,⟨some 49,none,.len false (.t 48)⟩,⟨some 50,none,.faddr 1 (.t 3)⟩,⟨some 51,none,.load false 1 (.t 50)⟩,⟨some 52,none,.len false (.t 51)⟩,⟨some 53,none,.bin .gtr false (.t 49) (.t 52)⟩,⟨some 46,none,.mv (.t 53)⟩]) (.cond (.t 46) (.seq (.reg [⟨some 4,none,.mv (.c (.int .i64 1))⟩]) .ret) .skip))))))))))) (.seq (.seq (.reg [⟨some 7,none,.mv (.c (.int .i64 0))⟩]) (.block 1 (.loop [0,0,1,1,0,0,0,1,0,0,0,0,0,0,0,0,0,0,0,0,0,0,0,0,0,0,0,0,0,0,0,0,0,0,0,0,0,0,0,0,0,0,0,0,0,0,0,0,0,0,0,0,0,0,0,0,0,0,0,0,0,0,0,0,0,0,0,0,0,0,0,0,0,0,0] (.seq (.seq (.reg [⟨some 54,none,.mv (.t 7)⟩,⟨some 55,none,.faddr 1 (.t 2)⟩,⟨some 56,none,.load false 1 (.t 55)⟩,⟨some 57,none,.len false (.t 56)⟩,⟨some 58,none,.bin .lss false (.t 54) (.t 57)⟩]) (.cond (.t 58) .skip (.exit 1))) (.seq (.block 2 (.seq (.dreg [[],[0],[],[1,0,2],[3,1,0,2],[],[5],[],[6,5,7],[8,6,5,7],[4,3,1,0,2,9,8,6,5,7],[10,4,3,1,0,2,9,8,6,5,7]] [⟨some 61,none,.faddr 1 (.t 2)⟩,⟨some 62,none,.load false 1 (.t 61)⟩,⟨some 63,none,.mv (.t 7)⟩,⟨some 64,none,.iaddr 2 (.t 62) (.t 63)⟩,⟨some 65,none,.load true 2 (.t 64)⟩,⟨some 66,none,.faddr 1 (.t 3)⟩,⟨some 67,none,.load false 1 (.t 66)⟩,⟨some 68,none,.mv (.t 7)⟩,⟨some 69,none,.iaddr 2 (.t 67) (.t 68)⟩,⟨some 70,none,.load true 2 (.t 69)⟩,⟨some 71,none,.call 164 [(.t 65),(.t 70)]⟩,⟨some 8,none,.mv (.t 71)⟩]) (.seq (.reg [⟨some 72,none,.mv (.t 8)⟩,⟨some 73,none,.bin .neq false (.t 72) (.c (.int .i64 0))⟩]) (.cond (.t 73) (.seq (.reg [⟨some 74,none,.mv (.t 8)⟩,⟨some 4,none,.mv (.t 74)⟩]) .ret) .skip)))) (.reg [⟨some 59,none,.mv (.t 7)⟩,⟨some 60,none,.bin .add false (.t 59) (.c (.int .i64 1))⟩,⟨some 7,none,.mv (.t 60)⟩])))))) (.seq (.reg [⟨some 4,none,.mv (.c (.int .i64 0))⟩]) .ret)))))
theorem B8:codeOf Tryz.prog 164=some ⟨75,Bo,[(.tmp 4)]⟩:=by kernel_rfl
theorem AJ:modes 164=⟨[],.asis,none,false⟩:=by unfold modes; rfl
theorem Xh (a b:ByteArray):E 208 [.str a,.str b] []=some (.int .i64 (JL a b),[]):=by
 unfold JL
 cases h3:strLt a b
 ·cases h4:dec (a=b)
  ·refine Ai FR Ee (of_decide_eq_true rfl) ?_
   simp (disch:=omega) only [Ed,go_sem,Ab,h3,h4]
  ·refine Ai FR Ee (of_decide_eq_true rfl) ?_
   simp (disch:=omega) only [Ed,go_sem,Ab,h3,h4]
 ·refine Ai FR Ee (of_decide_eq_true rfl) ?_
  simp (disch:=omega) only [Ed,go_sem,Ab,h3]
theorem Y3 {a b:ByteArray} (h:¬ a=b):JL a b≠0:=by
 unfold JL
 rw [An h]
 cases strLt a b <;> simp
theorem Y4 (a:ByteArray):JL a a=0:=by
 unfold JL
 rw [JO,A4 rfl]; rfl
theorem QF (x:Tm) (ih:∀ x'∈x.args,∀ y,Vo 164 x' y) (y:Tm):Vo 164 x y:=by
 intro hx hy hnx hny
 have lx:=Tm.length_le x.args
 have ly:=Tm.length_le y.args
 have nx:=Tm.nodes_eq x
 have ny:=Tm.nodes_eq y
 have h1:=DZ x.name
 have h2:=DZ y.name
 have h3:=Xh x.name y.name
 rw [Tm.NK,zC] at hx hy
 rw [Tm.WQ]
 cases vx:AT x.name <;> rw [vx] at h1 <;> cases vy:AT y.name <;> rw [vy] at h2
 case' false.true =>
           refine Ai B8 AJ (of_decide_eq_true rfl) ?_
           simp (disch:=omega) only [Bo,go_sem,Ab,h1,h2,Ak]
 case' true.false =>
           refine Ai B8 AJ (of_decide_eq_true rfl) ?_
           simp (disch:=omega) only [Bo,go_sem,Ab,h1,h2,Ak]
 case' false.false=>skip
 case' true.true=>skip
 all_goals (try trivial)
 all_goals
  simp only [Bool.not_true,Bool.not_false,zX,zU,zJ,zD,if_true,if_false,yO]
  by_cases h0:x.name=y.name
  ·rw [show JL x.name y.name=0 by rw [h0]; exact Y4 _]
   unfold NJ
   rcases zF x.args.length y.args.length with h4 | h4
   ·rw [A4 (by omega)]
    refine Ai B8 AJ (of_decide_eq_true rfl) ?_
    simp (disch:=omega) only [Bo,go_sem,Ab,h0,h1,h2,Ak]
    rfl
   ·rcases zF y.args.length x.args.length with h5 | h5
    ·rw [An (by omega),A4 (by omega)]
     refine Ai B8 AJ (of_decide_eq_true rfl) ?_
     simp (disch:=omega) only [Bo,go_sem,Ab,h0,h1,h2,Ak]
     rfl
    ·rw [An (by omega),An (by omega)]
     refine Ai B8 AJ (of_decide_eq_true rfl) ?_
     simp (disch:=omega) only [Bo,go_sem,Ab,h0,h1,h2,Ak]
     refine go_loop (α:=Int) (fun a=>⟨slots 75 0 [(2,.ptr 0 0),(3,.ptr 1 0),(7,.int .i64 a)],[.box 31 [.str x.name,.arr (x.args.map Tm.d)],.box 31 [.str y.name,.arr (y.args.map Tm.d)]]⟩) (fun a=>∃ k:Nat,a=k∧k≤(x.args).length∧Tm.Hn (x.args.drop k) (y.args.drop k)=Tm.Hn x.args y.args) (fun a=>(x.args).length-(a).toNat) 0 ⟨0,rfl,zK _,by rw [zG,zG]⟩ (by simp (disch:=omega) only [go_sem,Ab,h0]) ?_
     rintro i ⟨k,hi,hk,hR⟩
     have hni:i.toNat=k:=by omega
     have hni1:(i+1).toNat=k+1:=by omega
     rcases zF k (x.args).length with hlt | hge
     ·have hlt':k<y.args.length:=by omega
      have hgx:=get_at Tm.d hlt
      rw [Tm.d_eq] at hgx
      have hgy:=get_at Tm.d hlt'
      rw [Tm.d_eq] at hgy
      have hc:=ih x.args[k] (zH hlt) y.args[k] (Tm.HM hx.2 (zH hlt)) (Tm.HM hy.2 (zH hlt')) (by have:=Tm.nodes_le x.args k hlt; omega) (by have:=Tm.nodes_le y.args k hlt'; omega)
      rw [PJ hlt hlt'] at hR
      by_cases hz:x.args[k].cmp y.args[k]=0
      ·rw [orZ,if_pos hz] at hR
       rw [hz] at hc
       simp (disch:=omega) only [go_sem,Ab,hni,hgx,hgy,hc,AJ]
       exact ⟨i+1,⟨k+1,by omega,hlt,hR⟩,by omega,by first | trivial | rfl | simp only [h0,and_self]⟩
      ·rw [orZ,if_neg hz] at hR
       simp (disch:=omega) only [go_sem,Ab,hni,hgx,hgy,hc,hz,AJ]
       exact hR
     ·rw [PK hge (by omega)] at hR
      simp (disch:=omega) only [go_sem,Ab,hni]
      exact hR
  ·have h6:=Y3 h0
   rw [show orZ (orZ (JL x.name y.name) (NJ x.args.length y.args.length)) (Tm.Hn x.args y.args)=JL x.name y.name by unfold orZ; rw [if_neg h6,if_neg h6]]
   refine Ai B8 AJ (of_decide_eq_true rfl) ?_
   simp (disch:=omega) only [Bo,go_sem,Ab,h0,h1,h2,h3,Ak,Ee]
theorem LX (x y:Tm):Vo 164 x y:=QF x (fun x' hx' y'=>LX x' y') y
termination_by SizeOf.sizeOf x
decreasing_by exact Tm.lt_of_mem hx'
noncomputable def Vp (xs:List Lt) (k:Nat):Bool:=match xs[k]? with
 | none=>true
 | some x=>x.atom.atom&&(match k with
  | 0=>true
  | j+1=>match xs[j]? with
   | none=>true
   | some y=>decide (y.cmp x < 0))
noncomputable def Ho (xs:List Lt):Nat→Bool
 | 0=>true
 | k+1=>Ho xs k&&Vp xs k
theorem Vq {xs:List Lt} {k n:Nat} (h:Ho xs k=false) (hn:k≤n):Ho xs n=false:=by
 induction n with
 | zero =>
      obtain rfl:k=0:=by omega
      exact h
 | succ n ih =>
  rcases zF n k with h1 | h1
  ·obtain rfl:k=n+1:=by omega
   exact h
  ·rw [Ho,ih h1]; rfl
theorem Gx {xs:List Lt} (h:0<xs.length):Vp xs 0=xs[0].atom.atom:=by
 unfold Vp
 rw [zP h]
 simp
theorem DU {xs:List Lt} {j:Nat} (h:j+1<xs.length):Vp xs (j+1)=(xs[j+1].atom.atom&&decide (xs[j].cmp xs[j+1]<0)):=by
 unfold Vp
 rw [zP h]
 simp only [zP (show j<xs.length by omega)]
theorem Lv {xs:List Lt} {k j:Nat} (h:Ho xs k=true) (hj:j<k) (hl:j<xs.length):xs[j].atom.atom=true:=by
 induction k with
 | zero=>omega
 | succ k ih =>
  rw [Ho,zC] at h
  rcases zF j k with h1 | h1
  ·exact ih h.1 h1
  ·obtain rfl:j=k:=by omega
   cases j with
   | zero=>rw [←Gx hl]; exact h.2
   | succ j =>
    have:=h.2
    rw [DU hl,zC] at this
    exact this.1
noncomputable def Cl.ok (x:Cl):Bool:=decide (x.lits.length≤8)&&Ho x.lits x.lits.length
theorem Cl.QG {x:Cl} {k:Nat} (h:Ho x.lits k=true) (h':Vp x.lits k=false) (hk:k<x.lits.length):x.ok=false:=by
 have:Ho x.lits x.lits.length=false:=Vq (k:=k+1) (by rw [Ho,h,h']; rfl) (by omega)
 unfold Cl.ok
 rw [this,zU]
def Cl.tame (x:Cl):Prop:=x.lits.length≤1099511627776∧∀ y∈x.lits,y.atom.nodes≤1099511627776
theorem Cl.tame_at {x:Cl} (h:x.tame) {k:Nat} (hk:k<x.lits.length):x.lits[k].atom.nodes≤1099511627776:=h.2 _ (zH hk)
def HU:SC:=(.seq (.reg [⟨some 2,none,.mv (.c (.int .i64 0))⟩]) (.seq (.seq (.reg [⟨some 3,none,.mv (.t 0)⟩]) (.cond (.t 3) (.seq (.reg [⟨some 2,none,.mv (.c (.int .i64 1))⟩]) .ret) .skip)) (.seq (.reg [⟨some 2,none,.mv (.c (.int .i64 0))⟩]) .ret)))
theorem LY:codeOf Tryz.prog 168=some ⟨4,HU,[(.tmp 2)]⟩:=by kernel_rfl
theorem HV:modes 168=⟨[],.asis,none,false⟩:=by unfold modes; rfl
def Dz:SC:=(.seq (.reg [⟨some 2,none,.boxv 89 3 (.t 0)⟩,⟨some 3,none,.boxv 89 3 (.t 1)⟩,⟨some 4,none,.mv (.c (.int .i64 0))⟩]) (.seq (.dreg [[],[0],[],[2],[1,0,3,2],[],[5],[6,5,4,1,0,3,2],[],[8],[9,8,7,6,5,4,1,0,3,2],[7,6,5,4,1,0,3,2,10,9,8],[4,1,0,3,2,11,7,6,5,10,9,8],[12,4,1,0,3,2,11,7,6,5,10,9,8],[13,12,4,1,0,3,2,11,7,6,5,10,9,8]] [⟨some 5,none,.faddr 1 (.t 2)⟩,⟨some 6,none,.load true 2 (.t 5)⟩,⟨some 7,none,.faddr 1 (.t 3)⟩,⟨some 8,none,.load true 2 (.t 7)⟩,⟨some 9,none,.call 166 [(.t 6),(.t 8)]⟩,⟨some 10,none,.faddr 0 (.t 2)⟩,⟨some 11,none,.load false 1 (.t 10)⟩,⟨some 12,none,.call 168 [(.t 11)]⟩,⟨some 13,none,.faddr 0 (.t 3)⟩,⟨some 14,none,.load false 1 (.t 13)⟩,⟨some 15,none,.call 168 [(.t 14)]⟩,⟨some 16,none,.call 167 [(.t 12),(.t 15)]⟩,⟨some 17,none,.mkrow 3 1 [(.int .i64 0)] 2 [(0,(.t 9)),(1,(.t 16))]⟩,⟨some 18,none,.call 165 [(.t 17)]⟩,⟨some 4,none,.mv (.t 18)⟩]) .ret))
theorem GN:codeOf Tryz.prog 111=some ⟨19,Dz,[(.tmp 4)]⟩:=by kernel_rfl
theorem Bh:modes 111=⟨[],.asis,none,false⟩:=by unfold modes; rfl
def D0:SC:=(.seq (.reg [⟨some 2,none,.boxv 89 3 (.t 0)⟩,⟨some 3,none,.boxv 89 3 (.t 1)⟩,⟨some 4,none,.mv (.c (.int .i64 0))⟩]) (.seq (.reg [⟨some 6,none,.faddr 1 (.t 2)⟩,⟨some 7,none,.load true 2 (.t 6)⟩,⟨some 8,none,.faddr 1 (.t 3)⟩,⟨some 9,none,.load true 2 (.t 8)⟩,⟨some 10,none,.call 164 [(.t 7),(.t 9)]⟩,⟨some 5,none,.mv (.t 10)⟩]) (.seq (.block 0 (.seq (.reg [⟨some 12,none,.mv (.t 5)⟩,⟨some 13,none,.bin .neq false (.t 12) (.c (.int .i64 0))⟩,⟨some 11,none,.mv (.t 13)⟩]) (.cond (.t 11) (.seq (.reg [⟨some 14,none,.mv (.t 5)⟩,⟨some 4,none,.mv (.t 14)⟩]) .ret) (.seq (.reg [⟨some 16,none,.faddr 0 (.t 2)⟩,⟨some 17,none,.load false 1 (.t 16)⟩,⟨some 18,none,.un .not (.t 17)⟩,⟨some 19,none,.mv (.t 18)⟩,⟨(some 20),(some (19,true)),(.faddr 0 (.t 3))⟩,⟨(some 21),(some (19,true)),(.load false 1 (.t 20))⟩,⟨some 22,none,.pick (.t 19) (.t 21) (.c (.bool false))⟩,⟨some 15,none,.mv (.t 22)⟩]) (.cond (.t 15) (.seq (.reg [⟨some 4,none,.mv (.c (.int .i64 (-(0+1))))⟩]) .ret) (.seq (.reg [⟨some 24,none,.faddr 0 (.t 2)⟩,⟨some 25,none,.load false 1 (.t 24)⟩,⟨some 26,none,.mv (.t 25)⟩,⟨(some 27),(some (26,true)),(.faddr 0 (.t 3))⟩,⟨(some 28),(some (26,true)),(.load false 1 (.t 27))⟩,⟨(some 29),(some (26,true)),(.un .not (.t 28))⟩,⟨some 30,none,.pick (.t 26) (.t 29) (.c (.bool false))⟩,⟨some 23,none,.mv (.t 30)⟩]) (.cond (.t 23) (.seq (.reg [⟨some 4,none,.mv (.c (.int .i64 1))⟩]) .ret) .skip))))))) (.seq (.reg [⟨some 4,none,.mv (.c (.int .i64 0))⟩]) .ret))))
theorem Fx:codeOf Tryz.prog 107=some ⟨31,D0,[(.tmp 4)]⟩:=by kernel_rfl
theorem B5:modes 107=⟨[],.asis,none,false⟩:=by unfold modes; rfl
def DB:SC:=(.seq (.reg [⟨some 1,none,.boxv 89 3 (.t 0)⟩,⟨some 2,none,.mv (.c (.bool false))⟩]) (.seq (.reg [⟨some 3,none,.faddr 1 (.t 1)⟩,⟨some 4,none,.load true 2 (.t 3)⟩,⟨some 5,none,.call 155 [(.t 4)]⟩,⟨some 2,none,.mv (.t 5)⟩]) .ret))
theorem Hp:codeOf Tryz.prog 110=some ⟨6,DB,[(.tmp 2)]⟩:=by kernel_rfl
theorem Bl:modes 110=⟨[],.asis,none,false⟩:=by unfold modes; rfl
def Em:SC:=(.seq (.reg [⟨some 1,none,.boxv 48 1 (.t 0)⟩,⟨some 2,none,.mv (.c (.bool false))⟩]) (.seq (.seq (.reg [⟨some 5,none,.faddr 0 (.t 1)⟩,⟨some 6,none,.load false 1 (.t 5)⟩,⟨some 7,none,.len false (.t 6)⟩,⟨some 8,none,.mv (.c (.int .i64 0))⟩]) (.block 0 (.loop [0,1,0,0,0,0,1,1,1,0,0,0,0,0,0,0,0,0,0,0,0,0,0,0,0,0,0,0,0,0,0,0,0,0,0,0] (.seq (.reg [⟨some 9,none,.bin .lss false (.t 8) (.t 7)⟩]) (.seq (.cond (.t 9) .skip (.exit 0)) (.seq (.block 1 (.seq (.reg [⟨some 10,none,.mv (.t 8)⟩,⟨some 11,none,.iaddr 3 (.t 6) (.t 8)⟩,⟨some 12,none,.load true 3 (.t 11)⟩,⟨(some 4),none,(.alloc 89 [(.bool false),(.str ⟨#[]⟩),.nil])⟩,⟨some 3,none,.mv (.t 10)⟩,⟨none,none,(.store 3 (.t 4) (.t 12))⟩]) (.seq (.dreg [[],[0],[1,0],[2,1,0],[3,2,1,0],[4,3,2,1,0],[5,4,3,2,1,0],[6,5,4,3,2,1,0],[7,6,5,4,3,2,1,0],[6,5,4,3,2,1,0],[9,6,5,4,3,2,1,0],[8,7,6,5,4,3,2,1,0,10,9],[11,8,7,6,5,4,3,2,1,0,10,9],[6,5,4,3,2,1,0],[12,11,8,7,6,5,4,3,2,1,0,10,9,13],[14,12,11,8,7,6,5,4,3,2,1,0,10,9,13],[6,5,4,3,2,1,0,15,14,12,11,8,7,10,9,13],[3,2,1,0,16,6,5,4,15,14,12,11,8,7,10,9,13]] [⟨some 13,none,.load true 3 (.t 4)⟩,⟨some 14,none,.call 110 [(.t 13)]⟩,⟨some 15,none,.un .not (.t 14)⟩,⟨some 16,none,.mv (.t 15)⟩,⟨(some 17),(some (16,false)),(.mv (.t 3))⟩,⟨(some 18),(some (16,false)),(.bin .gtr false (.t 17) (.c (.int .i64 0)))⟩,⟨(some 19),(some (16,false)),(.mv (.t 18))⟩,⟨(some 20),(some (19,true)),(.faddr 0 (.t 1))⟩,⟨(some 21),(some (19,true)),(.load false 1 (.t 20))⟩,⟨(some 22),(some (19,true)),(.mv (.t 3))⟩,⟨(some 23),(some (19,true)),(.bin .sub false (.t 22) (.c (.int .i64 1)))⟩,⟨(some 24),(some (19,true)),(.iaddr 3 (.t 21) (.t 23))⟩,⟨(some 25),(some (19,true)),(.load true 3 (.t 24))⟩,⟨(some 26),(some (19,true)),(.load true 3 (.t 4))⟩,⟨(some 27),(some (19,true)),(.call 111 [(.t 25),(.t 26)])⟩,⟨(some 28),(some (19,true)),(.bin .geq false (.t 27) (.c (.int .i64 0)))⟩,⟨(some 29),(some (16,false)),(.pick (.t 19) (.t 28) (.c (.bool false)))⟩,⟨some 30,none,.pick (.t 16) (.c (.bool true)) (.t 29)⟩]) (.cond (.t 30) (.seq (.reg [⟨some 2,none,.mv (.c (.bool false))⟩]) .ret) .skip)))) (.reg [⟨some 31,none,.bin .add false (.t 8) (.c (.int .i64 1))⟩,⟨some 8,none,.mv (.t 31)⟩]))))))) (.seq (.reg [⟨some 32,none,.faddr 0 (.t 1)⟩,⟨some 33,none,.load false 1 (.t 32)⟩,⟨some 34,none,.len false (.t 33)⟩,⟨some 35,none,.bin .leq false (.t 34) (.c (.int .i64 8))⟩,⟨some 2,none,.mv (.t 35)⟩]) .ret)))
theorem HW:codeOf Tryz.prog 54=some ⟨36,Em,[(.tmp 2)]⟩:=by kernel_rfl
theorem BM:modes 54=⟨[],.asis,none,false⟩:=by unfold modes; rfl
def FS:SC:=(.seq (.reg [⟨some 1,none,.boxv 48 1 (.t 0)⟩,⟨some 2,none,.mv (.c (.bool false))⟩]) (.seq (.seq (.reg [⟨some 4,none,.faddr 0 (.t 1)⟩,⟨some 5,none,.load false 1 (.t 4)⟩,⟨some 6,none,.len false (.t 5)⟩,⟨some 7,none,.bin .gtr false (.t 6) (.c (.int .i64 8))⟩]) (.cond (.t 7) (.seq (.reg [⟨some 2,none,.mv (.c (.bool false))⟩]) .ret) .skip)) (.seq (.seq (.reg [⟨some 3,none,.mv (.c (.int .i64 0))⟩]) (.block 0 (.loop [0,1,0,1,0,0,0,0,0,0,0,0,0,0,0,0,0,0,0,0,0,0,0,0,0,0,0,0,0,0,0,0,0,0,0,0,0,0,0,0,0,0] (.seq (.seq (.reg [⟨some 8,none,.mv (.t 3)⟩,⟨some 9,none,.faddr 0 (.t 1)⟩,⟨some 10,none,.load false 1 (.t 9)⟩,⟨some 11,none,.len false (.t 10)⟩,⟨some 12,none,.bin .lss false (.t 8) (.t 11)⟩]) (.cond (.t 12) .skip (.exit 0))) (.seq (.block 1 (.seq (.dreg [[],[0],[],[1,0,2],[3,1,0,2],[4,3,1,0,2],[5,4,3,1,0,2],[6,5,4,3,1,0,2],[7,6,5,4,3,1,0,2],[8,7,6,5,4,3,1,0,2],[9,8,7,6,5,4,3,1,0,2],[10,9,8,7,6,5,4,3,1,0,2],[11,10,9,8,7,6,5,4,3,1,0,2],[12,11,10,9,8,7,6,5,4,3,1,0,2],[11,10,9,8,7,6,5,4,3,1,0,2],[14,11,10,9,8,7,6,5,4,3,1,0,2],[13,12,11,10,9,8,7,6,5,4,3,1,0,2,15,14],[16,13,12,11,10,9,8,7,6,5,4,3,1,0,2,15,14],[11,10,9,8,7,6,5,4,3,1,0,2],[18,11,10,9,8,7,6,5,4,3,1,0,2],[11,10,9,8,7,6,5,4,3,1,0,2],[19,18,11,10,9,8,7,6,5,4,3,1,0,2,20],[21,19,18,11,10,9,8,7,6,5,4,3,1,0,2,20],[17,16,13,12,11,10,9,8,7,6,5,4,3,1,0,2,15,14,22,21,19,18,20],[23,17,16,13,12,11,10,9,8,7,6,5,4,3,1,0,2,15,14,22,21,19,18,20],[11,10,9,8,7,6,5,4,3,1,0,2,24,23,17,16,13,12,15,14,22,21,19,18,20],[8,7,6,5,4,3,1,0,2,25,11,10,9,24,23,17,16,13,12,15,14,22,21,19,18,20]] [⟨some 15,none,.faddr 0 (.t 1)⟩,⟨some 16,none,.load false 1 (.t 15)⟩,⟨some 17,none,.mv (.t 3)⟩,⟨some 18,none,.iaddr 3 (.t 16) (.t 17)⟩,⟨some 19,none,.faddr 1 (.t 18)⟩,⟨some 20,none,.load true 2 (.t 19)⟩,⟨some 21,none,.call 106 [(.t 20)]⟩,⟨some 22,none,.un .not (.t 21)⟩,⟨some 23,none,.mv (.t 22)⟩,⟨(some 24),(some (23,false)),(.mv (.t 3))⟩,⟨(some 25),(some (23,false)),(.bin .gtr false (.t 24) (.c (.int .i64 0)))⟩,⟨(some 26),(some (23,false)),(.mv (.t 25))⟩,⟨(some 27),(some (26,true)),(.faddr 0 (.t 1))⟩,⟨(some 28),(some (26,true)),(.load false 1 (.t 27))⟩,⟨(some 29),(some (26,true)),(.mv (.t 3))⟩,⟨(some 30),(some (26,true)),(.bin .sub false (.t 29) (.c (.int .i64 1)))⟩,⟨(some 31),(some (26,true)),(.iaddr 3 (.t 28) (.t 30))⟩,⟨(some 32),(some (26,true)),(.load true 3 (.t 31))⟩,⟨(some 33),(some (26,true)),(.faddr 0 (.t 1))⟩,⟨(some 34),(some (26,true)),(.load false 1 (.t 33))⟩,⟨(some 35),(some (26,true)),(.mv (.t 3))⟩,⟨(some 36),(some (26,true)),(.iaddr 3 (.t 34) (.t 35))⟩,⟨(some 37),(some (26,true)),(.load true 3 (.t 36))⟩,⟨(some 38),(some (26,true)),(.call 107 [(.t 32),(.t 37)])⟩,⟨(some 39),(some (26,true)),(.bin .geq false (.t 38) (.c (.int .i64 0)))⟩,⟨(some 40),(some (23,false)),(.pick (.t 26) (.t 39) (.c (.bool false)))⟩,⟨some 41,none,.pick (.t 23) (.c (.bool true)) (.t 40)⟩]) (.cond (.t 41) (.seq (.reg [⟨some 2,none,.mv (.c (.bool false))⟩]) .ret) .skip))) (.reg [⟨some 13,none,.mv (.t 3)⟩,⟨some 14,none,.bin .add false (.t 13) (.c (.int .i64 1))⟩,⟨some 3,none,.mv (.t 14)⟩])))))) (.seq (.reg [⟨some 2,none,.mv (.c (.bool true))⟩]) .ret))))
theorem Jp:codeOf Tryz.prog 51=some ⟨42,FS,[(.tmp 2)]⟩:=by kernel_rfl
theorem Db:modes 51=⟨[],.asis,none,false⟩:=by unfold modes; rfl
theorem Xi (b:Bool):E 168 [.bool b] []=some (.int .i64 (LS b),[]):=by
 cases b
 ·refine Ai LY HV (of_decide_eq_true rfl) ?_
  simp (disch:=omega) only [HU,go_sem,Ab]
  rfl
 ·refine Ai LY HV (of_decide_eq_true rfl) ?_
  simp (disch:=omega) only [HU,go_sem,Ab]
  rfl
theorem Kz (x y:Lt) (hx:x.atom.cok=true) (hy:y.atom.cok=true) (hnx:x.atom.nodes≤1099511627776) (hny:y.atom.nodes≤1099511627776):E 111 [x.sv,y.sv] []=some (.int .i64 (x.cmp y),[]):=by
 have h1:=HT x.atom y.atom hx hy hnx hny
 have h2:=Xi x.pos
 have h3:=Xi y.pos
 have h4:=NL (LS x.pos) (LS y.pos)
 have h5:=YB (x.atom.cmp y.atom) (NJ (LS x.pos) (LS y.pos))
 unfold Lt.cmp
 refine Ai GN Bh (of_decide_eq_true rfl) ?_
 simp (disch:=omega) only [Dz,go_sem,Ab,h1,h2,h3,h4,h5,BT,HV,B4,E8]
theorem QH (x y:Lt) (hx:x.atom.cok=true) (hy:y.atom.cok=true) (hnx:x.atom.nodes≤1099511627776) (hny:y.atom.nodes≤1099511627776):E 107 [x.sv,y.sv] []=some (.int .i64 (x.cmp y),[]):=by
 have h1:=LX x.atom y.atom hx hy hnx hny
 unfold Lt.cmp
 by_cases h0:x.atom.cmp y.atom=0
 ·rw [h0] at h1 ⊢
  cases hp:x.pos <;> cases hq:y.pos
  all_goals
   simp only [LS,NJ,orZ,if_true,if_false,yO]
   refine Ai Fx B5 (of_decide_eq_true rfl) ?_
   simp (disch:=omega) only [D0,go_sem,Ab,h1,hp,hq,AJ]
 ·rw [orZ,if_neg h0]
  refine Ai Fx B5 (of_decide_eq_true rfl) ?_
  simp (disch:=omega) only [D0,go_sem,Ab,h1,h0,AJ]
theorem Lw (x:Lt) (hn:x.atom.nodes≤1099511627776):E 110 [x.sv] []=some (.bool x.atom.atom,[]):=by
 have h:=Ja x.atom hn
 refine Ai Hp Bl (of_decide_eq_true rfl) ?_
 simp (disch:=omega) only [DB,go_sem,Ab,h,Ad]
theorem Mp (x:Cl) (hn:x.tame):E 54 [x.sv] []=some (.bool x.ok,[]):=by
 have hl:=hn.1
 refine Ai HW BM (of_decide_eq_true rfl) ?_
 simp (disch:=omega) only [Em,go_sem,Ab]
 refine go_loop (α:=Int) (fun a=>⟨slots 36 0 [(1,.ptr 0 0),(6,.arr (x.lits.map Lt.d)),(7,.int .i64 x.lits.length),(8,.int .i64 a)],[.box 48 [.arr (x.lits.map Lt.d)]]⟩) (fun a=>∃ k:Nat,a=k∧k≤(x.lits).length∧Ho x.lits k=true) (fun a=>(x.lits).length-(a).toNat) 0 ⟨0,rfl,zK _,by rw [Ho]⟩ (by simp (disch:=omega) only [go_sem,Ab]) ?_
 rintro i ⟨k,hi,hk,hR⟩
 have hni:i.toNat=k:=by omega
 have hni1:(i+1).toNat=k+1:=by omega
 rcases zF k (x.lits).length with hlt | hge
 ·have hg:=get_at Lt.d hlt
  rw [Lt.d_eq] at hg
  have hv:=Lw x.lits[k] (Cl.tame_at hn hlt)
  cases ha:x.lits[k].atom.atom <;> rw [ha] at hv
  ·have e:x.ok=false:=Cl.QG hR (by cases k with | zero=>rw [Gx hlt,ha] | succ j=>rw [DU hlt,ha,zD]) hlt
   rw [e]
   simp (disch:=omega) only [go_sem,Ab,hni,hg,hv,Bl,Bh]
  ·cases k with
   | zero =>
    obtain rfl:i=0:=hi
    simp (disch:=omega) only [go_sem,Ab,hni,hg,hv,Bl,Bh]
    exact ⟨1,⟨1,rfl,hlt,by rw [Ho,hR,Gx hlt,ha]; rfl⟩,by omega,by first | trivial | rfl⟩
   | succ j =>
    have hj:j<x.lits.length:=by omega
    have hg2:=get_at Lt.d hj
    rw [Lt.d_eq] at hg2
    have hni2:(i-1).toNat=j:=by omega
    have hc:=Kz x.lits[j] x.lits[j+1] (Tm.HO (Lv hR (by omega) (by omega))) (Tm.HO ha) (Cl.tame_at hn hj) (Cl.tame_at hn hlt)
    rcases Int.lt_or_le (x.lits[j].cmp x.lits[j+1]) 0 with hq | hq
    ·simp (disch:=omega) only [go_sem,Ab,hni,hg,hv,Bl,Bh,hni2,hg2,hc]
     exact ⟨i+1,⟨j+1+1,by omega,hlt,by rw [Ho,hR,DU hlt,ha,decide_eq_true hq]; rfl⟩,by omega,by first | trivial | rfl⟩
    ·have e:x.ok=false:=Cl.QG hR (by rw [DU hlt,ha,decide_eq_false (by omega)]; rfl) hlt
     rw [e]
     simp (disch:=omega) only [go_sem,Ab,hni,hg,hv,Bl,Bh,hni2,hg2,hc]
 ·obtain rfl:k=x.lits.length:=by omega
  simp (disch:=omega) only [go_sem,Ab,hni]
  unfold Cl.ok
  rw [hR,zX,H0]
  exact decide_eq_decide.2 (by omega)
theorem Xj (x:Cl) (hn:x.tame):E 51 [x.sv] []=some (.bool x.ok,[]):=by
 have hl:=hn.1
 rcases zF 8 x.lits.length with h8 | h8
 ·have e:x.ok=false:=by unfold Cl.ok; rw [decide_eq_false (by omega),zD]
  rw [e]
  refine Ai Jp Db (of_decide_eq_true rfl) ?_
  simp (disch:=omega) only [FS,go_sem,Ab]
 refine Ai Jp Db (of_decide_eq_true rfl) ?_
 simp (disch:=omega) only [FS,go_sem,Ab]
 refine go_loop (α:=Int) (fun a=>⟨slots 42 0 [(1,.ptr 0 0),(3,.int .i64 a)],[.box 48 [.arr (x.lits.map Lt.d)]]⟩) (fun a=>∃ k:Nat,a=k∧k≤(x.lits).length∧Ho x.lits k=true) (fun a=>(x.lits).length-(a).toNat) 0 ⟨0,rfl,zK _,by rw [Ho]⟩ (by simp (disch:=omega) only [go_sem,Ab]) ?_
 rintro i ⟨k,hi,hk,hR⟩
 have hni:i.toNat=k:=by omega
 have hni1:(i+1).toNat=k+1:=by omega
 rcases zF k (x.lits).length with hlt | hge
 ·have hg:=get_at Lt.d hlt
  rw [Lt.d_eq] at hg
  have hv:=RJ x.lits[k].atom (Cl.tame_at hn hlt)
  cases ha:x.lits[k].atom.atom <;> rw [ha] at hv
  ·have e:x.ok=false:=Cl.QG hR (by cases k with | zero=>rw [Gx hlt,ha] | succ j=>rw [DU hlt,ha,zD]) hlt
   rw [e]
   simp (disch:=omega) only [go_sem,Ab,hni,hg,hv,Aj,B5]
  ·cases k with
   | zero =>
    obtain rfl:i=0:=hi
    simp (disch:=omega) only [go_sem,Ab,hni,hg,hv,Aj,B5]
    exact ⟨1,⟨1,rfl,hlt,by rw [Ho,hR,Gx hlt,ha]; rfl⟩,by omega,by first | trivial | rfl⟩
   | succ j =>
    have hj:j<x.lits.length:=by omega
    have hg2:=get_at Lt.d hj
    rw [Lt.d_eq] at hg2
    have hni2:(i-1).toNat=j:=by omega
    have hc:=QH x.lits[j] x.lits[j+1] (Tm.HO (Lv hR (by omega) (by omega))) (Tm.HO ha) (Cl.tame_at hn hj) (Cl.tame_at hn hlt)
    rcases Int.lt_or_le (x.lits[j].cmp x.lits[j+1]) 0 with hq | hq
    ·simp (disch:=omega) only [go_sem,Ab,hni,hg,hv,Aj,B5,hni2,hg2,hc]
     exact ⟨i+1,⟨j+1+1,by omega,hlt,by rw [Ho,hR,DU hlt,ha,decide_eq_true hq]; rfl⟩,by omega,by first | trivial | rfl⟩
    ·have e:x.ok=false:=Cl.QG hR (by rw [DU hlt,ha,decide_eq_false (by omega)]; rfl) hlt
     rw [e]
     simp (disch:=omega) only [go_sem,Ab,hni,hg,hv,Aj,B5,hni2,hg2,hc]
 ·obtain rfl:k=x.lits.length:=by omega
  simp (disch:=omega) only [go_sem,Ab,hni]
  unfold Cl.ok
  rw [hR,decide_eq_true h8]; rfl
theorem Lx:(Tm.mk ⟨#[]⟩ []).isZ=true:=by
 unfold Tm.isZ
 have e1:dec ((Tm.mk ⟨#[]⟩ []).name=(⟨#[]⟩:ByteArray))=true:=A4 rfl
 rw [e1]; rfl
theorem Uu:dec ((⟨#[]⟩:ByteArray)=⟨#[]⟩)=true:=A4 rfl
theorem Sg {a:Tm} (h:a.atom=true):(Fm.at a).forms=true:=by
 rw [Fm.BV]
 have e:(Fm.at a).form=true:=by
  unfold Fm.form
  have e3:(Fm.at a).op=3:=rfl
  rw [e3,if_neg (by omega),if_pos rfl]
  show (true&&a.atom&&dec ((⟨#[]⟩:ByteArray)=⟨#[]⟩))=true
  rw [h,Uu]; rfl
 rw [e]
 show (true&&Fm.CY [])=true
 rw [Fm.CY]; rfl
theorem Vr {y:Fm} (h:y.forms=true):(Fm.neg y).forms=true:=by
 rw [Fm.BV]
 have e:(Fm.neg y).form=true:=by
  unfold Fm.form
  have e3:(Fm.neg y).op=4:=rfl
  rw [e3,if_neg (by omega),if_neg (by omega),if_pos rfl]
  show (true&&(Tm.mk ⟨#[]⟩ []).isZ&&dec ((⟨#[]⟩:ByteArray)=⟨#[]⟩))=true
  rw [Lx,Uu]; rfl
 rw [e]
 show (true&&Fm.CY [y])=true
 rw [Fm.CY,Fm.CY,h]; rfl
theorem Xl {y z:Fm} (h:y.forms=true) (k:z.forms=true):(Fm.or y z).forms=true:=by
 rw [Fm.BV]
 have e:(Fm.or y z).form=true:=by
  unfold Fm.form
  have e3:(Fm.or y z).op=6:=rfl
  rw [e3,if_neg (by omega),if_neg (by omega),if_neg (by omega),if_pos (by omega)]
  show (true&&(Tm.mk ⟨#[]⟩ []).isZ&&dec ((⟨#[]⟩:ByteArray)=⟨#[]⟩))=true
  rw [Lx,Uu]; rfl
 rw [e]
 show (true&&Fm.CY [y,z])=true
 rw [Fm.CY,Fm.CY,Fm.CY,h,k]; rfl
theorem Sh:(Ay []).forms=true:=by
 rw [Fm.BV]
 have e:(Ay []).form=true:=by
  unfold Fm.form
  have e3:(Ay []).op=2:=rfl
  rw [e3,if_pos (by omega)]
  show (true&&(Tm.mk ⟨#[]⟩ []).isZ&&dec ((⟨#[]⟩:ByteArray)=⟨#[]⟩))=true
  rw [Lx,Uu]; rfl
 rw [e]
 show (true&&Fm.CY [])=true
 rw [Fm.CY]; rfl
theorem Oa {l:Lt} (h:l.atom.atom=true):(ER l).forms=true:=by
 unfold ER
 cases l.pos
 ·exact Vr (Sg h)
 ·exact Sg h
theorem Si (a:Tm):(Fm.at a).nodes=1:=by
 rw [Fm.nodes_eq]; show 1+Fm.nodeS []=1; rw [Fm.nodeS]
theorem Oc (l:Lt):(ER l).nodes≤2:=by
 unfold ER
 cases l.pos
 ·show (Fm.neg (Fm.at l.atom)).nodes≤2
  rw [Fm.nodes_eq]; show 1+Fm.nodeS [Fm.at l.atom]≤2; rw [Fm.nodeS,Fm.nodeS,Si]; omega
 ·show (Fm.at l.atom).nodes≤2
  rw [Si]; omega
theorem LZ:∀ ls:List Lt,(∀ l∈ls,l.atom.atom=true)→(Ay ls).forms=true
 | [],_=>Sh
 | [l],h=>Oa (h l (by simp))
 | l :: m :: r,h=>Xl (Oa (h l (by simp))) (LZ (m :: r) fun y hy=>h y (List.mem_cons_of_mem _ hy))
theorem Ma:∀ ls:List Lt,(Ay ls).nodes≤3*ls.length+1
 | []=>by rw [Fm.nodes_eq]; show 1+Fm.nodeS []≤_; rw [Fm.nodeS]; omega
 | [l]=>by have:=Oc l; show (ER l).nodes≤_; simp only [zI,zM]; omega
 | l :: m :: r=>by
  have h1:=Oc l
  have h2:=Ma (m :: r)
  rw [Fm.nodes_eq]
  show 1+Fm.nodeS [ER l,Ay (m :: r)]≤_
  rw [Fm.nodeS,Fm.nodeS,Fm.nodeS]
  simp only [zI] at h2 ⊢
  omega
noncomputable def Sj (x:Cl):Bool:=x.ok&&(Mn (Ay x.lits)).valid
noncomputable def Sk (x:Cl):Fm:=bif Sj x then Mn (Ay x.lits) else Fm.zero
theorem Cl.Sl {x:Cl} (h:x.ok=true):x.lits.length≤8∧∀ l∈x.lits,l.atom.atom=true:=by
 unfold Cl.ok at h
 rw [zC,decide_eq_true_eq] at h
 refine ⟨h.1,fun l hl=>?_⟩
 obtain ⟨j,hj,rfl⟩:=List.getElem_of_mem hl
 exact Lv h.2 hj hj
theorem Sm {x:Cl} (h:x.ok=true):(Ay x.lits).forms=true∧(Ay x.lits).nodes≤40∧(Ay x.lits).vn≤1200:=by
 obtain ⟨h1,h2⟩:=Cl.Sl h
 have f:=LZ x.lits h2
 have n:=Ma x.lits
 have v:=Fm.YC _ f
 exact ⟨f,by omega,by omega⟩
def CL:SC:=(.seq (.reg [⟨some 1,none,.boxv 48 1 (.t 0)⟩,⟨(some 2),none,(.alloc 34 [(.int .i64 0),(.str ⟨#[]⟩),.nil,(.str ⟨#[]⟩),.nil])⟩,⟨some 3,none,.mv (.c (.bool false))⟩]) (.seq (.seq (.reg [⟨some 4,none,.load true 1 (.t 1)⟩,⟨some 5,none,.call 54 [(.t 4)]⟩,⟨some 6,none,.un .not (.t 5)⟩]) (.cond (.t 6) (.seq (.reg [⟨(some 7),none,(.build [(.int .i64 0),(.str ⟨#[]⟩),.nil,(.str ⟨#[]⟩),.nil] [])⟩,⟨none,none,(.store 5 (.t 2) (.t 7))⟩,⟨some 3,none,.mv (.c (.bool false))⟩]) .ret) .skip)) (.seq (.reg [⟨some 8,none,.faddr 0 (.t 1)⟩,⟨some 9,none,.load false 1 (.t 8)⟩,⟨some 10,none,.call 55 [(.t 9)]⟩,⟨some 11,none,.call 43 [(.t 10)]⟩,⟨some 12,none,.call 42 [(.t 11)]⟩,⟨some 13,none,.ext (.t 12) 0⟩,⟨some 14,none,.ext (.t 12) 1⟩,⟨none,none,(.store 5 (.t 2) (.t 13))⟩,⟨some 3,none,.mv (.t 14)⟩]) .ret)))
theorem DV:codeOf Tryz.prog 17=some ⟨15,CL,[(.cell 2 true 5),(.tmp 3)]⟩:=by kernel_rfl
theorem Bp:modes 17=⟨[],.own [none,none,some (31,2),none,some (34,5),none],none,false⟩:=by unfold modes; rfl
theorem Sn (x:Cl) (hx:x.tame):E 17 [x.sv] []=some (.tup [(Sk x).osv,.bool (Sj x)],(Sk x).obs):=by
 have h1:=Mp x hx
 have hz1:Fm.zero.osv=.agg [.int .i64 0,.str ⟨#[]⟩,.ref 0,.str ⟨#[]⟩,.ref 1]:=rfl
 have hz2:Fm.zero.obs=[.row 31 2 [],.row 34 5 []]:=rfl
 have hxs:x.sv=.agg [.arr (x.lits.map Lt.d)]:=rfl
 unfold Sk Sj
 cases hv:x.ok with
 | false =>
  rw [hv] at h1
  rw [zD,cond_false,hz1,hz2]
  refine Ai DV Bp (of_decide_eq_true rfl) ?_
  simp (disch:=omega) only [CL,go_sem,Ab,h1,BM]
 | true =>
  rw [hv] at h1
  rw [zJ]
  have h2:=O9 x.lits hx.1 hx.2
  obtain ⟨k1,k2,k3⟩:=Sm hv
  have hs:=Xf (Ay x.lits) k1 (by omega) (by omega)
  have hp1:=Fm.NY (Fm.EZ _ k1) (Ay x.lits).free
  have hp2:=Fm.Lu (Ay x.lits) (Ay x.lits).free
  have hp3:=Fm.Ky (Ay x.lits)
  have e0:Fm.cls (Ay x.lits).free (Ay x.lits)=Mn (Ay x.lits):=rfl
  rw [e0] at hp1 hp2
  generalize Mn (Ay x.lits)=y at *
  generalize Ay x.lits=z at *
  have hzs:z.sv=.agg [.int .i64 z.op,.str z.atom.name,.arr (z.atom.args.map Tm.d),.str z.var,.arr (z.parts.map Fm.d)]:=rfl
  cases hq:y.valid with
  | true =>
   have hi:=OA y hp1 (by omega) hq
   rw [cond_true]
   refine Ai DV Bp (of_decide_eq_true rfl) ?_
   simp (disch:=omega) only [CL,go_sem,Ab,h1,h2,hs,hi,BM,Dn,FQ,CJ,Fm.osv,Fm.obs,Tm.erss,Fm.erss,Tm.noss,Fm.noss]
  | false =>
   have hi:=Q6 y hp1 (by omega) hq
   rw [cond_false,hz1,hz2]
   refine Ai DV Bp (of_decide_eq_true rfl) ?_
   simp (disch:=omega) only [CL,go_sem,Ab,h1,h2,hs,hi,BM,Dn,FQ,CJ,Fm.osv,Fm.obs,Tm.erss,Fm.erss,Tm.noss,Fm.noss]
def dro:List Lt→List OT
 | []=>(Ay []).osh
 | [l]=>(ER l).osh
 | l :: m :: r=>[.int 6,.str ⟨#[]⟩,.ow [],.str ⟨#[]⟩,.ow [(ER l).osh,dro (m :: r)]]
def drw:List Lt→List (List OT)
 | l :: m :: r=>[(ER l).osh,dro (m :: r)]
 | _=>[]
theorem osh_er (x:Fm):OT.ers x.osh=x.d:=by
 rw [Fm.d_eq,Fm.osh_eq]
 simp only [OT.ers,OT.er]
theorem QI (x:Fm):OT.Be x.osh=true:=by
 rw [Fm.osh_eq]
 simp only [OT.Be,OT.full,yF]
theorem So:∀ ls:List Lt,OT.Be (dro ls)=true
 | []=>QI _
 | [l]=>QI _
 | l :: m :: r=>by simp only [dro,OT.Be,OT.full,OT.A2,QI,So (m :: r),yF]
theorem Xm:∀ ls:List Lt,OT.ers (dro ls)=(Ay ls).d
 | []=>osh_er _
 | [l]=>osh_er _
 | l :: m :: r=>by
  rw [Fm.d_eq,dro]
  simp only [OT.ers,OT.er,OT.erss,osh_er,Xm (m :: r)]
  rfl
theorem Xn (ls:List Lt):OT.A2 (drw ls)=true:=by
 match ls with
 | []=>rfl
 | [l]=>rfl
 | l :: m :: r=>simp only [drw,OT.A2,QI,So,yF]
theorem Z7 (ls:List Lt) (h:1<ls.length):(Ay ls).sv=.agg [.int .i64 6,.str ⟨#[]⟩,.arr [],.str ⟨#[]⟩,.arr (OT.erss (drw ls))]:=by
 match ls,h with
 | l :: m :: r,_ =>
  simp only [drw,OT.erss,osh_er,Xm]
  rfl
theorem Xo {ls:List Lt} {n k:Nat} (hn:n+1=ls.length) (hk:k+1=n):[(ER (ls[k]'(by omega))).osh,(ER (ls[n]'(by omega))).osh]=drw (ls.drop k):=by
 subst hk
 rw [zB (by omega),zB (by omega),zE (by omega)]
 rfl
theorem Xp {ls:List Lt} {k:Nat} (hk:k+2<ls.length):[(ER (ls[k]'(by omega))).osh,[.int 6,.str ⟨#[]⟩,.ow [],.str ⟨#[]⟩,.ow (drw (ls.drop (k+1)))]]=drw (ls.drop k):=by
 rw [zB (i:=k) (by omega),zB (i:=k+1) (by omega),zB (i:=k+1+1) (by omega)]
 rfl
def DW:SC:=(.seq (.reg [⟨some 1,none,.boxv 89 3 (.t 0)⟩,⟨(some 2),none,(.alloc 34 [(.int .i64 0),(.str ⟨#[]⟩),.nil,(.str ⟨#[]⟩),.nil])⟩]) (.seq (.reg [⟨some 4,none,.faddr 1 (.t 1)⟩,⟨some 5,none,.load true 2 (.t 4)⟩,⟨some 6,none,.call 108 [(.t 5)]⟩,⟨(some 7),none,(.build [(.int .i64 0),(.str ⟨#[]⟩),.nil,(.str ⟨#[]⟩),.nil] [(0,(1,(.c (.int .i64 3)))),(1,(2,(.t 6)))])⟩,⟨(some 3),none,(.alloc 34 [(.int .i64 0),(.str ⟨#[]⟩),.nil,(.str ⟨#[]⟩),.nil])⟩,⟨none,none,(.store 5 (.t 3) (.t 7))⟩]) (.seq (.seq (.reg [⟨some 8,none,.faddr 0 (.t 1)⟩,⟨some 9,none,.load false 1 (.t 8)⟩]) (.cond (.t 9) (.seq (.reg [⟨some 10,none,.load true 5 (.t 3)⟩,⟨none,none,(.store 5 (.t 2) (.t 10))⟩]) .ret) .skip)) (.seq (.reg [⟨some 11,none,.load true 5 (.t 3)⟩,⟨(some 12),none,(.mkrow 34 5 [(.int .i64 0),(.str ⟨#[]⟩),.nil,(.str ⟨#[]⟩),.nil] 1 [(0,(.t 11))])⟩,⟨(some 13),none,(.build [(.int .i64 0),(.str ⟨#[]⟩),.nil,(.str ⟨#[]⟩),.nil] [(0,(1,(.c (.int .i64 4)))),(4,(1,(.t 12)))])⟩,⟨none,none,(.store 5 (.t 2) (.t 13))⟩]) .ret))))
theorem Gy:codeOf Tryz.prog 52=some ⟨14,DW,[(.cell 2 true 5)]⟩:=by kernel_rfl
theorem BZ:modes 52=⟨[],.frz,none,false⟩:=by unfold modes; rfl
theorem Mb (l:Lt) (hl:l.atom.nodes≤1099511627776):E 52 [l.sv] []=some ((ER l).sv,[]):=by
 have h1:=Q2 l.atom hl
 unfold ER
 have ed:Fm.d (Fm.at l.atom)=[.int 3,.str l.atom.name,.arr (l.atom.args.map Tm.d),.str ⟨#[]⟩,.arr []]:=rfl
 have e1:(Fm.at l.atom).sv=.agg [.int .i64 3,.str l.atom.name,.arr (l.atom.args.map Tm.d),.str ⟨#[]⟩,.arr []]:=rfl
 have e2:(Fm.neg (Fm.at l.atom)).sv=.agg [.int .i64 4,.str ⟨#[]⟩,.arr [],.str ⟨#[]⟩,.arr [Fm.d (Fm.at l.atom)]]:=rfl
 cases hp:l.pos with
 | true =>
  rw [cond_true,e1]
  refine Ai Gy BZ (of_decide_eq_true rfl) ?_
  simp (disch:=omega) only [DW,go_sem,Ab,hp,h1,CI,Tm.sv]
 | false =>
  rw [cond_false,e2,ed]
  refine Ai Gy BZ (of_decide_eq_true rfl) ?_
  simp (disch:=omega) only [DW,go_sem,Ab,hp,h1,CI,Tm.sv]
def CM:SC:=(.seq (.reg [⟨some 1,none,.boxv 48 1 (.t 0)⟩,⟨(some 2),none,(.alloc 34 [(.int .i64 0),(.str ⟨#[]⟩),.nil,(.str ⟨#[]⟩),.nil])⟩,⟨some 3,none,.mv (.c (.bool false))⟩]) (.seq (.seq (.reg [⟨some 7,none,.load true 1 (.t 1)⟩,⟨some 8,none,.call 51 [(.t 7)]⟩,⟨some 9,none,.un .not (.t 8)⟩]) (.cond (.t 9) (.seq (.reg [⟨(some 10),none,(.build [(.int .i64 0),(.str ⟨#[]⟩),.nil,(.str ⟨#[]⟩),.nil] [])⟩,⟨none,none,(.store 5 (.t 2) (.t 10))⟩,⟨some 3,none,.mv (.c (.bool false))⟩]) .ret) .skip)) (.seq (.seq (.reg [⟨some 11,none,.faddr 0 (.t 1)⟩,⟨some 12,none,.load false 1 (.t 11)⟩,⟨some 13,none,.len false (.t 12)⟩,⟨some 14,none,.bin .eql false (.t 13) (.c (.int .i64 0))⟩]) (.cond (.t 14) (.seq (.reg [⟨(some 15),none,(.build [(.int .i64 0),(.str ⟨#[]⟩),.nil,(.str ⟨#[]⟩),.nil] [(0,(1,(.c (.int .i64 2))))])⟩,⟨none,none,(.store 5 (.t 2) (.t 15))⟩,⟨some 3,none,.mv (.c (.bool true))⟩]) .ret) .skip)) (.seq (.reg [⟨some 16,none,.faddr 0 (.t 1)⟩,⟨some 17,none,.load false 1 (.t 16)⟩,⟨some 18,none,.faddr 0 (.t 1)⟩,⟨some 19,none,.load false 1 (.t 18)⟩,⟨some 20,none,.len false (.t 19)⟩,⟨some 21,none,.bin .sub false (.t 20) (.c (.int .i64 1))⟩,⟨some 22,none,.iaddr 3 (.t 17) (.t 21)⟩,⟨some 23,none,.load true 3 (.t 22)⟩,⟨some 24,none,.call 52 [(.t 23)]⟩,⟨(some 4),none,(.alloc 34 [(.int .i64 0),(.str ⟨#[]⟩),.nil,(.str ⟨#[]⟩),.nil])⟩,⟨none,none,(.store 5 (.t 4) (.t 24))⟩]) (.seq (.seq (.reg [⟨some 25,none,.faddr 0 (.t 1)⟩,⟨some 26,none,.load false 1 (.t 25)⟩,⟨some 27,none,.len false (.t 26)⟩,⟨some 28,none,.bin .sub false (.t 27) (.c (.int .i64 2))⟩,⟨some 5,none,.mv (.t 28)⟩]) (.block 0 (.loop [0,1,1,0,1,1,0,0,0,0,0,0,0,0,0,0,0,0,0,0,0,0,0,0,0,0,0,0,0,0,0,0,0,0,0,0,0,0,0,0,0,0,0,0,0,0,0,0,0] (.seq (.seq (.reg [⟨some 29,none,.mv (.t 5)⟩,⟨some 30,none,.bin .geq false (.t 29) (.c (.int .i64 0))⟩]) (.cond (.t 30) .skip (.exit 0))) (.seq (.block 1 (.dreg [[],[0],[],[1,0,2],[3,1,0,2],[4,3,1,0,2],[],[5,4,3,1,0,2,6],[7,5,4,3,1,0,2,6],[8,7,5,4,3,1,0,2,6]] [⟨some 33,none,.faddr 0 (.t 1)⟩,⟨some 34,none,.load false 1 (.t 33)⟩,⟨some 35,none,.mv (.t 5)⟩,⟨some 36,none,.iaddr 3 (.t 34) (.t 35)⟩,⟨some 37,none,.load true 3 (.t 36)⟩,⟨some 38,none,.call 52 [(.t 37)]⟩,⟨some 39,none,.load true 5 (.t 4)⟩,⟨(some 40),none,(.mkrow 34 5 [(.int .i64 0),(.str ⟨#[]⟩),.nil,(.str ⟨#[]⟩),.nil] 2 [(0,(.t 38)),(1,(.t 39))])⟩,⟨(some 41),none,(.build [(.int .i64 0),(.str ⟨#[]⟩),.nil,(.str ⟨#[]⟩),.nil] [(0,(1,(.c (.int .i64 6)))),(4,(1,(.t 40)))])⟩,⟨none,none,(.store 5 (.t 4) (.t 41))⟩])) (.reg [⟨some 31,none,.mv (.t 5)⟩,⟨some 32,none,.bin .sub false (.t 31) (.c (.int .i64 1))⟩,⟨some 5,none,.mv (.t 32)⟩])))))) (.seq (.reg [⟨some 42,none,.load true 5 (.t 4)⟩,⟨some 43,none,.call 38 [(.t 42)]⟩,⟨(some 6),none,(.alloc 34 [(.int .i64 0),(.str ⟨#[]⟩),.nil,(.str ⟨#[]⟩),.nil])⟩,⟨none,none,(.store 5 (.t 6) (.t 43))⟩]) (.seq (.seq (.reg [⟨some 44,none,.load true 5 (.t 6)⟩,⟨some 45,none,.call 37 [(.t 44)]⟩,⟨some 46,none,.un .not (.t 45)⟩]) (.cond (.t 46) (.seq (.reg [⟨(some 47),none,(.build [(.int .i64 0),(.str ⟨#[]⟩),.nil,(.str ⟨#[]⟩),.nil] [])⟩,⟨none,none,(.store 5 (.t 2) (.t 47))⟩,⟨some 3,none,.mv (.c (.bool false))⟩]) .ret) .skip)) (.seq (.reg [⟨some 48,none,.load true 5 (.t 6)⟩,⟨none,none,(.store 5 (.t 2) (.t 48))⟩,⟨some 3,none,.mv (.c (.bool true))⟩]) .ret))))))))
theorem DX:codeOf Tryz.prog 15=some ⟨49,CM,[(.cell 2 true 5),(.tmp 3)]⟩:=by kernel_rfl
theorem Br:modes 15=⟨[],.frz,none,false⟩:=by unfold modes; rfl
theorem OE (x:Cl) (hx:x.tame):E 15 [x.sv] []=some (.tup [(Sk x).sv,.bool (Sj x)],[]):=by
 have h1:=Xj x hx
 have hz3:Fm.zero.sv=.agg [.int .i64 0,.str ⟨#[]⟩,.arr [],.str ⟨#[]⟩,.arr []]:=rfl
 unfold Sk Sj
 cases hv:x.ok with
 | false =>
  rw [hv] at h1
  have hxs:x.sv=.agg [.arr (x.lits.map Lt.d)]:=rfl
  rw [zD,cond_false,hz3]
  refine Ai DX Br (of_decide_eq_true rfl) ?_
  simp (disch:=omega) only [CM,go_sem,Ab,h1,Db]
 | true =>
 rw [hv] at h1
 rw [zJ]
 obtain ⟨k1,k2,k3⟩:=Sm hv
 have hs:=Vn (Ay x.lits) k1 (by omega) (by omega)
 have hp1:=Fm.NY (Fm.EZ _ k1) (Ay x.lits).free
 have hp2:=Fm.Lu (Ay x.lits) (Ay x.lits).free
 have hp3:=Fm.Ky (Ay x.lits)
 have e0:Fm.cls (Ay x.lits).free (Ay x.lits)=Mn (Ay x.lits):=rfl
 rw [e0] at hp1 hp2
 obtain ⟨h8,hat⟩:=Cl.Sl hv
 have hlx:=hx.2
 have hxs:x.sv=.agg [.arr (x.lits.map Lt.d)]:=rfl
 have h1':E 51 [.agg [.arr (x.lits.map Lt.d)]] []=some (.bool true,[]):=h1
 clear h1 hx hv
 rw [hxs]
 clear hxs
 generalize x.lits=ls at *
 rcases zN ls.length with hl0 | hl0
 ·have hnil:ls=[]:=zL hl0
  subst hnil
  have ec:Mn (Ay [])=Ay []:=by
   have:(Ay []).free=[]:=by
    show Ce [] ((Ay []).fv [])=[]
    have e2:(Ay []).fv []=[]:=by
     rw [Fm.RY]
     have e3:dec ((Ay []).op=3)=false:=An (by show ¬ (2:Int)=3; omega)
     rw [e3,cond_false]
     show Fm.fvL [] _=[]
     rw [Fm.fvL]
    rw [e2]; rfl
   unfold Mn
   rw [this]; rfl
  have evl:(Ay []).valid=true:=by
   unfold Fm.valid
   rw [zC,decide_eq_true_eq]
   exact ⟨k2,k1⟩
  rw [ec,evl,cond_true]
  have e3:(Ay []).sv=.agg [.int .i64 2,.str ⟨#[]⟩,.arr [],.str ⟨#[]⟩,.arr []]:=rfl
  rw [e3]
  simp only [zQ] at h1'
  have q0:((0:Nat):Int)=0:=rfl
  refine Ai DX Br (of_decide_eq_true rfl) ?_
  simp (disch:=omega) only [CM,go_sem,Ab,h1',q0,Db]
 obtain ⟨n,hn⟩:∃ n,n+1=ls.length:=⟨ls.length-1,by omega⟩
 have hnl:n<ls.length:=by omega
 obtain ⟨z,hz⟩:∃ z,z=ER ls[n]:=⟨_,rfl⟩
 have hlit:=Mb ls[n] (hlx _ (zH hnl))
 rw [←hz] at hlit
 have hgn:=get_at Lt.d hnl
 have hdn:=Lt.d_eq ls[n]
 have q0:((ls.length:Int)=0)=False:=eq_false (by omega)
 have q1:((ls.length:Int)-1).toNat=n:=by omega
 have q2:((ls.length:Int)-2)=(n:Int)-1:=by omega
 generalize hy:Mn (Ay ls)=y at *
 have h3:=WJ y hp1 (by omega)
 have hys:y.sv=.agg [.int .i64 y.op,.str y.atom.name,.arr (y.atom.args.map Tm.d),.str y.var,.arr (y.parts.map Fm.d)]:=rfl
 generalize hq:y.valid=b at *
 refine Ai DX Br (of_decide_eq_true rfl) ?_
 simp (disch:=omega) only [CM,go_sem,Ab,h1',q0,q1,q2,hgn,hdn,hlit,Db,BZ]
 refine go_loop (α:=Nat) (fun k=>⟨slots 49 0 [(1,.ptr 0 0),(2,.ptr 1 0),(4,.ptr 2 0),(5,.int .i64 ((k:Int)-1))],(if k=n then [.box 48 [.arr (ls.map Lt.d)],.box 34 [.int .i64 0,.str ⟨#[]⟩,.nil,.str ⟨#[]⟩,.nil],.box 34 [.int .i64 z.op,.str z.atom.name,.arr (z.atom.args.map Tm.d),.str z.var,.arr (z.parts.map Fm.d)]] else [.box 48 [.arr (ls.map Lt.d)],.box 34 [.int .i64 0,.str ⟨#[]⟩,.nil,.str ⟨#[]⟩,.nil],.box 34 [.int .i64 6,.str ⟨#[]⟩,.nil,.str ⟨#[]⟩,.ref 3],.row 34 5 (drw (ls.drop k))])⟩) (fun k=>k≤n) (fun k=>k) n (zR _) (by simp (disch:=omega) only [go_sem,Ab,eq_self,if_true]) ?_
 intro k hk
 rcases zN k with h0 | h0
 ·subst h0
  have r1:(0≤((0:Nat):Int)-1)=False:=eq_false (by omega)
  rcases zN n with hn0 | hn0
  ·have hl':(0=n)=True:=eq_true hn0.symm
   have e1:Ay ls=z:=by
    subst hn0
    have h5:ls.drop 0=[ls[0]]:=by rw [zB (by omega),zE (by omega)]
    rw [zG] at h5
    have h6:Ay ls=Ay [ls[0]]:=congrArg Ay h5
    rw [h6,hz]; rfl
   rw [e1] at hs
   cases b with
   | true =>
    rw [cond_true]
    simp (disch:=omega) only [go_sem,Ab,r1,hl',if_true,hs,h3,CE,Cz]
   | false =>
    rw [cond_false,hz3]
    simp (disch:=omega) only [go_sem,Ab,r1,hl',if_true,hs,h3,CE,Cz]
  ·have hl':(0=n)=False:=eq_false (by omega)
   have e1:=Z7 ls (by omega)
   have e2:=Xn ls
   rw [e1] at hs
   rw [zG]
   cases b with
   | true =>
    rw [cond_true]
    simp (disch:=omega) only [go_sem,Ab,r1,hl',if_false,e2,hs,h3,CE,Cz]
   | false =>
    rw [cond_false,hz3]
    simp (disch:=omega) only [go_sem,Ab,r1,hl',if_false,e2,hs,h3,CE,Cz]
 ·obtain ⟨k,rfl⟩:∃ k',k=k'+1:=⟨k-1,by omega⟩
  have hlt:k<ls.length:=by omega
  have hni:(((k+1:Nat):Int)-1).toNat=k:=by omega
  have r2:(0≤((k+1:Nat):Int)-1)=True:=eq_true (by omega)
  have hg:=get_at Lt.d hlt
  have hd:=Lt.d_eq ls[k]
  have hlk:=Mb ls[k] (hlx _ (zH hlt))
  have hii:((k+1:Nat):Int)-1-1=(k:Int)-1:=by omega
  have hk':(k=n)=False:=eq_false (by omega)
  have hb:((k+1:Nat):Int)-1<((ls.map Lt.d).length:Int):=by rw [zW]; omega
  by_cases hl:k+1=n
  ·have hl':(k+1=n)=True:=eq_true hl
   have hdd:=Xo (ls:=ls) hn hl
   rw [←hz,Fm.osh_eq,Fm.osh_eq] at hdd
   simp (disch:=omega) only [go_sem,Ab,r2,hl',if_true,if_false,hni,hg,hd,hlk,BZ]
   refine ⟨k,by omega,by omega,?_⟩
   simp (disch:=omega) only [go_sem,Ab,hk',if_false,hdd,hii]
  ·have hl':(k+1=n)=False:=eq_false hl
   have hdd:=Xp (ls:=ls) (k:=k) (by omega)
   rw [Fm.osh_eq] at hdd
   simp (disch:=omega) only [go_sem,Ab,r2,hl',if_true,if_false,hni,hg,hd,hlk,BZ]
   refine ⟨k,by omega,by omega,?_⟩
   simp (disch:=omega) only [go_sem,Ab,hk',if_false,hdd,hii]
theorem Tm.Vs {x:Tm} (h:x.atom=true):x.bulk≤300:=by
 have hn:=Tm.JK h
 have h1:=Tm.JE x.args fun y hy=>Tm.NC y ((Tm.IB h).2 y hy)
 have h2:x.name.size≤6:=by
  unfold Tm.atom at h
  split at h
  ·rename_i he
   unfold Tm.eqn at he
   rw [Ap.1 he]; decide
  ·rw [zC] at h; exact PD h.1
 rw [Tm.nodes_eq] at hn
 rw [Tm.bulk_eq]
 omega
theorem Fm.Od (x:Fm) (h:x.forms=true):x.bulk+1≤320*x.nodes:=by
 have hf:=Fm.EY h
 have key:∀ xs:List Fm,(∀ y∈xs,y.bulk+1≤320*y.nodes)→xs.length+Fm.sumB xs≤320*Fm.nodeS xs:=by
  intro xs
  induction xs with
  | nil=>intro _; simp [Fm.sumB]
  | cons y ys ih =>
   intro hh
   have h1:=hh y (by simp)
   have h2:=ih fun z hz=>hh z (by simp [hz])
   rw [Fm.nodeS,Fm.sumB,zI]; omega
 have hk:=key x.parts fun y hy=>Fm.Od y (Fm.EX h hy)
 have ha:x.atom.bulk≤300:=by
  by_cases ho:x.op=3
  ·exact Tm.Vs (Fm.IA hf ho).2.1
  ·rw [Fm.NH hf ho,Tm.bulk_eq]
   show 0+_≤_
   simp [Tm.args,Tm.sumB]
 have hv:x.var.size≤6:=by
  by_cases hq:qB x.op=true
  ·exact PC (Fm.NI hf hq).1
  ·have hq2:qB x.op=false:=by simpa using hq
   have e:x.var=⟨#[]⟩:=by
    unfold qB at hq2
    rw [yL] at hq2
    have o8:=BJ.1 hq2.1
    have o9:=BJ.1 hq2.2
    unfold Fm.form at hf
    split at hf
    ·rw [zC] at hf; exact Ap.1 hf.2
    ·split at hf
     ·rw [zC] at hf; exact Ap.1 hf.2
     ·split at hf
      ·rw [zC] at hf; exact Ap.1 hf.2
      ·split at hf
       ·rw [zC] at hf; exact Ap.1 hf.2
       ·rw [if_neg (by omega)] at hf; cases hf
   rw [e]
   decide
 rw [Fm.bulk_eq,Fm.nodes_eq]
 omega
termination_by SizeOf.sizeOf x
decreasing_by exact Fm.lt_of_mem hy
theorem Cl.Xq (x:Cl) (h:x.bulk≤1048576):x.tame:=by
 rw [Cl.bulk_eq] at h
 refine ⟨by omega,fun y hy=>?_⟩
 obtain ⟨k,hk,rfl⟩:=List.getElem_of_mem hy
 have h1:=Lt.bulk_le x.lits k hk
 have h2:=Tm.NB x.lits[k].atom
 rw [Lt.bulk_eq] at h1
 omega
mutual
def Tm.wt:Tm→Nat
 | .mk name args=>1+Tm.wtS args
def Tm.wtS:List Tm→Nat
 | []=>0
 | x :: xs=>Tm.wt x+Tm.wtS xs
end
theorem Tm.wt_eq (x:Tm):x.wt=1+Tm.wtS x.args:=by
 obtain ⟨name,args⟩:=x
 rw [Tm.wt]; rfl
mutual
noncomputable def Tm.mk1:Tm→Int→Tm × Int
 | .mk name args,k=>((Tm.mk (CW k) ((Tm.mkS args (k+1)).1)),(Tm.mkS args (k+1)).2)
noncomputable def Tm.mkS:List Tm→Int→List Tm × Int
 | [],k=>([],k)
 | x :: xs,k=>((Tm.mk1 x k).1 :: (Tm.mkS xs (Tm.mk1 x k).2).1,(Tm.mkS xs (Tm.mk1 x k).2).2)
end
theorem Tm.mk1_eq (x:Tm) (k:Int):x.mk1 k=((Tm.mk (CW k) ((Tm.mkS x.args (k+1)).1)),(Tm.mkS x.args (k+1)).2):=by
 obtain ⟨name,args⟩:=x
 rw [Tm.mk1]; rfl
theorem Tm.mk1_d (x:Tm) (k:Int):Tm.d (x.mk1 k).1=[.str (CW k),.arr ((Tm.mkS x.args (k+1)).1.map Tm.d)]:=by
 rw [Tm.mk1_eq,Tm.d_eq]
 try rfl
theorem Tm.mk1_o (x:Tm) (k:Int):Tm.o (x.mk1 k).1=[.str (CW k),.ow ((Tm.mkS x.args (k+1)).1.map Tm.o)]:=by
 rw [Tm.mk1_eq,Tm.o_eq]
 try rfl
theorem Tm.mkS_end_of:∀ (xs:List Tm) (k:Int),(∀ x∈xs,∀ k,(x.mk1 k).2=k+x.wt)→(Tm.mkS xs k).2=k+Tm.wtS xs
 | [],k,_=>by simp [Tm.mkS,Tm.wtS]
 | x :: xs,k,h=>by
  rw [Tm.mkS,Tm.wtS]
  have h1:=h x (by simp) k
  have h2:=Tm.mkS_end_of xs (x.mk1 k).2 fun y hy=>h y (by simp [hy])
  dsimp only
  omega
theorem Tm.mk1_end (x:Tm) (k:Int):(x.mk1 k).2=k+x.wt:=by
 rw [Tm.mk1_eq,Tm.wt_eq]
 have h:=fun k=>Tm.mkS_end_of x.args k fun y hy k=>Tm.mk1_end y k
 simp only [h]
 omega
termination_by SizeOf.sizeOf x
decreasing_by exact Tm.lt_of_mem hy
theorem Tm.mkS_end (xs:List Tm) (k:Int):(Tm.mkS xs k).2=k+Tm.wtS xs:=Tm.mkS_end_of xs k fun x _ k=>Tm.mk1_end x k
theorem Tm.wtS_of:∀ xs:List Tm,(∀ x∈xs,x.wt≤5*(1+x.bulk))→Tm.wtS xs≤5*(xs.length+Tm.sumB xs)
 | [],_=>by simp [Tm.wtS]
 | x :: xs,h=>by
  have h1:=h x (by simp)
  have h2:=Tm.wtS_of xs fun y hy=>h y (by simp [hy])
  rw [Tm.wtS,Tm.sumB]; simp only [zI]; omega
theorem Tm.wt_bulk (x:Tm):x.wt≤5*(1+x.bulk):=by
 rw [Tm.wt_eq,Tm.bulk_eq]
 have h:=Tm.wtS_of x.args fun y hy=>Tm.wt_bulk y
 omega
termination_by SizeOf.sizeOf x
decreasing_by exact Tm.lt_of_mem hy
theorem Tm.wtS_bulk (xs:List Tm):Tm.wtS xs≤5*(xs.length+Tm.sumB xs):=Tm.wtS_of xs fun x _=>Tm.wt_bulk x
theorem Tm.length_wt:∀ xs:List Tm,xs.length≤Tm.wtS xs
 | []=>zR _
 | x :: xs=>by
  have:=Tm.length_wt xs
  have:=Tm.wt_eq x
  rw [Tm.wtS]; simp only [zI]; omega
def Gz:SC:=(.seq (.reg [⟨some 4,none,.mv (.c (.int .i64 0))⟩]) (.seq (.seq (.reg [⟨some 5,none,.mv (.c (.int .i64 0))⟩]) (.block 0 (.loop [1,1,0,0,0,1,0,0,0,0,0,0,0,0,0,0,0,0,0,0,0,0,0,0,0,0,0,0] (.seq (.seq (.reg [⟨some 6,none,.mv (.t 5)⟩,⟨some 7,none,.mv (.t 0)⟩,⟨some 8,none,.len false (.t 7)⟩,⟨some 9,none,.bin .lss false (.t 6) (.t 8)⟩]) (.cond (.t 9) .skip (.exit 0))) (.seq (.block 1 (.seq (.reg [⟨some 12,none,.mv (.t 0)⟩,⟨some 13,none,.mv (.t 5)⟩,⟨some 14,none,.mv (.t 1)⟩,⟨some 15,none,.call 72 [(.t 14)]⟩,⟨some 16,none,.iaddr 2 (.t 12) (.t 13)⟩,⟨some 17,none,.faddr 0 (.t 16)⟩,⟨none,none,(.store 1 (.t 17) (.t 15))⟩]) (.seq (.reg [⟨some 18,none,.mv (.t 1)⟩,⟨some 19,none,.bin .add false (.t 18) (.c (.int .i64 1))⟩,⟨some 1,none,.mv (.t 19)⟩]) (.reg [⟨some 20,none,.mv (.t 0)⟩,⟨some 21,none,.mv (.t 5)⟩,⟨some 22,none,.iaddr 2 (.t 20) (.t 21)⟩,⟨some 23,none,.faddr 1 (.t 22)⟩,⟨some 24,none,.load false 1 (.t 23)⟩,⟨some 25,none,.mv (.t 1)⟩,⟨some 26,none,.call 74 [(.t 24),(.t 25)]⟩,⟨some 1,none,.mv (.t 26)⟩])))) (.reg [⟨some 10,none,.mv (.t 5)⟩,⟨some 11,none,.bin .add false (.t 10) (.c (.int .i64 1))⟩,⟨some 5,none,.mv (.t 11)⟩])))))) (.seq (.reg [⟨some 27,none,.mv (.t 1)⟩,⟨some 4,none,.mv (.t 27)⟩]) .ret)))
theorem Ly:codeOf Tryz.prog 74=some ⟨28,Gz,[(.tmp 4)]⟩:=by kernel_rfl
theorem Ca:modes 74=⟨[true],.asis,none,true⟩:=by unfold modes; rfl
abbrev Fy (xs:List Tm):Prop:=∀ (k:Int) (ob:List Ob),1≤k→k+Tm.wtS xs≤1099511627776→toTree ob=[.tree (xs.map Tm.o) []]→E 74 [.ref 0,.int .i64 k] ob=some (.int .i64 (Tm.mkS xs k).2,[.tree ((Tm.mkS xs k).1.map Tm.o) []])
theorem HX (xs:List Tm) (ih:∀ x∈xs,Fy x.args):Fy xs:=by
 intro k0 ob h1 h2 hob
 have hlen:ob.length=1:=by rw [←EJ,hob]; rfl
 have hL:=Tm.length_wt xs
 refine Ai Ly Ca (of_decide_eq_true rfl) ?_
 simp (disch:=omega) only [Gz,go_sem,Ab,hob,hlen]
 refine go_loop (α:=Int × (Int) × (List Tm)) (fun a=>⟨slots 28 0 [(0,.ref 0),(1,.int .i64 (a.2.1)),(5,.int .i64 (a.1))],[.tree (((a.2.2)++xs.drop (a.1).toNat).map Tm.o) []]⟩) (fun a=>∃ k:Nat,a.1=k∧k≤(xs).length∧(a.2.2).length=k∧1≤(a.2.1)∧(a.2.1)+Tm.wtS (xs.drop k)=k0+Tm.wtS xs∧Tm.mkS xs k0=((a.2.2)++(Tm.mkS (xs.drop k) (a.2.1)).1,(Tm.mkS (xs.drop k) (a.2.1)).2)) (fun a=>(xs).length-(a.1).toNat) (0,k0,[]) ⟨0,rfl,zK _,rfl,h1,by rw [zG],by simp⟩ (by simp (disch:=omega) only [go_sem,Ab,yD]) ?_
 rintro ⟨i,kk,dn⟩ ⟨k,hi,hk,hR⟩
 dsimp only at hi hR
 have hni:i.toNat=k:=by omega
 have hni1:(i+1).toNat=k+1:=by omega
 rcases zF k (xs).length with hlt | hge
 ·obtain ⟨hd,hk1,hkn,hm⟩:=hR
  have hdr:xs.drop k=xs[k] :: xs.drop (k+1):=zB hlt
  have hel:(dn++xs.drop k).length=xs.length:=by simp; omega
  have hg:(yX Tm.o (dn++xs.drop k))[k]?=some [.str xs[k].name,.ow (xs[k].args.map Tm.o)]:=by
   rw [←Tm.o_eq,hdr,yC,yE (by omega),hd,Nat.sub_self]; rfl
  rw [hdr,Tm.wtS] at hkn
  rw [hdr,Tm.mkS] at hm
  have hn1:=Tm.wt_eq xs[k]
  have e1:=Tm.mkS_end xs[k].args ((kk+1))
  have t0:=Dk (k:=kk) (by omega) (by omega)
  have c58:=ih xs[k] (zH hlt) ((kk+1)) [.tree (xs[k].args.map Tm.o) []] (by omega) (by omega) rfl
  have hs:=HF Tm.o dn (xs.drop (k+1)) xs[k] (xs[k].mk1 kk).1 hd
  rw [Tm.mk1_o,← hdr] at hs
  have hgs:∀ a,((yX Tm.o (dn++xs.drop k)).set k a)[k]?=some a:=fun a=>yJ (by rw [zW,hel]; exact hlt)
  have he:=Tm.mk1_end xs[k] kk
  have three:∀ z:Int,dec ((3:Int)=0)=false:=fun _=>An (by omega)
  simp (disch:=omega) only [go_sem,Ab,hni,hel,hg,t0,c58,Ca,Cq,hgs,yU,List.set_set,hs,three 0]
  refine ⟨(i+1,(xs[k].mk1 kk).2,dn++[(xs[k].mk1 kk).1]),⟨k+1,by dsimp only; omega,hlt,by dsimp only; simp [hd],by dsimp only; omega,by dsimp only; omega,by rw [hm]; simp⟩,by dsimp only; omega,?_⟩
  dsimp only
  rw [hni1,Tm.mk1_eq]
  refine ⟨⟨?_,rfl⟩,rfl⟩
  first | rfl | omega
 ·obtain ⟨hd,hk1,hkn,hm⟩:=hR
  have hdr:xs.drop k=[]:=zE hge
  rw [hdr,Tm.mkS] at hm
  rw [hm]
  simp (disch:=omega) only [go_sem,Ab,hni,hdr,zV]
theorem K0 (x:Tm):Fy x.args:=HX x.args fun y hy=>K0 y
termination_by SizeOf.sizeOf x
decreasing_by exact Tm.lt_of_mem hy
theorem HY (xs:List Tm):Fy xs:=HX xs fun y _=>K0 y
def Lt.wt (x:Lt):Nat:=2+Tm.wtS x.atom.args
theorem Lt.wt_eq (x:Lt):x.wt=2+Tm.wtS x.atom.args:=rfl
noncomputable def Lt.mk1 (x:Lt) (k:Int):Lt × Int:=((Lt.mk (dec (k.tmod 3=0)) (Tm.mk (CW (k+1)) ((Tm.mkS x.atom.args (k+1+1)).1))),(Tm.mkS x.atom.args (k+1+1)).2)
theorem Lt.mk1_eq (x:Lt) (k:Int):x.mk1 k=((Lt.mk (dec (k.tmod 3=0)) (Tm.mk (CW (k+1)) ((Tm.mkS x.atom.args (k+1+1)).1))),(Tm.mkS x.atom.args (k+1+1)).2):=rfl
def Lt.wtS:List Lt→Nat
 | []=>0
 | x :: xs=>Lt.wt x+Lt.wtS xs
noncomputable def Lt.mkS:List Lt→Int→List Lt × Int
 | [],k=>([],k)
 | x :: xs,k=>((Lt.mk1 x k).1 :: (Lt.mkS xs (Lt.mk1 x k).2).1,(Lt.mkS xs (Lt.mk1 x k).2).2)
theorem Lt.mk1_o (x:Lt) (k:Int):Lt.o (x.mk1 k).1=[.bool (dec (k.tmod 3=0)),.str (CW (k+1)),.ow ((Tm.mkS x.atom.args (k+1+1)).1.map Tm.o)]:=by
 rw [Lt.mk1_eq,Lt.o_eq]
 try rfl
theorem Lt.mk1_end (x:Lt) (k:Int):(x.mk1 k).2=k+x.wt:=by
 rw [Lt.mk1_eq,Lt.wt_eq]
 first
  |omega
  |(simp only [Tm.mkS_end]; done)
  |(simp only [Tm.mkS_end]; omega)
  |simp
theorem Lt.mkS_end:∀ (xs:List Lt) (k:Int),(Lt.mkS xs k).2=k+Lt.wtS xs
 | [],k=>by simp [Lt.mkS,Lt.wtS]
 | x :: xs,k=>by
  rw [Lt.mkS,Lt.wtS]
  have h1:=Lt.mk1_end x k
  have h2:=Lt.mkS_end xs (x.mk1 k).2
  dsimp only
  omega
theorem Lt.wt_bulk (x:Lt):x.wt≤5*(1+x.bulk):=by
 rw [Lt.wt_eq,Lt.bulk_eq]
 have h0:=Tm.wtS_bulk x.atom.args
 have q1:=Tm.bulk_eq x.atom
 omega
theorem Lt.wtS_bulk:∀ xs:List Lt,Lt.wtS xs≤5*(xs.length+Lt.sumB xs)
 | []=>by simp [Lt.wtS]
 | x :: xs=>by
  have h1:=Lt.wt_bulk x
  have h2:=Lt.wtS_bulk xs
  rw [Lt.wtS,Lt.sumB]; simp only [zI]; omega
theorem Lt.length_wt:∀ xs:List Lt,xs.length≤Lt.wtS xs
 | []=>zR _
 | x :: xs=>by
  have:=Lt.length_wt xs
  have:=Lt.wt_eq x
  rw [Lt.wtS]; simp only [zI]; omega
def Ey:SC:=(.seq (.reg [⟨some 4,none,.mv (.c (.int .i64 0))⟩]) (.seq (.seq (.reg [⟨some 5,none,.mv (.c (.int .i64 0))⟩]) (.block 0 (.loop [1,1,0,0,0,1,0,0,0,0,0,0,0,0,0,0,0,0,0,0,0,0,0,0,0,0,0,0,0,0,0,0,0,0,0,0,0,0,0] (.seq (.seq (.reg [⟨some 6,none,.mv (.t 5)⟩,⟨some 7,none,.mv (.t 0)⟩,⟨some 8,none,.len false (.t 7)⟩,⟨some 9,none,.bin .lss false (.t 6) (.t 8)⟩]) (.cond (.t 9) .skip (.exit 0))) (.seq (.block 1 (.seq (.reg [⟨some 12,none,.mv (.t 0)⟩,⟨some 13,none,.mv (.t 5)⟩,⟨some 14,none,.mv (.t 1)⟩,⟨some 15,none,.bin .rem false (.t 14) (.c (.int .i64 3))⟩,⟨some 16,none,.bin .eql false (.t 15) (.c (.int .i64 0))⟩,⟨some 17,none,.iaddr 3 (.t 12) (.t 13)⟩,⟨some 18,none,.faddr 0 (.t 17)⟩,⟨none,none,(.store 1 (.t 18) (.t 16))⟩]) (.seq (.reg [⟨some 19,none,.mv (.t 1)⟩,⟨some 20,none,.bin .add false (.t 19) (.c (.int .i64 1))⟩,⟨some 1,none,.mv (.t 20)⟩]) (.seq (.reg [⟨some 21,none,.mv (.t 0)⟩,⟨some 22,none,.mv (.t 5)⟩,⟨some 23,none,.mv (.t 1)⟩,⟨some 24,none,.call 72 [(.t 23)]⟩,⟨some 25,none,.iaddr 3 (.t 21) (.t 22)⟩,⟨some 26,none,.faddr 1 (.t 25)⟩,⟨some 27,none,.faddr 0 (.t 26)⟩,⟨none,none,(.store 1 (.t 27) (.t 24))⟩]) (.seq (.reg [⟨some 28,none,.mv (.t 1)⟩,⟨some 29,none,.bin .add false (.t 28) (.c (.int .i64 1))⟩,⟨some 1,none,.mv (.t 29)⟩]) (.reg [⟨some 30,none,.mv (.t 0)⟩,⟨some 31,none,.mv (.t 5)⟩,⟨some 32,none,.iaddr 3 (.t 30) (.t 31)⟩,⟨some 33,none,.faddr 1 (.t 32)⟩,⟨some 34,none,.faddr 1 (.t 33)⟩,⟨some 35,none,.load false 1 (.t 34)⟩,⟨some 36,none,.mv (.t 1)⟩,⟨some 37,none,.call 74 [(.t 35),(.t 36)]⟩,⟨some 1,none,.mv (.t 37)⟩])))))) (.reg [⟨some 10,none,.mv (.t 5)⟩,⟨some 11,none,.bin .add false (.t 10) (.c (.int .i64 1))⟩,⟨some 5,none,.mv (.t 11)⟩])))))) (.seq (.reg [⟨some 38,none,.mv (.t 1)⟩,⟨some 4,none,.mv (.t 38)⟩]) .ret)))
theorem IJ:codeOf Tryz.prog 57=some ⟨39,Ey,[(.tmp 4)]⟩:=by kernel_rfl
theorem Ez:modes 57=⟨[true],.asis,none,true⟩:=by unfold modes; rfl
abbrev HZ (xs:List Lt):Prop:=∀ (k:Int) (ob:List Ob),1≤k→k+Lt.wtS xs≤1099511627776→toTree ob=[.tree (xs.map Lt.o) []]→E 57 [.ref 0,.int .i64 k] ob=some (.int .i64 (Lt.mkS xs k).2,[.tree ((Lt.mkS xs k).1.map Lt.o) []])
theorem K6 (xs:List Lt):HZ xs:=by
 intro k0 ob h1 h2 hob
 have hlen:ob.length=1:=by rw [←EJ,hob]; rfl
 have hL:=Lt.length_wt xs
 refine Ai IJ Ez (of_decide_eq_true rfl) ?_
 simp (disch:=omega) only [Ey,go_sem,Ab,hob,hlen]
 refine go_loop (α:=Int × (Int) × (List Lt)) (fun a=>⟨slots 39 0 [(0,.ref 0),(1,.int .i64 (a.2.1)),(5,.int .i64 (a.1))],[.tree (((a.2.2)++xs.drop (a.1).toNat).map Lt.o) []]⟩) (fun a=>∃ k:Nat,a.1=k∧k≤(xs).length∧(a.2.2).length=k∧1≤(a.2.1)∧(a.2.1)+Lt.wtS (xs.drop k)=k0+Lt.wtS xs∧Lt.mkS xs k0=((a.2.2)++(Lt.mkS (xs.drop k) (a.2.1)).1,(Lt.mkS (xs.drop k) (a.2.1)).2)) (fun a=>(xs).length-(a.1).toNat) (0,k0,[]) ⟨0,rfl,zK _,rfl,h1,by rw [zG],by simp⟩ (by simp (disch:=omega) only [go_sem,Ab,yD]) ?_
 rintro ⟨i,kk,dn⟩ ⟨k,hi,hk,hR⟩
 dsimp only at hi hR
 have hni:i.toNat=k:=by omega
 have hni1:(i+1).toNat=k+1:=by omega
 rcases zF k (xs).length with hlt | hge
 ·obtain ⟨hd,hk1,hkn,hm⟩:=hR
  have hdr:xs.drop k=xs[k] :: xs.drop (k+1):=zB hlt
  have hel:(dn++xs.drop k).length=xs.length:=by simp; omega
  have hg:(yX Lt.o (dn++xs.drop k))[k]?=some [.bool xs[k].pos,.str xs[k].atom.name,.ow (xs[k].atom.args.map Tm.o)]:=by
   rw [←Lt.o_eq,hdr,yC,yE (by omega),hd,Nat.sub_self]; rfl
  rw [hdr,Lt.wtS] at hkn
  rw [hdr,Lt.mkS] at hm
  have hn1:=Lt.wt_eq xs[k]
  have e2:=Tm.mkS_end xs[k].atom.args ((kk+1+1))
  have t0:=Dk (k:=(kk+1)) (by omega) (by omega)
  have c64:=HY xs[k].atom.args ((kk+1+1)) [.tree (xs[k].atom.args.map Tm.o) []] (by omega) (by omega) rfl
  have hs:=HF Lt.o dn (xs.drop (k+1)) xs[k] (xs[k].mk1 kk).1 hd
  rw [Lt.mk1_o,← hdr] at hs
  have hgs:∀ a,((yX Lt.o (dn++xs.drop k)).set k a)[k]?=some a:=fun a=>yJ (by rw [zW,hel]; exact hlt)
  have he:=Lt.mk1_end xs[k] kk
  have three:∀ z:Int,dec ((3:Int)=0)=false:=fun _=>An (by omega)
  simp (disch:=omega) only [go_sem,Ab,hni,hel,hg,t0,c64,Ca,Cq,hgs,yU,List.set_set,hs,three 0]
  refine ⟨(i+1,(xs[k].mk1 kk).2,dn++[(xs[k].mk1 kk).1]),⟨k+1,by dsimp only; omega,hlt,by dsimp only; simp [hd],by dsimp only; omega,by dsimp only; omega,by rw [hm]; simp⟩,by dsimp only; omega,?_⟩
  dsimp only
  rw [hni1,Lt.mk1_eq]
  refine ⟨⟨?_,rfl⟩,rfl⟩
  first | rfl | omega
 ·obtain ⟨hd,hk1,hkn,hm⟩:=hR
  have hdr:xs.drop k=[]:=zE hge
  rw [hdr,Lt.mkS] at hm
  rw [hm]
  simp (disch:=omega) only [go_sem,Ab,hni,hdr,zV]
theorem Oe (xs:List Lt):HZ xs:=K6 xs
mutual
def Fm.wt:Fm→Nat
 | .mk op atom var parts=>3+Tm.wtS atom.args+Fm.wtS parts
def Fm.wtS:List Fm→Nat
 | []=>0
 | x :: xs=>Fm.wt x+Fm.wtS xs
end
theorem Fm.wt_eq (x:Fm):x.wt=3+Tm.wtS x.atom.args+Fm.wtS x.parts:=by
 obtain ⟨op,atom,var,parts⟩:=x
 rw [Fm.wt]; rfl
mutual
noncomputable def Fm.mk1:Fm→Int→Fm × Int
 | .mk op atom var parts,k=>((Fm.mk (k) (Tm.mk (CW (k+1)) ((Tm.mkS atom.args (k+1+1)).1)) (CW (Tm.mkS atom.args (k+1+1)).2) ((Fm.mkS parts ((Tm.mkS atom.args (k+1+1)).2+1)).1)),(Fm.mkS parts ((Tm.mkS atom.args (k+1+1)).2+1)).2)
noncomputable def Fm.mkS:List Fm→Int→List Fm × Int
 | [],k=>([],k)
 | x :: xs,k=>((Fm.mk1 x k).1 :: (Fm.mkS xs (Fm.mk1 x k).2).1,(Fm.mkS xs (Fm.mk1 x k).2).2)
end
theorem Fm.mk1_eq (x:Fm) (k:Int):x.mk1 k=((Fm.mk (k) (Tm.mk (CW (k+1)) ((Tm.mkS x.atom.args (k+1+1)).1)) (CW (Tm.mkS x.atom.args (k+1+1)).2) ((Fm.mkS x.parts ((Tm.mkS x.atom.args (k+1+1)).2+1)).1)),(Fm.mkS x.parts ((Tm.mkS x.atom.args (k+1+1)).2+1)).2):=by
 obtain ⟨op,atom,var,parts⟩:=x
 rw [Fm.mk1]; rfl
theorem Fm.mk1_d (x:Fm) (k:Int):Fm.d (x.mk1 k).1=[.int k,.str (CW (k+1)),.arr ((Tm.mkS x.atom.args (k+1+1)).1.map Tm.d),.str (CW (Tm.mkS x.atom.args (k+1+1)).2),.arr ((Fm.mkS x.parts ((Tm.mkS x.atom.args (k+1+1)).2+1)).1.map Fm.d)]:=by
 rw [Fm.mk1_eq,Fm.d_eq]
 try rfl
theorem Fm.mk1_o (x:Fm) (k:Int):Fm.o (x.mk1 k).1=[.int k,.str (CW (k+1)),.ow ((Tm.mkS x.atom.args (k+1+1)).1.map Tm.o),.str (CW (Tm.mkS x.atom.args (k+1+1)).2),.ow ((Fm.mkS x.parts ((Tm.mkS x.atom.args (k+1+1)).2+1)).1.map Fm.o)]:=by
 rw [Fm.mk1_eq,Fm.o_eq]
 try rfl
theorem Fm.mkS_end_of:∀ (xs:List Fm) (k:Int),(∀ x∈xs,∀ k,(x.mk1 k).2=k+x.wt)→(Fm.mkS xs k).2=k+Fm.wtS xs
 | [],k,_=>by simp [Fm.mkS,Fm.wtS]
 | x :: xs,k,h=>by
  rw [Fm.mkS,Fm.wtS]
  have h1:=h x (by simp) k
  have h2:=Fm.mkS_end_of xs (x.mk1 k).2 fun y hy=>h y (by simp [hy])
  dsimp only
  omega
theorem Fm.mk1_end (x:Fm) (k:Int):(x.mk1 k).2=k+x.wt:=by
 rw [Fm.mk1_eq,Fm.wt_eq]
 have h:=fun k=>Fm.mkS_end_of x.parts k fun y hy k=>Fm.mk1_end y k
 simp only [h,Tm.mkS_end]
 omega
termination_by SizeOf.sizeOf x
decreasing_by exact Fm.lt_of_mem hy
theorem Fm.mkS_end (xs:List Fm) (k:Int):(Fm.mkS xs k).2=k+Fm.wtS xs:=Fm.mkS_end_of xs k fun x _ k=>Fm.mk1_end x k
theorem Fm.wtS_of:∀ xs:List Fm,(∀ x∈xs,x.wt≤5*(1+x.bulk))→Fm.wtS xs≤5*(xs.length+Fm.sumB xs)
 | [],_=>by simp [Fm.wtS]
 | x :: xs,h=>by
  have h1:=h x (by simp)
  have h2:=Fm.wtS_of xs fun y hy=>h y (by simp [hy])
  rw [Fm.wtS,Fm.sumB]; simp only [zI]; omega
theorem Fm.wt_bulk (x:Fm):x.wt≤5*(1+x.bulk):=by
 rw [Fm.wt_eq,Fm.bulk_eq]
 have h:=Fm.wtS_of x.parts fun y hy=>Fm.wt_bulk y
 have h0:=Tm.wtS_bulk x.atom.args
 have q1:=Tm.bulk_eq x.atom
 omega
termination_by SizeOf.sizeOf x
decreasing_by exact Fm.lt_of_mem hy
theorem Fm.wtS_bulk (xs:List Fm):Fm.wtS xs≤5*(xs.length+Fm.sumB xs):=Fm.wtS_of xs fun x _=>Fm.wt_bulk x
theorem Fm.length_wt:∀ xs:List Fm,xs.length≤Fm.wtS xs
 | []=>zR _
 | x :: xs=>by
  have:=Fm.length_wt xs
  have:=Fm.wt_eq x
  rw [Fm.wtS]; simp only [zI]; omega
def E0:SC:=(.seq (.reg [⟨some 4,none,.mv (.c (.int .i64 0))⟩]) (.seq (.seq (.reg [⟨some 5,none,.mv (.c (.int .i64 0))⟩]) (.block 0 (.loop [1,1,0,0,0,1,0,0,0,0,0,0,0,0,0,0,0,0,0,0,0,0,0,0,0,0,0,0,0,0,0,0,0,0,0,0,0,0,0,0,0,0,0,0,0,0,0,0,0,0,0,0] (.seq (.seq (.reg [⟨some 6,none,.mv (.t 5)⟩,⟨some 7,none,.mv (.t 0)⟩,⟨some 8,none,.len false (.t 7)⟩,⟨some 9,none,.bin .lss false (.t 6) (.t 8)⟩]) (.cond (.t 9) .skip (.exit 0))) (.seq (.block 1 (.seq (.reg [⟨some 12,none,.mv (.t 0)⟩,⟨some 13,none,.mv (.t 5)⟩,⟨some 14,none,.mv (.t 1)⟩,⟨some 15,none,.iaddr 5 (.t 12) (.t 13)⟩,⟨some 16,none,.faddr 0 (.t 15)⟩,⟨none,none,(.store 1 (.t 16) (.t 14))⟩]) (.seq (.reg [⟨some 17,none,.mv (.t 1)⟩,⟨some 18,none,.bin .add false (.t 17) (.c (.int .i64 1))⟩,⟨some 1,none,.mv (.t 18)⟩]) (.seq (.reg [⟨some 19,none,.mv (.t 0)⟩,⟨some 20,none,.mv (.t 5)⟩,⟨some 21,none,.mv (.t 1)⟩,⟨some 22,none,.call 72 [(.t 21)]⟩,⟨some 23,none,.iaddr 5 (.t 19) (.t 20)⟩,⟨some 24,none,.faddr 1 (.t 23)⟩,⟨some 25,none,.faddr 0 (.t 24)⟩,⟨none,none,(.store 1 (.t 25) (.t 22))⟩]) (.seq (.reg [⟨some 26,none,.mv (.t 1)⟩,⟨some 27,none,.bin .add false (.t 26) (.c (.int .i64 1))⟩,⟨some 1,none,.mv (.t 27)⟩]) (.seq (.reg [⟨some 28,none,.mv (.t 0)⟩,⟨some 29,none,.mv (.t 5)⟩,⟨some 30,none,.iaddr 5 (.t 28) (.t 29)⟩,⟨some 31,none,.faddr 1 (.t 30)⟩,⟨some 32,none,.faddr 1 (.t 31)⟩,⟨some 33,none,.load false 1 (.t 32)⟩,⟨some 34,none,.mv (.t 1)⟩,⟨some 35,none,.call 74 [(.t 33),(.t 34)]⟩,⟨some 1,none,.mv (.t 35)⟩]) (.seq (.reg [⟨some 36,none,.mv (.t 0)⟩,⟨some 37,none,.mv (.t 5)⟩,⟨some 38,none,.mv (.t 1)⟩,⟨some 39,none,.call 72 [(.t 38)]⟩,⟨some 40,none,.iaddr 5 (.t 36) (.t 37)⟩,⟨some 41,none,.faddr 3 (.t 40)⟩,⟨none,none,(.store 1 (.t 41) (.t 39))⟩]) (.seq (.reg [⟨some 42,none,.mv (.t 1)⟩,⟨some 43,none,.bin .add false (.t 42) (.c (.int .i64 1))⟩,⟨some 1,none,.mv (.t 43)⟩]) (.reg [⟨some 44,none,.mv (.t 0)⟩,⟨some 45,none,.mv (.t 5)⟩,⟨some 46,none,.iaddr 5 (.t 44) (.t 45)⟩,⟨some 47,none,.faddr 4 (.t 46)⟩,⟨some 48,none,.load false 1 (.t 47)⟩,⟨some 49,none,.mv (.t 1)⟩,⟨some 50,none,.call 47 [(.t 48),(.t 49)]⟩,⟨some 1,none,.mv (.t 50)⟩]))))))))) (.reg [⟨some 10,none,.mv (.t 5)⟩,⟨some 11,none,.bin .add false (.t 10) (.c (.int .i64 1))⟩,⟨some 5,none,.mv (.t 11)⟩])))))) (.seq (.reg [⟨some 51,none,.mv (.t 1)⟩,⟨some 4,none,.mv (.t 51)⟩]) .ret)))
theorem IK:codeOf Tryz.prog 47=some ⟨52,E0,[(.tmp 4)]⟩:=by kernel_rfl
theorem CR:modes 47=⟨[true],.asis,none,true⟩:=by unfold modes; rfl
abbrev D1 (xs:List Fm):Prop:=∀ (k:Int) (ob:List Ob),1≤k→k+Fm.wtS xs≤1099511627776→toTree ob=[.tree (xs.map Fm.o) []]→E 47 [.ref 0,.int .i64 k] ob=some (.int .i64 (Fm.mkS xs k).2,[.tree ((Fm.mkS xs k).1.map Fm.o) []])
theorem Fz (xs:List Fm) (ih:∀ x∈xs,D1 x.parts):D1 xs:=by
 intro k0 ob h1 h2 hob
 have hlen:ob.length=1:=by rw [←EJ,hob]; rfl
 have hL:=Fm.length_wt xs
 refine Ai IK CR (of_decide_eq_true rfl) ?_
 simp (disch:=omega) only [E0,go_sem,Ab,hob,hlen]
 refine go_loop (α:=Int × (Int) × (List Fm)) (fun a=>⟨slots 52 0 [(0,.ref 0),(1,.int .i64 (a.2.1)),(5,.int .i64 (a.1))],[.tree (((a.2.2)++xs.drop (a.1).toNat).map Fm.o) []]⟩) (fun a=>∃ k:Nat,a.1=k∧k≤(xs).length∧(a.2.2).length=k∧1≤(a.2.1)∧(a.2.1)+Fm.wtS (xs.drop k)=k0+Fm.wtS xs∧Fm.mkS xs k0=((a.2.2)++(Fm.mkS (xs.drop k) (a.2.1)).1,(Fm.mkS (xs.drop k) (a.2.1)).2)) (fun a=>(xs).length-(a.1).toNat) (0,k0,[]) ⟨0,rfl,zK _,rfl,h1,by rw [zG],by simp⟩ (by simp (disch:=omega) only [go_sem,Ab,yD]) ?_
 rintro ⟨i,kk,dn⟩ ⟨k,hi,hk,hR⟩
 dsimp only at hi hR
 have hni:i.toNat=k:=by omega
 have hni1:(i+1).toNat=k+1:=by omega
 rcases zF k (xs).length with hlt | hge
 ·obtain ⟨hd,hk1,hkn,hm⟩:=hR
  have hdr:xs.drop k=xs[k] :: xs.drop (k+1):=zB hlt
  have hel:(dn++xs.drop k).length=xs.length:=by simp; omega
  have hg:(yX Fm.o (dn++xs.drop k))[k]?=some [.int xs[k].op,.str xs[k].atom.name,.ow (xs[k].atom.args.map Tm.o),.str xs[k].var,.ow (xs[k].parts.map Fm.o)]:=by
   rw [←Fm.o_eq,hdr,yC,yE (by omega),hd,Nat.sub_self]; rfl
  rw [hdr,Fm.wtS] at hkn
  rw [hdr,Fm.mkS] at hm
  have hn1:=Fm.wt_eq xs[k]
  have e2:=Tm.mkS_end xs[k].atom.args ((kk+1+1))
  have e4:=Fm.mkS_end xs[k].parts (((Tm.mkS xs[k].atom.args (kk+1+1)).2+1))
  have t0:=Dk (k:=(kk+1)) (by omega) (by omega)
  have c64:=HY xs[k].atom.args ((kk+1+1)) [.tree (xs[k].atom.args.map Tm.o) []] (by omega) (by omega) rfl
  have t187:=Dk (k:=(Tm.mkS xs[k].atom.args (kk+1+1)).2) (by omega) (by omega)
  have c284:=ih xs[k] (zH hlt) (((Tm.mkS xs[k].atom.args (kk+1+1)).2+1)) [.tree (xs[k].parts.map Fm.o) []] (by omega) (by omega) rfl
  have hs:=HF Fm.o dn (xs.drop (k+1)) xs[k] (xs[k].mk1 kk).1 hd
  rw [Fm.mk1_o,← hdr] at hs
  have hgs:∀ a,((yX Fm.o (dn++xs.drop k)).set k a)[k]?=some a:=fun a=>yJ (by rw [zW,hel]; exact hlt)
  have he:=Fm.mk1_end xs[k] kk
  have three:∀ z:Int,dec ((3:Int)=0)=false:=fun _=>An (by omega)
  simp (disch:=omega) only [go_sem,Ab,hni,hel,hg,t0,c64,Ca,t187,c284,CR,Cq,hgs,yU,List.set_set,hs,three 0]
  refine ⟨(i+1,(xs[k].mk1 kk).2,dn++[(xs[k].mk1 kk).1]),⟨k+1,by dsimp only; omega,hlt,by dsimp only; simp [hd],by dsimp only; omega,by dsimp only; omega,by rw [hm]; simp⟩,by dsimp only; omega,?_⟩
  dsimp only
  rw [hni1,Fm.mk1_eq]
  refine ⟨⟨?_,rfl⟩,rfl⟩
  first | rfl | omega
 ·obtain ⟨hd,hk1,hkn,hm⟩:=hR
  have hdr:xs.drop k=[]:=zE hge
  rw [hdr,Fm.mkS] at hm
  rw [hm]
  simp (disch:=omega) only [go_sem,Ab,hni,hdr,zV]
theorem GV (x:Fm):D1 x.parts:=Fz x.parts fun y hy=>GV y
termination_by SizeOf.sizeOf x
decreasing_by exact Fm.lt_of_mem hy
theorem Of (xs:List Fm):D1 xs:=Fz xs fun y _=>GV y
end Go.Proofs.YtkjpmfmjebkkiaaGreat
