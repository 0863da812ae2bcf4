/-
  Texts of this claim, one behind the other, each built on those ahead of it. No condition.
-/
import Derived.Test.YtalflgegedmmkaaGreatK33b
import Derived.Test.YtalflgegedmmkaaGreatK33c
import Derived.ProofKit
import Derived.Deep.Slices
import Derived.Deep.Fields
import Derived.ChangeSame
import Derived.OpenShut
import Derived.ShutString
import Derived.ChangeOld
set_option maxHeartbeats 16000000
open List renaming eq_nil_or_concat → zA, drop_eq_getElem_cons → zC, drop_eq_nil_of_le → zD, map_cons → zE, map_nil → zG, length_nil → zH, length_append → zI, length_map → zJ, length_cons → zK, drop_zero → zL, getElem_mem → zN, map_append → zO, map_map → zP, getElem?_eq_getElem → zQ, length_drop → zS, any_eq_true → zT, length_set → zU, mem_append → zV, foldl_cons → zW, take_of_length_le → zX, any_eq_false → zY, all_eq_true → zZ, cons_append → z7, range → z8, all_map → yB, append_assoc → yD, filter_cons → yF, mem_map → yI, filter_nil → yJ, mem_filter → yL
open Bool renaming and_eq_true → zB, not_eq_true' → zR, and_self → yE, false_and → yN
open Nat renaming lt_or_ge → zF, zero_le → zM, le_refl → yA, zero_add → yH
open Int renaming toNat_zero → yC
open Option renaming getD_none → yG
open Option.some renaming inj → yK
open List.cons renaming injEq → yM
set_option maxRecDepth 100000
set_option linter.unusedSimpArgs false
set_option linter.unusedVariables false
set_option linter.unusedSectionVars false
namespace Go.Proofs.YtalflgegedmmkaaGreat
open Go.RowKit
def D7:SC:=(.seq (.reg [⟨some 3,none,.boxv 26 1 (.t 0)⟩,⟨some 5,none,.boxv 31 2 (.t 2)⟩,⟨some 6,none,.alloc 26 [.nil]⟩]) (.seq (.seq (.reg [⟨some 9,none,.faddr 0 (.t 5)⟩,⟨some 10,none,.load false 1 (.t 9)⟩,⟨some 11,none,.mv (.t 1)⟩,⟨some 12,none,.bin .eql false (.t 10) (.t 11)⟩]) (.cond (.t 12) (.seq (.reg [⟨some 13,none,.load true 1 (.t 3)⟩,⟨none,none,(.store 1 (.t 6) (.t 13))⟩]) .ret) .skip)) (.seq (.reg [⟨some 7,none,.mv (.c (.int .i64 0))⟩]) (.seq (.block 0 (.loop [0,1,0,1,0,1,1,1,0,0,0,0,0,0,0,0,0,0,0,0,0,0,0,0,0,0,0,0,0,0,0,0,0,0,0,0,0,0,0,0,0,0,0,0,0,0,0,0,0,0,0] (.seq (.seq (.reg [⟨some 14,none,.mv (.t 7)⟩,⟨some 15,none,.faddr 0 (.t 3)⟩,⟨some 16,none,.load false 1 (.t 15)⟩,⟨some 17,none,.len false (.t 16)⟩,⟨some 18,none,.bin .lss false (.t 14) (.t 17)⟩,⟨some 19,none,.mv (.t 18)⟩,⟨(some 20),(some (19,true)),(.faddr 0 (.t 3))⟩,⟨(some 21),(some (19,true)),(.load false 1 (.t 20))⟩,⟨(some 22),(some (19,true)),(.mv (.t 7))⟩,⟨(some 23),(some (19,true)),(.iaddr 3 (.t 21) (.t 22))⟩,⟨(some 24),(some (19,true)),(.faddr 0 (.t 23))⟩,⟨(some 25),(some (19,true)),(.load false 1 (.t 24))⟩,⟨(some 26),(some (19,true)),(.mv (.t 1))⟩,⟨(some 27),(some (19,true)),(.bin .lss false (.t 25) (.t 26))⟩,⟨some 28,none,.pick (.t 19) (.t 27) (.c (.bool false))⟩]) (.cond (.t 28) .skip (.exit 0))) (.block 1 (.reg [⟨some 29,none,.mv (.t 7)⟩,⟨some 30,none,.bin .add false (.t 29) (.c (.int .i64 1))⟩,⟨some 7,none,.mv (.t 30)⟩]))))) (.seq (.reg [⟨(some 31),none,(.mkrow 55 3 [(.str ⟨#[]⟩),(.str ⟨#[]⟩),.nil] 0 [])⟩,⟨some 32,none,.faddr 0 (.t 3)⟩,⟨some 33,none,.load false 1 (.t 32)⟩,⟨some 34,none,.mv (.t 7)⟩,⟨some 35,none,.slice false 3 (.t 33) none (some (.t 34))⟩,⟨(some 36),none,(.append 55 3 56 [(.str ⟨#[]⟩),(.str ⟨#[]⟩),.nil] (.t 31) (.t 35))⟩,⟨some 8,none,.mv (.t 36)⟩]) (.seq (.reg [⟨some 37,none,.mv (.t 8)⟩,⟨some 38,none,.mv (.t 1)⟩,⟨some 39,none,.load true 2 (.t 5)⟩,⟨some 40,none,.call 71 [(.t 39)]⟩,⟨(some 41),none,(.build [(.str ⟨#[]⟩),(.str ⟨#[]⟩),.nil] [(0,(1,(.t 38))),(1,(2,(.t 40)))])⟩,⟨(some 42),none,(.mkrow 55 3 [(.str ⟨#[]⟩),(.str ⟨#[]⟩),.nil] 1 [(0,(.t 41))])⟩,⟨(some 43),none,(.append 55 3 56 [(.str ⟨#[]⟩),(.str ⟨#[]⟩),.nil] (.t 37) (.t 42))⟩,⟨some 8,none,.mv (.t 43)⟩]) (.seq (.reg [⟨some 44,none,.mv (.t 8)⟩,⟨some 45,none,.faddr 0 (.t 3)⟩,⟨some 46,none,.load false 1 (.t 45)⟩,⟨some 47,none,.mv (.t 7)⟩,⟨some 48,none,.slice false 3 (.t 46) (some (.t 47)) none⟩,⟨(some 49),none,(.append 55 3 56 [(.str ⟨#[]⟩),(.str ⟨#[]⟩),.nil] (.t 44) (.t 48))⟩,⟨some 50,none,.build [.nil] [(0,(1,(.t 49)))]⟩,⟨none,none,(.store 1 (.t 6) (.t 50))⟩]) .ret)))))))
theorem Ew:A1 Tryz.prog 45=some ⟨51,D7,[(.cell 6 true 1)]⟩:=by kernel_rfl
theorem Af:modes 45=⟨[true],.half [some (55,3)],none,false⟩:=by unfold modes; rfl
def FL:SC:=(.seq (.reg [⟨some 2,none,.boxv 26 1 (.t 0)⟩,⟨some 3,none,.boxv 26 1 (.t 1)⟩,⟨some 4,none,.alloc 26 [.nil]⟩]) (.seq (.reg [⟨some 8,none,.build [.nil] []⟩,⟨some 5,none,.alloc 26 [.nil]⟩,⟨none,none,(.store 1 (.t 5) (.t 8))⟩]) (.seq (.seq (.reg [⟨some 6,none,.mv (.c (.int .i64 0))⟩]) (.block 0 (.loop [0,0,1,1,1,1,1,0,0,0,0,0,0,0,0,0,0,0,0,0,0,0,0,0,0,0,0,0,0,0,0,0,0,0,0,0,0,0,0,0,0,0,0,0,0,0,0,0,0,0,0,0,0,0,0,0,0,0,0,0,0,0,0] (.seq (.seq (.reg [⟨some 9,none,.mv (.t 6)⟩,⟨some 10,none,.faddr 0 (.t 2)⟩,⟨some 11,none,.load false 1 (.t 10)⟩,⟨some 12,none,.len false (.t 11)⟩,⟨some 13,none,.bin .lss false (.t 9) (.t 12)⟩]) (.cond (.t 13) .skip (.exit 0))) (.seq (.block 1 (.dreg [[],[],[1],[],[2,1,3],[4,2,1,3],[5,4,2,1,3],[],[],[8],[],[9,8,10],[11,9,8,10],[12,11,9,8,10],[7,13,12,11,9,8,10],[0,6,5,4,2,1,3,14,7,13,12,11,9,8,10],[15,0,6,5,4,2,1,3,14,7,13,12,11,9,8,10]] [⟨some 16,none,.load true 1 (.t 5)⟩,⟨some 17,none,.faddr 0 (.t 2)⟩,⟨some 18,none,.load false 1 (.t 17)⟩,⟨some 19,none,.mv (.t 6)⟩,⟨some 20,none,.iaddr 3 (.t 18) (.t 19)⟩,⟨some 21,none,.faddr 0 (.t 20)⟩,⟨some 22,none,.load false 1 (.t 21)⟩,⟨some 23,none,.load true 1 (.t 3)⟩,⟨some 24,none,.faddr 0 (.t 2)⟩,⟨some 25,none,.load false 1 (.t 24)⟩,⟨some 26,none,.mv (.t 6)⟩,⟨some 27,none,.iaddr 3 (.t 25) (.t 26)⟩,⟨some 28,none,.faddr 1 (.t 27)⟩,⟨some 29,none,.load true 2 (.t 28)⟩,⟨some 30,none,.call 46 [(.t 23),(.t 29)]⟩,⟨some 31,none,.call 45 [(.t 16),(.t 22),(.t 30)]⟩,⟨none,none,(.store 1 (.t 5) (.t 31))⟩])) (.reg [⟨some 14,none,.mv (.t 6)⟩,⟨some 15,none,.bin .add false (.t 14) (.c (.int .i64 1))⟩,⟨some 6,none,.mv (.t 15)⟩])))))) (.seq (.seq (.reg [⟨some 7,none,.mv (.c (.int .i64 0))⟩]) (.block 2 (.loop [0,0,1,1,1,1,0,1,0,0,0,0,0,0,0,0,0,0,0,0,0,0,0,0,0,0,0,0,0,0,0,0,0,0,0,0,0,0,0,0,0,0,0,0,0,0,0,0,0,0,0,0,0,0,0,0,0,0,0,0,0,0,0] (.seq (.seq (.reg [⟨some 32,none,.mv (.t 7)⟩,⟨some 33,none,.faddr 0 (.t 3)⟩,⟨some 34,none,.load false 1 (.t 33)⟩,⟨some 35,none,.len false (.t 34)⟩,⟨some 36,none,.bin .lss false (.t 32) (.t 35)⟩]) (.cond (.t 36) .skip (.exit 2))) (.seq (.block 3 (.seq (.dreg [[],[],[1],[],[2,1,3],[4,2,1,3],[5,4,2,1,3],[0,6,5,4,2,1,3],[7,0,6,5,4,2,1,3]] [⟨some 39,none,.load true 1 (.t 2)⟩,⟨some 40,none,.faddr 0 (.t 3)⟩,⟨some 41,none,.load false 1 (.t 40)⟩,⟨some 42,none,.mv (.t 7)⟩,⟨some 43,none,.iaddr 3 (.t 41) (.t 42)⟩,⟨some 44,none,.faddr 0 (.t 43)⟩,⟨some 45,none,.load false 1 (.t 44)⟩,⟨some 46,none,.call 47 [(.t 39),(.t 45)]⟩,⟨some 47,none,.bin .lss false (.t 46) (.c (.int .i64 0))⟩]) (.cond (.t 47) (.dreg [[],[],[1],[],[2,1,3],[4,2,1,3],[5,4,2,1,3],[],[7],[],[8,7,9],[10,8,7,9],[11,10,8,7,9],[0,6,5,4,2,1,3,12,11,10,8,7,9],[13,0,6,5,4,2,1,3,12,11,10,8,7,9]] [⟨some 48,none,.load true 1 (.t 5)⟩,⟨some 49,none,.faddr 0 (.t 3)⟩,⟨some 50,none,.load false 1 (.t 49)⟩,⟨some 51,none,.mv (.t 7)⟩,⟨some 52,none,.iaddr 3 (.t 50) (.t 51)⟩,⟨some 53,none,.faddr 0 (.t 52)⟩,⟨some 54,none,.load false 1 (.t 53)⟩,⟨some 55,none,.faddr 0 (.t 3)⟩,⟨some 56,none,.load false 1 (.t 55)⟩,⟨some 57,none,.mv (.t 7)⟩,⟨some 58,none,.iaddr 3 (.t 56) (.t 57)⟩,⟨some 59,none,.faddr 1 (.t 58)⟩,⟨some 60,none,.load true 2 (.t 59)⟩,⟨some 61,none,.call 45 [(.t 48),(.t 54),(.t 60)]⟩,⟨none,none,(.store 1 (.t 5) (.t 61))⟩]) .skip))) (.reg [⟨some 37,none,.mv (.t 7)⟩,⟨some 38,none,.bin .add false (.t 37) (.c (.int .i64 1))⟩,⟨some 7,none,.mv (.t 38)⟩])))))) (.seq (.reg [⟨some 62,none,.load true 1 (.t 5)⟩,⟨none,none,(.store 1 (.t 4) (.t 62))⟩]) .ret)))))
theorem Jb:A1 Tryz.prog 22=some ⟨63,FL,[(.cell 4 true 1)]⟩:=by kernel_rfl
theorem DS:modes 22=⟨[],.frz,none,false⟩:=by unfold modes; rfl
def AX:SC:=(.seq (.reg [⟨some 2,none,.boxv 26 1 (.t 0)⟩,⟨some 3,none,.boxv 26 1 (.t 1)⟩,⟨some 4,none,.alloc 26 [.nil]⟩,⟨some 5,none,.mv (.c (.bool false))⟩]) (.seq (.seq (.reg [⟨some 7,none,.load true 1 (.t 2)⟩,⟨some 8,none,.call 21 [(.t 7)]⟩,⟨some 9,none,.un .not (.t 8)⟩,⟨some 10,none,.mv (.t 9)⟩,⟨(some 11),(some (10,false)),(.load true 1 (.t 3))⟩,⟨(some 12),(some (10,false)),(.call 21 [(.t 11)])⟩,⟨(some 13),(some (10,false)),(.un .not (.t 12))⟩,⟨some 14,none,.pick (.t 10) (.c (.bool true)) (.t 13)⟩]) (.cond (.t 14) (.seq (.reg [⟨some 15,none,.build [.nil] []⟩,⟨none,none,(.store 1 (.t 4) (.t 15))⟩,⟨some 5,none,.mv (.c (.bool false))⟩]) .ret) .skip)) (.seq (.reg [⟨some 16,none,.load true 1 (.t 2)⟩,⟨some 17,none,.load true 1 (.t 3)⟩,⟨some 18,none,.call 22 [(.t 16),(.t 17)]⟩,⟨some 6,none,.alloc 26 [.nil]⟩,⟨none,none,(.store 1 (.t 6) (.t 18))⟩]) (.seq (.seq (.reg [⟨some 19,none,.load true 1 (.t 6)⟩,⟨some 20,none,.call 21 [(.t 19)]⟩,⟨some 21,none,.un .not (.t 20)⟩]) (.cond (.t 21) (.seq (.reg [⟨some 22,none,.build [.nil] []⟩,⟨none,none,(.store 1 (.t 4) (.t 22))⟩,⟨some 5,none,.mv (.c (.bool false))⟩]) .ret) .skip)) (.seq (.reg [⟨some 23,none,.load true 1 (.t 6)⟩,⟨none,none,(.store 1 (.t 4) (.t 23))⟩,⟨some 5,none,.mv (.c (.bool true))⟩]) .ret)))))
theorem Bv:A1 Tryz.prog 9=some ⟨24,AX,[(.cell 4 true 1),(.tmp 5)]⟩:=by kernel_rfl
theorem Al:modes 9=⟨[],.frz,none,false⟩:=by unfold modes; rfl
def AY:SC:=(.seq (.reg [⟨some 2,none,.boxv 26 1 (.t 0)⟩,⟨some 3,none,.boxv 26 1 (.t 1)⟩,⟨some 4,none,.alloc 26 [.nil]⟩,⟨some 5,none,.mv (.c (.bool false))⟩]) (.seq (.seq (.reg [⟨some 6,none,.load true 1 (.t 2)⟩,⟨some 7,none,.call 19 [(.t 6)]⟩,⟨some 8,none,.un .not (.t 7)⟩,⟨some 9,none,.mv (.t 8)⟩,⟨(some 10),(some (9,false)),(.load true 1 (.t 3))⟩,⟨(some 11),(some (9,false)),(.call 19 [(.t 10)])⟩,⟨(some 12),(some (9,false)),(.un .not (.t 11))⟩,⟨some 13,none,.pick (.t 9) (.c (.bool true)) (.t 12)⟩]) (.cond (.t 13) (.seq (.reg [⟨some 14,none,.build [.nil] []⟩,⟨none,none,(.store 1 (.t 4) (.t 14))⟩,⟨some 5,none,.mv (.c (.bool false))⟩]) .ret) .skip)) (.seq (.reg [⟨some 15,none,.load true 1 (.t 2)⟩,⟨some 16,none,.load true 1 (.t 3)⟩,⟨some 17,none,.call 20 [(.t 15),(.t 16)]⟩,⟨some 18,none,.ext (.t 17) 0⟩,⟨some 19,none,.ext (.t 17) 1⟩,⟨none,none,(.store 1 (.t 4) (.t 18))⟩,⟨some 5,none,.mv (.t 19)⟩]) .ret)))
theorem Bw:A1 Tryz.prog 8=some ⟨20,AY,[(.cell 4 true 1),(.tmp 5)]⟩:=by kernel_rfl
theorem Am:modes 8=⟨[],.own [some (55,3),none],none,false⟩:=by unfold modes; rfl
theorem Bd.PM (xs:List Bd) (k:Nat):((xs.map Bd.d).take k).map (fun x=>x.map D.ot)=(xs.take k).map fun b=>b.d.map D.ot:=by
 rw [←List.map_take,zP]; rfl
theorem Bd.PN (xs:List Bd) (k:Nat):((xs.map Bd.d).drop k).map (fun x=>x.map D.ot)=(xs.drop k).map fun b=>b.d.map D.ot:=by
 rw [←List.map_drop,zP]; rfl
theorem Bd.al3 (xs:List Bd):((xs.map fun b=>b.d.map D.ot).all fun l=>l.length == 3)=true:=by
 rw [yB,zZ]
 intro x _
 show ((x.d.map D.ot).length == 3)=true
 rw [Bd.d_eq]; rfl
theorem Bd.Vw (xs:List Bd):((xs.map Bd.d).all fun l=>l.length == 3)=true:=by
 rw [yB,zZ]
 intro x _
 show (x.d.length == 3)=true
 rw [Bd.d_eq]; rfl
theorem Bd.dfu:∀ xs:List Bd,OT.AB (xs.map fun b=>b.d.map D.ot)=true
 | []=>rfl
 | x :: xs=>by rw [zE,Bd.d_eq]; simp [OT.AB,OT.CJ,OT.full,D.ot,Bd.dfu xs]
theorem Bd.der:∀ xs:List Bd,OT.erss (xs.map fun b=>b.d.map D.ot)=xs.map Bd.d
 | []=>rfl
 | x :: xs=>by rw [zE,zE,Bd.d_eq]; simp [OT.erss,OT.ers,OT.er,D.ot,Bd.der xs]
theorem Bd.dha:∀ xs:List Bd,OT.BX (xs.map fun b=>b.d.map D.ot)=xs.map fun b=>b.d.map D.ot
 | []=>rfl
 | x :: xs=>by rw [zE,Bd.d_eq]; simp only [zE,zG,D.ot,OT.BX,OT.Ho,OT.half,Bd.dha xs]
theorem Mn {xs:List Bd} {n:ByteArray} {k:Nat} (h:k+AI (xs.drop k) n=AI xs n) (hk:k<xs.length):(strLt xs[k].var n=true∧k+1+AI (xs.drop (k+1)) n=AI xs n)∨(strLt xs[k].var n=false∧k=AI xs n):=by
 rw [zC hk,AI] at h
 cases hq:strLt xs[k].var n with
 | true=>rw [hq] at h; simp only [cond_true,if_true] at h; exact .inl ⟨rfl,by omega⟩
 | false=>rw [hq] at h; simp only [cond_false,Bool.false_eq_true,if_false] at h; exact .inr ⟨rfl,by omega⟩
theorem TJ (x:Sb) (n:ByteArray) (t:Tm) (hl:x.binds.length≤1048576) (ht:t.nodes≤1099511627776):E 45 [x.sv,.str n,t.sv] []=bif dec (t.name=n) then some (x.sv,[]) else some (.agg [.ref 0],[.row 55 3 ((Cs x.binds ⟨n,t⟩).map fun b=>b.d.map D.ot)]):=by
 have ho:=JH t ht
 have e1:=Bd.PM x.binds (AI x.binds n)
 have e2:=Bd.PN x.binds (AI x.binds n)
 have e3:=Bd.al3 (x.binds.take (AI x.binds n))
 have e4:=Bd.al3 (x.binds.drop (AI x.binds n))
 have e5:=Bd.Vw x.binds
 have l1:=JJ n x.binds
 have e6:(x.binds.map Bd.d).take x.binds.length=x.binds.map Bd.d:=zX (by simp)
 have e7:(x.binds.take (AI x.binds n)).length=AI x.binds n:=by rw [List.length_take]; omega
 have e8:(x.binds.drop (AI x.binds n)).length=x.binds.length-AI x.binds n:=zS
 have hin:=KV ⟨n,t⟩ x.binds
 have hx2:(x.binds.take (AI x.binds n)).map (fun b=>b.d.map D.ot)++[[OT.str n,.str t.name,.sh (t.args.map Tm.d)]]++(x.binds.drop (AI x.binds n)).map (fun b=>b.d.map D.ot)=(Cs x.binds ⟨n,t⟩).map fun b=>b.d.map D.ot:=by
  rw [hin]
  simp only [zO,zE,yD,z7,List.nil_append]
  rw [Bd.d_eq]; rfl
 have hfu:=Bd.dfu (Cs x.binds ⟨n,t⟩)
 have her:=Bd.der (Cs x.binds ⟨n,t⟩)
 have hsv:(Sb.mk (Cs x.binds ⟨n,t⟩)).sv=.agg [.arr ((Cs x.binds ⟨n,t⟩).map Bd.d)]:=rfl
 cases hq:dec (t.name=n) with
 | true =>
  simp only [hq,cond_true]
  refine Ab Ew Af (of_decide_eq_true rfl) ?_
  simp (disch:=omega) only [D7,go_sem,Aa,hq]
  try rfl
 | false =>
  simp only [hq,cond_false]
  refine Ab Ew Af (of_decide_eq_true rfl) ?_
  simp (disch:=omega) only [D7,go_sem,Aa,hq]
  refine go_loop (α:=Int) (fun a=>⟨slots 51 0 [(1,.str n),(3,.ptr 0 0),(5,.ptr 1 0),(6,.ptr 2 0),(7,.int .i64 a)],[.box 26 [.arr (x.binds.map Bd.d)],.box 31 [.str t.name,.arr (t.args.map Tm.d)],.box 26 [.nil]]⟩) (fun a=>∃ k:Nat,a=k∧k≤(x.binds).length∧k+AI (x.binds.drop k) n=AI x.binds n) (fun a=>(x.binds).length-(a).toNat) 0 ⟨0,rfl,zM _,by rw [zL,yH]⟩ (by simp (disch:=omega) only [go_sem,Aa]) ?_
  rintro i ⟨k,hi,hk,hR⟩
  have hni:i.toNat=k:=by omega
  have hni1:(i+1).toNat=k+1:=by omega
  rcases zF k (x.binds).length with hlt | hge
  ·have hg:=get_at Bd.d hlt
   rw [Bd.d_eq] at hg
   skip
   rcases Mn hR hlt with ⟨q,hR'⟩ | ⟨q,hk'⟩
   ·simp (disch:=omega) only [go_sem,Aa,hni,hg,q]
    exact ⟨i+1,⟨k+1,by omega,hlt,hR'⟩,by omega,by first | trivial | rfl⟩
   ·subst hk'
    simp (disch:=omega) only [go_sem,Aa,hni,hg,q,ho,e1,e2,e3,e4,e5,e6,e7,e8,hx2,hfu,her,zI,yC,Ce,Bd.dha]
  ·obtain rfl:k=x.binds.length:=by omega
   have hk':x.binds.length=AI x.binds n:=by rw [←hR,zD (yA _)]; simp [AI]
   rw [hk'] at hni
   simp (disch:=omega) only [go_sem,Aa,hni,ho,e1,e2,e3,e4,e5,e6,e7,e8,hx2,hfu,her,zI,yC,Ce,Bd.dha]
theorem Sd (x:Sb) (n:ByteArray) (t:Tm) (hl:x.binds.length≤1048576) (ht:t.nodes≤1099511627776):E 45 [.agg [.ref 0],.str n,t.sv] [.row 55 3 (x.binds.map fun b=>b.d.map D.ot)]=bif dec (t.name=n) then some (.agg [.ref 0],[.row 55 3 (x.binds.map fun b=>b.d.map D.ot)]) else some (.agg [.ref 1],[.gone,.row 55 3 ((Cs x.binds ⟨n,t⟩).map fun b=>b.d.map D.ot)]):=by
 have ho:=JH t ht
 have e1:=Bd.PM x.binds (AI x.binds n)
 have e2:=Bd.PN x.binds (AI x.binds n)
 have e3:=Bd.al3 (x.binds.take (AI x.binds n))
 have e4:=Bd.al3 (x.binds.drop (AI x.binds n))
 have e5:=Bd.Vw x.binds
 have l1:=JJ n x.binds
 have e6:(x.binds.map Bd.d).take x.binds.length=x.binds.map Bd.d:=zX (by simp)
 have e7:(x.binds.take (AI x.binds n)).length=AI x.binds n:=by rw [List.length_take]; omega
 have e8:(x.binds.drop (AI x.binds n)).length=x.binds.length-AI x.binds n:=zS
 have hin:=KV ⟨n,t⟩ x.binds
 have hx2:(x.binds.take (AI x.binds n)).map (fun b=>b.d.map D.ot)++[[OT.str n,.str t.name,.sh (t.args.map Tm.d)]]++(x.binds.drop (AI x.binds n)).map (fun b=>b.d.map D.ot)=(Cs x.binds ⟨n,t⟩).map fun b=>b.d.map D.ot:=by
  rw [hin]
  simp only [zO,zE,yD,z7,List.nil_append]
  rw [Bd.d_eq]; rfl
 have hfu:=Bd.dfu (Cs x.binds ⟨n,t⟩)
 have her:=Bd.der (Cs x.binds ⟨n,t⟩)
 have hsv:(Sb.mk (Cs x.binds ⟨n,t⟩)).sv=.agg [.arr ((Cs x.binds ⟨n,t⟩).map Bd.d)]:=rfl
 cases hq:dec (t.name=n) with
 | true =>
  simp only [hq,cond_true]
  refine Ab Ew Af (of_decide_eq_true rfl) ?_
  simp (disch:=omega) only [D7,go_sem,Aa,hq]
  try rfl
 | false =>
  simp only [hq,cond_false]
  refine Ab Ew Af (of_decide_eq_true rfl) ?_
  simp (disch:=omega) only [D7,go_sem,Aa,hq]
  refine go_loop (α:=Int) (fun a=>⟨slots 51 0 [(1,.str n),(3,.ptr 1 0),(5,.ptr 2 0),(6,.ptr 3 0),(7,.int .i64 a)],[.row 55 3 (x.binds.map fun b=>b.d.map D.ot),.box 26 [.ref 0],.box 31 [.str t.name,.arr (t.args.map Tm.d)],.box 26 [.nil]]⟩) (fun a=>∃ k:Nat,a=k∧k≤(x.binds).length∧k+AI (x.binds.drop k) n=AI x.binds n) (fun a=>(x.binds).length-(a).toNat) 0 ⟨0,rfl,zM _,by rw [zL,yH]⟩ (by simp (disch:=omega) only [go_sem,Aa]) ?_
  rintro i ⟨k,hi,hk,hR⟩
  have hni:i.toNat=k:=by omega
  have hni1:(i+1).toNat=k+1:=by omega
  rcases zF k (x.binds).length with hlt | hge
  ·have hg:=get_at (fun b:Bd=>b.d.map D.ot) hlt
   rw [Bd.d_eq] at hg
   simp only [zE,zG,D.ot] at hg
   rcases Mn hR hlt with ⟨q,hR'⟩ | ⟨q,hk'⟩
   ·simp (disch:=omega) only [go_sem,Aa,hni,hg,q]
    exact ⟨i+1,⟨k+1,by omega,hlt,hR'⟩,by omega,by first | trivial | rfl⟩
   ·subst hk'
    simp (disch:=omega) only [go_sem,Aa,hni,hg,q,ho,e1,e2,e3,e4,e5,e6,e7,e8,hx2,hfu,her,zI,yC,Ce,Bd.dfu,Bd.der,Bd.dha]
  ·obtain rfl:k=x.binds.length:=by omega
   have hk':x.binds.length=AI x.binds n:=by rw [←hR,zD (yA _)]; simp [AI]
   rw [hk'] at hni
   simp (disch:=omega) only [go_sem,Aa,hni,ho,e1,e2,e3,e4,e5,e6,e7,e8,hx2,hfu,her,zI,yC,Ce,Bd.dfu,Bd.der,Bd.dha]
theorem GI (b:Bd) (ht:b.term.nodes≤1099511627776):E 45 [.agg [.arr []],.str b.var,.agg [.str b.term.name,.arr (b.term.args.map Tm.d)]] []=bif dec (b.term.name=b.var) then some (.agg [.arr []],[]) else some (.agg [.ref 0],[.row 55 3 ([b].map fun b=>b.d.map D.ot)]):=TJ ⟨[]⟩ b.var b.term (zM _) ht
theorem GJ (xs:List Bd) (b:Bd) (hl:xs.length≤1048576) (ht:b.term.nodes≤1099511627776):E 45 [.agg [.ref 0],.str b.var,.agg [.str b.term.name,.arr (b.term.args.map Tm.d)]] [.row 55 3 (xs.map fun b=>b.d.map D.ot)]=bif dec (b.term.name=b.var) then some (.agg [.ref 0],[.row 55 3 (xs.map fun b=>b.d.map D.ot)]) else some (.agg [.ref 1],[.gone,.row 55 3 ((Cs xs b).map fun b=>b.d.map D.ot)]):=Sd ⟨xs⟩ b.var b.term hl ht
theorem FN (b:Bd) (xs:List Bd):(Cs xs b).length=xs.length+1:=by rw [(FJ b xs).length_eq]; rfl
theorem I7 (b:Bd) (xs:List Bd):(Cs xs b=[])=False:=eq_false (fun h=>by have:=FN b xs; rw [h] at this; simp at this)
theorem Oj (s u:Sb) (hs:s.ok=true) (hu:u.ok=true) (hts:s.tame) (htu:u.tame):E 22 [s.sv,u.sv] []=some ((Cx s u).sv,[]):=by
 have hsl:=IZ hs
 have hul:=IZ hu
 have hend:Dh [] (Br s u)=(Cx s u).binds:=QE (I6 (Sb.FH hs) (Sb.FH hu))
 have hsv:(Cx s u).sv=.agg [.arr ((Cx s u).binds.map Bd.d)]:=rfl
 have hnil:(([]:List Bd)=[])=True:=eq_self _
 rw [hsv]
 refine Ab Jb DS (of_decide_eq_true rfl) ?_
 simp (disch:=omega) only [FL,go_sem,Aa]
 refine go_loop (α:=Int × SV × List Bd) (fun a=>⟨slots 63 0 [(2,.ptr 0 0),(3,.ptr 1 0),(4,.ptr 2 0),(5,.ptr 3 0),(6,.int .i64 a.1)],(if a.2.2=[] then [.box 26 [.arr (s.binds.map Bd.d)],.box 26 [.arr (u.binds.map Bd.d)],.box 26 [.nil],.box 26 [a.2.1]] else [.box 26 [.arr (s.binds.map Bd.d)],.box 26 [.arr (u.binds.map Bd.d)],.box 26 [.nil],.box 26 [.ref 4],.row 55 3 (a.2.2.map fun b=>b.d.map D.ot)])⟩) (fun a=>∃ k:Nat,a.1=k∧k≤s.binds.length∧Dh a.2.2 ((s.binds.drop k).filterMap (C6 u))=Dh [] (FK s u)∧a.2.2.length≤k∧(a.2.1=.nil∨a.2.1=.arr [])) (fun a=>s.binds.length-a.1.toNat) (0,.nil,[]) ⟨0,rfl,zM _,by rw [zL]; rfl,yA _,.inl rfl⟩ (by simp (disch:=omega) only [go_sem,Aa,hnil,if_true]) ?_
 rintro ⟨i,y,acc⟩ ⟨k,hi,hk,hR,hal,hy⟩
 dsimp only at hi hR hal hy
 have hni:i.toNat=k:=by omega
 have hni1:(i+1).toNat=k+1:=by omega
 rcases zF k s.binds.length with hlt | hge
 ·have hg:=get_at Bd.d hlt
  rw [Bd.d_eq] at hg
  have hval:=Cm (Sb.GE hs hlt)
  have hc:=QB u hu htu s.binds[k].term (by have:=BR hval; omega)
  have hn9:=Sb.KX hu hval
  rw [zC hlt,List.filterMap_cons] at hR
  have ho:C6 u s.binds[k]=bif dec ((s.binds[k].term.ap u.look).name=s.binds[k].var) then none else some ⟨s.binds[k].var,s.binds[k].term.ap u.look⟩:=rfl
  obtain ⟨t,ht⟩:∃ t,t=s.binds[k].term.ap u.look:=⟨_,rfl⟩
  rw [←ht] at hc hn9 ho
  have hts2:t.sv=.agg [.str t.name,.arr (t.args.map Tm.d)]:=rfl
  rw [hts2] at hc
  have hpn:=GI ⟨s.binds[k].var,t⟩ (by show t.nodes≤_; omega)
  have hpr:=GJ acc ⟨s.binds[k].var,t⟩ (by omega) (by show t.nodes≤_; omega)
  dsimp only at hpn hpr
  cases hq:dec (t.name=s.binds[k].var) with
  | true =>
   rw [hq,cond_true] at ho hpn hpr
   rw [ho] at hR
   rcases zA acc with ha | ⟨ys,z,ha⟩
   ·subst ha
    rcases hy with rfl | rfl
    ·simp (disch:=omega) only [go_sem,Aa,hni,hg,hc,hpn,hnil,if_true,Aj,Af,At]
     exact ⟨(i+1,.arr [],[]),⟨k+1,by dsimp only; omega,hlt,hR,by dsimp only; omega,.inr rfl⟩,by dsimp only; omega,by first | trivial | rfl | exact ⟨rfl,rfl⟩ | simp only [hnil,if_true,and_self]⟩
    ·simp (disch:=omega) only [go_sem,Aa,hni,hg,hc,hpn,hnil,if_true,Aj,Af,At]
     exact ⟨(i+1,.arr [],[]),⟨k+1,by dsimp only; omega,hlt,hR,by dsimp only; omega,.inr rfl⟩,by dsimp only; omega,by first | trivial | rfl | exact ⟨rfl,rfl⟩ | simp only [hnil,if_true,and_self]⟩
   ·have hne:(acc=[])=False:=eq_false (by rw [ha]; simp)
    simp (disch:=omega) only [go_sem,Aa,hni,hg,hc,hpr,hne,if_false,Aj,Af,At]
    exact ⟨(i+1,y,acc),⟨k+1,by dsimp only; omega,hlt,hR,by dsimp only; omega,hy⟩,by dsimp only; omega,by first | trivial | rfl | exact ⟨rfl,rfl⟩ | simp only [hne,if_false,and_self]⟩
  | false =>
   rw [hq,cond_false] at ho hpn hpr
   rw [ho] at hR
   obtain ⟨b,hb⟩:∃ b:Bd,b=⟨s.binds[k].var,t⟩:=⟨_,rfl⟩
   rw [←hb] at hpn hpr hR
   have hR:Dh (Cs acc b) ((s.binds.drop (k+1)).filterMap (C6 u))=Dh [] (FK s u):=hR
   have hl2:=FN b acc
   have hne2:=I7 b acc
   have hnb:([b]=[])=False:=eq_false (by simp)
   rcases zA acc with ha | ⟨ys,z,ha⟩
   ·subst ha
    rcases hy with rfl | rfl
    ·simp (disch:=omega) only [go_sem,Aa,hni,hg,hc,hpn,hnil,if_true,Aj,Af,At]
     exact ⟨(i+1,.nil,[b]),⟨k+1,by dsimp only; omega,hlt,hR,by dsimp only; simp only [zK,zH]; omega,.inl rfl⟩,by dsimp only; omega,by first | trivial | rfl | exact ⟨rfl,rfl⟩ | simp only [hnb,if_false,and_self]⟩
    ·simp (disch:=omega) only [go_sem,Aa,hni,hg,hc,hpn,hnil,if_true,Aj,Af,At]
     exact ⟨(i+1,.arr [],[b]),⟨k+1,by dsimp only; omega,hlt,hR,by dsimp only; simp only [zK,zH]; omega,.inr rfl⟩,by dsimp only; omega,by first | trivial | rfl | exact ⟨rfl,rfl⟩ | simp only [hnb,if_false,and_self]⟩
   ·have hne:(acc=[])=False:=eq_false (by rw [ha]; simp)
    simp (disch:=omega) only [go_sem,Aa,hni,hg,hc,hpr,hne,if_false,Aj,Af,At]
    exact ⟨(i+1,y,Cs acc b),⟨k+1,by dsimp only; omega,hlt,hR,by dsimp only; omega,hy⟩,by dsimp only; omega,by first | trivial | rfl | exact ⟨rfl,rfl⟩ | simp only [hne2,if_false,and_self]⟩
 rw [zD hge,List.filterMap_nil] at hR
 have hR:acc=Dh [] (FK s u):=hR
 have hst:Dh acc ((u.binds.drop 0).filter (fun b=>!BI s.binds b.var))=Dh [] (Br s u):=by rw [zL,hR,← Sa]; rfl
 have hac:acc.length≤12:=by omega
 clear hR
 rcases zA acc with ha | ⟨ys,z,ha⟩
 ·subst ha
  rcases hy with rfl | rfl
  ·simp (disch:=omega) only [go_sem,Aa,hni,hnil,if_true]
   refine go_loop (α:=Int × SV × List Bd) (fun a=>⟨slots 63 0 [(2,.ptr 0 0),(3,.ptr 1 0),(4,.ptr 2 0),(5,.ptr 3 0),(7,.int .i64 a.1)],(if a.2.2=[] then [.box 26 [.arr (s.binds.map Bd.d)],.box 26 [.arr (u.binds.map Bd.d)],.box 26 [.nil],.box 26 [a.2.1]] else [.box 26 [.arr (s.binds.map Bd.d)],.box 26 [.arr (u.binds.map Bd.d)],.box 26 [.nil],.box 26 [.ref 4],.row 55 3 (a.2.2.map fun b=>b.d.map D.ot)])⟩) (fun a=>∃ k:Nat,a.1=k∧k≤u.binds.length∧Dh a.2.2 ((u.binds.drop k).filter (fun b=>!BI s.binds b.var))=Dh [] (Br s u)∧a.2.2.length≤12+k∧(a.2.1=.nil∨a.2.1=.arr [])) (fun a=>u.binds.length-a.1.toNat) (0,.nil,[]) ⟨0,rfl,zM _,hst,by dsimp only; omega,.inl rfl⟩ (by simp (disch:=omega) only [go_sem,Aa,hnil,if_true]) ?_
   rintro ⟨i,y,acc⟩ ⟨k,hi,hk,hR,hal,hy⟩
   dsimp only at hi hR hal hy
   have hni:i.toNat=k:=by omega
   have hni1:(i+1).toNat=k+1:=by omega
   rcases zF k u.binds.length with hlt | hge
   ·have hg:=get_at Bd.d hlt
    rw [Bd.d_eq] at hg
    have hbok:=Sb.GE hu hlt
    have hval:=Cm hbok
    have hf:=Iz s u.binds[k].var (by omega)
    rw [GD (Sb.FH hs)] at hf
    rw [zC hlt,yF] at hR
    cases hh:BI s.binds u.binds[k].var with
    | true =>
     rw [hh,if_pos rfl] at hf
     rw [hh,if_neg (by simp)] at hR
     rcases zA acc with ha | ⟨ys,z,ha⟩
     ·subst ha
      rcases hy with rfl | rfl
      ·simp (disch:=omega) only [go_sem,Aa,hni,hg,hf,hnil,if_true,Aj,Af,At]
       exact ⟨(i+1,.nil,[]),⟨k+1,by dsimp only; omega,hlt,hR,by dsimp only; omega,.inl rfl⟩,by dsimp only; omega,by first | trivial | rfl | exact ⟨rfl,rfl⟩ | simp only [hnil,if_true,and_self]⟩
      ·simp (disch:=omega) only [go_sem,Aa,hni,hg,hf,hnil,if_true,Aj,Af,At]
       exact ⟨(i+1,.arr [],[]),⟨k+1,by dsimp only; omega,hlt,hR,by dsimp only; omega,.inr rfl⟩,by dsimp only; omega,by first | trivial | rfl | exact ⟨rfl,rfl⟩ | simp only [hnil,if_true,and_self]⟩
     ·have hne:(acc=[])=False:=eq_false (by rw [ha]; simp)
      simp (disch:=omega) only [go_sem,Aa,hni,hg,hf,hne,if_false,Aj,Af,At]
      exact ⟨(i+1,y,acc),⟨k+1,by dsimp only; omega,hlt,hR,by dsimp only; omega,hy⟩,by dsimp only; omega,by first | trivial | rfl | exact ⟨rfl,rfl⟩ | simp only [hne,if_false,and_self]⟩
    | false =>
     rw [hh,if_neg (by simp)] at hf
     rw [hh,if_pos (by simp)] at hR
     have hpn:=GI u.binds[k] (by have:=BR hval; omega)
     have hpr:=GJ acc u.binds[k] (by omega) (by have:=BR hval; omega)
     have hdn:dec (u.binds[k].term.name=u.binds[k].var)=false:=by
      unfold FF at hbok
      rw [zB,zB,zR] at hbok
      exact hbok.2.2
     rw [hdn,cond_false] at hpn hpr
     obtain ⟨b,hb⟩:∃ b:Bd,b=u.binds[k]:=⟨_,rfl⟩
     rw [←hb] at hR
     have hR:Dh (Cs acc b) ((u.binds.drop (k+1)).filter (fun b=>!BI s.binds b.var))=Dh [] (Br s u):=hR
     have hl2:=FN b acc
     have hne2:=I7 b acc
     have hnb:([b]=[])=False:=eq_false (by simp)
     rw [←hb] at hpn hpr hf hg
     rcases zA acc with ha | ⟨ys,z,ha⟩
     ·subst ha
      rcases hy with rfl | rfl
      ·simp (disch:=omega) only [go_sem,Aa,hni,hg,hf,hpn,hnil,if_true,Aj,Af,At]
       exact ⟨(i+1,.nil,[b]),⟨k+1,by dsimp only; omega,hlt,hR,by dsimp only; simp only [zK,zH]; omega,.inl rfl⟩,by dsimp only; omega,by first | trivial | rfl | exact ⟨rfl,rfl⟩ | simp only [hnb,if_false,and_self]⟩
      ·simp (disch:=omega) only [go_sem,Aa,hni,hg,hf,hpn,hnil,if_true,Aj,Af,At]
       exact ⟨(i+1,.arr [],[b]),⟨k+1,by dsimp only; omega,hlt,hR,by dsimp only; simp only [zK,zH]; omega,.inr rfl⟩,by dsimp only; omega,by first | trivial | rfl | exact ⟨rfl,rfl⟩ | simp only [hnb,if_false,and_self]⟩
     ·have hne:(acc=[])=False:=eq_false (by rw [ha]; simp)
      simp (disch:=omega) only [go_sem,Aa,hni,hg,hf,hpr,hne,if_false,Aj,Af,At]
      exact ⟨(i+1,y,Cs acc b),⟨k+1,by dsimp only; omega,hlt,hR,by dsimp only; omega,hy⟩,by dsimp only; omega,by first | trivial | rfl | exact ⟨rfl,rfl⟩ | simp only [hne2,if_false,and_self]⟩
   ·rw [zD hge,yJ] at hR
    have hR:acc=Dh [] (Br s u):=hR
    rw [←hend,← hR]
    rcases zA acc with ha | ⟨ys,z,ha⟩
    ·rw [ha]
     rcases hy with rfl | rfl
     ·simp (disch:=omega) only [go_sem,Aa,hni,hnil,if_true,zG]
     ·simp (disch:=omega) only [go_sem,Aa,hni,hnil,if_true,zG]
    ·have hne:(acc=[])=False:=eq_false (by rw [ha]; simp)
     simp (disch:=omega) only [go_sem,Aa,hni,hne,if_false,Bd.dfu,Bd.der]
  ·simp (disch:=omega) only [go_sem,Aa,hni,hnil,if_true]
   refine go_loop (α:=Int × SV × List Bd) (fun a=>⟨slots 63 0 [(2,.ptr 0 0),(3,.ptr 1 0),(4,.ptr 2 0),(5,.ptr 3 0),(7,.int .i64 a.1)],(if a.2.2=[] then [.box 26 [.arr (s.binds.map Bd.d)],.box 26 [.arr (u.binds.map Bd.d)],.box 26 [.nil],.box 26 [a.2.1]] else [.box 26 [.arr (s.binds.map Bd.d)],.box 26 [.arr (u.binds.map Bd.d)],.box 26 [.nil],.box 26 [.ref 4],.row 55 3 (a.2.2.map fun b=>b.d.map D.ot)])⟩) (fun a=>∃ k:Nat,a.1=k∧k≤u.binds.length∧Dh a.2.2 ((u.binds.drop k).filter (fun b=>!BI s.binds b.var))=Dh [] (Br s u)∧a.2.2.length≤12+k∧(a.2.1=.nil∨a.2.1=.arr [])) (fun a=>u.binds.length-a.1.toNat) (0,.arr [],[]) ⟨0,rfl,zM _,hst,by dsimp only; omega,.inr rfl⟩ (by simp (disch:=omega) only [go_sem,Aa,hnil,if_true]) ?_
   rintro ⟨i,y,acc⟩ ⟨k,hi,hk,hR,hal,hy⟩
   dsimp only at hi hR hal hy
   have hni:i.toNat=k:=by omega
   have hni1:(i+1).toNat=k+1:=by omega
   rcases zF k u.binds.length with hlt | hge
   ·have hg:=get_at Bd.d hlt
    rw [Bd.d_eq] at hg
    have hbok:=Sb.GE hu hlt
    have hval:=Cm hbok
    have hf:=Iz s u.binds[k].var (by omega)
    rw [GD (Sb.FH hs)] at hf
    rw [zC hlt,yF] at hR
    cases hh:BI s.binds u.binds[k].var with
    | true =>
     rw [hh,if_pos rfl] at hf
     rw [hh,if_neg (by simp)] at hR
     rcases zA acc with ha | ⟨ys,z,ha⟩
     ·subst ha
      rcases hy with rfl | rfl
      ·simp (disch:=omega) only [go_sem,Aa,hni,hg,hf,hnil,if_true,Aj,Af,At]
       exact ⟨(i+1,.nil,[]),⟨k+1,by dsimp only; omega,hlt,hR,by dsimp only; omega,.inl rfl⟩,by dsimp only; omega,by first | trivial | rfl | exact ⟨rfl,rfl⟩ | simp only [hnil,if_true,and_self]⟩
      ·simp (disch:=omega) only [go_sem,Aa,hni,hg,hf,hnil,if_true,Aj,Af,At]
       exact ⟨(i+1,.arr [],[]),⟨k+1,by dsimp only; omega,hlt,hR,by dsimp only; omega,.inr rfl⟩,by dsimp only; omega,by first | trivial | rfl | exact ⟨rfl,rfl⟩ | simp only [hnil,if_true,and_self]⟩
     ·have hne:(acc=[])=False:=eq_false (by rw [ha]; simp)
      simp (disch:=omega) only [go_sem,Aa,hni,hg,hf,hne,if_false,Aj,Af,At]
      exact ⟨(i+1,y,acc),⟨k+1,by dsimp only; omega,hlt,hR,by dsimp only; omega,hy⟩,by dsimp only; omega,by first | trivial | rfl | exact ⟨rfl,rfl⟩ | simp only [hne,if_false,and_self]⟩
    | false =>
     rw [hh,if_neg (by simp)] at hf
     rw [hh,if_pos (by simp)] at hR
     have hpn:=GI u.binds[k] (by have:=BR hval; omega)
     have hpr:=GJ acc u.binds[k] (by omega) (by have:=BR hval; omega)
     have hdn:dec (u.binds[k].term.name=u.binds[k].var)=false:=by
      unfold FF at hbok
      rw [zB,zB,zR] at hbok
      exact hbok.2.2
     rw [hdn,cond_false] at hpn hpr
     obtain ⟨b,hb⟩:∃ b:Bd,b=u.binds[k]:=⟨_,rfl⟩
     rw [←hb] at hR
     have hR:Dh (Cs acc b) ((u.binds.drop (k+1)).filter (fun b=>!BI s.binds b.var))=Dh [] (Br s u):=hR
     have hl2:=FN b acc
     have hne2:=I7 b acc
     have hnb:([b]=[])=False:=eq_false (by simp)
     rw [←hb] at hpn hpr hf hg
     rcases zA acc with ha | ⟨ys,z,ha⟩
     ·subst ha
      rcases hy with rfl | rfl
      ·simp (disch:=omega) only [go_sem,Aa,hni,hg,hf,hpn,hnil,if_true,Aj,Af,At]
       exact ⟨(i+1,.nil,[b]),⟨k+1,by dsimp only; omega,hlt,hR,by dsimp only; simp only [zK,zH]; omega,.inl rfl⟩,by dsimp only; omega,by first | trivial | rfl | exact ⟨rfl,rfl⟩ | simp only [hnb,if_false,and_self]⟩
      ·simp (disch:=omega) only [go_sem,Aa,hni,hg,hf,hpn,hnil,if_true,Aj,Af,At]
       exact ⟨(i+1,.arr [],[b]),⟨k+1,by dsimp only; omega,hlt,hR,by dsimp only; simp only [zK,zH]; omega,.inr rfl⟩,by dsimp only; omega,by first | trivial | rfl | exact ⟨rfl,rfl⟩ | simp only [hnb,if_false,and_self]⟩
     ·have hne:(acc=[])=False:=eq_false (by rw [ha]; simp)
      simp (disch:=omega) only [go_sem,Aa,hni,hg,hf,hpr,hne,if_false,Aj,Af,At]
      exact ⟨(i+1,y,Cs acc b),⟨k+1,by dsimp only; omega,hlt,hR,by dsimp only; omega,hy⟩,by dsimp only; omega,by first | trivial | rfl | exact ⟨rfl,rfl⟩ | simp only [hne2,if_false,and_self]⟩
   ·rw [zD hge,yJ] at hR
    have hR:acc=Dh [] (Br s u):=hR
    rw [←hend,← hR]
    rcases zA acc with ha | ⟨ys,z,ha⟩
    ·rw [ha]
     rcases hy with rfl | rfl
     ·simp (disch:=omega) only [go_sem,Aa,hni,hnil,if_true,zG]
     ·simp (disch:=omega) only [go_sem,Aa,hni,hnil,if_true,zG]
    ·have hne:(acc=[])=False:=eq_false (by rw [ha]; simp)
     simp (disch:=omega) only [go_sem,Aa,hni,hne,if_false,Bd.dfu,Bd.der]
 ·have hne:(acc=[])=False:=eq_false (by rw [ha]; simp)
  simp (disch:=omega) only [go_sem,Aa,hni,hne,if_false]
  refine go_loop (α:=Int × SV × List Bd) (fun a=>⟨slots 63 0 [(2,.ptr 0 0),(3,.ptr 1 0),(4,.ptr 2 0),(5,.ptr 3 0),(7,.int .i64 a.1)],(if a.2.2=[] then [.box 26 [.arr (s.binds.map Bd.d)],.box 26 [.arr (u.binds.map Bd.d)],.box 26 [.nil],.box 26 [a.2.1]] else [.box 26 [.arr (s.binds.map Bd.d)],.box 26 [.arr (u.binds.map Bd.d)],.box 26 [.nil],.box 26 [.ref 4],.row 55 3 (a.2.2.map fun b=>b.d.map D.ot)])⟩) (fun a=>∃ k:Nat,a.1=k∧k≤u.binds.length∧Dh a.2.2 ((u.binds.drop k).filter (fun b=>!BI s.binds b.var))=Dh [] (Br s u)∧a.2.2.length≤12+k∧(a.2.1=.nil∨a.2.1=.arr [])) (fun a=>u.binds.length-a.1.toNat) (0,y,acc) ⟨0,rfl,zM _,hst,by dsimp only; omega,hy⟩ (by simp (disch:=omega) only [go_sem,Aa,hne,if_false]) ?_
  rintro ⟨i,y,acc⟩ ⟨k,hi,hk,hR,hal,hy⟩
  dsimp only at hi hR hal hy
  have hni:i.toNat=k:=by omega
  have hni1:(i+1).toNat=k+1:=by omega
  rcases zF k u.binds.length with hlt | hge
  ·have hg:=get_at Bd.d hlt
   rw [Bd.d_eq] at hg
   have hbok:=Sb.GE hu hlt
   have hval:=Cm hbok
   have hf:=Iz s u.binds[k].var (by omega)
   rw [GD (Sb.FH hs)] at hf
   rw [zC hlt,yF] at hR
   cases hh:BI s.binds u.binds[k].var with
   | true =>
    rw [hh,if_pos rfl] at hf
    rw [hh,if_neg (by simp)] at hR
    rcases zA acc with ha | ⟨ys,z,ha⟩
    ·subst ha
     rcases hy with rfl | rfl
     ·simp (disch:=omega) only [go_sem,Aa,hni,hg,hf,hnil,if_true,Aj,Af,At]
      exact ⟨(i+1,.nil,[]),⟨k+1,by dsimp only; omega,hlt,hR,by dsimp only; omega,.inl rfl⟩,by dsimp only; omega,by first | trivial | rfl | exact ⟨rfl,rfl⟩ | simp only [hnil,if_true,and_self]⟩
     ·simp (disch:=omega) only [go_sem,Aa,hni,hg,hf,hnil,if_true,Aj,Af,At]
      exact ⟨(i+1,.arr [],[]),⟨k+1,by dsimp only; omega,hlt,hR,by dsimp only; omega,.inr rfl⟩,by dsimp only; omega,by first | trivial | rfl | exact ⟨rfl,rfl⟩ | simp only [hnil,if_true,and_self]⟩
    ·have hne:(acc=[])=False:=eq_false (by rw [ha]; simp)
     simp (disch:=omega) only [go_sem,Aa,hni,hg,hf,hne,if_false,Aj,Af,At]
     exact ⟨(i+1,y,acc),⟨k+1,by dsimp only; omega,hlt,hR,by dsimp only; omega,hy⟩,by dsimp only; omega,by first | trivial | rfl | exact ⟨rfl,rfl⟩ | simp only [hne,if_false,and_self]⟩
   | false =>
    rw [hh,if_neg (by simp)] at hf
    rw [hh,if_pos (by simp)] at hR
    have hpn:=GI u.binds[k] (by have:=BR hval; omega)
    have hpr:=GJ acc u.binds[k] (by omega) (by have:=BR hval; omega)
    have hdn:dec (u.binds[k].term.name=u.binds[k].var)=false:=by
     unfold FF at hbok
     rw [zB,zB,zR] at hbok
     exact hbok.2.2
    rw [hdn,cond_false] at hpn hpr
    obtain ⟨b,hb⟩:∃ b:Bd,b=u.binds[k]:=⟨_,rfl⟩
    rw [←hb] at hR
    have hR:Dh (Cs acc b) ((u.binds.drop (k+1)).filter (fun b=>!BI s.binds b.var))=Dh [] (Br s u):=hR
    have hl2:=FN b acc
    have hne2:=I7 b acc
    have hnb:([b]=[])=False:=eq_false (by simp)
    rw [←hb] at hpn hpr hf hg
    rcases zA acc with ha | ⟨ys,z,ha⟩
    ·subst ha
     rcases hy with rfl | rfl
     ·simp (disch:=omega) only [go_sem,Aa,hni,hg,hf,hpn,hnil,if_true,Aj,Af,At]
      exact ⟨(i+1,.nil,[b]),⟨k+1,by dsimp only; omega,hlt,hR,by dsimp only; simp only [zK,zH]; omega,.inl rfl⟩,by dsimp only; omega,by first | trivial | rfl | exact ⟨rfl,rfl⟩ | simp only [hnb,if_false,and_self]⟩
     ·simp (disch:=omega) only [go_sem,Aa,hni,hg,hf,hpn,hnil,if_true,Aj,Af,At]
      exact ⟨(i+1,.arr [],[b]),⟨k+1,by dsimp only; omega,hlt,hR,by dsimp only; simp only [zK,zH]; omega,.inr rfl⟩,by dsimp only; omega,by first | trivial | rfl | exact ⟨rfl,rfl⟩ | simp only [hnb,if_false,and_self]⟩
    ·have hne:(acc=[])=False:=eq_false (by rw [ha]; simp)
     simp (disch:=omega) only [go_sem,Aa,hni,hg,hf,hpr,hne,if_false,Aj,Af,At]
     exact ⟨(i+1,y,Cs acc b),⟨k+1,by dsimp only; omega,hlt,hR,by dsimp only; omega,hy⟩,by dsimp only; omega,by first | trivial | rfl | exact ⟨rfl,rfl⟩ | simp only [hne2,if_false,and_self]⟩
  ·rw [zD hge,yJ] at hR
   have hR:acc=Dh [] (Br s u):=hR
   rw [←hend,← hR]
   rcases zA acc with ha | ⟨ys,z,ha⟩
   ·rw [ha]
    rcases hy with rfl | rfl
    ·simp (disch:=omega) only [go_sem,Aa,hni,hnil,if_true,zG]
    ·simp (disch:=omega) only [go_sem,Aa,hni,hnil,if_true,zG]
   ·have hne:(acc=[])=False:=eq_false (by rw [ha]; simp)
    simp (disch:=omega) only [go_sem,Aa,hni,hne,if_false,Bd.dfu,Bd.der]
noncomputable def Fv (s u:Sb):Bool:=s.ok&&(u.ok&&GH s u)
noncomputable def GK (s u:Sb):Sb:=bif Fv s u then Cx s u else ⟨[]⟩
theorem Ls (s u:Sb) (hts:s.tame) (htu:u.tame):E 8 [s.sv,u.sv] []=some (.tup [(GK s u).osv,.bool (Fv s u)],(GK s u).obs):=by
 have h1:=B8 s hts
 have h2:=B8 u htu
 have z1:(Sb.mk []).osv=.agg [.ref 0]:=rfl
 have z2:(Sb.mk []).obs=[.row 55 3 []]:=rfl
 have z3:(Sb.mk []).sv=.agg [.arr []]:=rfl
 cases hs:s.ok with
 | false =>
  have e:Fv s u=false:=by unfold Fv; rw [hs]; rfl
  rw [hs] at h1
  unfold GK
  rw [e]
  simp only [cond_false,z1,z2,z3]
  refine Ab Bw Am (of_decide_eq_true rfl) ?_
  simp (disch:=omega) only [AY,go_sem,Aa,h1,h2,Ai]
 | true =>
  rw [hs] at h1
  cases hu:u.ok with
  | false =>
   have e:Fv s u=false:=by unfold Fv; rw [hu,yN,Bool.and_false]
   rw [hu] at h2
   unfold GK
   rw [e]
   simp only [cond_false,z1,z2,z3]
   refine Ab Bw Am (of_decide_eq_true rfl) ?_
   simp (disch:=omega) only [AY,go_sem,Aa,h1,h2,Ai]
  | true =>
   rw [hu] at h2
   have e:Fv s u=GH s u:=by unfold Fv; rw [hs,hu]; rfl
   have h3:=Pg s u hs hu hts htu
   unfold GK
   rw [e]
   have e2:PL s u=bif GH s u then Cx s u else ⟨[]⟩:=rfl
   rw [e2] at h3
   cases hq:GH s u with
   | false =>
    rw [hq] at h3
    simp only [cond_false,z1,z2] at h3 ⊢
    refine Ab Bw Am (of_decide_eq_true rfl) ?_
    simp (disch:=omega) only [AY,go_sem,Aa,h1,h2,h3,Ai,Ej]
   | true =>
    rw [hq] at h3
    have z4:(Cx s u).osv=.agg [.ref 0]:=rfl
    have z5:(Cx s u).obs=[.row 55 3 ((Cx s u).binds.map Bd.o)]:=rfl
    simp only [cond_true,z4,z5] at h3 ⊢
    refine Ab Bw Am (of_decide_eq_true rfl) ?_
    simp (disch:=omega) only [AY,go_sem,Aa,h1,h2,h3,Ai,Ej]
theorem Lu (s u:Sb) (hts:s.tame) (htu:u.tame):E 9 [s.sv,u.sv] []=some (.tup [(GK s u).sv,.bool (Fv s u)],[]):=by
 have h1:=Iy s hts
 have h2:=Iy u htu
 have z1:(Sb.mk []).osv=.agg [.ref 0]:=rfl
 have z2:(Sb.mk []).obs=[.row 55 3 []]:=rfl
 have z3:(Sb.mk []).sv=.agg [.arr []]:=rfl
 cases hs:s.ok with
 | false =>
  have e:Fv s u=false:=by unfold Fv; rw [hs]; rfl
  rw [hs] at h1
  unfold GK
  rw [e]
  simp only [cond_false,z1,z2,z3]
  refine Ab Bv Al (of_decide_eq_true rfl) ?_
  simp (disch:=omega) only [AX,go_sem,Aa,h1,h2,CF]
 | true =>
  rw [hs] at h1
  cases hu:u.ok with
  | false =>
   have e:Fv s u=false:=by unfold Fv; rw [hu,yN,Bool.and_false]
   rw [hu] at h2
   unfold GK
   rw [e]
   simp only [cond_false,z1,z2,z3]
   refine Ab Bv Al (of_decide_eq_true rfl) ?_
   simp (disch:=omega) only [AX,go_sem,Aa,h1,h2,CF]
  | true =>
   rw [hu] at h2
   have e:Fv s u=GH s u:=by unfold Fv; rw [hs,hu]; rfl
   have h3:=Oj s u hs hu hts htu
   unfold GK
   rw [e]
   have h4:=Iy (Cx s u) (Ja hs hu)
   have z6:(Cx s u).sv=.agg [.arr ((Cx s u).binds.map Bd.d)]:=rfl
   have e2:GH s u=(Cx s u).ok:=rfl
   rw [←e2] at h4
   rw [z6] at h3 h4
   cases hq:GH s u with
   | false =>
    rw [hq] at h4
    simp only [cond_false,z3]
    refine Ab Bv Al (of_decide_eq_true rfl) ?_
    simp (disch:=omega) only [AX,go_sem,Aa,h1,h2,h3,h4,CF,DS]
   | true =>
    rw [hq] at h4
    simp only [cond_true,z6]
    refine Ab Bv Al (of_decide_eq_true rfl) ?_
    simp (disch:=omega) only [AX,go_sem,Aa,h1,h2,h3,h4,CF,DS]
def Dc:SC:=(.seq (.reg [⟨some 2,none,.alloc 26 [.nil]⟩]) (.seq (.reg [⟨some 6,none,.build [.nil] []⟩,⟨some 3,none,.alloc 26 [.nil]⟩,⟨none,none,(.store 1 (.t 3) (.t 6))⟩]) (.seq (.seq (.reg [⟨(some 7),none,(.mkrow 9 1 [(.str ⟨#[]⟩)] 4 [(0,(.c (.str ⟨#[85]⟩))),(1,(.c (.str ⟨#[88]⟩))),(2,(.c (.str ⟨#[89]⟩))),(3,(.c (.str ⟨#[90]⟩)))])⟩,⟨some 8,none,.len false (.t 7)⟩,⟨some 9,none,.mv (.c (.int .i64 0))⟩]) (.block 0 (.loop [1,0,1,1,0,0,0,1,1,1,0,0,0,0,0,0,0,0,0,0,0,0] (.seq (.reg [⟨some 10,none,.bin .lss false (.t 9) (.t 8)⟩]) (.seq (.cond (.t 10) .skip (.exit 0)) (.seq (.block 1 (.seq (.reg [⟨some 11,none,.iaddr 1 (.t 7) (.t 9)⟩,⟨some 12,none,.load false 1 (.t 11)⟩,⟨some 5,none,.mv (.t 12)⟩]) (.seq (.reg [⟨some 13,none,.mv (.t 0)⟩,⟨some 14,none,.call 15 [(.t 13),(.c (.int .i64 2))]⟩]) (.cond (.t 14) (.dreg [[],[],[],[2],[0,1,3,2],[4,0,1,3,2]] [⟨some 15,none,.load true 1 (.t 3)⟩,⟨some 16,none,.mv (.t 5)⟩,⟨some 17,none,.mv (.t 0)⟩,⟨some 18,none,.call 35 [(.t 17)]⟩,⟨some 19,none,.call 45 [(.t 15),(.t 16),(.t 18)]⟩,⟨none,none,(.store 1 (.t 3) (.t 19))⟩]) .skip)))) (.reg [⟨some 20,none,.bin .add false (.t 9) (.c (.int .i64 1))⟩,⟨some 9,none,.mv (.t 20)⟩]))))))) (.seq (.reg [⟨some 21,none,.load true 1 (.t 3)⟩,⟨none,none,(.store 1 (.t 2) (.t 21))⟩]) .ret))))
theorem EV:A1 Tryz.prog 29=some ⟨22,Dc,[(.cell 2 true 1)]⟩:=by kernel_rfl
theorem AA:modes 29=⟨[],.half [some (55,3)],none,false⟩:=by unfold modes; rfl
def PO:List (List OT):=[[.str ⟨#[85]⟩],[.str ⟨#[88]⟩],[.str ⟨#[89]⟩],[.str ⟨#[90]⟩]]
theorem Se {k:Nat} (h:k<4):∃ v,PO[k]?=some [.str v]:=by
 rcases (show k=0∨k=1∨k=2∨k=3 by omega) with rfl | rfl | rfl | rfl <;> exact ⟨_,rfl⟩
theorem QG:PO.length=4:=rfl
abbrev bdH (xs:List Bd):Ob:=.row 55 3 (xs.map fun b=>b.d.map D.ot)
theorem Bd.UY {xs:List Bd} (h:xs≠[]):OT.BV (xs.map fun b=>b.d.map D.ot)=false:=by
 rcases xs with _ | ⟨x,r⟩
 ·exact absurd rfl h
 ·rw [zE,Bd.d_eq]
  simp [OT.BV,OT.El,OT.noSh,D.ot]
theorem Bd.Ua (b:Bd):OT.BV ([b].map fun b=>b.d.map D.ot)=false:=Bd.UY (by simp)
theorem KY (l:List Int) (hl:Bytes l) (hn:l.length≤1099511627776) (p s:Int) (h0:0≤p) (h1:p≤1090000000000):∃ (z:Bool) (xs:List Bd) (p' s':Int),E 29 [.ptr 0 0] [cur l p s]=some (bif z then (.agg [.arr []],[cur l p' s']) else (.agg [.ref 1],[cur l p' s',bdH xs]))∧(p≤p'∧p'≤p+200)∧xs.length≤4∧(∀ b∈xs,b.term.nodes≤7)∧(z=true→xs=[]):=by
 obtain ⟨Q,hQ⟩:∃ Q:SV × List Ob→Prop,Q=fun out=>∃ z xs p' s',out=(bif z then (SV.agg [.arr []],[cur l p' s']) else (SV.agg [.ref 1],[cur l p' s',bdH xs]))∧(p≤p'∧p'≤p+200)∧xs.length≤4∧(∀ b∈xs,b.term.nodes≤7)∧(z=true→xs=[]):=⟨_,rfl⟩
 suffices hq0:∃ out,E 29 [.ptr 0 0] [cur l p s]=some out∧Q out by
  obtain ⟨out,hq1,hq2⟩:=hq0
  rw [hQ] at hq2
  obtain ⟨z,xs,p',s',rfl,hq3⟩:=hq2
  exact ⟨z,xs,p',s',hq1,hq3⟩
 have hnil:(([]:List Bd)=[])=True:=eq_self _
 refine AJ EV AA (of_decide_eq_true rfl) ?_
 simp (disch:=omega) only [Dc,go_sem,Aa]
 refine go_loop (α:=Int × Int × Int × SV × List Bd) (fun a=>⟨slots 22 0 [(0,.ptr 0 0),(2,.ptr 1 0),(3,.ptr 2 0),(7,.ref 3),(8,.int .i64 4),(9,.int .i64 a.1)],(if a.2.2.2.2=[] then [cur l a.2.1 a.2.2.1,.box 26 [.nil],.box 26 [a.2.2.2.1],.row 9 1 PO] else [cur l a.2.1 a.2.2.1,.box 26 [.nil],.box 26 [.ref 4],.row 9 1 PO,bdH a.2.2.2.2])⟩) (fun a=>∃ k:Nat,a.1=k∧k≤4∧a.2.2.2.2.length≤k∧p≤a.2.1∧a.2.1≤p+42*k∧(∀ b∈a.2.2.2.2,b.term.nodes≤7)∧(a.2.2.2.1=.nil∨a.2.2.2.1=.arr [])) (fun a=>(4-a.1).toNat) (0,p,s,.nil,[]) ⟨0,rfl,by omega,by simp,by dsimp only; omega,by dsimp only; omega,by simp,.inl rfl⟩ (by (simp (disch:=omega) only [go_sem,Aa,hnil,if_true]) <;> first | trivial | rfl | exact ⟨rfl,rfl⟩) ?_
 rintro ⟨i,p1,s1,y,acc⟩ ⟨k,hi,hk,hal,hp1,hp2,hnn,hy⟩
 dsimp only at hi hal hp1 hp2 hnn hy
 have hni:i.toNat=k:=by omega
 have hl4:=QG
 rcases zF k 4 with hlt | hge
 ·have q1:(i<4)=True:=eq_true (by omega)
  obtain ⟨v,hv⟩:=Se hlt
  obtain ⟨b,p2,s2,hb,g1,g2⟩:=Jw l hl hn 2 (by omega) (by omega) p1 s1 (by omega) (by omega)
  cases b with
  | false =>
   rcases zA acc with ha | ⟨ys,z,ha⟩
   ·subst ha
    rcases hy with rfl | rfl
    ·simp (disch:=omega) only [go_sem,Aa,hni,hl4,q1,hv,hb,hnil,if_true,Ar,Ae,Af]
     exact ⟨(i+1,p2,s2,.nil,[]),⟨k+1,by dsimp only; omega,by omega,by first | omega | (dsimp only; omega) | simp,by dsimp only; omega,by dsimp only; omega,hnn,.inl rfl⟩,by dsimp only; omega,by first | trivial | rfl | exact ⟨rfl,rfl⟩ | simp only [hnil,if_true,and_self]⟩
    ·simp (disch:=omega) only [go_sem,Aa,hni,hl4,q1,hv,hb,hnil,if_true,Ar,Ae,Af]
     exact ⟨(i+1,p2,s2,.arr [],[]),⟨k+1,by dsimp only; omega,by omega,by first | omega | (dsimp only; omega) | simp,by dsimp only; omega,by dsimp only; omega,hnn,.inr rfl⟩,by dsimp only; omega,by first | trivial | rfl | exact ⟨rfl,rfl⟩ | simp only [hnil,if_true,and_self]⟩
   ·have hne:(acc=[])=False:=eq_false (by rw [ha]; simp)
    simp (disch:=omega) only [go_sem,Aa,hni,hl4,q1,hv,hb,hne,if_false,Ar,Ae,Af]
    exact ⟨(i+1,p2,s2,y,acc),⟨k+1,by dsimp only; omega,by omega,by first | omega | (dsimp only; omega) | simp,by dsimp only; omega,by dsimp only; omega,hnn,hy⟩,by dsimp only; omega,by first | trivial | rfl | exact ⟨rfl,rfl⟩ | simp only [hne,if_false,and_self]⟩
  | true =>
   obtain ⟨t,p3,s3,ht,⟨g3,g4⟩,g5⟩:=G5 l hl hn p2 s2 (by omega) (by omega)
   have hpn:=GI ⟨v,t⟩ (by show t.nodes≤_; omega)
   have hpr:=GJ acc ⟨v,t⟩ (by omega) (by show t.nodes≤_; omega)
   dsimp only at hpn hpr
   cases hq:dec (t.name=v) with
   | true =>
    rw [hq,cond_true] at hpn hpr
    rcases zA acc with ha | ⟨ys,z,ha⟩
    ·subst ha
     rcases hy with rfl | rfl
     ·simp (disch:=omega) only [go_sem,Aa,hni,hl4,q1,hv,hb,ht,hpn,Bd.Ua,hnil,if_true,Ar,Ae,Af]
      exact ⟨(i+1,p3,s3,.arr [],[]),⟨k+1,by dsimp only; omega,by omega,by first | omega | (dsimp only; omega) | simp,by dsimp only; omega,by dsimp only; omega,hnn,.inr rfl⟩,by dsimp only; omega,by first | trivial | rfl | exact ⟨rfl,rfl⟩ | simp only [hnil,if_true,and_self]⟩
     ·simp (disch:=omega) only [go_sem,Aa,hni,hl4,q1,hv,hb,ht,hpn,Bd.Ua,hnil,if_true,Ar,Ae,Af]
      exact ⟨(i+1,p3,s3,.arr [],[]),⟨k+1,by dsimp only; omega,by omega,by first | omega | (dsimp only; omega) | simp,by dsimp only; omega,by dsimp only; omega,hnn,.inr rfl⟩,by dsimp only; omega,by first | trivial | rfl | exact ⟨rfl,rfl⟩ | simp only [hnil,if_true,and_self]⟩
    ·have hne:(acc=[])=False:=eq_false (by rw [ha]; simp)
     have hns:=Bd.UY (xs:=acc) (by rw [ha]; simp)
     simp (disch:=omega) only [go_sem,Aa,hni,hl4,q1,hv,hb,ht,hpr,hns,hne,if_false,Ar,Ae,Af]
     exact ⟨(i+1,p3,s3,y,acc),⟨k+1,by dsimp only; omega,by omega,by first | omega | (dsimp only; omega) | simp,by dsimp only; omega,by dsimp only; omega,hnn,hy⟩,by dsimp only; omega,by first | trivial | rfl | exact ⟨rfl,rfl⟩ | simp only [hne,if_false,and_self]⟩
   | false =>
    rw [hq,cond_false] at hpn hpr
    obtain ⟨c,hc⟩:∃ c:Bd,c=⟨v,t⟩:=⟨_,rfl⟩
    have hct:c.term.nodes≤7:=by rw [hc]; exact g5
    rw [←hc] at hpn hpr
    have hl2:=FN c acc
    have hne2:=I7 c acc
    have hns:OT.BV ((Cs acc c).map fun b=>b.d.map D.ot)=false:=Bd.UY (fun h=>by rw [h] at hl2; simp at hl2)
    have hn2:∀ b∈Cs acc c,b.term.nodes≤7:=fun b hb=>by
     rcases List.mem_cons.1 ((FJ c acc).mem_iff.1 hb) with rfl | hb
     ·exact hct
     ·exact hnn b hb
    rcases zA acc with ha | ⟨ys,z,ha⟩
    ·have hae:(acc=[])=True:=eq_true ha
     have h1c:[c]=Cs acc c:=by rw [ha]; rfl
     rw [h1c] at hpn
     rcases hy with rfl | rfl
     ·simp (disch:=omega) only [go_sem,Aa,hni,hl4,q1,hv,hb,ht,hpn,hns,hae,if_true,Ar,Ae,Af]
      exact ⟨(i+1,p3,s3,.nil,Cs acc c),⟨k+1,by dsimp only; omega,by omega,by first | omega | (dsimp only; omega) | simp,by dsimp only; omega,by dsimp only; omega,hn2,.inl rfl⟩,by dsimp only; omega,by first | trivial | rfl | exact ⟨rfl,rfl⟩ | simp only [hne2,if_false,and_self]⟩
     ·simp (disch:=omega) only [go_sem,Aa,hni,hl4,q1,hv,hb,ht,hpn,hns,hae,if_true,Ar,Ae,Af]
      exact ⟨(i+1,p3,s3,.arr [],Cs acc c),⟨k+1,by dsimp only; omega,by omega,by first | omega | (dsimp only; omega) | simp,by dsimp only; omega,by dsimp only; omega,hn2,.inr rfl⟩,by dsimp only; omega,by first | trivial | rfl | exact ⟨rfl,rfl⟩ | simp only [hne2,if_false,and_self]⟩
    ·have hne:(acc=[])=False:=eq_false (by rw [ha]; simp)
     simp (disch:=omega) only [go_sem,Aa,hni,hl4,q1,hv,hb,ht,hpr,hns,hne,if_false,Ar,Ae,Af]
     exact ⟨(i+1,p3,s3,y,Cs acc c),⟨k+1,by dsimp only; omega,by omega,by first | omega | (dsimp only; omega) | simp,by dsimp only; omega,by dsimp only; omega,hn2,hy⟩,by dsimp only; omega,by first | trivial | rfl | exact ⟨rfl,rfl⟩ | simp only [hne2,if_false,and_self]⟩
 ·have q1:(i<4)=False:=eq_false (by omega)
  rcases zA acc with ha | ⟨ys,z,ha⟩
  ·subst ha
   rcases hy with rfl | rfl
   ·simp (disch:=omega) only [go_sem,Aa,hni,q1,hnil,if_true,zG]
    rw [hQ]
    exact ⟨false,[],p1,s1,rfl,by omega,by simp,by simp,by simp⟩
   ·simp (disch:=omega) only [go_sem,Aa,hni,q1,hnil,if_true,zG]
    rw [hQ]
    exact ⟨true,[],p1,s1,rfl,by omega,by simp,by simp,by simp⟩
  ·have hne:(acc=[])=False:=eq_false (by rw [ha]; simp)
   simp (disch:=omega) only [go_sem,Aa,hni,q1,hne,if_false,Bd.dfu,Bd.der,Bd.dha]
   rw [hQ]
   exact ⟨false,acc,p1,s1,rfl,by omega,by omega,hnn,by simp⟩
def A7:SC:=(.seq (.reg [⟨some 2,none,.alloc 26 [.nil]⟩]) (.seq (.reg [⟨some 7,none,.mv (.t 0)⟩,⟨some 8,none,.call 29 [(.t 7)]⟩,⟨some 3,none,.alloc 26 [.nil]⟩,⟨none,none,(.store 1 (.t 3) (.t 8))⟩]) (.seq (.seq (.reg [⟨some 9,none,.faddr 0 (.t 3)⟩,⟨some 10,none,.load false 1 (.t 9)⟩,⟨some 11,none,.len false (.t 10)⟩,⟨some 12,none,.bin .eql false (.t 11) (.c (.int .i64 0))⟩]) (.cond (.t 12) (.seq (.reg [⟨some 13,none,.load true 1 (.t 3)⟩,⟨none,none,(.store 1 (.t 2) (.t 13))⟩]) .ret) .skip)) (.seq (.reg [⟨some 14,none,.mv (.t 0)⟩,⟨some 15,none,.faddr 0 (.t 3)⟩,⟨some 16,none,.load false 1 (.t 15)⟩,⟨some 17,none,.len false (.t 16)⟩,⟨some 18,none,.call 30 [(.t 14),(.t 17)]⟩,⟨some 4,none,.mv (.t 18)⟩]) (.seq (.reg [⟨some 19,none,.faddr 0 (.t 3)⟩,⟨some 20,none,.load false 1 (.t 19)⟩,⟨some 21,none,.mv (.t 4)⟩,⟨some 22,none,.iaddr 3 (.t 20) (.t 21)⟩,⟨some 23,none,.load true 3 (.t 22)⟩,⟨(some 5),none,(.alloc 55 [(.str ⟨#[]⟩),(.str ⟨#[]⟩),.nil])⟩,⟨none,none,(.store 3 (.t 5) (.t 23))⟩]) (.seq (.seq (.reg [⟨some 24,none,.mv (.t 0)⟩,⟨some 25,none,.call 30 [(.t 24),(.c (.int .i64 24))]⟩]) (.block 0 (.seq (.reg [⟨some 27,none,.bin .eql false (.t 25) (.c (.int .i64 0))⟩,⟨some 26,none,.mv (.t 27)⟩]) (.cond (.t 26) (.reg [⟨some 28,none,.mv (.t 0)⟩,⟨(some 29),none,(.mkrow 9 1 [(.str ⟨#[]⟩)] 5 [(0,(.c (.str ⟨#[97]⟩))),(1,(.c (.str ⟨#[]⟩))),(2,(.c (.str ⟨#[84]⟩))),(3,(.c (.str ⟨#[90]⟩))),(4,(.c (.str ⟨#[90,122]⟩)))])⟩,⟨some 30,none,.call 31 [(.t 28),(.t 29)]⟩,⟨some 31,none,.faddr 0 (.t 5)⟩,⟨none,none,(.store 1 (.t 31) (.t 30))⟩]) (.seq (.reg [⟨some 33,none,.bin .eql false (.t 25) (.c (.int .i64 1))⟩,⟨some 32,none,.mv (.t 33)⟩]) (.cond (.t 32) (.reg [⟨some 34,none,.faddr 0 (.t 5)⟩,⟨some 35,none,.load false 1 (.t 34)⟩,⟨(some 36),none,(.build [(.str ⟨#[]⟩),.nil] [(0,(1,(.t 35)))])⟩,⟨some 37,none,.faddr 1 (.t 5)⟩,⟨none,none,(.store 2 (.t 37) (.t 36))⟩]) (.seq (.reg [⟨some 39,none,.bin .eql false (.t 25) (.c (.int .i64 2))⟩,⟨some 38,none,.mv (.t 39)⟩]) (.cond (.t 38) (.reg [⟨some 40,none,.mv (.t 0)⟩,⟨some 41,none,.call 32 [(.t 40)]⟩,⟨some 42,none,.faddr 1 (.t 5)⟩,⟨none,none,(.store 2 (.t 42) (.t 41))⟩]) (.seq (.reg [⟨some 44,none,.bin .eql false (.t 25) (.c (.int .i64 3))⟩,⟨some 43,none,.mv (.t 44)⟩]) (.cond (.t 43) (.seq (.seq (.reg [⟨some 6,none,.mv (.c (.int .i64 0))⟩]) (.block 1 (.loop [0,0,1,1,0,0,1,0,0,0,0,0,0,0,0,0,0,0,0,0,0,0,0,0,0,0,0,0,0,0,0,0,0,0,0,0,0,0,0,0,0,0,0,0,0,0,0,0,0,0,0,0,0,0,0,0,0,0,0,0,0,0,0,0,0,0,0,0,0,0,0,0,0,0,0] (.seq (.seq (.reg [⟨some 45,none,.mv (.t 6)⟩,⟨some 46,none,.bin .lss false (.t 45) (.c (.int .i64 9))⟩]) (.cond (.t 46) .skip (.exit 1))) (.seq (.block 2 (.dreg [[],[0],[],[2],[3,2],[4,3,2],[],[5,4,3,2,6],[7,5,4,3,2,6],[1,0,8,7,5,4,3,2,6],[0,1,2,3,4,5,6,7,8,9],[10,0,1,2,3,4,5,6,7,8,9]] [⟨some 49,none,.faddr 0 (.t 3)⟩,⟨some 50,none,.load false 1 (.t 49)⟩,⟨some 51,none,.mv (.t 6)⟩,⟨some 52,none,.bin .add false (.t 51) (.c (.int .i64 1))⟩,⟨some 53,none,.call 33 [(.t 52)]⟩,⟨(some 54),none,(.bin .add false (.c (.str ⟨#[90]⟩)) (.t 53))⟩,⟨(some 55),none,(.build [(.str ⟨#[]⟩),.nil] [(0,(1,(.c (.str ⟨#[97]⟩))))])⟩,⟨(some 56),none,(.build [(.str ⟨#[]⟩),(.str ⟨#[]⟩),.nil] [(0,(1,(.t 54))),(1,(2,(.t 55)))])⟩,⟨(some 57),none,(.mkrow 55 3 [(.str ⟨#[]⟩),(.str ⟨#[]⟩),.nil] 1 [(0,(.t 56))])⟩,⟨(some 58),none,(.append 55 3 56 [(.str ⟨#[]⟩),(.str ⟨#[]⟩),.nil] (.t 50) (.t 57))⟩,⟨some 59,none,.faddr 0 (.t 3)⟩,⟨none,none,(.store 1 (.t 59) (.t 58))⟩])) (.reg [⟨some 47,none,.mv (.t 6)⟩,⟨some 48,none,.bin .add false (.t 47) (.c (.int .i64 1))⟩,⟨some 6,none,.mv (.t 48)⟩])))))) (.seq (.reg [⟨some 60,none,.load true 1 (.t 3)⟩,⟨none,none,(.store 1 (.t 2) (.t 60))⟩]) .ret)) (.seq (.reg [⟨some 62,none,.bin .eql false (.t 25) (.c (.int .i64 4))⟩,⟨some 61,none,.mv (.t 62)⟩]) (.cond (.t 61) (.reg [⟨some 63,none,.mv (.t 0)⟩,⟨some 64,none,.mv (.t 0)⟩,⟨some 65,none,.call 30 [(.t 64),(.c (.int .i64 4))]⟩,⟨some 66,none,.bin .add false (.c (.int .i64 5)) (.t 65)⟩,⟨some 67,none,.call 17 [(.t 63),(.t 66)]⟩,⟨some 68,none,.faddr 1 (.t 5)⟩,⟨none,none,(.store 2 (.t 68) (.t 67))⟩]) .skip)))))))))))) (.seq (.reg [⟨some 69,none,.faddr 0 (.t 3)⟩,⟨some 70,none,.load false 1 (.t 69)⟩,⟨some 71,none,.mv (.t 4)⟩,⟨some 72,none,.load true 3 (.t 5)⟩,⟨some 73,none,.iaddr 3 (.t 70) (.t 71)⟩,⟨none,none,(.store 3 (.t 73) (.t 72))⟩]) (.seq (.reg [⟨some 74,none,.load true 1 (.t 3)⟩,⟨none,none,(.store 1 (.t 2) (.t 74))⟩]) .ret))))))))
theorem AD:A1 Tryz.prog 14=some ⟨75,A7,[(.cell 2 true 1)]⟩:=by kernel_rfl
theorem Av:modes 14=⟨[],.frz,none,false⟩:=by unfold modes; rfl
def Cq:SC:=(.seq (.reg [⟨some 2,none,.alloc 26 [.nil]⟩,⟨some 3,none,.alloc 26 [.nil]⟩]) (.seq (.reg [⟨some 5,none,.mv (.t 0)⟩,⟨some 6,none,.build [.nil,(.int .i64 0),(.int .u64 0)] [(0,(1,(.t 5)))]⟩,⟨some 7,none,.boxv 46 3 (.t 6)⟩,⟨some 4,none,.mv (.t 7)⟩]) (.seq (.reg [⟨some 8,none,.mv (.t 4)⟩,⟨some 9,none,.call 14 [(.t 8)]⟩,⟨some 10,none,.mv (.t 4)⟩,⟨some 11,none,.call 14 [(.t 10)]⟩,⟨none,none,(.store 1 (.t 2) (.t 9))⟩,⟨none,none,(.store 1 (.t 3) (.t 11))⟩]) .ret)))
theorem DB:A1 Tryz.prog 5=some ⟨12,Cq,[(.cell 2 true 1),(.cell 3 true 1)]⟩:=by kernel_rfl
theorem Au:modes 5=⟨[],.frz,none,false⟩:=by unfold modes; rfl
def BM:SC:=(.seq (.reg [⟨some 2,none,.alloc 26 [.nil]⟩,⟨(some 3),none,(.alloc 31 [(.str ⟨#[]⟩),.nil])⟩]) (.seq (.reg [⟨some 6,none,.mv (.t 0)⟩,⟨some 7,none,.build [.nil,(.int .i64 0),(.int .u64 0)] [(0,(1,(.t 6)))]⟩,⟨some 8,none,.boxv 46 3 (.t 7)⟩,⟨some 4,none,.mv (.t 8)⟩]) (.seq (.reg [⟨some 9,none,.mv (.t 4)⟩,⟨some 10,none,.call 14 [(.t 9)]⟩,⟨some 5,none,.alloc 26 [.nil]⟩,⟨none,none,(.store 1 (.t 5) (.t 10))⟩]) (.seq (.seq (.reg [⟨some 11,none,.mv (.t 4)⟩,⟨some 12,none,.call 15 [(.t 11),(.c (.int .i64 10))]⟩]) (.cond (.t 12) (.seq (.dreg [[],[],[1],[],[3,2,1],[2,1,4,3],[5,2,1,4,3],[],[7,4,3,2,1],[6,5,2,1,4,3,8,7],[9,6,5,2,1,4,3,8,7],[0,8,7,4,3,2,1],[10,9,6,5,2,1,4,3,8,7,11,0]] [⟨some 13,none,.load true 1 (.t 5)⟩,⟨some 14,none,.mv (.t 4)⟩,⟨some 15,none,.call 16 [(.t 14),(.c (.int .i64 3))]⟩,⟨some 16,none,.mv (.t 4)⟩,⟨some 17,none,.call 16 [(.t 16),(.c (.int .i64 3))]⟩,⟨(some 18),none,(.mkrow 31 2 [(.str ⟨#[]⟩),.nil] 2 [(0,(.t 15)),(1,(.t 17))])⟩,⟨(some 19),none,(.build [(.str ⟨#[]⟩),.nil] [(0,(1,(.c (.str ⟨#[103]⟩)))),(1,(1,(.t 18)))])⟩,⟨some 20,none,.mv (.t 4)⟩,⟨some 21,none,.call 17 [(.t 20),(.c (.int .i64 4))]⟩,⟨(some 22),none,(.mkrow 31 2 [(.str ⟨#[]⟩),.nil] 2 [(0,(.t 19)),(1,(.t 21))])⟩,⟨(some 23),none,(.build [(.str ⟨#[]⟩),.nil] [(0,(1,(.c (.str ⟨#[103]⟩)))),(1,(1,(.t 22)))])⟩,⟨none,none,(.store 1 (.t 2) (.t 13))⟩,⟨none,none,(.store 2 (.t 3) (.t 23))⟩]) .ret) .skip)) (.seq (.dreg [[],[],[1],[0,2,1],[2,1,3,0]] [⟨some 24,none,.load true 1 (.t 5)⟩,⟨some 25,none,.mv (.t 4)⟩,⟨some 26,none,.call 18 [(.t 25)]⟩,⟨none,none,(.store 1 (.t 2) (.t 24))⟩,⟨none,none,(.store 2 (.t 3) (.t 26))⟩]) .ret)))))
theorem CB:A1 Tryz.prog 6=some ⟨27,BM,[(.cell 2 true 1),(.cell 3 true 2)]⟩:=by kernel_rfl
theorem Aw:modes 6=⟨[],.frz,none,false⟩:=by unfold modes; rfl
theorem Bd.Vx (b:Bd):b.d.map D.ot=[OT.str b.var,.str b.term.name,.sh (b.term.args.map Tm.d)]:=by rw [Bd.d_eq]; rfl
theorem Vy {xs:List Bd} {k:Nat} (h:k<xs.length):(xs.map fun b=>b.d.map D.ot)[k]?=some [OT.str xs[k].var,.str xs[k].term.name,.sh (xs[k].term.args.map Tm.d)]:=by
 rw [List.getElem?_map,zQ h,← Bd.Vx]; rfl
theorem I8 {xs:List Bd} {e:List OT} (k:Nat) (he:OT.CJ e=true):OT.AB ((xs.map fun b=>b.d.map D.ot).set k e)=true:=OT.KE k (Bd.dfu xs) he
theorem Ok (xs:List Bd) (k:Nat) (e:List OT) (b:Bd) (he:OT.ers e=b.d):OT.erss ((xs.map fun b=>b.d.map D.ot).set k e)=(xs.set k b).map Bd.d:=by
 rw [OT.NT,Bd.der,he,List.map_set]
abbrev hnm (n:ByteArray):List OT:=[.str n,.str ⟨#[97]⟩,.ow []]
abbrev bnm (n:ByteArray):Bd:=⟨n,.mk ⟨#[97]⟩ []⟩
theorem Sf:∀ ns:List ByteArray,OT.AB (ns.map hnm)=true
 | []=>rfl
 | n :: ns=>by rw [zE]; simp only [OT.AB,OT.CJ,OT.full,Sf ns,yE]
theorem Sg:∀ ns:List ByteArray,OT.erss (ns.map hnm)=(ns.map bnm).map Bd.d
 | []=>rfl
 | n :: ns=>by
  rw [zE,zE,zE,Bd.d_eq]
  simp only [OT.erss,OT.ers,OT.er,Sg ns]
  rfl
theorem FO {xs:List Bd} {b:Bd} {k n:Nat} (h:∀ x∈xs,x.term.nodes≤n) (hb:b.term.nodes≤n):∀ x∈xs.set k b,x.term.nodes≤n:=fun x hx=>by
 rcases List.mem_or_eq_of_mem_set hx with h1 | rfl
 ·exact h x h1
 ·exact hb
def I9:SC:=(.seq (.reg [⟨(some 2),none,(.mv (.c (.str ⟨#[]⟩)))⟩]) (.seq (.seq (.reg [⟨some 3,none,.mv (.t 0)⟩,⟨some 4,none,.bin .lss false (.t 3) (.c (.int .i64 0))⟩]) (.cond (.t 4) (.seq (.reg [⟨some 5,none,.mv (.t 0)⟩,⟨some 6,none,.un .neg (.t 5)⟩,⟨some 7,none,.call 33 [(.t 6)]⟩,⟨(some 8),none,(.bin .add false (.c (.str ⟨#[45]⟩)) (.t 7))⟩,⟨some 2,none,.mv (.t 8)⟩]) .ret) .skip)) (.seq (.seq (.reg [⟨some 9,none,.mv (.t 0)⟩,⟨some 10,none,.bin .lss false (.t 9) (.c (.int .i64 10))⟩]) (.cond (.t 10) (.seq (.reg [⟨some 11,none,.mv (.t 0)⟩,⟨some 12,none,.mv (.t 0)⟩,⟨some 13,none,.bin .add false (.t 12) (.c (.int .i64 1))⟩,⟨(some 14),none,(.slice true 0 (.c (.str ⟨#[48,49,50,51,52,53,54,55,56,57]⟩)) (some (.t 11)) (some (.t 13)))⟩,⟨some 2,none,.mv (.t 14)⟩]) .ret) .skip)) (.seq (.dreg [[],[0],[1,0],[],[3],[],[5],[6,5],[4,3,7,6,5],[2,1,0,8,4,3,7,6,5],[9,2,1,0,8,4,3,7,6,5]] [⟨some 15,none,.mv (.t 0)⟩,⟨some 16,none,.bin .quo false (.t 15) (.c (.int .i64 10))⟩,⟨some 17,none,.call 33 [(.t 16)]⟩,⟨some 18,none,.mv (.t 0)⟩,⟨some 19,none,.bin .rem false (.t 18) (.c (.int .i64 10))⟩,⟨some 20,none,.mv (.t 0)⟩,⟨some 21,none,.bin .rem false (.t 20) (.c (.int .i64 10))⟩,⟨some 22,none,.bin .add false (.t 21) (.c (.int .i64 1))⟩,⟨(some 23),none,(.slice true 0 (.c (.str ⟨#[48,49,50,51,52,53,54,55,56,57]⟩)) (some (.t 19)) (some (.t 22)))⟩,⟨some 24,none,.bin .add false (.t 17) (.t 23)⟩,⟨some 2,none,.mv (.t 24)⟩]) .ret))))
theorem MU:A1 Tryz.prog 33=some ⟨25,I9,[(.tmp 2)]⟩:=by kernel_rfl
theorem B3:modes 33=⟨[],.asis,none,false⟩:=by unfold modes; rfl
theorem UZ (d:Nat) (h:d<10):(⟨#[48,49,50,51,52,53,54,55,56,57]⟩:ByteArray).extract d (d+1)=⟨#[UInt8.ofNat (48+d)]⟩:=by
 have key:∀ d:_root_.Fin 10,(⟨#[48,49,50,51,52,53,54,55,56,57]⟩:ByteArray).extract d.val (d.val+1)=⟨#[UInt8.ofNat (48+d.val)]⟩:=by decide +kernel
 exact key ⟨d,h⟩
def JL (n:Int):ByteArray:=⟨#[UInt8.ofNat (48+n.toNat)]⟩
theorem Sh (n:Int) (h0:0≤n) (h:n<10):E 33 [.int .i64 n] []=some (.str (JL n),[]):=by
 have hsz:(⟨#[48,49,50,51,52,53,54,55,56,57]⟩:ByteArray).size=10:=rfl
 have e1:=UZ n.toNat (by omega)
 have e2:(n+1).toNat=n.toNat+1:=by omega
 unfold JL
 refine Ab MU B3 (of_decide_eq_true rfl) ?_
 simp (disch:=omega) only [I9,go_sem,Aa,hsz,e1,e2,B3]
theorem D8 (l:List Int) (hl:Bytes l) (hn:l.length≤1099511627776) (p s:Int) (h0:0≤p) (h1:p≤1080000000000):∃ (x:Sb) (p' s':Int),E 14 [.ptr 0 0] [cur l p s]=some (x.sv,[cur l p' s'])∧(p≤p'∧p'≤p+1000)∧x.binds.length≤13∧∀ b∈x.binds,b.term.nodes≤150:=by
 obtain ⟨Q,hQ⟩:∃ Q:SV × List Ob→Prop,Q=fun out=>∃ x p' s',out=(Sb.sv x,[cur l p' s'])∧(p≤p'∧p'≤p+1000)∧x.binds.length≤13∧∀ b∈x.binds,b.term.nodes≤150:=⟨_,rfl⟩
 suffices hq0:∃ out,E 14 [.ptr 0 0] [cur l p s]=some out∧Q out by
  obtain ⟨out,hq1,hq2⟩:=hq0
  rw [hQ] at hq2
  obtain ⟨x,p',s',rfl,hq3⟩:=hq2
  exact ⟨x,p',s',hq1,hq3⟩
 obtain ⟨z,xs,p1,s1,hsu,⟨g1,g2⟩,hxl,hxn,hz⟩:=KY l hl hn p s h0 (by omega)
 have hx150:∀ b∈xs,b.term.nodes≤150:=fun b hb=>by have:=hxn b hb; omega
 cases z with
 | true =>
  rw [cond_true] at hsu
  refine AJ AD Av (of_decide_eq_true rfl) ?_
  simp (disch:=omega) only [A7,go_sem,Aa,hsu,AA,Ad,Ay,Ah,As,B3]
  rw [hQ]
  exact ⟨⟨[]⟩,p1,s1,rfl,by omega,by simp,by simp⟩
 | false =>
  rw [cond_false] at hsu
  by_cases hxe:xs.length=0
  ·obtain rfl:xs=[]:=List.length_eq_zero_iff.1 hxe
   refine AJ AD Av (of_decide_eq_true rfl) ?_
   simp (disch:=omega) only [A7,go_sem,Aa,hsu,AA,Ad,Ay,Ah,As,B3]
   rw [hQ]
   exact ⟨⟨[]⟩,p1,s1,rfl,by omega,by simp,by simp⟩
  ·have hl0:((xs.length:Int)=0)=False:=eq_false (by omega)
   obtain ⟨v,p2,s2,hv,⟨v0,v1⟩,g3,g4⟩:=Ga l hl hn xs.length (by omega) (by omega) p1 s1 (by omega) (by omega)
   have hkl:v.toNat<xs.length:=by omega
   have hgx:=Vy hkl
   obtain ⟨w,p3,s3,hw,⟨w0,w1⟩,g5,g6⟩:=Ga l hl hn 24 (by omega) (by omega) p2 s2 (by omega) (by omega)
   obtain ⟨b,hb⟩:∃ b,b=xs[v.toNat]:=⟨_,rfl⟩
   have hbn:b.term.nodes≤7:=by rw [hb]; exact hxn _ (zN hkl)
   rw [←hb] at hgx
   rcases (show w=0∨w=1∨w=2∨w=3∨w=4∨(¬ w=0∧¬ w=1∧¬ w=2∧¬ w=3∧¬ w=4) by omega) with rfl | rfl | rfl | rfl | rfl | ⟨k0,k1,k2,k3,k4⟩
   ·obtain ⟨u,p4,s4,hu,_,g7,g8⟩:=RL l hl hn [⟨#[97]⟩,⟨#[]⟩,⟨#[84]⟩,⟨#[90]⟩,⟨#[90,122]⟩] (by decide) (by decide) p3 s3 (by omega) (by omega)
    simp only [zE,zG] at hu
    have hfu:=I8 (xs:=xs) v.toNat (e:=[OT.str u,.str b.term.name,.sh (b.term.args.map Tm.d)]) rfl
    have her:=Ok xs v.toNat [OT.str u,.str b.term.name,.sh (b.term.args.map Tm.d)] ⟨u,b.term⟩ rfl
    refine AJ AD Av (of_decide_eq_true rfl) ?_
    simp (disch:=omega) only [A7,go_sem,Aa,hsu,zJ,hl0,hv,hgx,hkl,hw,hu,hfu,her,AA,Ad,Ay,Ah,As,B3]
    rw [hQ]
    exact ⟨⟨xs.set v.toNat ⟨u,b.term⟩⟩,p4,s4,rfl,by omega,by show (xs.set _ _).length≤_; rw [zU]; omega,FO hx150 (by show b.term.nodes≤_; omega)⟩
   ·have hfu:=I8 (xs:=xs) v.toNat (e:=[OT.str b.var,.str b.var,.ow []]) rfl
    have her:=Ok xs v.toNat [OT.str b.var,.str b.var,.ow []] ⟨b.var,.mk b.var []⟩ rfl
    refine AJ AD Av (of_decide_eq_true rfl) ?_
    simp (disch:=omega) only [A7,go_sem,Aa,hsu,zJ,hl0,hv,hgx,hkl,hw,hfu,her,AA,Ad,Ay,Ah,As,B3]
    rw [hQ]
    exact ⟨⟨xs.set v.toNat ⟨b.var,.mk b.var []⟩⟩,p3,s3,rfl,by omega,by show (xs.set _ _).length≤_; rw [zU]; omega,FO hx150 (by show (Tm.mk b.var []).nodes≤_; rw [Tm.Dn]; simp [Tm.Bb])⟩
   ·obtain ⟨t,p4,s4,ht,⟨g7,g8⟩,g9⟩:=Me l hl hn p3 s3 (by omega) (by omega)
    have hfu:=I8 (xs:=xs) v.toNat (e:=[OT.str b.var,.str t.name,.ow (t.args.map Tm.osh)]) (by simp only [OT.CJ,OT.full,Tm.EI,yE])
    have her:=Ok xs v.toNat [OT.str b.var,.str t.name,.ow (t.args.map Tm.osh)] ⟨b.var,t⟩ (by rw [Bd.d_eq]; simp only [OT.ers,OT.er,Tm.G4])
    refine AJ AD Av (of_decide_eq_true rfl) ?_
    simp (disch:=omega) only [A7,go_sem,Aa,hsu,zJ,hl0,hv,hgx,hkl,hw,ht,hfu,her,AA,Ad,Ay,Ah,As,B3]
    rw [hQ]
    exact ⟨⟨xs.set v.toNat ⟨b.var,t⟩⟩,p4,s4,rfl,by omega,by show (xs.set _ _).length≤_; rw [zU]; omega,FO hx150 (by show t.nodes≤_; omega)⟩
   ·obtain ⟨p5,hp5⟩:∃ p5,p5=p3:=⟨_,rfl⟩
    obtain ⟨s5,hs5⟩:∃ s5,s5=s3:=⟨_,rfl⟩
    rw [←hp5,← hs5] at hw
    refine AJ AD Av (of_decide_eq_true rfl) ?_
    simp (disch:=omega) only [A7,go_sem,Aa,hsu,zJ,hl0,hv,hgx,hkl,hw,AA,Ad,Ay,Ah,As,B3]
    refine go_loop (α:=Int × List ByteArray) (fun a=>⟨slots 75 0 [(2,.ptr 1 0),(3,.ptr 2 0),(6,.int .i64 a.1)],[cur l p5 s5,.box 26 [.nil],.box 26 [.ref 3],.row 55 3 ((xs.map fun b=>b.d.map D.ot)++a.2.map hnm)]⟩) (fun a=>∃ k:Nat,a.1=k∧k≤9∧a.2.length≤k) (fun a=>(9-a.1).toNat) (0,[]) ⟨0,rfl,by omega,by simp⟩ (by (simp (disch:=omega) only [go_sem,Aa,zG,List.append_nil]) <;> first | trivial | rfl | exact ⟨rfl,rfl⟩) ?_
    rintro ⟨i,ns⟩ ⟨k,hi,hk,hal⟩
    dsimp only at hi hal
    rcases zF k 9 with hlt | hge
    ·have q1:(i<9)=True:=eq_true (by omega)
     have hnum:=Sh (i+1) (by omega) (by omega)
     have hns:(JL (i+1)).size=1:=rfl
     have hz1:(⟨#[90]⟩:ByteArray).size=1:=rfl
     have hz2:(#[90]:Array UInt8).size=1:=rfl
     have hz3:dec (1+1≤9223372036854775807)=true:=Bs (by omega)
     have hap:((xs.map fun b=>b.d.map D.ot)++ns.map hnm).length=xs.length+ns.length:=by rw [zI,zJ,zJ]
     simp (disch:=omega) only [go_sem,Aa,q1,hnum,hz1,hz2,hns,hz3,hap,AA,Ad,Ay,Ah,As,B3]
     refine ⟨(i+1,ns++[⟨#[90]⟩++JL (i+1)]),⟨k+1,by dsimp only; omega,by omega,by simp only [zI,zK,zH]; omega⟩,by dsimp only; omega,?_⟩
     dsimp only
     rw [zO,← yD]
     first | trivial | rfl | exact ⟨rfl,rfl⟩
    ·have q1:(i<9)=False:=eq_false (by omega)
     simp (disch:=omega) only [go_sem,Aa,q1,Bd.dfu,Bd.der,Sf,Sg,yE]
     rw [hQ]
     refine ⟨⟨xs++ns.map bnm⟩,p5,s5,?_,by omega,by show (xs++ns.map bnm).length≤_; rw [zI,zJ]; omega,fun b hb=>?_⟩
     ·show _=(SV.agg [.arr ((xs++ns.map bnm).map Bd.d)],[cur l p5 s5])
      rw [zO]
     ·rcases zV.1 hb with h | h
      ·exact hx150 b h
      ·obtain ⟨n,_,rfl⟩:=yI.1 h
       show (Tm.mk ⟨#[97]⟩ []).nodes≤_
       rw [Tm.Dn]; simp [Tm.Bb]
   ·obtain ⟨u,p4,s4,hu,⟨u0,u1⟩,g7,g8⟩:=Ga l hl hn 4 (by omega) (by omega) p3 s3 (by omega) (by omega)
    have hi:dec (inK .i64 (5+u))=true:=FZ (by omega) (by omega)
    obtain ⟨t,p5,s5,ht,⟨g9,g10⟩,g11⟩:=MJ l hl hn (5+u) (by omega) (by omega) p4 s4 (by omega) (by omega)
    have hfu:=I8 (xs:=xs) v.toNat (e:=[OT.str b.var,.str t.name,.ow (t.args.map Tm.osh)]) (by simp only [OT.CJ,OT.full,Tm.EI,yE])
    have her:=Ok xs v.toNat [OT.str b.var,.str t.name,.ow (t.args.map Tm.osh)] ⟨b.var,t⟩ (by rw [Bd.d_eq]; simp only [OT.ers,OT.er,Tm.G4])
    refine AJ AD Av (of_decide_eq_true rfl) ?_
    simp (disch:=omega) only [A7,go_sem,Aa,hsu,zJ,hl0,hv,hgx,hkl,hw,hu,hi,ht,hfu,her,AA,Ad,Ay,Ah,As,B3]
    rw [hQ]
    exact ⟨⟨xs.set v.toNat ⟨b.var,t⟩⟩,p5,s5,rfl,by omega,by show (xs.set _ _).length≤_; rw [zU]; omega,FO hx150 (by show t.nodes≤_; omega)⟩
   ·have k0:=eq_false k0
    have k1:=eq_false k1
    have k2:=eq_false k2
    have k3:=eq_false k3
    have k4:=eq_false k4
    have hfu:=I8 (xs:=xs) v.toNat (e:=[OT.str b.var,.str b.term.name,.sh (b.term.args.map Tm.d)]) rfl
    have her:=Ok xs v.toNat [OT.str b.var,.str b.term.name,.sh (b.term.args.map Tm.d)] b (by rw [Bd.d_eq]; rfl)
    refine AJ AD Av (of_decide_eq_true rfl) ?_
    simp (disch:=omega) only [A7,go_sem,Aa,hsu,zJ,hl0,hv,hgx,hkl,hw,k0,k1,k2,k3,k4,hfu,her,AA,Ad,Ay,Ah,As,B3]
    rw [hQ]
    exact ⟨⟨xs.set v.toNat b⟩,p3,s3,rfl,by omega,by show (xs.set _ _).length≤_; rw [zU]; omega,FO hx150 (by omega)⟩
theorem KZ {x:Sb} (h1:x.binds.length≤13) (h2:∀ b∈x.binds,b.term.nodes≤150):x.tame:=⟨by omega,fun b hb=>by have:=h2 b hb; omega⟩
theorem Lv (l:List Int) (hl:Bytes l) (hn:l.length≤1099511627776):∃ x u:Sb,E 5 [.arr (l.map by_)] []=some (.tup [x.sv,u.sv],[])∧x.tame∧u.tame:=by
 obtain ⟨x,p1,s1,hx,_,g1,g2⟩:=D8 l hl hn 0 0 (by omega) (by omega)
 obtain ⟨u,p2,s2,hu,_,g3,g4⟩:=D8 l hl hn p1 s1 (by omega) (by omega)
 refine ⟨x,u,?_,KZ g1 g2,KZ g3 g4⟩
 have hxs:x.sv=.agg [.arr (x.binds.map Bd.d)]:=rfl
 have hus:u.sv=.agg [.arr (u.binds.map Bd.d)]:=rfl
 refine Ab DB Au (of_decide_eq_true rfl) ?_
 simp (disch:=omega) only [Cq,go_sem,Aa,hx,hu,Av]
theorem Ol (l:List Int) (hl:Bytes l) (hn:l.length≤1099511627776):∃ (x:Sb) (t:Tm),E 6 [.arr (l.map by_)] []=some (.tup [x.sv,t.sv],[])∧t.nodes≤400:=by
 obtain ⟨Q,hQ⟩:∃ Q:SV × List Ob→Prop,Q=fun out=>∃ x t,out=(.tup [Sb.sv x,Tm.sv t],[])∧Tm.nodes t≤400:=⟨_,rfl⟩
 suffices hq0:∃ out,E 6 [.arr (l.map by_)] []=some out∧Q out by
  obtain ⟨out,hq1,hq2⟩:=hq0
  rw [hQ] at hq2
  obtain ⟨x,t,rfl,hq3⟩:=hq2
  exact ⟨x,t,hq1,hq3⟩
 obtain ⟨x,p1,s1,hx,_,g1,g2⟩:=D8 l hl hn 0 0 (by omega) (by omega)
 have hxs:x.sv=.agg [.arr (x.binds.map Bd.d)]:=rfl
 obtain ⟨b,p2,s2,hb,a1,a2⟩:=Jw l hl hn 10 (by omega) (by omega) p1 s1 (by omega) (by omega)
 cases b with
 | true =>
  obtain ⟨t,p3,s3,ht,⟨b1,b2⟩,b3⟩:=Ip l hl hn 3 3 rfl (by omega) (by omega) p2 s2 (by omega) (by omega)
  obtain ⟨t2,p4,s4,ht2,⟨b4,b5⟩,b6⟩:=Ip l hl hn 3 3 rfl (by omega) (by omega) p3 s3 (by omega) (by omega)
  obtain ⟨t3,p5,s5,ht3,_,b7⟩:=MJ l hl hn 4 (by omega) (by omega) p4 s4 (by omega) (by omega)
  refine AJ CB Aw (of_decide_eq_true rfl) ?_
  simp (disch:=omega) only [BM,go_sem,Aa,hx,hb,ht,ht2,ht3,Av,Ar,A8,As,Bt]
  rw [hQ]
  refine ⟨x,.mk ⟨#[103]⟩ [.mk ⟨#[103]⟩ [t,t2],t3],?_,?_⟩
  ·rw [hxs]
   have e1:∀ a b:Tm,(Tm.mk ⟨#[103]⟩ [a,b]).d=[D.str ⟨#[103]⟩,D.arr [a.d,b.d]]:=fun a b=>by rw [Tm.d_eq]; rfl
   show _=(SV.tup [_,.agg [.str _,.arr [Tm.d (Tm.mk ⟨#[103]⟩ [t,t2]),Tm.d t3]]],_)
   rw [e1,Tm.d_eq t,Tm.d_eq t2,Tm.d_eq t3]
   rfl
  ·rw [Tm.Dn]
   show 1+((Tm.mk ⟨#[103]⟩ [t,t2]).nodes+(t3.nodes+0))≤_
   rw [Tm.Dn]
   show 1+(1+(t.nodes+(t2.nodes+0))+(t3.nodes+0))≤_
   omega
 | false =>
  obtain ⟨t,p3,s3,ht,_,b3⟩:=ML l hl hn p2 s2 (by omega) (by omega)
  refine AJ CB Aw (of_decide_eq_true rfl) ?_
  simp (disch:=omega) only [BM,go_sem,Aa,hx,hb,ht,Av,Ar,A8,As,Bt]
  rw [hQ]
  exact ⟨x,t,rfl,by omega⟩
mutual
noncomputable def Tm.vs:Tm→List ByteArray
 | .mk name args=>bif Bi name then [name] else Tm.vsL args
noncomputable def Tm.vsL:List Tm→List ByteArray
 | []=>[]
 | x :: xs=>Tm.vs x++Tm.vsL xs
end
theorem Tm.Hz (x:Tm):x.vs=bif Bi x.name then [x.name] else Tm.vsL x.args:=by
 obtain ⟨n,a⟩:=x
 rw [Tm.vs]; rfl
theorem Tm.Hg {v:ByteArray}:∀ {xs:List Tm},v∈Tm.vsL xs ↔ ∃ x∈xs,v∈x.vs
 | []=>by simp [Tm.vsL]
 | x :: xs=>by rw [Tm.vsL,zV,Tm.Hg (xs:=xs)]; simp
theorem Tm.PP:∀ xs:List Tm,(∀ x∈xs,x.vs.length≤x.nodes)→(Tm.vsL xs).length≤Tm.Bb xs
 | [],_=>by simp [Tm.vsL]
 | x :: xs,h=>by
  have h1:=h x (by simp)
  have h2:=Tm.PP xs fun y hy=>h y (by simp [hy])
  rw [Tm.vsL,Tm.Bb,zI]; omega
theorem Tm.MW (x:Tm):x.vs.length≤x.nodes:=by
 have h:=Tm.PP x.args fun y hy=>Tm.MW y
 rw [Tm.Hz,Tm.Ao]
 cases Bi x.name with
 | true=>simp
 | false=>simp only [cond_false]; omega
termination_by SizeOf.sizeOf x
decreasing_by exact Tm.AL hy
noncomputable def J9 (l:List ByteArray) (n:ByteArray):List ByteArray:=bif dec (n∈l) then l else l++[n]
theorem Si (l:List ByteArray) (n:ByteArray):(J9 l n).length≤l.length+1:=by
 unfold J9
 cases dec (n∈l) <;> simp
theorem Sj {l:List ByteArray} {n m:ByteArray}:m∈J9 l n ↔ m∈l∨m=n:=by
 unfold J9
 by_cases h:n∈l
 ·rw [Bs h,cond_true]
  exact ⟨.inl,fun h'=>h'.elim id fun e=>e▸h⟩
 ·rw [BW h,cond_false]
  simp
noncomputable def DC (l ns:List ByteArray):List ByteArray:=ns.foldl J9 l
theorem IA:∀ (ns l:List ByteArray),(DC l ns).length≤l.length+ns.length
 | [],l=>by simp [DC]
 | n :: ns,l=>by
  have h:=IA ns (J9 l n)
  have h2:=Si l n
  simp only [DC,zW,zK] at h ⊢
  omega
theorem Om:∀ {ns l:List ByteArray} {m:ByteArray},m∈DC l ns ↔ m∈l∨m∈ns
 | [],l,m=>by simp [DC]
 | n :: ns,l,m=>by
  have h:=Om (ns:=ns) (l:=J9 l n) (m:=m)
  simp only [DC,zW] at h ⊢
  rw [h,Sj]
  simp only [List.mem_cons]
  exact or_assoc
theorem Sk (l a b:List ByteArray):DC l (a++b)=DC (DC l a) b:=List.foldl_append
def CC:SC:=(.seq (.reg [⟨some 4,none,.mv (.c (.int .i64 0))⟩]) (.seq (.seq (.reg [⟨some 6,none,.mv (.t 0)⟩,⟨some 7,none,.len false (.t 6)⟩,⟨some 8,none,.mv (.c (.int .i64 0))⟩]) (.block 0 (.loop [1,1,0,0,0,0,0,1,1,0,0,0,0,0,0,0,0,0,0] (.seq (.reg [⟨some 9,none,.bin .lss false (.t 8) (.t 7)⟩]) (.seq (.cond (.t 9) .skip (.exit 0)) (.seq (.block 1 (.seq (.reg [⟨some 10,none,.mv (.t 8)⟩,⟨some 5,none,.mv (.t 10)⟩]) (.seq (.reg [⟨some 11,none,.mv (.t 1)⟩,⟨some 12,none,.mv (.t 0)⟩,⟨some 13,none,.mv (.t 5)⟩,⟨some 14,none,.iaddr 1 (.t 12) (.t 13)⟩,⟨some 15,none,.load false 1 (.t 14)⟩,⟨some 16,none,.bin .eql false (.t 11) (.t 15)⟩]) (.cond (.t 16) (.seq (.reg [⟨some 17,none,.mv (.t 5)⟩,⟨some 4,none,.mv (.t 17)⟩]) .ret) .skip)))) (.reg [⟨some 18,none,.bin .add false (.t 8) (.c (.int .i64 1))⟩,⟨some 8,none,.mv (.t 18)⟩]))))))) (.seq (.reg [⟨some 4,none,.mv (.c (.int .i64 (-(0+1))))⟩]) .ret)))
theorem Ek:A1 Tryz.prog 94=some ⟨19,CC,[(.tmp 4)]⟩:=by kernel_rfl
theorem CD:modes 94=⟨[],.asis,none,false⟩:=by unfold modes; rfl
def Cr:SC:=(.seq (.reg [⟨some 4,none,.mv (.c (.bool false))⟩]) (.seq (.reg [⟨some 5,none,.mv (.t 0)⟩,⟨some 6,none,.mv (.t 1)⟩,⟨some 7,none,.call 94 [(.t 5),(.t 6)]⟩,⟨some 8,none,.bin .geq false (.t 7) (.c (.int .i64 0))⟩,⟨some 4,none,.mv (.t 8)⟩]) .ret))
theorem DD:A1 Tryz.prog 76=some ⟨9,Cr,[(.tmp 4)]⟩:=by kernel_rfl
theorem B6:modes 76=⟨[],.asis,none,false⟩:=by unfold modes; rfl
theorem Sl (xs:List ByteArray) (n:ByteArray) (hl:xs.length≤1099511627776):E 94 [.arr (xs.map fun s=>[D.str s]),.str n] []=some (.int .i64 (De (fun s=>dec (n=s)) xs 0),[]):=by
 refine Ab Ek CD (of_decide_eq_true rfl) ?_
 simp (disch:=omega) only [CC,go_sem,Aa]
 refine go_loop (α:=Int) (fun a=>⟨slots 19 0 [(0,.arr (xs.map fun s=>[D.str s])),(1,.str n),(7,.int .i64 xs.length),(8,.int .i64 a)],[]⟩) (fun a=>∃ k:Nat,a=k∧k≤(xs).length∧De (fun s=>dec (n=s)) (xs.drop k) a=De (fun s=>dec (n=s)) xs 0) (fun a=>(xs).length-(a).toNat) 0 ⟨0,rfl,zM _,by rw [zL]⟩ (by simp (disch:=omega) only [go_sem,Aa]) ?_
 rintro i ⟨k,hi,hk,hR⟩
 have hni:i.toNat=k:=by omega
 have hni1:(i+1).toNat=k+1:=by omega
 rcases zF k (xs).length with hlt | hge
 ·have hg:=get_at (fun s=>[D.str s]) hlt
  rw [zC hlt,De] at hR
  cases hp:dec (n=xs[k]) with
  | true =>
   rw [hp] at hR
   simp (disch:=omega) only [go_sem,Aa,hni,hg,hp]
   simpa using hR
  | false =>
   rw [hp] at hR
   simp (disch:=omega) only [go_sem,Aa,hni,hg,hp]
   exact ⟨i+1,⟨k+1,by omega,hlt,by simpa using hR⟩,by omega,by first | trivial | rfl⟩
 ·rw [zD hge,De] at hR
  simp (disch:=omega) only [go_sem,Aa,hni]
  exact hR
theorem On (xs:List ByteArray) (n:ByteArray) (hl:xs.length≤1099511627776):E 76 [.arr (xs.map fun s=>[D.str s]),.str n] []=some (.bool (dec (n∈xs)),[]):=by
 have h:=Sl xs n hl
 have e:dec (n∈xs)=dec (0≤De (fun s=>dec (n=s)) xs 0):=by
  rw [Ij]
  by_cases hm:n∈xs
  ·rw [Bs hm]
   exact (zT.2 ⟨n,hm,Bs rfl⟩).symm
  ·rw [BW hm]
   refine Eq.symm (Bool.eq_false_iff.2 fun h=>?_)
   obtain ⟨x,h1,h2⟩:=zT.1 h
   have e:=A5.1 h2
   subst e
   exact hm h1
 rw [e]
 refine Ab DD B6 (of_decide_eq_true rfl) ?_
 simp (disch:=omega) only [Cr,go_sem,Aa,h,CD]
theorem Mo:∀ (ns l:List ByteArray),l.length≤(DC l ns).length
 | [],l=>by simp [DC]
 | n :: ns,l=>by
  have h:=Mo ns (J9 l n)
  have h2:l.length≤(J9 l n).length:=by unfold J9; cases dec (n∈l) <;> simp
  simp only [DC,zW] at h ⊢
  omega
def CT:SC:=(.seq (.reg [⟨some 3,none,.boxv 31 2 (.t 1)⟩,⟨some 4,none,.mv (.c .nil)⟩]) (.seq (.seq (.reg [⟨some 7,none,.faddr 1 (.t 3)⟩,⟨some 8,none,.load false 1 (.t 7)⟩,⟨some 9,none,.len false (.t 8)⟩,⟨some 10,none,.bin .eql false (.t 9) (.c (.int .i64 0))⟩,⟨some 11,none,.mv (.t 10)⟩,⟨(some 12),(some (11,true)),(.load true 2 (.t 3))⟩,⟨(some 13),(some (11,true)),(.call 75 [(.t 12)])⟩,⟨some 14,none,.pick (.t 11) (.t 13) (.c (.bool false))⟩]) (.cond (.t 14) (.seq (.seq (.reg [⟨some 15,none,.mv (.t 0)⟩,⟨some 16,none,.faddr 0 (.t 3)⟩,⟨some 17,none,.load false 1 (.t 16)⟩,⟨some 18,none,.call 76 [(.t 15),(.t 17)]⟩,⟨some 19,none,.un .not (.t 18)⟩]) (.cond (.t 19) (.reg [⟨some 20,none,.mv (.t 0)⟩,⟨some 21,none,.faddr 0 (.t 3)⟩,⟨some 22,none,.load false 1 (.t 21)⟩,⟨(some 23),none,(.mkrow 9 1 [(.str ⟨#[]⟩)] 1 [(0,(.t 22))])⟩,⟨(some 24),none,(.append 9 1 16 [(.str ⟨#[]⟩)] (.t 20) (.t 23))⟩,⟨some 0,none,.mv (.t 24)⟩]) .skip)) (.seq (.reg [⟨some 25,none,.mv (.t 0)⟩,⟨some 4,none,.mv (.t 25)⟩]) .ret)) .skip)) (.seq (.seq (.reg [⟨some 26,none,.faddr 1 (.t 3)⟩,⟨some 27,none,.load false 1 (.t 26)⟩,⟨some 28,none,.len false (.t 27)⟩,⟨some 29,none,.mv (.c (.int .i64 0))⟩]) (.block 0 (.loop [1,0,0,0,0,0,0,0,0,0,0,0,0,0,0,0,0,0,0,0,0,0,0,0,0,0,0,1,1,1,0,0,0,0,0,0,0,0] (.seq (.reg [⟨some 30,none,.bin .lss false (.t 29) (.t 28)⟩]) (.seq (.cond (.t 30) .skip (.exit 0)) (.seq (.block 1 (.seq (.reg [⟨some 31,none,.iaddr 2 (.t 27) (.t 29)⟩,⟨some 32,none,.load true 2 (.t 31)⟩,⟨(some 6),none,(.alloc 31 [(.str ⟨#[]⟩),.nil])⟩,⟨none,none,(.store 2 (.t 6) (.t 32))⟩]) (.reg [⟨some 33,none,.mv (.t 0)⟩,⟨some 34,none,.load true 2 (.t 6)⟩,⟨some 35,none,.call 52 [(.t 33),(.t 34)]⟩,⟨some 0,none,.mv (.t 35)⟩]))) (.reg [⟨some 36,none,.bin .add false (.t 29) (.c (.int .i64 1))⟩,⟨some 29,none,.mv (.t 36)⟩]))))))) (.seq (.reg [⟨some 37,none,.mv (.t 0)⟩,⟨some 4,none,.mv (.t 37)⟩]) .ret))))
theorem D9:A1 Tryz.prog 52=some ⟨38,CT,[(.tmp 4)]⟩:=by kernel_rfl
theorem Ca:modes 52=⟨[true],.asis,none,false⟩:=by unfold modes; rfl
abbrev TK (x:Tm):Prop:=∀ l:List ByteArray,l.length+x.nodes≤1048576→E 52 [.ref 0,x.sv] [.row 9 1 (l.map fun s=>[OT.str s])]=some ((bif dec (l.length<(DC l x.vs).length) then .ref 1 else .ref 0),(bif dec (l.length<(DC l x.vs).length) then [.gone,.row 9 1 ((DC l x.vs).map fun s=>[OT.str s])] else [.row 9 1 ((DC l x.vs).map fun s=>[OT.str s])]))
theorem Ph (x:Tm) (hva:Bi x.name=true→x.args=[]) (hc:x.cok=true) (ih:∀ y∈x.args,TK y):TK x:=by
 intro l hn
 have hl:=Tm.length_le x.args
 have hne:=Tm.Ao x
 have hv:=TE x hc
 have hvs:=Tm.Hz x
 rcases Nat.eq_zero_or_pos x.args.length with h0 | h0
 ·have hx0:x.args=[]:=List.eq_nil_of_length_eq_zero h0
  have hz:((x.args.length:Int)=0)=True:=by rw [hx0]; simp
  cases hvv:Bi x.name with
  | true =>
   rw [hvv] at hv hvs
   have h1:=On l x.name (by omega)
   rw [hvs]
   cases hm:dec (x.name∈l) with
   | true =>
    have e:DC l [x.name]=l:=by simp only [DC,zW,List.foldl_nil,J9,hm,cond_true]
    rw [hm] at h1
    simp only [cond_true,e]
    refine Ab D9 Ca (of_decide_eq_true rfl) ?_
    simp (disch:=omega) only [CT,go_sem,Aa,hz,hv,h1,Eu,B6]
   | false =>
    have e:DC l [x.name]=l++[x.name]:=by simp only [DC,zW,List.foldl_nil,J9,hm,cond_false]
    have hg:l.length<(l++[x.name]).length:=by simp
    rw [hm] at h1
    simp only [cond_true,e,Bs hg]
    refine Ab D9 Ca (of_decide_eq_true rfl) ?_
    simp (disch:=omega) only [CT,go_sem,Aa,hz,hv,h1,Eu,B6]
    simp only [zO,zE,zG]
  | false =>
   rw [hvv] at hv hvs
   have e:DC l x.vs=l:=by rw [hvs,hx0]; simp only [cond_false,Tm.vsL]; rfl
   rw [e]
   refine Ab D9 Ca (of_decide_eq_true rfl) ?_
   simp (disch:=omega) only [CT,go_sem,Aa,hz,hv,Eu]
   refine go_loop (α:=Int) (fun a=>⟨slots 38 0 [(0,.ref 0),(27,.arr (x.args.map Tm.d)),(28,.int .i64 x.args.length),(29,.int .i64 a)],[.row 9 1 (l.map fun s=>[OT.str s])]⟩) (fun a=>∃ k:Nat,a=k∧k≤(x.args).length) (fun a=>(x.args).length-(a).toNat) 0 ⟨0,rfl,zM _⟩ (by simp (disch:=omega) only [go_sem,Aa]) ?_
   rintro i ⟨k,hi,hk⟩
   have hni:i.toNat=k:=by omega
   have hni1:(i+1).toNat=k+1:=by omega
   rcases zF k (x.args).length with hlt | hge
   ·omega
   ·simp (disch:=omega) only [go_sem,Aa,hni]
 ·have hz:((x.args.length:Int)=0)=False:=eq_false (by omega)
  have hvv:Bi x.name=false:=by
   cases h:Bi x.name with
   | false=>rfl
   | true=>rw [hva h] at h0; simp at h0
  rw [hvv] at hvs
  simp only [cond_false] at hvs
  rw [hvs]
  refine Ab D9 Ca (of_decide_eq_true rfl) ?_
  simp (disch:=omega) only [CT,go_sem,Aa,hz]
  refine go_loop (α:=Int × (List ByteArray)) (fun a=>⟨slots 38 0 [(0,(bif dec (l.length<(a.2).length) then .ref 1 else .ref 0)),(27,.arr (x.args.map Tm.d)),(28,.int .i64 x.args.length),(29,.int .i64 (a.1))],(bif dec (l.length<(a.2).length) then [.gone,.row 9 1 ((a.2).map fun s=>[OT.str s])] else [.row 9 1 ((a.2).map fun s=>[OT.str s])])⟩) (fun a=>∃ k:Nat,a.1=k∧k≤(x.args).length∧DC (a.2) (Tm.vsL (x.args.drop k))=DC l (Tm.vsL x.args)∧(a.2).length+Tm.Bb (x.args.drop k)≤1048576∧l.length≤(a.2).length) (fun a=>(x.args).length-(a.1).toNat) (0,l) ⟨0,rfl,zM _,by rw [zL],by rw [zL]; dsimp only; omega,yA _⟩ (by simp (disch:=omega) only [go_sem,Aa]) ?_
  rintro ⟨i,acc⟩ ⟨k,hi,hk,hR⟩
  dsimp only at hi hR
  have hni:i.toNat=k:=by omega
  have hni1:(i+1).toNat=k+1:=by omega
  rcases zF k (x.args).length with hlt | hge
  ·have hg:=get_at Tm.d hlt
   rw [Tm.d_eq] at hg
   obtain ⟨hR1,hR2,hR3⟩:=hR
   rw [zC hlt,Tm.vsL,Sk] at hR1
   rw [zC hlt,Tm.Bb] at hR2
   have hc:=ih x.args[k] (zN hlt) acc (by omega)
   have hlen:=IA x.args[k].vs acc
   have hgr:=Mo x.args[k].vs acc
   have hvl:=Tm.MW x.args[k]
   obtain ⟨acc2,ha2⟩:∃ a,a=DC acc x.args[k].vs:=⟨_,rfl⟩
   rw [←ha2] at hc hlen hgr hR1
   rcases zF l.length acc.length with q1 | q1 <;> rcases zF acc.length acc2.length with q2 | q2
   all_goals
    first
     |rw [Bs q2] at hc
     |rw [BW (Nat.not_lt.2 q2)] at hc
    simp only [cond_true,cond_false] at hc
    simp (disch:=omega) only [go_sem,Aa,hni,hg,hc,Ca]
    refine ⟨(i+1,acc2),⟨k+1,by dsimp only; omega,hlt,hR1,by dsimp only; omega,by dsimp only; omega⟩,by dsimp only; omega,?_⟩
    first | done | simp (disch:=omega) only [go_sem,Aa]
  ·rw [zD hge,Tm.vsL] at hR
   obtain ⟨hR1,hR2,hR3⟩:=hR
   have hR1:acc=DC l (Tm.vsL x.args):=hR1
   rw [←hR1]
   rcases zF l.length acc.length with q1 | q1
   ·simp (disch:=omega) only [go_sem,Aa,hni]
   ·simp (disch:=omega) only [go_sem,Aa,hni]
theorem Mp (x:Tm) (hx:x.names=true) (hc:x.cok=true):TK x :=
 Ph x (fun h=>Tm.FI hx h) hc fun y hy=>Mp y (Tm.Hf hx hy) (by rw [Tm.RV,zB] at hc; exact Tm.RW hc.2 hy)
termination_by SizeOf.sizeOf x
decreasing_by exact Tm.AL hy
noncomputable def Sm (l:List ByteArray):List ByteArray:=(srt (l.map (·.toList))).map fun x=>⟨x.toArray⟩
theorem Mq (l:List ByteArray):(Sm l).Perm l:=by
 unfold Sm
 have h:(srt (l.map (·.toList))).Perm (l.map (·.toList)):=List.mergeSort_perm _ _
 have h2:=h.map fun x:List UInt8=>(⟨x.toArray⟩:ByteArray)
 rw [zP] at h2
 have e:((fun x:List UInt8=>(⟨x.toArray⟩:ByteArray)) ∘ fun x:ByteArray=>x.toList)=id:=by
  funext x
  exact HH x
 rw [e,List.map_id] at h2
 exact h2
theorem BQ:modes 53=⟨[true],.asis,some sortStr,false⟩:=by unfold modes; rfl
theorem TL (l:List ByteArray) (hl:l.length≤1099511627776):E 53 [.ref 0] [.row 9 1 (l.map fun s=>[OT.str s])]=some (.tup [],[.row 9 1 ((Sm l).map fun s=>[OT.str s])]):=by
 rw [MC (g:=sortStr) (congrArg FM.ext BQ)]
 unfold sortStr
 simp only
 rw [Bs ⟨by first | trivial | rfl,fun e he=>by obtain ⟨s,_,rfl⟩:=yI.1 he; exact ⟨s,rfl⟩,by simpa using hl⟩,cond_true]
 have e1:(l.map fun s=>[OT.str s]).map (fun e=>(HG e).toList)=l.map (·.toList):=by rw [zP]; rfl
 rw [e1]
 unfold Sm
 rw [zP]
 rfl
noncomputable def Tm.vars (x:Tm):List ByteArray:=Sm (DC [] x.vs)
theorem Tm.Sn (x:Tm) (n:ByteArray):n∈x.vars ↔ n∈x.vs:=by
 unfold Tm.vars
 rw [(Mq _).mem_iff,Om]
 simp
def DT:SC:=(.seq (.reg [⟨some 1,none,.boxv 31 2 (.t 0)⟩,⟨some 2,none,.mv (.c .nil)⟩]) (.seq (.reg [⟨(some 4),none,(.mkrow 9 1 [(.str ⟨#[]⟩)] 0 [])⟩,⟨some 5,none,.load true 2 (.t 1)⟩,⟨some 6,none,.call 52 [(.t 4),(.t 5)]⟩,⟨some 3,none,.mv (.t 6)⟩]) (.seq (.reg [⟨some 7,none,.mv (.t 3)⟩,⟨some 8,none,.call 53 [(.t 7)]⟩]) (.seq (.reg [⟨some 9,none,.mv (.t 3)⟩,⟨some 2,none,.mv (.t 9)⟩]) .ret))))
theorem FP:A1 Tryz.prog 26=some ⟨10,DT,[(.tmp 2)]⟩:=by kernel_rfl
theorem Da:modes 26=⟨[],.asis,none,false⟩:=by unfold modes; rfl
theorem MX (x:Tm) (hcol:TK x) (hn:x.nodes≤1048576):E 26 [x.sv] []=some (.ref 0,[.row 9 1 (x.vars.map fun s=>[OT.str s])]):=by
 have h1:=hcol [] (by simpa using hn)
 have hl:=IA x.vs []
 have hv:=Tm.MW x
 rw [zH,yH] at hl
 have h2:=TL (DC [] x.vs) (by omega)
 rw [zG,zH] at h1
 unfold Tm.vars
 rcases zF 0 (DC [] x.vs).length with q | q
 ·rw [Bs q] at h1
  simp only [cond_true] at h1
  refine Ab FP Da (of_decide_eq_true rfl) ?_
  simp (disch:=omega) only [DT,go_sem,Aa,h1,h2,Ca,BQ]
 ·rw [BW (by omega)] at h1
  simp only [cond_false] at h1
  refine Ab FP Da (of_decide_eq_true rfl) ?_
  simp (disch:=omega) only [DT,go_sem,Aa,h1,h2,Ca,BQ]
theorem Oo (x:Tm) (hx:x.names=true) (hc:x.cok=true) (hn:x.nodes≤1048576):E 26 [x.sv] []=some (.ref 0,[.row 9 1 (x.vars.map fun s=>[OT.str s])]):=MX x (Mp x hx hc) hn
theorem Sb.IB {s:Sb} {n:ByteArray} {t:Tm} (h:s.look n=some t):(⟨n,t⟩:Bd)∈s.binds:=by
 cases hh:BI s.binds n with
 | false=>rw [Sb.I4 hh] at h; cases h
 | true =>
  have hlt:=Fl hh
  rw [Sb.I3 hh hlt] at h
  obtain rfl:=yK h
  have e:=MS hh hlt
  have h1:=zN hlt
  have h2:∀ c:Bd,c.var=n→(⟨n,c.term⟩:Bd)=c:=fun c e=>by rw [←e]
  rw [h2 _ e]; exact h1
theorem Sb.E1 {s:Sb} (hs:HQ s.binds) {n:ByteArray}:s.look n=none ↔ ∀ b∈s.binds,b.var≠n:=by
 cases hh:BI s.binds n with
 | false =>
  rw [Sb.I4 hh]
  refine ⟨fun _ b hb e=>?_,fun _=>rfl⟩
  rw [I5 hs] at hh
  exact zY.1 hh b hb (Bs e)
 | true =>
  have hlt:=Fl hh
  rw [Sb.I3 hh hlt]
  exact ⟨fun h=>(by cases h),fun h=>absurd (MS hh hlt) (h _ (zN hlt))⟩
theorem Sb.GM {s:Sb} (hs:HQ s.binds) {b:Bd} (h:b∈s.binds):s.look b.var=some b.term:=by
 cases hq:s.look b.var with
 | none=>exact absurd rfl ((Sb.E1 hs).1 hq b h)
 | some t =>
  have h2:=Sb.IB hq
  obtain ⟨i,hi,e1⟩:=List.getElem_of_mem h
  obtain ⟨j,hj,e2⟩:=List.getElem_of_mem h2
  have hij:i=j:=(List.getElem_inj (h₀:=by simpa using hi) (h₁:=by simpa using hj) (HR hs)).1 (by simp only [List.getElem_map,e1,e2])
  subst hij
  rw [e1] at e2
  rw [e2]
theorem Tm.Ub {f:ByteArray→Option Tm} (x:Tm) {v:ByteArray} (h:v∈(x.ap f).vs):(v∈x.vs∧f v=none)∨∃ w∈x.vs,∃ t,f w=some t∧v∈t.vs:=by
 rw [Tm.Ef] at h
 by_cases hv:Bi x.name=true
 ·rw [if_pos hv] at h
  have hx:x.vs=[x.name]:=by rw [Tm.Hz,hv]; rfl
  cases hq:f x.name with
  | none =>
   rw [hq,yG,Tm.Hz] at h
   have h:v∈(bif Bi x.name then [x.name] else _):=h
   rw [hv,cond_true] at h
   have e:v=x.name:=by simpa using h
   subst e
   exact .inl ⟨by rw [hx]; simp,hq⟩
  | some t =>
   rw [hq,Option.getD_some] at h
   exact .inr ⟨x.name,by rw [hx]; simp,t,hq,h⟩
 ·rw [if_neg hv] at h
  have hv0:Bi x.name=false:=by simpa using hv
  have hx:x.vs=Tm.vsL x.args:=by rw [Tm.Hz,hv0]; rfl
  rw [Tm.Hz] at h
  have h:v∈(bif Bi x.name then [x.name] else Tm.vsL (Tm.apL f x.args)):=h
  rw [hv0,cond_false,Tm.Ev,Tm.Hg] at h
  obtain ⟨z,hz,hvz⟩:=h
  obtain ⟨y,hy,rfl⟩:=yI.1 hz
  rw [hx]
  rcases Tm.Ub y hvz with ⟨h1,h2⟩ | ⟨w,h1,t,h2,h3⟩
  ·exact .inl ⟨Tm.Hg.2 ⟨y,hy,h1⟩,h2⟩
  ·exact .inr ⟨w,Tm.Hg.2 ⟨y,hy,h1⟩,t,h2,h3⟩
termination_by SizeOf.sizeOf x
decreasing_by exact Tm.AL hy
theorem La {α:Type} {g:α→α}:∀ {xs:List α},(∀ x∈xs,g x=x)→xs.map g=xs
 | [],_=>rfl
 | x :: xs,h=>by rw [zE,h x (by simp),La fun y hy=>h y (by simp [hy])]
theorem Tm.Lb (x:Tm):Tm.mk x.name x.args=x:=by obtain ⟨n,a⟩:=x; rfl
theorem Tm.PQ {f:ByteArray→Option Tm} (x:Tm) (hx:x.names=true) (h:∀ v∈x.vs,f v=none):x.ap f=x:=by
 rw [Tm.Ef]
 by_cases hv:Bi x.name=true
 ·have hx0:=Tm.FI hx hv
  rw [if_pos hv,h x.name (by rw [Tm.Hz,hv]; simp),yG]
  conv=>rhs; rw [←Tm.Lb x,hx0]
 ·have hv0:Bi x.name=false:=by simpa using hv
  rw [if_neg hv,Tm.Ev,La fun y hy=>Tm.PQ y (Tm.Hf hx hy) fun v hvv=>h v (by
   rw [Tm.Hz,hv0,cond_false]
   exact Tm.Hg.2 ⟨y,hy,hvv⟩),Tm.Lb]
termination_by SizeOf.sizeOf x
decreasing_by exact Tm.AL hy
theorem Tm.So {f:ByteArray→Option Tm} (x:Tm) (hx:x.expr=true) (h:∀ v∈x.vs,f v=none):x.ap f=x:=by
 by_cases hv:Bi x.name=true
 ·rw [Tm.Ef,if_pos hv,h x.name (by rw [Tm.Hz,hv]; simp),yG]
  conv=>rhs; rw [←Tm.Lb x,Tm.Og hx hv]
 ·have hv0:Bi x.name=false:=by simpa using hv
  rw [Tm.Ef,if_neg hv,Tm.Ev,La fun y hy=>Tm.PQ y (Tm.Oh hx hy) fun v hvv=>h v (by
   rw [Tm.Hz,hv0,cond_false]
   exact Tm.Hg.2 ⟨y,hy,hvv⟩),Tm.Lb]
def Sb.idem (s:Sb):Prop:=∀ w t,s.look w=some t→∀ v∈t.vs,s.look v=none
theorem Sb.TM {s:Sb} (hi:s.idem) {x:Tm} {v:ByteArray} (h:v∈(x.ap s.look).vs):s.look v=none:=by
 rcases Tm.Ub x h with ⟨_,h2⟩ | ⟨w,_,t,h2,h3⟩
 ·exact h2
 ·exact hi w t h2 v h3
noncomputable def Sp (x y:Tm):Bd:=bif Bi x.name&&!(Bi y.name&&strLt x.name y.name) then ⟨x.name,y⟩ else ⟨y.name,x⟩
noncomputable def Vz (b:Bd):Bool:=!dec (b.var∈b.term.vs)&&(Sb.mk [b]).ok
noncomputable def Va:Nat→Sb→List (Tm × Tm)→Option (Option Sb)
 | 0,_,_=>none
 | n+1,s,l=>match l with
  | []=>some (some s)
  | p :: l=>bif C5 s p.1&&C5 s p.2 then
    (bif dec (Ch s p.1=Ch s p.2) then Va n s l
    else bif Bi (Ch s p.1).name || Bi (Ch s p.2).name then
     (bif Vz (Sp (Ch s p.1) (Ch s p.2))&&GH s ⟨[Sp (Ch s p.1) (Ch s p.2)]⟩ then Va n (Cx s ⟨[Sp (Ch s p.1) (Ch s p.2)]⟩) l else some none)
    else bif dec ((Ch s p.1).name=(Ch s p.2).name)&&dec ((Ch s p.1).args.length=(Ch s p.2).args.length) then Va n s ((Ch s p.1).args.zip (Ch s p.2).args++l)
    else some none)
   else some none
def V3:List (Tm × Tm)→Nat
 | []=>0
 | p :: l=>p.1.nodes+V3 l
structure uInv (s:Sb) (l:List (Tm × Tm)):Prop where
 ok:s.ok=true
 idem:s.idem
 ex:∀ p∈l,p.1.expr=true∧p.2.expr=true
 pq:∃ P Q,l=P++Q∧(∀ p∈P,p.1.ap s.look=p.1)∧V3 P≤30∧Q.length≤1+30*s.binds.length
theorem PR {s:Sb} {x:Tm} (h:C5 s x=true):(Ch s x).expr=true:=by
 rw [ET h]
 unfold C5 at h
 rw [zB,zB] at h
 have h2:(x.ap s.look).expr=(x.ap s.look).small:=Tm.UX (Sb.GF h.1) x h.2.1
 rw [h2]; exact h.2.2
noncomputable def Sb.bad (s:Sb) (b:Bd):Bool:=b.term.vs.any fun n=>BI s.binds n
theorem TN {α:Type} {p:α→Bool} {xs ys:List α} (h:∀ x,x∈xs ↔ x∈ys):xs.any p=ys.any p:=by
 rw [Bool.eq_iff_iff,zT,zT]
 exact ⟨fun ⟨x,h1,h2⟩=>⟨x,(h x).1 h1,h2⟩,fun ⟨x,h1,h2⟩=>⟨x,(h x).2 h1,h2⟩⟩
def Ci:SC:=(.seq (.reg [⟨some 4,none,.mv (.c (.int .i64 0))⟩]) (.seq (.seq (.reg [⟨some 6,none,.mv (.t 0)⟩,⟨some 7,none,.len false (.t 6)⟩,⟨some 8,none,.mv (.c (.int .i64 0))⟩]) (.block 0 (.loop [1,1,0,0,0,0,0,1,1,0,0,0,0,0,0,0,0,0,0] (.seq (.reg [⟨some 9,none,.bin .lss false (.t 8) (.t 7)⟩]) (.seq (.cond (.t 9) .skip (.exit 0)) (.seq (.block 1 (.seq (.reg [⟨some 10,none,.mv (.t 8)⟩,⟨some 5,none,.mv (.t 10)⟩]) (.seq (.reg [⟨some 11,none,.mv (.t 1)⟩,⟨some 12,none,.mv (.t 0)⟩,⟨some 13,none,.mv (.t 5)⟩,⟨some 14,none,.iaddr 1 (.t 12) (.t 13)⟩,⟨some 15,none,.load false 1 (.t 14)⟩,⟨some 16,none,.callv (.t 11) [(.t 15)]⟩]) (.cond (.t 16) (.seq (.reg [⟨some 17,none,.mv (.t 5)⟩,⟨some 4,none,.mv (.t 17)⟩]) .ret) .skip)))) (.reg [⟨some 18,none,.bin .add false (.t 8) (.c (.int .i64 1))⟩,⟨some 8,none,.mv (.t 18)⟩]))))))) (.seq (.reg [⟨some 4,none,.mv (.c (.int .i64 (-(0+1))))⟩]) .ret)))
theorem DA:A1 Tryz.prog 51=some ⟨19,Ci,[(.tmp 4)]⟩:=by kernel_rfl
theorem Cj:modes 51=⟨[],.asis,none,false⟩:=by unfold modes; rfl
def BS:SC:=(.seq (.reg [⟨some 4,none,.mv (.c (.bool false))⟩]) (.seq (.reg [⟨some 5,none,.mv (.t 0)⟩,⟨some 6,none,.mv (.t 1)⟩,⟨some 7,none,.call 51 [(.t 5),(.t 6)]⟩,⟨some 8,none,.bin .geq false (.t 7) (.c (.int .i64 0))⟩,⟨some 4,none,.mv (.t 8)⟩]) .ret))
theorem Dq:A1 Tryz.prog 25=some ⟨9,BS,[(.tmp 4)]⟩:=by kernel_rfl
theorem Bl:modes 25=⟨[],.asis,none,false⟩:=by unfold modes; rfl
def CH:SC:=(.seq (.reg [⟨some 3,none,.mv (.c (.bool false))⟩]) (.seq (.reg [⟨some 7,none,.load true 1 (.t 1)⟩,⟨some 8,none,.mv (.t 0)⟩,⟨some 9,none,.call 28 [(.t 7),(.t 8)]⟩,⟨some 6,none,.mv (.t 9)⟩,⟨some 10,none,.ext (.t 6) 0⟩,⟨some 11,none,.ext (.t 6) 1⟩,⟨(some 4),none,(.alloc 31 [(.str ⟨#[]⟩),.nil])⟩,⟨none,none,(.store 2 (.t 4) (.t 10))⟩,⟨some 5,none,.mv (.t 11)⟩]) (.seq (.reg [⟨some 12,none,.mv (.t 5)⟩,⟨some 3,none,.mv (.t 12)⟩]) .ret)))
theorem DG:A1 Tryz.prog 27=some ⟨13,CH,[(.tmp 3)]⟩:=by kernel_rfl
theorem CI:modes 27=⟨[],.asis,none,false⟩:=by unfold modes; rfl
theorem Gj:IF Tryz.prog 27=true:=by kernel_rfl
def Di:SC:=(.seq (.reg [⟨some 1,none,.boxv 26 1 (.t 0)⟩,⟨some 2,none,.mv (.c (.bool false))⟩,⟨some 3,none,.mv (.c (.bool false))⟩]) (.seq (.seq (.reg [⟨some 6,none,.load true 1 (.t 1)⟩,⟨some 7,none,.call 19 [(.t 6)]⟩,⟨some 8,none,.un .not (.t 7)⟩]) (.cond (.t 8) (.seq (.reg [⟨some 2,none,.mv (.c (.bool false))⟩,⟨some 3,none,.mv (.c (.bool false))⟩]) .ret) .skip)) (.seq (.seq (.reg [⟨some 9,none,.faddr 0 (.t 1)⟩,⟨some 10,none,.load false 1 (.t 9)⟩,⟨some 11,none,.len false (.t 10)⟩,⟨some 12,none,.mv (.c (.int .i64 0))⟩]) (.block 0 (.loop [0,1,0,0,0,0,0,0,0,0,1,1,1,0,0,0,0,0,0,0,0,0] (.seq (.reg [⟨some 13,none,.bin .lss false (.t 12) (.t 11)⟩]) (.seq (.cond (.t 13) .skip (.exit 0)) (.seq (.block 1 (.seq (.reg [⟨some 14,none,.iaddr 3 (.t 10) (.t 12)⟩,⟨some 15,none,.load true 3 (.t 14)⟩,⟨(some 5),none,(.alloc 55 [(.str ⟨#[]⟩),(.str ⟨#[]⟩),.nil])⟩,⟨none,none,(.store 3 (.t 5) (.t 15))⟩]) (.seq (.reg [⟨some 16,none,.faddr 1 (.t 5)⟩,⟨some 17,none,.load true 2 (.t 16)⟩,⟨some 18,none,.call 26 [(.t 17)]⟩,⟨some 19,none,.mkfn 27 [(.t 1)]⟩,⟨some 20,none,.call 25 [(.t 18),(.t 19)]⟩]) (.cond (.t 20) (.seq (.reg [⟨some 2,none,.mv (.c (.bool false))⟩,⟨some 3,none,.mv (.c (.bool true))⟩]) .ret) .skip)))) (.reg [⟨some 21,none,.bin .add false (.t 12) (.c (.int .i64 1))⟩,⟨some 12,none,.mv (.t 21)⟩]))))))) (.seq (.reg [⟨some 2,none,.mv (.c (.bool true))⟩,⟨some 3,none,.mv (.c (.bool true))⟩]) .ret))))
theorem Er:A1 Tryz.prog 12=some ⟨22,Di,[(.tmp 2),(.tmp 3)]⟩:=by kernel_rfl
theorem AG:modes 12=⟨[],.asis,none,false⟩:=by unfold modes; rfl
theorem Sq (s:Sb) (hs:s.ok=true) (hl:s.binds.length≤1099511627776) (n:ByteArray):E 27 [.str n,.ptr 0 0] [.box 26 [.arr (s.binds.map Bd.d)]]=some (.bool (BI s.binds n),[.box 26 [.arr (s.binds.map Bd.d)]]):=by
 cases hh:BI s.binds n with
 | true =>
  have hc:=KM s hs n hl hh (Fl hh)
  refine Ab DG CI (of_decide_eq_true rfl) ?_
  simp (disch:=omega) only [CH,go_sem,Aa,hc,Ap]
 | false =>
  have hc:=Mk s hs n hl hh
  refine Ab DG CI (of_decide_eq_true rfl) ?_
  simp (disch:=omega) only [CH,go_sem,Aa,hc,Ap]
theorem MY (fid:Nat) (T:Nat) (es:List (List D)) (p:ByteArray→Bool) (xs:List ByteArray) (hl:xs.length≤1099511627776) (hg:IF Tryz.prog fid=true) (hm:(modes fid).hand=[]) (hE:∀ x:ByteArray,E fid [.str x,.ptr 0 0] [.box T [.arr es]]=some (.bool (p x),[.box T [.arr es]])):E 51 [.arr (xs.map fun s=>[D.str s]),.fn fid [.ptr 0 0]] [.box T [.arr es]]=some (.int .i64 (De p xs 0),[.box T [.arr es]]):=by
 refine Ab DA Cj (of_decide_eq_true rfl) ?_
 simp (disch:=omega) only [Ci,go_sem,Aa]
 refine go_loop (α:=Int) (fun a=>⟨slots 19 0 [(0,.arr (xs.map fun s=>[D.str s])),(1,.fn fid [.ptr 0 0]),(7,.int .i64 xs.length),(8,.int .i64 a)],[.box T [.arr es]]⟩) (fun a=>∃ k:Nat,a=k∧k≤(xs).length∧De p (xs.drop k) a=De p xs 0) (fun a=>(xs).length-(a).toNat) 0 ⟨0,rfl,zM _,by rw [zL]⟩ (by simp (disch:=omega) only [go_sem,Aa]) ?_
 rintro i ⟨k,hi,hk,hR⟩
 have hni:i.toNat=k:=by omega
 have hni1:(i+1).toNat=k+1:=by omega
 rcases zF k (xs).length with hlt | hge
 ·have hg':=get_at (fun s=>[D.str s]) hlt
  have hc:=hE xs[k]
  rw [zC hlt,De] at hR
  cases hp:p xs[k] with
  | true =>
   rw [hp] at hc hR
   simp (disch:=omega) only [go_sem,Aa,hni,hg',hc,hg,hm]
   simpa using hR
  | false =>
   rw [hp] at hc hR
   simp (disch:=omega) only [go_sem,Aa,hni,hg',hc,hg,hm]
   exact ⟨i+1,⟨k+1,by omega,hlt,by simpa using hR⟩,by omega,by first | trivial | rfl⟩
 ·rw [zD hge,De] at hR
  simp (disch:=omega) only [go_sem,Aa,hni]
  exact hR
theorem JA (fid:Nat) (T:Nat) (es:List (List D)) (p:ByteArray→Bool) (xs:List ByteArray) (hl:xs.length≤1099511627776) (hg:IF Tryz.prog fid=true) (hm:(modes fid).hand=[]) (hE:∀ x:ByteArray,E fid [.str x,.ptr 0 0] [.box T [.arr es]]=some (.bool (p x),[.box T [.arr es]])):E 25 [.arr (xs.map fun s=>[D.str s]),.fn fid [.ptr 0 0]] [.box T [.arr es]]=some (.bool (xs.any p),[.box T [.arr es]]):=by
 have h:=MY fid T es p xs hl hg hm hE
 refine Ab Dq Bl (of_decide_eq_true rfl) ?_
 simp (disch:=omega) only [BS,go_sem,Aa,h,Cj]
 rw [Ij]
theorem Lc (s:Sb) (ht:s.tame):E 12 [s.sv] []=some (.tup [.bool (s.ok&&!s.binds.any s.bad),.bool s.ok],[]):=by
 have h1:=B8 s ht
 have hsl:=ht.1
 cases hs:s.ok with
 | false =>
  rw [hs] at h1
  rw [yN]
  refine Ab Er AG (of_decide_eq_true rfl) ?_
  simp (disch:=omega) only [Di,go_sem,Aa,h1,Ai]
 | true =>
  rw [hs] at h1
  rw [Bool.true_and]
  refine Ab Er AG (of_decide_eq_true rfl) ?_
  simp (disch:=omega) only [Di,go_sem,Aa,h1,Ai]
  refine go_loop (α:=Int) (fun a=>⟨slots 22 0 [(1,.ptr 0 0),(10,.arr (s.binds.map Bd.d)),(11,.int .i64 s.binds.length),(12,.int .i64 a)],[.box 26 [.arr (s.binds.map Bd.d)]]⟩) (fun a=>∃ k:Nat,a=k∧k≤(s.binds).length∧(s.binds.drop k).any s.bad=s.binds.any s.bad) (fun a=>(s.binds).length-(a).toNat) 0 ⟨0,rfl,zM _,by rw [zL]⟩ (by simp (disch:=omega) only [go_sem,Aa]) ?_
  rintro i ⟨k,hi,hk,hR⟩
  have hni:i.toNat=k:=by omega
  have hni1:(i+1).toNat=k+1:=by omega
  rcases zF k (s.binds).length with hlt | hge
  ·have hg:=get_at Bd.d hlt
   rw [Bd.d_eq] at hg
   have hval:=Cm (Sb.GE hs hlt)
   have hnm:s.binds[k].term.names=true:=by
    unfold Tm.valid at hval; rw [zB] at hval; exact hval.2
   have hnn:s.binds[k].term.nodes≤30:=Tm.DR (by unfold Tm.expr; rw [hval]; rfl)
   have hv:=Oo s.binds[k].term hnm (Tm.Mh _ hnm) (by omega)
   have hlv:s.binds[k].term.vars.length≤30:=by
    have a1:=IA s.binds[k].term.vs []
    have a2:=Tm.MW s.binds[k].term
    unfold Tm.vars
    rw [(Mq _).length_eq]
    simp only [zH] at a1
    omega
   have hc:=JA 27 26 (s.binds.map Bd.d) (BI s.binds) s.binds[k].term.vars (by omega) Gj (by rw [CI]) (Sq s hs hsl)
   have hb:s.binds[k].term.vars.any (BI s.binds)=s.bad s.binds[k]:=TN fun x=>Tm.Sn _ x
   rw [hb] at hc
   rw [zC hlt,List.any_cons] at hR
   cases hq:s.bad s.binds[k] with
   | true =>
    rw [hq,Bool.true_or] at hR
    rw [hq] at hc
    rw [←hR]
    simp (disch:=omega) only [go_sem,Aa,hni,hg,hv,hc,Da,Bl]
   | false =>
    rw [hq,Bool.false_or] at hR
    rw [hq] at hc
    simp (disch:=omega) only [go_sem,Aa,hni,hg,hv,hc,Da,Bl]
    exact ⟨i+1,⟨k+1,by omega,hlt,hR⟩,by omega,by first | trivial | rfl⟩
  ·rw [zD hge,List.any_nil] at hR
   rw [←hR]
   simp (disch:=omega) only [go_sem,Aa,hni]
theorem Sr {s:Sb} (hs:HQ s.binds) {n:ByteArray} (h:s.look n=none):BI s.binds n=false:=by
 rw [I5 hs,zY]
 intro b hb e
 exact (Sb.E1 hs).1 h b hb (A5.1 e)
theorem Ss {s:Sb} {n:ByteArray} (h:BI s.binds n=false):s.look n=none:=Sb.I4 h
theorem Oq {u:Sb} {b c:Bd} (h:C6 u b=some c):c=⟨b.var,b.term.ap u.look⟩∧dec ((b.term.ap u.look).name=b.var)=false:=by
 unfold C6 at h
 cases hq:dec ((b.term.ap u.look).name=b.var) with
 | true=>rw [hq] at h; cases h
 | false=>rw [hq] at h; exact ⟨(yK h).symm,rfl⟩
theorem Su {s u:Sb} (hs:s.ok=true) (hu:u.ok=true) (hc:(Cx s u).ok=true) (n:ByteArray) (hv:Bi n=true):((Cx s u).look n).getD (.mk n [])=((s.look n).getD (.mk n [])).ap u.look:=by
 have hsu:=Sb.FH hs
 have huu:=Sb.FH hu
 have hcu:=Sb.FH hc
 have hm:∀ b,b∈(Cx s u).binds ↔ b∈Br s u:=fun b=>List.mem_mergeSort
 cases hl:s.look n with
 | some t =>
  have hb:=Sb.IB hl
  show _=t.ap u.look
  cases hq:dec ((t.ap u.look).name=n) with
  | false =>
   have hf:C6 u ⟨n,t⟩=some ⟨n,t.ap u.look⟩:=by
    unfold C6
    dsimp only
    rw [hq]; rfl
   have h1:(⟨n,t.ap u.look⟩:Bd)∈(Cx s u).binds:=(hm _).2 (List.mem_append_left _ (List.mem_filterMap.2 ⟨_,hb,hf⟩))
   have h2:(Cx s u).look n=some (t.ap u.look):=Sb.GM hcu h1
   rw [h2]; rfl
  | true =>
   have hno:(Cx s u).look n=none:=(Sb.E1 hcu).2 fun c hcm e=>by
    rcases zV.1 ((hm c).1 hcm) with h1 | h1
    ·obtain ⟨d,hd,h2⟩:=List.mem_filterMap.1 h1
     obtain ⟨rfl,h3⟩:=Oq h2
     have e:d.var=n:=e
     have h4:=Sb.GM hsu hd
     rw [e,hl] at h4
     obtain rfl:=yK h4
     rw [e,hq] at h3
     cases h3
    ·have h2:=(yL.1 h1).2
     rw [I5 hsu,zR] at h2
     exact zY.1 h2 _ hb (Bs e.symm)
   rw [hno]
   show Tm.mk n []=t.ap u.look
   have hn:(t.ap u.look).names=true:=Tm.I1 (Sb.GF hu) t (Sb.GF hs n t hl).1
   have hnm:(t.ap u.look).name=n:=A5.1 hq
   have ha:=Tm.FI hn (by rw [hnm]; exact hv)
   have he:=Tm.Lb (t.ap u.look)
   rw [hnm,ha] at he
   exact he
 | none =>
  show ((Cx s u).look n).getD (.mk n [])=(Tm.mk n []).ap u.look
  rw [Tm.Ef]
  show _=if Bi n=true then (u.look n).getD (.mk n []) else _
  rw [if_pos hv]
  have key:(Cx s u).look n=u.look n:=by
   cases h2:u.look n with
   | some t =>
    have hb:=Sb.IB h2
    have h1:(⟨n,t⟩:Bd)∈(Cx s u).binds:=(hm _).2 (List.mem_append_right _ (yL.2 ⟨hb,by show (!BI s.binds n)=true; rw [Sr hsu hl]; rfl⟩))
    exact Sb.GM hcu h1
   | none =>
    refine (Sb.E1 hcu).2 fun c hcm e=>?_
    rcases zV.1 ((hm c).1 hcm) with h1 | h1
    ·obtain ⟨d,hd,e1,_⟩:=IY h1
     exact (Sb.E1 hsu).1 hl d hd (e1▸e)
    ·exact (Sb.E1 huu).1 h2 c (yL.1 h1).1 e
  rw [key]
theorem Sv {s u:Sb} (hs:s.ok=true) (hu:u.ok=true) (hc:(Cx s u).ok=true) (x:Tm):x.ap (Cx s u).look=(x.ap s.look).ap u.look:=by
 have ih:∀ y∈x.args,y.ap (Cx s u).look=(y.ap s.look).ap u.look:=fun y hy=>Sv hs hu hc y
 rw [Tm.Ef (Cx s u).look x,Tm.Ef s.look x]
 cases hv:Bi x.name with
 | true =>
  rw [if_pos rfl,if_pos rfl]
  exact Su hs hu hc x.name hv
 | false =>
  rw [if_neg (by simp),if_neg (by simp),Tm.Ef u.look (.mk x.name _)]
  show _=if Bi x.name=true then _ else Tm.mk x.name (Tm.apL u.look (Tm.apL s.look x.args))
  rw [hv,if_neg (by simp),Tm.Ev,Tm.Ev,Tm.Ev,zP]
  congr 1
  exact List.map_congr_left ih
termination_by SizeOf.sizeOf x
decreasing_by exact Tm.AL hy
theorem TO {s:Sb} (hb:s.binds.any s.bad=false):s.idem:=fun w t hw v hv=>by
 have h:=zY.1 hb _ (Sb.IB hw)
 refine Ss ?_
 cases hh:BI s.binds v with
 | false=>rfl
 | true =>
  refine absurd ?_ h
  unfold Sb.bad
  exact zT.2 ⟨v,hv,hh⟩
theorem Sw {s u:Sb} {t:Tm} (h1:Fv s u=true) (h2:C5 s t=true) (h3:C5 u (Ch s t)=true):C5 (GK s u) t=true∧Ch u (Ch s t)=Ch (GK s u) t:=by
 have hc:GK s u=Cx s u:=by unfold GK; rw [h1]; rfl
 unfold Fv at h1
 rw [zB,zB] at h1
 obtain ⟨hs,hu,hco⟩:=h1
 have hco:(Cx s u).ok=true:=hco
 have e1:=ET h2
 have e2:=ET h3
 have e3:=Sv hs hu hco t
 rw [e1] at e2
 have hex:t.expr=true:=by
  unfold C5 at h2
  rw [zB,zB] at h2
  exact h2.2.1
 have hsm:((t.ap s.look).ap u.look).small=true:=by
  unfold C5 at h3
  rw [e1,zB,zB] at h3
  exact h3.2.2
 have hok:C5 (GK s u) t=true:=by
  unfold C5
  rw [hc,hco,hex,e3,hsm]; rfl
 refine ⟨hok,?_⟩
 rw [ET hok,hc,e3,e1,e2]
theorem QH {s:Sb} {t:Tm} (h1:s.binds.any s.bad=false) (h2:C5 s t=true):C5 s (Ch s t)=true∧Ch s (Ch s t)=Ch s t:=by
 have hx:=PR h2
 have hi:=TO h1
 have e:(Ch s t).ap s.look=Ch s t:=Tm.So _ hx fun v hv=>by
  rw [ET h2] at hv
  exact Sb.TM hi hv
 have hok:C5 s (Ch s t)=true:=by
  have h2':=h2
  unfold C5 at h2'
  rw [zB] at h2'
  unfold C5
  rw [h2'.1,hx,e,Tm.KP hx]; rfl
 exact ⟨hok,by rw [ET hok,e]⟩
theorem Or {α:Type} {xs ys:List α} {k:Nat} (hx:k<xs.length) (hy:k<ys.length):xs.drop k=ys.drop k ↔ xs[k]=ys[k]∧xs.drop (k+1)=ys.drop (k+1):=by
 rw [zC hx,zC hy,yM]
theorem Tm.eq_iff (x y:Tm):x=y ↔ x.name=y.name∧x.args=y.args:=by
 obtain ⟨n,a⟩:=x
 obtain ⟨m,b⟩:=y
 rw [Tm.mk.injEq]; rfl
def J0:SC:=(.seq (.reg [⟨some 2,none,.mv (.c (.bool false))⟩]) (.seq (.reg [⟨some 3,none,.mv (.t 0)⟩,⟨some 4,none,.len false (.t 3)⟩,⟨some 5,none,.bin .gtr false (.t 4) (.c (.int .i64 65536))⟩,⟨some 2,none,.mv (.t 5)⟩]) .ret))
theorem Ot:A1 Tryz.prog 4=some ⟨6,J0,[(.tmp 2)]⟩:=by kernel_rfl
theorem BT:modes 4=⟨[],.asis,none,false⟩:=by unfold modes; rfl
def GN:SC:=(.seq (.reg [⟨some 4,none,.mv (.c .nil)⟩]) (.seq (.seq (.reg [⟨some 5,none,.mv (.t 1)⟩,⟨some 6,none,.mv (.t 0)⟩,⟨some 7,none,.len false (.t 6)⟩,⟨some 8,none,.bin .gtr false (.t 5) (.t 7)⟩]) (.cond (.t 8) (.reg [⟨some 9,none,.mv (.t 0)⟩,⟨some 10,none,.len false (.t 9)⟩,⟨some 1,none,.mv (.t 10)⟩]) .skip)) (.seq (.reg [⟨some 11,none,.mkrow 5 1 [(.int .u8 0)] 0 []⟩,⟨some 12,none,.mv (.t 0)⟩,⟨some 13,none,.mv (.t 1)⟩,⟨some 14,none,.slice false 1 (.t 12) (some (.t 13)) none⟩,⟨some 15,none,.append 5 1 1 [(.int .u8 0)] (.t 11) (.t 14)⟩,⟨some 16,none,.mv (.t 1)⟩,⟨some 17,none,.conv .u8 (.t 16)⟩,⟨some 18,none,.mkrow 5 1 [(.int .u8 0)] 1 [(0,(.t 17))]⟩,⟨some 19,none,.append 5 1 1 [(.int .u8 0)] (.t 15) (.t 18)⟩,⟨some 4,none,.mv (.t 19)⟩]) .ret)))
theorem J1:A1 Tryz.prog 7=some ⟨20,GN,[(.tmp 4)]⟩:=by kernel_rfl
theorem BH:modes 7=⟨[],.frz,none,false⟩:=by unfold modes; rfl
def DX:SC:=(.seq (.reg [⟨some 2,none,.boxv 31 2 (.t 0)⟩,⟨some 3,none,.boxv 31 2 (.t 1)⟩,⟨some 4,none,.mv (.c (.bool false))⟩]) (.seq (.seq (.reg [⟨some 6,none,.faddr 0 (.t 2)⟩,⟨some 7,none,.load false 1 (.t 6)⟩,⟨some 8,none,.faddr 0 (.t 3)⟩,⟨some 9,none,.load false 1 (.t 8)⟩,⟨some 10,none,.bin .neq false (.t 7) (.t 9)⟩,⟨some 11,none,.mv (.t 10)⟩,⟨(some 12),(some (11,false)),(.faddr 1 (.t 2))⟩,⟨(some 13),(some (11,false)),(.load false 1 (.t 12))⟩,⟨(some 14),(some (11,false)),(.len false (.t 13))⟩,⟨(some 15),(some (11,false)),(.faddr 1 (.t 3))⟩,⟨(some 16),(some (11,false)),(.load false 1 (.t 15))⟩,⟨(some 17),(some (11,false)),(.len false (.t 16))⟩,⟨(some 18),(some (11,false)),(.bin .neq false (.t 14) (.t 17))⟩,⟨some 19,none,.pick (.t 11) (.c (.bool true)) (.t 18)⟩]) (.cond (.t 19) (.seq (.reg [⟨some 4,none,.mv (.c (.bool false))⟩]) .ret) .skip)) (.seq (.seq (.reg [⟨some 5,none,.mv (.c (.int .i64 0))⟩]) (.block 0 (.loop [0,0,1,1,0,1,0,0,0,0,0,0,0,0,0,0,0,0,0,0,0,0,0,0,0,0,0,0,0,0,0,0,0,0,0,0,0,0,0] (.seq (.seq (.reg [⟨some 20,none,.mv (.t 5)⟩,⟨some 21,none,.faddr 1 (.t 2)⟩,⟨some 22,none,.load false 1 (.t 21)⟩,⟨some 23,none,.len false (.t 22)⟩,⟨some 24,none,.bin .lss false (.t 20) (.t 23)⟩]) (.cond (.t 24) .skip (.exit 0))) (.seq (.block 1 (.seq (.dreg [[],[0],[],[1,0,2],[3,1,0,2],[],[5],[],[6,5,7],[8,6,5,7],[4,3,1,0,2,9,8,6,5,7],[10,4,3,1,0,2,9,8,6,5,7]] [⟨some 27,none,.faddr 1 (.t 2)⟩,⟨some 28,none,.load false 1 (.t 27)⟩,⟨some 29,none,.mv (.t 5)⟩,⟨some 30,none,.iaddr 2 (.t 28) (.t 29)⟩,⟨some 31,none,.load true 2 (.t 30)⟩,⟨some 32,none,.faddr 1 (.t 3)⟩,⟨some 33,none,.load false 1 (.t 32)⟩,⟨some 34,none,.mv (.t 5)⟩,⟨some 35,none,.iaddr 2 (.t 33) (.t 34)⟩,⟨some 36,none,.load true 2 (.t 35)⟩,⟨some 37,none,.call 11 [(.t 31),(.t 36)]⟩,⟨some 38,none,.un .not (.t 37)⟩]) (.cond (.t 38) (.seq (.reg [⟨some 4,none,.mv (.c (.bool false))⟩]) .ret) .skip))) (.reg [⟨some 25,none,.mv (.t 5)⟩,⟨some 26,none,.bin .add false (.t 25) (.c (.int .i64 1))⟩,⟨some 5,none,.mv (.t 26)⟩])))))) (.seq (.reg [⟨some 4,none,.mv (.c (.bool true))⟩]) .ret))))
theorem Fw:A1 Tryz.prog 11=some ⟨39,DX,[(.tmp 4)]⟩:=by kernel_rfl
theorem AP:modes 11=⟨[],.asis,none,false⟩:=by unfold modes; rfl
theorem Vb (l:List Int):E 4 [.arr (l.map by_)] []=some (.bool (dec (65536<(l.length:Int))),[]):=by
 refine Ab Ot BT (of_decide_eq_true rfl) ?_
 simp (disch:=omega) only [J0,go_sem,Aa]
def MZ (l:List Int) (n:Int):List Int:=l.drop (min n.toNat l.length)++[((min n.toNat l.length:Nat):Int) % 256]
theorem Pi {l:List Int} (h:Bytes l) (n:Int):Bytes (MZ l n):=by
 intro b hb
 rcases zV.1 hb with hb | hb
 ·exact h b (List.mem_of_mem_drop hb)
 ·simp only [List.mem_singleton] at hb
  omega
theorem Sx (l:List Int) (n:Int):(MZ l n).length≤l.length+1:=by
 unfold MZ
 rw [zI,zS,List.length_singleton]; omega
theorem Uc (l:List Int):OT.erss ((l.map by_).map (·.map D.ot))=l.map by_:=by
 rw [OT.E3,zP,zP]
 exact List.map_congr_left fun b _=>rfl
theorem PS (l:List Int):OT.AB ((l.map by_).map (·.map D.ot))=true:=by
 induction l with
 | nil=>rfl
 | cons x xs ih=>simp only [zE,OT.AB,ih]; rfl
theorem Sy (l:List Int):((l.map by_).all fun e=>e.length == 1)=true:=by rw [yB,zZ]; intro x _; rfl
theorem PT (l:List Int):(((l.map by_).map (·.map D.ot)).all fun e=>e.length == 1)=true:=by rw [yB,yB,zZ]; intro x _; rfl
theorem erss_app:∀ a b:List (List OT),OT.erss (a++b)=OT.erss a++OT.erss b
 | [],b=>by simp [OT.erss]
 | x :: a,b=>by simp only [z7,OT.erss,erss_app a b]
theorem fullss_app:∀ a b:List (List OT),OT.AB (a++b)=(OT.AB a&&OT.AB b)
 | [],b=>by simp [OT.AB]
 | x :: a,b=>by simp only [z7,OT.AB,fullss_app a b,Bool.and_assoc]
theorem Vd (l:List Int) (hn:l.length≤1099511627776) (n:Int) (h0:0≤n) (h1:n≤255):E 7 [.arr (l.map by_),.int .i64 n] []=some (.arr ((MZ l n).map by_),[]):=by
 have ht:(l.map by_).take l.length=l.map by_:=zX (by rw [zJ]; exact yA _)
 have hd:∀ n,(l.map by_).drop n=(l.drop n).map by_:=fun n=>List.map_drop.symm
 by_cases hc:(l.length:Int)<n
 ·have hn1:((l.length:Int)<n)=True:=eq_true hc
  have hw:IntKind.u8.wrap (l.length:Int)=(l.length:Int) % 256:=rfl
  have e1:MZ l n=l.drop l.length++[((l.length:Nat):Int) % 256]:=by
   unfold MZ
   rw [show min n.toNat l.length=l.length by omega]
  rw [e1,zO]
  refine Ab J1 BH (of_decide_eq_true rfl) ?_
  simp (disch:=omega) only [GN,go_sem,Aa,hn1,zG,ht,hd,Sy,PT,Uc,PS,erss_app,fullss_app,hw,zS]
 ·have hn1:((l.length:Int)<n)=False:=eq_false hc
  have hw:IntKind.u8.wrap n=n % 256:=rfl
  have e1:MZ l n=l.drop n.toNat++[n % 256]:=by
   unfold MZ
   rw [show min n.toNat l.length=n.toNat by omega]
   congr 2
   omega
  rw [e1,zO]
  refine Ab J1 BH (of_decide_eq_true rfl) ?_
  simp (disch:=omega) only [GN,go_sem,Aa,hn1,zG,ht,hd,Sy,PT,Uc,PS,erss_app,fullss_app,hw,zS]
theorem QI (x:Tm) (y:Tm) (hnx:x.nodes≤1099511627776) (hny:y.nodes≤1099511627776) (ih:∀ x'∈x.args,∀ y':Tm,x'.nodes≤1099511627776→y'.nodes≤1099511627776→E 11 [x'.sv,y'.sv] []=some (.bool (dec (x'=y')),[])):E 11 [x.sv,y.sv] []=some (.bool (dec (x=y)),[]):=by
 have lx:=Tm.length_le x.args
 have ly:=Tm.length_le y.args
 have nx:=Tm.Ao x
 have ny:=Tm.Ao y
 rw [MD (Tm.eq_iff x y)]
 by_cases h0:x.name=y.name
 ·rw [MD (and_iff_right h0)]
  have hq:(x.name=y.name)=True:=by simp [h0]
  by_cases hlen:x.args.length=y.args.length
  ·have hq2:((x.args.length:Int)=(y.args.length:Int))=True:=by first | exact eq_true (by omega) | exact eq_false (by omega)
   refine Ab Fw AP (of_decide_eq_true rfl) ?_
   simp (disch:=omega) only [DX,go_sem,Aa,hq,hq2]
   refine go_loop (α:=Int) (fun a=>⟨slots 39 0 [(2,.ptr 0 0),(3,.ptr 1 0),(5,.int .i64 a)],[.box 31 [.str x.name,.arr (x.args.map Tm.d)],.box 31 [.str y.name,.arr (y.args.map Tm.d)]]⟩) (fun a=>∃ k:Nat,a=k∧k≤(x.args).length∧dec (x.args.drop k=y.args.drop k)=dec (x.args=y.args)) (fun a=>(x.args).length-(a).toNat) 0 ⟨0,rfl,zM _,by rw [zL,zL]⟩ (by simp (disch:=omega) only [go_sem,Aa]) ?_
   rintro i ⟨k,hi,hk,hR⟩
   have hni:i.toNat=k:=by omega
   have hni1:(i+1).toNat=k+1:=by omega
   rcases zF k (x.args).length with hlt | hge
   ·have hgx:=get_at Tm.d hlt
    rw [Tm.d_eq] at hgx
    have hlt':k<y.args.length:=by omega
    have hgy:=get_at Tm.d hlt'
    rw [Tm.d_eq] at hgy
    have hc:=ih x.args[k] (zN hlt) y.args[k] (by have:=Tm.BU (zN hlt); omega) (by have:=Tm.BU (zN hlt'); omega)
    rw [MD (Or hlt hlt')] at hR
    by_cases h0:x.args[k]=y.args[k]
    ·rw [Bs h0] at hc
     rw [MD (and_iff_right h0)] at hR
     simp (disch:=omega) only [go_sem,Aa,hni,hgx,hgy,hc,AP]
     exact ⟨i+1,⟨k+1,by omega,hlt,hR⟩,by omega,by first | trivial | rfl⟩
    ·rw [BW h0] at hc
     rw [BW (fun h=>h0 h.1)] at hR
     simp (disch:=omega) only [go_sem,Aa,hni,hgx,hgy,hc,AP]
     exact hR
   ·rw [zD hge,zD (by omega),RJ] at hR
    simp (disch:=omega) only [go_sem,Aa,hni]
    exact hR
  ·have hq2:((x.args.length:Int)=(y.args.length:Int))=False:=by first | exact eq_true (by omega) | exact eq_false (by omega)
   have he:dec (x.args=y.args)=false:=BW fun h=>hlen (by rw [h])
   rw [he]
   refine Ab Fw AP (of_decide_eq_true rfl) ?_
   simp (disch:=omega) only [DX,go_sem,Aa,hq,hq2]
 ·have hq:(x.name=y.name)=False:=by simp [h0]
  rw [BW (fun h=>h0 h.1)]
  refine Ab Fw AP (of_decide_eq_true rfl) ?_
  simp (disch:=omega) only [DX,go_sem,Aa,hq]
theorem Ld (x y:Tm) (hnx:x.nodes≤1099511627776) (hny:y.nodes≤1099511627776):E 11 [x.sv,y.sv] []=some (.bool (dec (x=y)),[]) :=
 QI x y hnx hny fun x' hx' y' h h'=>Ld x' y' h h'
termination_by SizeOf.sizeOf x
decreasing_by exact Tm.AL hx'
def AT:SC:=(.seq (.reg [⟨some 2,none,.mv (.c (.bool false))⟩]) (.seq (.seq (.reg [⟨some 21,none,.mv (.t 0)⟩,⟨some 22,none,.call 4 [(.t 21)]⟩]) (.cond (.t 22) (.seq (.reg [⟨some 2,none,.mv (.c (.bool true))⟩]) .ret) .skip)) (.seq (.reg [⟨some 24,none,.mv (.t 0)⟩,⟨some 25,none,.call 5 [(.t 24)]⟩,⟨some 23,none,.mv (.t 25)⟩,⟨some 26,none,.ext (.t 23) 0⟩,⟨some 27,none,.ext (.t 23) 1⟩,⟨some 3,none,.alloc 26 [.nil]⟩,⟨some 4,none,.alloc 26 [.nil]⟩,⟨none,none,(.store 1 (.t 3) (.t 26))⟩,⟨none,none,(.store 1 (.t 4) (.t 27))⟩]) (.seq (.reg [⟨some 29,none,.mv (.t 0)⟩,⟨some 30,none,.call 7 [(.t 29),(.c (.int .i64 11))]⟩,⟨some 31,none,.call 6 [(.t 30)]⟩,⟨some 28,none,.mv (.t 31)⟩,⟨some 32,none,.ext (.t 28) 0⟩,⟨some 33,none,.ext (.t 28) 1⟩,⟨some 5,none,.alloc 26 [.nil]⟩,⟨(some 6),none,(.alloc 31 [(.str ⟨#[]⟩),.nil])⟩,⟨none,none,(.store 1 (.t 5) (.t 32))⟩,⟨none,none,(.store 2 (.t 6) (.t 33))⟩]) (.seq (.reg [⟨some 35,none,.load true 1 (.t 3)⟩,⟨some 36,none,.load true 1 (.t 4)⟩,⟨some 37,none,.call 8 [(.t 35),(.t 36)]⟩,⟨some 34,none,.mv (.t 37)⟩,⟨some 38,none,.ext (.t 34) 0⟩,⟨some 39,none,.ext (.t 34) 1⟩,⟨some 7,none,.alloc 26 [.nil]⟩,⟨none,none,(.store 1 (.t 7) (.t 38))⟩,⟨some 8,none,.mv (.t 39)⟩]) (.seq (.seq (.reg [⟨some 41,none,.load true 1 (.t 3)⟩,⟨some 42,none,.load true 1 (.t 4)⟩,⟨some 43,none,.call 9 [(.t 41),(.t 42)]⟩,⟨some 40,none,.mv (.t 43)⟩,⟨some 44,none,.ext (.t 40) 0⟩,⟨some 45,none,.ext (.t 40) 1⟩,⟨some 9,none,.alloc 26 [.nil]⟩,⟨none,none,(.store 1 (.t 9) (.t 44))⟩,⟨some 10,none,.mv (.t 45)⟩]) (.seq (.reg [⟨some 46,none,.mv (.t 8)⟩,⟨some 47,none,.mv (.t 10)⟩,⟨some 48,none,.bin .neq true (.t 46) (.t 47)⟩]) (.cond (.t 48) (.seq (.reg [⟨some 2,none,.mv (.c (.bool false))⟩]) .ret) .skip))) (.seq (.reg [⟨some 50,none,.load true 1 (.t 3)⟩,⟨some 51,none,.load true 2 (.t 6)⟩,⟨some 52,none,.call 10 [(.t 50),(.t 51)]⟩,⟨some 49,none,.mv (.t 52)⟩,⟨some 53,none,.ext (.t 49) 0⟩,⟨some 54,none,.ext (.t 49) 1⟩,⟨(some 11),none,(.alloc 31 [(.str ⟨#[]⟩),.nil])⟩,⟨none,none,(.store 2 (.t 11) (.t 53))⟩,⟨some 12,none,.mv (.t 54)⟩]) (.seq (.reg [⟨some 56,none,.load true 1 (.t 4)⟩,⟨some 57,none,.load true 2 (.t 11)⟩,⟨some 58,none,.call 10 [(.t 56),(.t 57)]⟩,⟨some 55,none,.mv (.t 58)⟩,⟨some 59,none,.ext (.t 55) 0⟩,⟨some 60,none,.ext (.t 55) 1⟩,⟨(some 13),none,(.alloc 31 [(.str ⟨#[]⟩),.nil])⟩,⟨none,none,(.store 2 (.t 13) (.t 59))⟩,⟨some 14,none,.mv (.t 60)⟩]) (.seq (.reg [⟨some 62,none,.load true 1 (.t 7)⟩,⟨some 63,none,.load true 2 (.t 6)⟩,⟨some 64,none,.call 10 [(.t 62),(.t 63)]⟩,⟨some 61,none,.mv (.t 64)⟩,⟨some 65,none,.ext (.t 61) 0⟩,⟨some 66,none,.ext (.t 61) 1⟩,⟨(some 15),none,(.alloc 31 [(.str ⟨#[]⟩),.nil])⟩,⟨none,none,(.store 2 (.t 15) (.t 65))⟩,⟨some 16,none,.mv (.t 66)⟩]) (.seq (.seq (.reg [⟨some 67,none,.mv (.t 8)⟩,⟨some 68,none,.mv (.t 67)⟩,⟨(some 69),(some (68,true)),(.mv (.t 12))⟩,⟨some 70,none,.pick (.t 68) (.t 69) (.c (.bool false))⟩,⟨some 71,none,.mv (.t 70)⟩,⟨(some 72),(some (71,true)),(.mv (.t 14))⟩,⟨some 73,none,.pick (.t 71) (.t 72) (.c (.bool false))⟩,⟨some 74,none,.mv (.t 73)⟩,⟨(some 75),(some (74,true)),(.mv (.t 16))⟩,⟨(some 76),(some (74,true)),(.un .not (.t 75))⟩,⟨(some 77),(some (74,true)),(.mv (.t 76))⟩,⟨(some 78),(some (77,false)),(.load true 2 (.t 13))⟩,⟨(some 79),(some (77,false)),(.load true 2 (.t 15))⟩,⟨(some 80),(some (77,false)),(.call 11 [(.t 78),(.t 79)])⟩,⟨(some 81),(some (77,false)),(.un .not (.t 80))⟩,⟨(some 82),(some (74,true)),(.pick (.t 77) (.c (.bool true)) (.t 81))⟩,⟨some 83,none,.pick (.t 74) (.t 82) (.c (.bool false))⟩]) (.cond (.t 83) (.seq (.reg [⟨some 2,none,.mv (.c (.bool false))⟩]) .ret) .skip)) (.seq (.reg [⟨some 85,none,.load true 1 (.t 3)⟩,⟨some 86,none,.call 12 [(.t 85)]⟩,⟨some 84,none,.mv (.t 86)⟩,⟨some 87,none,.ext (.t 84) 0⟩,⟨some 88,none,.ext (.t 84) 1⟩,⟨some 17,none,.mv (.t 87)⟩,⟨some 18,none,.mv (.t 88)⟩]) (.seq (.reg [⟨some 90,none,.load true 1 (.t 3)⟩,⟨some 91,none,.load true 2 (.t 11)⟩,⟨some 92,none,.call 10 [(.t 90),(.t 91)]⟩,⟨some 89,none,.mv (.t 92)⟩,⟨some 93,none,.ext (.t 89) 0⟩,⟨some 94,none,.ext (.t 89) 1⟩,⟨(some 19),none,(.alloc 31 [(.str ⟨#[]⟩),.nil])⟩,⟨none,none,(.store 2 (.t 19) (.t 93))⟩,⟨some 20,none,.mv (.t 94)⟩]) (.seq (.reg [⟨some 95,none,.mv (.t 18)⟩,⟨some 96,none,.load true 1 (.t 3)⟩,⟨some 97,none,.call 13 [(.t 96)]⟩,⟨some 98,none,.bin .eql true (.t 95) (.t 97)⟩,⟨some 99,none,.mv (.t 98)⟩,⟨(some 100),(some (99,true)),(.mv (.t 17))⟩,⟨(some 101),(some (99,true)),(.un .not (.t 100))⟩,⟨(some 102),(some (99,true)),(.mv (.t 101))⟩,⟨(some 103),(some (102,false)),(.mv (.t 12))⟩,⟨(some 104),(some (102,false)),(.un .not (.t 103))⟩,⟨(some 105),(some (99,true)),(.pick (.t 102) (.c (.bool true)) (.t 104))⟩,⟨(some 106),(some (99,true)),(.mv (.t 105))⟩,⟨(some 107),(some (106,false)),(.mv (.t 20))⟩,⟨(some 108),(some (106,false)),(.mv (.t 107))⟩,⟨(some 109),(some (108,true)),(.load true 2 (.t 19))⟩,⟨(some 110),(some (108,true)),(.load true 2 (.t 11))⟩,⟨(some 111),(some (108,true)),(.call 11 [(.t 109),(.t 110)])⟩,⟨(some 112),(some (106,false)),(.pick (.t 108) (.t 111) (.c (.bool false)))⟩,⟨(some 113),(some (99,true)),(.pick (.t 106) (.c (.bool true)) (.t 112))⟩,⟨some 114,none,.pick (.t 99) (.t 113) (.c (.bool false))⟩,⟨some 2,none,.mv (.t 114)⟩]) .ret)))))))))))))
theorem Bg:A1 Tryz.prog 3=some ⟨115,AT,[(.tmp 2)]⟩:=by kernel_rfl
theorem Bh:modes 3=⟨[],.asis,none,false⟩:=by unfold modes; rfl
def CU:SC:=(.seq (.reg [⟨some 1,none,.boxv 26 1 (.t 0)⟩,⟨some 2,none,.mv (.c (.bool false))⟩]) (.seq (.reg [⟨some 3,none,.load true 1 (.t 1)⟩,⟨some 4,none,.call 21 [(.t 3)]⟩,⟨some 2,none,.mv (.t 4)⟩]) .ret))
theorem EU:A1 Tryz.prog 13=some ⟨5,CU,[(.tmp 2)]⟩:=by kernel_rfl
theorem A6:modes 13=⟨[],.asis,none,false⟩:=by unfold modes; rfl
theorem Ou (s:Sb) (ht:s.tame):E 13 [s.sv] []=some (.bool s.ok,[]):=by
 have h:=Iy s ht
 refine Ab EU A6 (of_decide_eq_true rfl) ?_
 simp (disch:=omega) only [CU,go_sem,Aa,h,CF]
theorem Gd (s:Sb) (t:Tm):(Ch s t).nodes≤30:=by
 cases h:C5 s t with
 | false=>rw [JK h]; show (Tm.mk _ []).nodes≤_; rw [Tm.Dn]; simp [Tm.Bb]
 | true=>exact Tm.DR (PR h)
theorem QJ {s u:Sb}:(GK s u).tame:=by
 unfold GK
 cases h:Fv s u with
 | false=>exact ⟨by simp,by intro y hy; cases hy⟩
 | true =>
  unfold Fv at h
  rw [zB,zB] at h
  exact Ja h.1 h.2.1
theorem TP (l:List Int) (hl:Bytes l):E 3 [.arr (l.map by_)] []=some (.bool true,[]):=by
 have hbig:=Vb l
 by_cases hb:65536<(l.length:Int)
 ·rw [Bs hb] at hbig
  refine Ab Bg Bh (of_decide_eq_true rfl) ?_
  simp (disch:=omega) only [AT,go_sem,Aa,hbig,BT,BH,AP,Au,Aw,Am,Al,A3,AG,A6,Sb.osv,Sb.obs,Tm.osv,Tm.obs,Bd.erss,Bd.noss,Tm.erss,Tm.noss]
 ·rw [BW hb] at hbig
  obtain ⟨s,u,hd,hst,hut⟩:=Lv l hl (by omega)
  have hvc:=Vd l (by omega) 11 (by omega) (by omega)
  obtain ⟨s9,t,hd2,htn⟩:=Ol (MZ l 11) (Pi hl 11) (by have:=Sx l 11; omega)
  have hss:s.sv=.agg [.arr (s.binds.map Bd.d)]:=rfl
  have hus:u.sv=.agg [.arr (u.binds.map Bd.d)]:=rfl
  have hs9:s9.sv=.agg [.arr (s9.binds.map Bd.d)]:=rfl
  have hts:t.sv=.agg [.str t.name,.arr (t.args.map Tm.d)]:=rfl
  have c1:=Ls s u hst hut
  have c2:=Lu s u hst hut
  have a1:=Cu s hst t (by omega)
  obtain ⟨x,hx⟩:∃ x,x=Ch s t:=⟨_,rfl⟩
  obtain ⟨c,hc⟩:∃ c,c=GK s u:=⟨_,rfl⟩
  have hxn:x.nodes≤30:=by rw [hx]; exact Gd s t
  have hct:c.tame:=by rw [hc]; exact QJ
  have a2:=Cu u hut x (by omega)
  have a3:=Cu c hct t (by omega)
  have a4:=Cu s hst x (by omega)
  have f1:Fv s u=true→C5 s t=true→C5 u x=true→C5 c t=true∧Ch u x=Ch c t:=fun h1 h2 h3=>by
   rw [hx] at h3 ⊢
   rw [hc]
   exact Sw h1 h2 h3
  have f2:s.binds.any s.bad=false→C5 s t=true→C5 s x=true∧Ch s x=x:=fun h1 h2=>by
   rw [hx]
   exact QH h1 h2
  rw [←hx] at a1
  rw [←hc] at c1 c2
  obtain ⟨y,hy⟩:∃ y,y=Ch u x:=⟨_,rfl⟩
  obtain ⟨z,hz⟩:∃ z,z=Ch c t:=⟨_,rfl⟩
  obtain ⟨x2,hx2⟩:∃ x2,x2=Ch s x:=⟨_,rfl⟩
  have hyn:y.nodes≤30:=by rw [hy]; exact Gd u x
  have hzn:z.nodes≤30:=by rw [hz]; exact Gd c t
  have hx2n:x2.nodes≤30:=by rw [hx2]; exact Gd s x
  rw [←hy] at a2 f1
  rw [←hz] at a3 f1
  rw [←hx2] at a4 f2
  have v1:=Ld y z (by omega) (by omega)
  have v2:=Ld x2 x (by omega) (by omega)
  have i1:=Lc s hst
  have i2:=Ou s hst
  have hxs:x.sv=.agg [.str x.name,.arr (x.args.map Tm.d)]:=rfl
  have hys:y.sv=.agg [.str y.name,.arr (y.args.map Tm.d)]:=rfl
  have hzs:z.sv=.agg [.str z.name,.arr (z.args.map Tm.d)]:=rfl
  have hx2s:x2.sv=.agg [.str x2.name,.arr (x2.args.map Tm.d)]:=rfl
  have hcs:c.sv=.agg [.arr (c.binds.map Bd.d)]:=rfl
  rw [hss,hus] at hd c1 c2
  rw [hs9,hts] at hd2
  rw [hss,hts] at a1
  rw [hus,hxs] at a2
  rw [hcs,hts] at a3
  rw [hss,hxs] at a4
  rw [hcs] at c2
  rw [hss] at i1 i2
  rw [hys,hzs] at v1
  rw [hx2s,hxs] at v2
  generalize hA:Fv s u=A at *
  generalize hB:C5 s t=B at *
  generalize hC:C5 u x=C at *
  generalize hD:C5 c t=D at *
  generalize hG:C5 s x=G at *
  have hid:(s.ok&&!s.binds.any s.bad)=true→s.binds.any s.bad=false:=fun h=>by
   rw [zB,zR] at h
   exact h.2
  generalize hI:(s.ok&&!s.binds.any s.bad)=I at *
  generalize hO:s.ok=O at *
  cases I with
  | false =>
   cases A with
   | false =>
    cases O <;> cases B
    all_goals
     refine Ab Bg Bh (of_decide_eq_true rfl) ?_
     simp (disch:=omega) only [AT,go_sem,Aa,hbig,hd,hvc,hd2,c1,c2,a1,a2,a3,a4,i1,i2,v1,v2,BT,BH,AP,Au,Aw,Am,Al,A3,AG,A6,Sb.osv,Sb.obs,Tm.osv,Tm.obs,Bd.erss,Bd.noss,Tm.erss,Tm.noss]
   | true =>
    cases B with
    | false =>
     cases O
     all_goals
      refine Ab Bg Bh (of_decide_eq_true rfl) ?_
      simp (disch:=omega) only [AT,go_sem,Aa,hbig,hd,hvc,hd2,c1,c2,a1,a2,a3,a4,i1,i2,v1,v2,BT,BH,AP,Au,Aw,Am,Al,A3,AG,A6,Sb.osv,Sb.obs,Tm.osv,Tm.obs,Bd.erss,Bd.noss,Tm.erss,Tm.noss]
    | true =>
     cases C with
     | false =>
      cases O
      all_goals
       refine Ab Bg Bh (of_decide_eq_true rfl) ?_
       simp (disch:=omega) only [AT,go_sem,Aa,hbig,hd,hvc,hd2,c1,c2,a1,a2,a3,a4,i1,i2,v1,v2,BT,BH,AP,Au,Aw,Am,Al,A3,AG,A6,Sb.osv,Sb.obs,Tm.osv,Tm.obs,Bd.erss,Bd.noss,Tm.erss,Tm.noss]
     | true =>
      obtain ⟨hD1,hyz⟩:=f1 rfl rfl rfl
      rw [Bs hyz] at v1
      subst hD1
      cases O
      all_goals
       refine Ab Bg Bh (of_decide_eq_true rfl) ?_
       simp (disch:=omega) only [AT,go_sem,Aa,hbig,hd,hvc,hd2,c1,c2,a1,a2,a3,a4,i1,i2,v1,v2,BT,BH,AP,Au,Aw,Am,Al,A3,AG,A6,Sb.osv,Sb.obs,Tm.osv,Tm.obs,Bd.erss,Bd.noss,Tm.erss,Tm.noss]
  | true =>
   have hbad:=hid rfl
   cases B with
   | false =>
    cases A <;> cases O
    all_goals
     refine Ab Bg Bh (of_decide_eq_true rfl) ?_
     simp (disch:=omega) only [AT,go_sem,Aa,hbig,hd,hvc,hd2,c1,c2,a1,a2,a3,a4,i1,i2,v1,v2,BT,BH,AP,Au,Aw,Am,Al,A3,AG,A6,Sb.osv,Sb.obs,Tm.osv,Tm.obs,Bd.erss,Bd.noss,Tm.erss,Tm.noss]
   | true =>
    obtain ⟨hG1,hxx⟩:=f2 hbad rfl
    rw [Bs hxx] at v2
    subst hG1
    cases A with
    | false =>
     cases O
     all_goals
      refine Ab Bg Bh (of_decide_eq_true rfl) ?_
      simp (disch:=omega) only [AT,go_sem,Aa,hbig,hd,hvc,hd2,c1,c2,a1,a2,a3,a4,i1,i2,v1,v2,BT,BH,AP,Au,Aw,Am,Al,A3,AG,A6,Sb.osv,Sb.obs,Tm.osv,Tm.obs,Bd.erss,Bd.noss,Tm.erss,Tm.noss]
    | true =>
     cases C with
     | false =>
      cases O
      all_goals
       refine Ab Bg Bh (of_decide_eq_true rfl) ?_
       simp (disch:=omega) only [AT,go_sem,Aa,hbig,hd,hvc,hd2,c1,c2,a1,a2,a3,a4,i1,i2,v1,v2,BT,BH,AP,Au,Aw,Am,Al,A3,AG,A6,Sb.osv,Sb.obs,Tm.osv,Tm.obs,Bd.erss,Bd.noss,Tm.erss,Tm.noss]
     | true =>
      obtain ⟨hD1,hyz⟩:=f1 rfl rfl rfl
      rw [Bs hyz] at v1
      subst hD1
      cases O
      all_goals
       refine Ab Bg Bh (of_decide_eq_true rfl) ?_
       simp (disch:=omega) only [AT,go_sem,Aa,hbig,hd,hvc,hd2,c1,c2,a1,a2,a3,a4,i1,i2,v1,v2,BT,BH,AP,Au,Aw,Am,Al,A3,AG,A6,Sb.osv,Sb.obs,Tm.osv,Tm.obs,Bd.erss,Bd.noss,Tm.erss,Tm.noss]
end Go.Proofs.YtalflgegedmmkaaGreat
set_option maxRecDepth 100000
set_option linter.unusedSimpArgs false
set_option linter.unusedVariables false
set_option linter.unusedSectionVars false
namespace Go.Proofs.YtalflgegedmmkaaGreat
open Go.RowKit Go.ChangeShapes Go.WideShapes Go.ChangeAt Go.Deep
section
variable {H:Type} {enc:TypeId × Value→H} {P:Program} {w:World} {base:Nat} {spare:Nat→Bool} {held:Bool}
theorem GO {b o k:Nat}:(⟨b,o,none⟩:Addr).add k=⟨b,o+k,none⟩:=by
 unfold Addr.add; split
 ·subst_vars; rfl
 ·rfl
theorem TQ {a:Addr} {v:Value} (h:w.cell? a=some v):a.block<w.heap.size:=by
 unfold World.cell? at h
 cases hb:w.heap[a.block]? with
 | none=>rw [hb] at h; cases h
 | some o=>exact (Array.getElem?_eq_some_iff.1 hb).1
end
section
variable {H:Type} {enc:TypeId × Value→H} {w:World} {base:Nat} {spare:Nat→Bool} {held:Bool}
end
end Go.Proofs.YtalflgegedmmkaaGreat
set_option maxRecDepth 100000
set_option linter.unusedSimpArgs false
set_option linter.unusedVariables false
set_option linter.unusedSectionVars false
namespace Go.Proofs.YtalflgegedmmkaaGreat
open Go.RowKit Go.ChangeShapes Go.WideShapes Go.ChangeAt Go.Deep
section
variable {H:Type} {enc:TypeId × Value→H} {P:Program} {w:World} {base:Nat} {spare:Nat→Bool} {held:Bool}
theorem Sz {t e:TypeId} {fuel:Nat} {v:Value} {x:DataW H × List MemPlace} (sz:Nat) (hsz:P.cellsOf e=sz) (h0:0<sz) (ht:P.underlying t=some (.slice e)) (h:DataW.trod enc P w base spare held fuel t [v]=some x) :
  ∃ (a:Option Addr) (len cap:Nat) (f:Nat→Nat→Value),v=.slice a len cap∧len≤cap∧cap≤9223372036854775807∧SlA w 0 sz len f a ∧
   ∀ i,i<len→∃ n x',n<fuel∧DataW.trod enc P w base spare held n e ((z8 sz).map (f i))=some x':=by
 rcases DataW.trod_slice ht h with ⟨hcs,_⟩ | ⟨a,len,cap,elems,rest,n,hf,hcs,hx,hb,hl,hm,hlen,hel,_,_⟩
 ·simp only [yM,and_true] at hcs
  exact ⟨none,0,0,fun _ _=>undef,hcs,yA _,by omega,.inl rfl,fun i hi=>absurd hi (by omega)⟩
 ·have hi:∀ i,i<len→∃ cs' x',w.cells? base (a.add (i*sz)) sz=some cs'∧DataW.trod enc P w base spare held n e cs'=some x':=by
   intro i hi
   have h1:=hel i hi
   rw [hsz,zQ (by omega)] at h1
   obtain ⟨cs',h2,h3⟩:=Option.bind_eq_some_iff.1 h1
   exact ⟨cs',_,h2,h3⟩
  have hcell:∀ i j,i<len→j<sz→∃ v,w.cell? (a.add (i*sz+j))=some v:=by
   intro i j hil hj
   obtain ⟨cs',x',hc,_⟩:=hi i hil
   obtain ⟨_,hcl,hat⟩:=World.cells?_some hc
   have h1:=hat j hj
   rw [Go.Deep.add_add,zQ (by omega)] at h1
   exact ⟨_,h1⟩
  simp only [yM,and_true] at hcs
  refine ⟨some a,len,cap,fun i j=>(w.cell? (a.add (i*sz+j))).getD undef,hcs,hl,hm,?_,?_⟩
  ·rcases Nat.eq_zero_or_pos len with h | h
   ·exact .inl h
   ·obtain ⟨v,hv⟩:=hcell 0 0 h h0
    rw [Nat.zero_mul,yH] at hv
    have hsp:a.spot=none:=by simpa [Addr.add] using World.cell?_spot hv
    have hlt:=TQ hv
    obtain ⟨b,off,spot⟩:=a
    simp only at hsp
    subst hsp
    refine .inr ⟨b,off,rfl,zM _,by simpa [Addr.add] using hlt,fun i j hil hj=>?_⟩
    obtain ⟨v',hv'⟩:=hcell i j hil hj
    rw [GO] at hv'
    show _=some ((w.cell? ((⟨b,off,none⟩:Addr).add (i*sz+j))).getD undef)
    rw [GO,Nat.add_assoc,hv']
    rfl
  ·intro i hil
   obtain ⟨cs',x',hc,ht'⟩:=hi i hil
   obtain ⟨_,hcl,hat⟩:=World.cells?_some hc
   refine ⟨n,x',by omega,?_⟩
   have hcs':(z8 sz).map (fun j=>(w.cell? (a.add (i*sz+j))).getD undef)=cs':=by
    apply List.ext_getElem?
    intro j
    by_cases hj:j<sz
    ·rw [List.getElem?_map,List.getElem?_range hj]
     have h1:=hat j hj
     rw [Go.Deep.add_add] at h1
     rw [zQ (by omega:j<cs'.length)] at h1 ⊢
     simp [h1]
    ·rw [List.getElem?_eq_none (by simp; omega),List.getElem?_eq_none (by omega)]
   rw [hcs']
   exact ht'
end
inductive Lvs (w:World):List D→List Value→Prop
 |nil:Lvs w [] []
 |cons {d:D} {v:Value} {ds:List D} {vs:List Value} (h:DAt w d v) (hs:Lvs w ds vs):Lvs w (d :: ds) (v :: vs)
theorem Lvs.len {w:World} {ds:List D} {vs:List Value} (h:Lvs w ds vs):ds.length=vs.length:=by
 induction h with
 | nil=>rfl
 | cons h hs ih=>simp [ih]
theorem Lvs.get {w:World} {ds:List D} {vs:List Value} (h:Lvs w ds vs):∀ j (h1:j<ds.length) (h2:j<vs.length),DAt w ds[j] vs[j]:=by
 induction h with
 | nil=>intro j h1; simp at h1
 | cons h hs ih =>
  intro j h1 h2
  cases j with
  | zero=>exact h
  | succ j=>exact ih j (by simpa using h1) (by simpa using h2)
theorem S1 {α:Type} [Inhabited α] (dd:α→List D) {w:World} {m len cap:Nat} {f:Nat→Nat→Value} {a:Option Addr} (hl:len≤cap) (hm:cap≤9223372036854775807) (hS:SlA w 0 m len f a)
  (hel:∀ i,i<len→∃ X:α,Lvs w (dd X) ((z8 m).map (f i))):∃ xs:List α,DAt w (.arr (xs.map dd)) (.slice a len cap):=by
 obtain ⟨g,hg⟩:∃ g:Nat→α,∀ i,i<len→Lvs w (dd (g i)) ((z8 m).map (f i)) :=
  ⟨fun i=>if h:i<len then (hel i h).choose else default,fun i hi=>by simp only [hi,dif_pos]; exact (hel i hi).choose_spec⟩
 refine ⟨(z8 len).map g,?_⟩
 have hlen:(((z8 len).map g).map dd).length=len:=by simp
 have:=DAt.Ud (w:=w) (es:=((z8 len).map g).map dd) (sz:=m) (cap:=cap) (a:=a) (f:=f) (by rw [hlen]; exact hl) hm (by rw [hlen]; exact hS) (fun i hi=>by
  rw [hlen] at hi
  have:=(hg i hi).len
  simpa using this) (fun i j hi hj=>by
  rw [hlen] at hi
  have h1:=hg i hi
  have h2:=h1.len
  simp only [zJ,List.length_range] at h2
  simp only [List.getElem_map,List.getElem_range] at hj ⊢
  have:=h1.get j hj (by simp; omega)
  simpa using this)
 rw [hlen] at this
 exact this
instance:Inhabited Tm:=⟨Tm.zero⟩
instance:Inhabited Fm:=⟨Fm.zero⟩
section
variable {H:Type} {enc:TypeId × Value→H} {w:World} {base:Nat} {spare:Nat→Bool} {held:Bool}
end
end Go.Proofs.YtalflgegedmmkaaGreat
set_option maxRecDepth 100000
set_option linter.unusedSimpArgs false
set_option linter.unusedVariables false
set_option linter.unusedSectionVars false
namespace Go.Proofs.YtalflgegedmmkaaGreat
open Go.RowKit
theorem DRep.lt_ {own:Bool} {w:World} {S:Nat→Prop} {d:D} {v:Value} (h:DRep own w S d v):DRep own w (fun b=>S b∧b<w.heap.size) d v:=by
 induction h with
 | int S n=>exact .int _ n
 | byte S n=>exact .byte _ n
 | nl S=>exact .nl _
 | bool S b=>exact .bool _ b
 | str S s h=>exact .str _ s h
 | arr S sz es a cap f Sub h1 h2 h3 h4 h5 h6 h7 ih =>
  refine .arr _ sz es a cap f (fun i j x=>Sub i j x∧x<w.heap.size) h1 h2 ?_ h4 (fun i j x h=>⟨h5 i j x h.1,h.2⟩) (fun ho i j i' j' x h h'=>h6 ho i j i' j' x h.1 h'.1) ih
  rcases h3 with h3 | ⟨b,off,ha,hS,hl,hc,ho⟩
  ·exact .inl h3
  ·exact .inr ⟨b,off,ha,⟨hS,hl⟩,hl,hc,fun h=>⟨fun i j hx=>(ho h).1 i j hx.1,(ho h).2⟩⟩
theorem DAt.rep {w:World} {es:List (List D)} {v:Value} (h:DAt w (.arr es) v):RepV w (fun b=>b<w.heap.size) (fun _=>none) (.arr es) v:=by
 simp only [RepV]
 exact (DRep.lt_ h).up fun b hb=>hb.2
theorem Fun.yes {f:FuncId} {args:List SV} (h:Fun Tryz.prog f args [] (.bool true) []) {w:World} {vs:List Value} (hgl:GL w fun b=>b<w.heap.size) (hvs:RepVs w (fun b=>b<w.heap.size) (fun _=>none) args vs):Calls Tryz.prog f vs.toArray w (Ret w (.bool true)):=by
 have nl:∀ g,¬ (Ac [] g).live:=fun g hg=>by simp [Ac,Ob.live] at hg
 refine (h w (fun b=>b<w.heap.size) (fun _=>none) (fun _ _=>False) vs ⟨fun b hb=>hb,fun g hg=>absurd hg (nl g),fun g b hg=>absurd hg (nl g),fun g b hg=>absurd hg (nl g),fun g g' b hg=>absurd hg (nl g),fun g _=>rfl,hgl⟩ hvs).mono ?_
 rintro e w' ⟨v,I',V',B',rfl,hr,hp⟩
 simp only [RepV] at hr
 subst hr
 exact ⟨rfl,hp.fr.os,hp.fr.tape.1,hp.fr.output,hp.fr.size,fun b hb=>hp.fr.block b hb fun ⟨g,hg,_⟩=>absurd hg (nl g)⟩
theorem S2 {w:World} {I:Nat→Prop} {V:Nat→Option Value}:RepVs w I V [] []:=by simp [RepVs]
theorem QK {w:World} {I:Nat→Prop} {V:Nat→Option Value} {x:SV} {xs:List SV} {v:Value} {vs:List Value} (h:RepV w I V x v) (hs:RepVs w I V xs vs):RepVs w I V (x :: xs) (v :: vs):=by
 simp only [RepVs]; exact ⟨v,vs,rfl,h,hs⟩
section
variable {H:Type} {enc:TypeId × Value→H} {w:World} {base:Nat} {spare:Nat→Bool} {held:Bool}
end
end Go.Proofs.YtalflgegedmmkaaGreat
set_option maxRecDepth 100000
set_option linter.unusedSimpArgs false
set_option linter.unusedVariables false
set_option linter.unusedSectionVars false
namespace Go.Proofs.YtalflgegedmmkaaGreat
open Go.RowKit Go.ChangeShapes Go.WideShapes Go.ChangeAt Go.Deep
section
variable {H:Type} {enc:TypeId × Value→H} {w:World} {base:Nat} {spare:Nat→Bool} {held:Bool}
abbrev ByteZ:={ b:Int // 0≤b∧b≤255 }
instance:Inhabited ByteZ:=⟨⟨0,by omega⟩⟩
theorem QL {fuel:Nat} {v:Value} {x:DataW H × List MemPlace} (h:DataW.trod enc Tryz.prog w base spare held fuel 22 [v]=some x):∃ l:List Int,Bytes l∧DAt w (.arr (l.map by_)) v:=by
 obtain ⟨a,len,cap,f,rfl,hl,hm,hS,hr⟩:=Sz (P:=Tryz.prog) 1 (by kernel_rfl) (by omega) Tryz.underlying22 h
 obtain ⟨xs,hx⟩:=S1 (fun s:ByteZ=>[D.byte s.1]) hl hm hS fun i hi=>by
  obtain ⟨n,x',hn,h1⟩:=hr i hi
  obtain ⟨z,q,_,hw⟩:=DataW.trod_int Tryz.underlying5 h1
  have h2:(decide (IntKind.u8.min≤z)&&decide (z≤IntKind.u8.max))=true:=hw
  rw [zB,decide_eq_true_eq,decide_eq_true_eq] at h2
  rw [q]
  exact ⟨⟨z,h2.1,h2.2⟩,.cons (.byte _ z) .nil⟩
 refine ⟨xs.map (·.1),fun b hb=>?_,?_⟩
 ·obtain ⟨s,_,rfl⟩:=yI.1 hb
  exact s.2
 ·rw [zP]
  exact hx
end
end Go.Proofs.YtalflgegedmmkaaGreat
