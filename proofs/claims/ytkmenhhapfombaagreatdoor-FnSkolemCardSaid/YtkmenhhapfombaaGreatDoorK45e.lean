/-
  Texts of this claim, one behind the other, each built on those ahead of it. No condition.
-/
import Derived.Test.YtkmenhhapfombaaGreatDoorK45c
import Derived.Test.YtkmenhhapfombaaGreatDoorK45d
set_option maxHeartbeats 16000000
open List renaming drop_eq_getElem_cons → zA, eq_nil_of_length_eq_zero → zB, length_append → zD, drop_eq_nil_of_le → zE, drop_zero → zF, map_nil → zH, getElem_mem → zI, nil_append → zJ, map_cons → zL, length_map → zM, length_nil → zN, append_assoc → zP, map_append → zQ, append_nil → zR, length_singleton → zS, take_succ_eq_append_getElem → zU, length_take → zY, take_zero → zZ, take_length → yB, map_map → yC, cons_append → yD, pairwise_iff_getElem → yE, take_of_length_le → yF, getElem_map → yI, mem_append → yL, sublist_append_right → yP, flatten_cons → yQ, any_cons → yS, mem_cons → yT, all_eq_true → yV, mem_flatMap → yW
open Nat renaming lt_or_ge → zC, eq_zero_or_pos → zG, zero_le → zK, not_lt → zO, zero_add → yN, le_refl → yZ, mul_le_mul → y0
open Bool renaming and_eq_true → zT, false_or → zX, false_and → z8, not_false → yG, and_self → yJ, true_or → yM, false_beq → yO, true_beq → yR, not_true → yU, and_false → yY, true_and → y2
open Int renaming natCast_add → zV, mul_nonneg → zW, tdiv_eq_ediv_of_nonneg → z6, add_mul → z7, toNat_zero → yA, le_refl → yK, natCast_mul → yX
open ByteArray renaming size_append → yH
set_option maxRecDepth 100000
set_option linter.unusedSimpArgs false
set_option linter.unusedVariables false
set_option linter.unusedSectionVars false
namespace Go.Proofs.YtkmenhhapfombaaGreatDoor
open Go.RowKit
def Ky:SC:=(.seq (.reg [⟨some 6,none,.boxv 39 2 (.t 2)⟩,⟨some 7,none,.boxv 26 2 (.t 3)⟩,⟨some 8,none,.mv (.c (.bool false))⟩]) (.seq (.reg [⟨some 11,none,.mkrow 3 1 [(.int .i64 0)] 0 []⟩,⟨some 9,none,.mv (.t 11)⟩]) (.seq (.seq (.reg [⟨some 10,none,.mv (.c (.int .i64 0))⟩]) (.block 0 (.loop [1,1,0,0,0,0,1,1,0,1,1,0,0,0,0,0,0,0,0,0,0,0,0,0,0,0,0,0,0,0,0,0,0,0,0,0,0,0,0,0,0,0,0,0,0,0,0,0,0,0,0,0,0,0] (.seq (.seq (.reg [⟨some 12,none,.mv (.t 10)⟩,⟨some 13,none,.faddr 1 (.t 7)⟩,⟨some 14,none,.load false 1 (.t 13)⟩,⟨some 15,none,.len false (.t 14)⟩,⟨some 16,none,.bin .lss false (.t 12) (.t 15)⟩]) (.cond (.t 16) .skip (.exit 0))) (.seq (.block 1 (.dreg [[],[],[],[],[],[4],[],[5,4,6],[7,5,4,6],[1,2,3,8,7,5,4,6],[9,1,2,3,8,7,5,4,6],[0,10,9,1,2,3,8,7,5,4,6],[11,0,10,9,1,2,3,8,7,5,4,6]] [⟨some 19,none,.mv (.t 9)⟩,⟨some 20,none,.mv (.t 0)⟩,⟨some 21,none,.mv (.t 1)⟩,⟨some 22,none,.load true 2 (.t 6)⟩,⟨some 23,none,.faddr 1 (.t 7)⟩,⟨some 24,none,.load false 1 (.t 23)⟩,⟨some 25,none,.mv (.t 10)⟩,⟨some 26,none,.iaddr 2 (.t 24) (.t 25)⟩,⟨some 27,none,.load true 2 (.t 26)⟩,⟨some 28,none,.call 74 [(.t 20),(.t 21),(.t 22),(.t 27)]⟩,⟨some 29,none,.mkrow 3 1 [(.int .i64 0)] 1 [(0,(.t 28))]⟩,⟨some 30,none,.append 3 1 8 [(.int .i64 0)] (.t 19) (.t 29)⟩,⟨some 9,none,.mv (.t 30)⟩])) (.reg [⟨some 17,none,.mv (.t 10)⟩,⟨some 18,none,.bin .add false (.t 17) (.c (.int .i64 1))⟩,⟨some 10,none,.mv (.t 18)⟩])))))) (.seq (.seq (.reg [⟨some 31,none,.faddr 0 (.t 7)⟩,⟨some 32,none,.load false 1 (.t 31)⟩,⟨(some 33),none,(.bin .eql false (.t 32) (.c (.str ⟨#[61]⟩)))⟩,⟨some 34,none,.mv (.t 33)⟩,⟨(some 35),(some (34,true)),(.mv (.t 9))⟩,⟨(some 36),(some (34,true)),(.len false (.t 35))⟩,⟨(some 37),(some (34,true)),(.bin .eql false (.t 36) (.c (.int .i64 2)))⟩,⟨some 38,none,.pick (.t 34) (.t 37) (.c (.bool false))⟩]) (.cond (.t 38) (.seq (.dreg [[],[0],[1,0],[],[3],[4,3],[2,1,0,5,4,3],[6,2,1,0,5,4,3]] [⟨some 39,none,.mv (.t 9)⟩,⟨some 40,none,.iaddr 1 (.t 39) (.c (.int .i64 0))⟩,⟨some 41,none,.load false 1 (.t 40)⟩,⟨some 42,none,.mv (.t 9)⟩,⟨some 43,none,.iaddr 1 (.t 42) (.c (.int .i64 1))⟩,⟨some 44,none,.load false 1 (.t 43)⟩,⟨some 45,none,.bin .eql false (.t 41) (.t 44)⟩,⟨some 8,none,.mv (.t 45)⟩]) .ret) .skip)) (.seq (.reg [⟨some 46,none,.mv (.t 0)⟩,⟨some 47,none,.faddr 0 (.t 7)⟩,⟨some 48,none,.load false 1 (.t 47)⟩,⟨(some 49),none,(.bin .add false (.c (.str ⟨#[126]⟩)) (.t 48))⟩,⟨some 50,none,.mv (.t 9)⟩,⟨some 51,none,.call 75 [(.t 46),(.t 49),(.t 50)]⟩,⟨some 52,none,.bin .rem false (.t 51) (.c (.int .i64 2))⟩,⟨some 53,none,.bin .eql false (.t 52) (.c (.int .i64 1))⟩,⟨some 8,none,.mv (.t 53)⟩]) .ret)))))
theorem PO:At Tryz.prog 35=some ⟨54,Ky,[(.tmp 8)]⟩:=by kernel_rfl
theorem Kz:modes 35=⟨[],.asis,none,false⟩:=by unfold modes; rfl
def AT:SC:=(.seq (.reg [⟨some 6,none,.boxv 39 2 (.t 2)⟩,⟨some 7,none,.boxv 29 5 (.t 3)⟩,⟨some 8,none,.mv (.c (.bool false))⟩]) (.seq (.seq (.reg [⟨some 10,none,.faddr 0 (.t 7)⟩,⟨some 11,none,.load false 1 (.t 10)⟩]) (.block 0 (.seq (.reg [⟨some 13,none,.bin .eql false (.t 11) (.c (.int .i64 1))⟩,⟨some 12,none,.mv (.t 13)⟩]) (.cond (.t 12) (.seq (.reg [⟨some 8,none,.mv (.c (.bool true))⟩]) .ret) (.seq (.reg [⟨some 15,none,.bin .eql false (.t 11) (.c (.int .i64 2))⟩,⟨some 14,none,.mv (.t 15)⟩]) (.cond (.t 14) (.seq (.reg [⟨some 8,none,.mv (.c (.bool false))⟩]) .ret) (.seq (.reg [⟨some 17,none,.bin .eql false (.t 11) (.c (.int .i64 3))⟩,⟨some 16,none,.mv (.t 17)⟩]) (.cond (.t 16) (.seq (.reg [⟨some 18,none,.mv (.t 0)⟩,⟨some 19,none,.mv (.t 1)⟩,⟨some 20,none,.load true 2 (.t 6)⟩,⟨some 21,none,.faddr 1 (.t 7)⟩,⟨some 22,none,.load true 2 (.t 21)⟩,⟨some 23,none,.call 35 [(.t 18),(.t 19),(.t 20),(.t 22)]⟩,⟨some 8,none,.mv (.t 23)⟩]) .ret) (.seq (.reg [⟨some 25,none,.bin .eql false (.t 11) (.c (.int .i64 4))⟩,⟨some 24,none,.mv (.t 25)⟩]) (.cond (.t 24) (.seq (.dreg [[],[],[],[],[3],[4,3],[5,4,3],[0,1,2,6,5,4,3],[7,0,1,2,6,5,4,3],[8,7,0,1,2,6,5,4,3]] [⟨some 26,none,.mv (.t 0)⟩,⟨some 27,none,.mv (.t 1)⟩,⟨some 28,none,.load true 2 (.t 6)⟩,⟨some 29,none,.faddr 4 (.t 7)⟩,⟨some 30,none,.load false 1 (.t 29)⟩,⟨some 31,none,.iaddr 5 (.t 30) (.c (.int .i64 0))⟩,⟨some 32,none,.load true 5 (.t 31)⟩,⟨some 33,none,.call 15 [(.t 26),(.t 27),(.t 28),(.t 32)]⟩,⟨some 34,none,.un .not (.t 33)⟩,⟨some 8,none,.mv (.t 34)⟩]) .ret) (.seq (.reg [⟨some 36,none,.bin .eql false (.t 11) (.c (.int .i64 5))⟩,⟨some 35,none,.mv (.t 36)⟩]) (.cond (.t 35) (.seq (.dreg [[],[],[],[],[3],[4,3],[5,4,3],[0,1,2,6,5,4,3],[7,0,1,2,6,5,4,3],[8,7,0,1,2,6,5,4,3],[8,7,0,1,2,6,5,4,3],[8,7,0,1,2,6,5,4,3],[8,7,0,1,2,6,5,4,3],[12,8,7,0,1,2,6,5,4,3],[13,12,8,7,0,1,2,6,5,4,3],[14,13,12,8,7,0,1,2,6,5,4,3],[9,8,7,0,1,2,6,5,4,3,10,11,15,14,13,12],[8,7,0,1,2,6,5,4,3,16,9,10,11,15,14,13,12],[17,8,7,0,1,2,6,5,4,3,16,9,10,11,15,14,13,12]] [⟨some 37,none,.mv (.t 0)⟩,⟨some 38,none,.mv (.t 1)⟩,⟨some 39,none,.load true 2 (.t 6)⟩,⟨some 40,none,.faddr 4 (.t 7)⟩,⟨some 41,none,.load false 1 (.t 40)⟩,⟨some 42,none,.iaddr 5 (.t 41) (.c (.int .i64 0))⟩,⟨some 43,none,.load true 5 (.t 42)⟩,⟨some 44,none,.call 15 [(.t 37),(.t 38),(.t 39),(.t 43)]⟩,⟨some 45,none,.mv (.t 44)⟩,⟨(some 46),(some (45,true)),(.mv (.t 0))⟩,⟨(some 47),(some (45,true)),(.mv (.t 1))⟩,⟨(some 48),(some (45,true)),(.load true 2 (.t 6))⟩,⟨(some 49),(some (45,true)),(.faddr 4 (.t 7))⟩,⟨(some 50),(some (45,true)),(.load false 1 (.t 49))⟩,⟨(some 51),(some (45,true)),(.iaddr 5 (.t 50) (.c (.int .i64 1)))⟩,⟨(some 52),(some (45,true)),(.load true 5 (.t 51))⟩,⟨(some 53),(some (45,true)),(.call 15 [(.t 46),(.t 47),(.t 48),(.t 52)])⟩,⟨some 54,none,.pick (.t 45) (.t 53) (.c (.bool false))⟩,⟨some 8,none,.mv (.t 54)⟩]) .ret) (.seq (.reg [⟨some 56,none,.bin .eql false (.t 11) (.c (.int .i64 6))⟩,⟨some 55,none,.mv (.t 56)⟩]) (.cond (.t 55) (.seq (.dreg [[],[],[],[],[3],[4,3],[5,4,3],[0,1,2,6,5,4,3],[7,0,1,2,6,5,4,3],[8,7,0,1,2,6,5,4,3],[8,7,0,1,2,6,5,4,3],[8,7,0,1,2,6,5,4,3],[8,7,0,1,2,6,5,4,3],[12,8,7,0,1,2,6,5,4,3],[13,12,8,7,0,1,2,6,5,4,3],[14,13,12,8,7,0,1,2,6,5,4,3],[9,8,7,0,1,2,6,5,4,3,10,11,15,14,13,12],[8,7,0,1,2,6,5,4,3,16,9,10,11,15,14,13,12],[17,8,7,0,1,2,6,5,4,3,16,9,10,11,15,14,13,12]] [⟨some 57,none,.mv (.t 0)⟩,⟨some 58,none,.mv (.t 1)⟩,⟨some 59,none,.load true 2 (.t 6)⟩,⟨some 60,none,.faddr 4 (.t 7)⟩,⟨some 61,none,.load false 1 (.t 60)⟩,⟨some 62,none,.iaddr 5 (.t 61) (.c (.int .i64 0))⟩,⟨some 63,none,.load true 5 (.t 62)⟩,⟨some 64,none,.call 15 [(.t 57),(.t 58),(.t 59),(.t 63)]⟩,⟨some 65,none,.mv (.t 64)⟩,⟨(some 66),(some (65,false)),(.mv (.t 0))⟩,⟨(some 67),(some (65,false)),(.mv (.t 1))⟩,⟨(some 68),(some (65,false)),(.load true 2 (.t 6))⟩,⟨(some 69),(some (65,false)),(.faddr 4 (.t 7))⟩,⟨(some 70),(some (65,false)),(.load false 1 (.t 69))⟩,⟨(some 71),(some (65,false)),(.iaddr 5 (.t 70) (.c (.int .i64 1)))⟩,⟨(some 72),(some (65,false)),(.load true 5 (.t 71))⟩,⟨(some 73),(some (65,false)),(.call 15 [(.t 66),(.t 67),(.t 68),(.t 72)])⟩,⟨some 74,none,.pick (.t 65) (.c (.bool true)) (.t 73)⟩,⟨some 8,none,.mv (.t 74)⟩]) .ret) (.seq (.reg [⟨some 76,none,.bin .eql false (.t 11) (.c (.int .i64 7))⟩,⟨some 75,none,.mv (.t 76)⟩]) (.cond (.t 75) (.seq (.dreg [[],[],[],[],[3],[4,3],[5,4,3],[0,1,2,6,5,4,3],[7,0,1,2,6,5,4,3],[8,7,0,1,2,6,5,4,3],[9,8,7,0,1,2,6,5,4,3],[9,8,7,0,1,2,6,5,4,3],[9,8,7,0,1,2,6,5,4,3],[9,8,7,0,1,2,6,5,4,3],[13,9,8,7,0,1,2,6,5,4,3],[14,13,9,8,7,0,1,2,6,5,4,3],[15,14,13,9,8,7,0,1,2,6,5,4,3],[10,9,8,7,0,1,2,6,5,4,3,11,12,16,15,14,13],[9,8,7,0,1,2,6,5,4,3,17,10,11,12,16,15,14,13],[18,9,8,7,0,1,2,6,5,4,3,17,10,11,12,16,15,14,13]] [⟨some 77,none,.mv (.t 0)⟩,⟨some 78,none,.mv (.t 1)⟩,⟨some 79,none,.load true 2 (.t 6)⟩,⟨some 80,none,.faddr 4 (.t 7)⟩,⟨some 81,none,.load false 1 (.t 80)⟩,⟨some 82,none,.iaddr 5 (.t 81) (.c (.int .i64 0))⟩,⟨some 83,none,.load true 5 (.t 82)⟩,⟨some 84,none,.call 15 [(.t 77),(.t 78),(.t 79),(.t 83)]⟩,⟨some 85,none,.un .not (.t 84)⟩,⟨some 86,none,.mv (.t 85)⟩,⟨(some 87),(some (86,false)),(.mv (.t 0))⟩,⟨(some 88),(some (86,false)),(.mv (.t 1))⟩,⟨(some 89),(some (86,false)),(.load true 2 (.t 6))⟩,⟨(some 90),(some (86,false)),(.faddr 4 (.t 7))⟩,⟨(some 91),(some (86,false)),(.load false 1 (.t 90))⟩,⟨(some 92),(some (86,false)),(.iaddr 5 (.t 91) (.c (.int .i64 1)))⟩,⟨(some 93),(some (86,false)),(.load true 5 (.t 92))⟩,⟨(some 94),(some (86,false)),(.call 15 [(.t 87),(.t 88),(.t 89),(.t 93)])⟩,⟨some 95,none,.pick (.t 86) (.c (.bool true)) (.t 94)⟩,⟨some 8,none,.mv (.t 95)⟩]) .ret) .skip)))))))))))))))) (.seq (.seq (.reg [⟨some 9,none,.mv (.c (.int .i64 0))⟩]) (.block 1 (.loop [1,1,0,0,0,0,1,1,0,1,0,0,0,0,0,0,0,0,0,0,0,0,0,0,0,0,0,0,0,0,0,0,0,0,0,0,0,0,0,0,0,0,0,0,0,0,0,0,0,0,0,0,0,0,0,0,0,0,0,0,0,0,0,0,0,0,0,0,0,0,0,0,0,0,0,0,0,0,0,0,0,0,0,0,0,0,0,0,0,0,0,0,0,0,0,0,0,0,0,0,0,0,0,0,0,0,0,0,0,0,0,0,0,0,0,0,0,0,0,0,0,0,0] (.seq (.seq (.reg [⟨some 96,none,.mv (.t 9)⟩,⟨some 97,none,.mv (.t 1)⟩,⟨some 98,none,.bin .lss false (.t 96) (.t 97)⟩]) (.cond (.t 98) .skip (.exit 1))) (.seq (.block 2 (.seq (.dreg [[],[],[],[],[3],[],[2,4,3,5],[],[7],[8,7],[9,8,7],[0,1,6,2,4,3,5,10,9,8,7],[],[12],[13,12],[11,0,1,6,2,4,3,5,10,9,8,7,14,13,12]] [⟨some 101,none,.mv (.t 0)⟩,⟨some 102,none,.mv (.t 1)⟩,⟨some 103,none,.load true 2 (.t 6)⟩,⟨some 104,none,.faddr 3 (.t 7)⟩,⟨some 105,none,.load false 1 (.t 104)⟩,⟨some 106,none,.mv (.t 9)⟩,⟨some 107,none,.call 13 [(.t 103),(.t 105),(.t 106)]⟩,⟨some 108,none,.faddr 4 (.t 7)⟩,⟨some 109,none,.load false 1 (.t 108)⟩,⟨some 110,none,.iaddr 5 (.t 109) (.c (.int .i64 0))⟩,⟨some 111,none,.load true 5 (.t 110)⟩,⟨some 112,none,.call 15 [(.t 101),(.t 102),(.t 107),(.t 111)]⟩,⟨some 113,none,.faddr 0 (.t 7)⟩,⟨some 114,none,.load false 1 (.t 113)⟩,⟨some 115,none,.bin .eql false (.t 114) (.c (.int .i64 9))⟩,⟨some 116,none,.bin .eql true (.t 112) (.t 115)⟩]) (.cond (.t 116) (.seq (.reg [⟨some 117,none,.faddr 0 (.t 7)⟩,⟨some 118,none,.load false 1 (.t 117)⟩,⟨some 119,none,.bin .eql false (.t 118) (.c (.int .i64 9))⟩,⟨some 8,none,.mv (.t 119)⟩]) .ret) .skip))) (.reg [⟨some 99,none,.mv (.t 9)⟩,⟨some 100,none,.bin .add false (.t 99) (.c (.int .i64 1))⟩,⟨some 9,none,.mv (.t 100)⟩])))))) (.seq (.reg [⟨some 120,none,.faddr 0 (.t 7)⟩,⟨some 121,none,.load false 1 (.t 120)⟩,⟨some 122,none,.bin .eql false (.t 121) (.c (.int .i64 8))⟩,⟨some 8,none,.mv (.t 122)⟩]) .ret))))
theorem AX:At Tryz.prog 15=some ⟨123,AT,[(.tmp 8)]⟩:=by kernel_rfl
theorem Av:modes 15=⟨[],.asis,none,false⟩:=by unfold modes; rfl
theorem Tm.XB {x:Tm} (h:x.atom=true):x.name.size≤6:=by
 unfold Tm.atom at h
 split at h
 ·rename_i he
  unfold Tm.eqn at he
  rw [Aw.1 he]
  decide
 ·rw [zT] at h
  exact Q9 h.1
theorem Tm.Zz {x:Tm} (h:x.atom=true) {y:Tm} (hy:y∈x.args):y.names=true:=by
 unfold Tm.atom at h
 split at h
 ·rw [zT,Tm.G1,yV] at h
  exact h.2 y hy
 ·rw [zT] at h
  have h2:=h.2
  unfold Tm.valid at h2
  rw [zT] at h2
  exact Tm.DS h2.2 hy
theorem Z0 (s:ByteArray):((⟨#[126]⟩:ByteArray)++s).size=1+s.size:=by rw [yH]; rfl
theorem Z1 (l:List Int) (hl:Bytes l) (hn:l.length≤1099511627776) (n:Int) (hn0:1≤n∧n≤65535) (e:Ev) (he:e.length≤1099511627776) (hE:EnvOk e) (x:Tm) (hx:x.atom=true) (hxn:x.nodes≤1048576):E 35 [.arr (l.map by_),.int .i64 n,veS e,x.sv] []=some (.bool (KW l n (C0 e) x),[]):=by
 have hlen:=Tm.length_le x.args
 have hne:=Tm.nodes_eq x
 have hsz:=Tm.XB hx
 have z0:((2:Int)=0)=False:=eq_false (by omega)
 have hmx:=Zy l hl hn ((⟨#[126]⟩:ByteArray)++x.name) (by rw [Z0]; omega) (x.args.map (Tm.val l n (C0 e))) (by rw [zM]; omega) fun v hv=>by
  obtain ⟨y,hy,rfl⟩:=List.mem_map.1 hv
  exact Tm.LO hl hn0 (Pv e hE) y
 have hs1:dec ((⟨#[126]⟩:ByteArray).size+x.name.size≤9223372036854775807)=true:=Ar (by show 1+x.name.size≤_; omega)
 have hs2:dec ((#[126]:Array UInt8).size+x.name.size≤9223372036854775807)=true:=hs1
 refine Ai PO Kz (of_decide_eq_true rfl) ?_
 simp (disch:=omega) only [Ky,go_sem,Ab]
 refine go_loop (α:=Int × (List Int)) (fun a=>⟨slots 54 0 [(0,.arr (l.map by_)),(1,.int .i64 n),(6,.ptr 0 0),(7,.ptr 1 0),(9,.ref 2),(10,.int .i64 (a.1))],[.box 39 [.arr (e.map nmD),.arr (e.map viD)],.box 26 [.str x.name,.arr (x.args.map Tm.d)],.row 3 1 ((a.2).map iO)]⟩) (fun a=>∃ k:Nat,a.1=k∧k≤(x.args).length∧(a.2)=(x.args.take k).map (Tm.val l n (C0 e))) (fun a=>(x.args).length-(a.1).toNat) (0,[]) ⟨0,rfl,zK _,by rw [zZ]; rfl⟩ (by simp (disch:=omega) only [go_sem,Ab]) ?_
 rintro ⟨i,acc⟩ ⟨k,hi,hk,hR⟩
 dsimp only at hi hR
 have hni:i.toNat=k:=by omega
 have hni1:(i+1).toNat=k+1:=by omega
 rcases zC k (x.args).length with hlt | hge
 ·have hg:=get_at Tm.d hlt
  rw [Tm.d_eq] at hg
  have hc:=TU l hl hn n hn0 e he hE x.args[k] (Tm.Zz hx (zI hlt)) (by have:=Tm.nodes_mem (zI hlt); omega)
  have hal:acc.length=k:=by rw [hR,zM,zY]; omega
  simp (disch:=omega) only [go_sem,Ab,hni,hg,hc,C9]
  refine ⟨(i+1,acc++[x.args[k].val l n (C0 e)]),⟨k+1,by dsimp only; omega,hlt,?_⟩,by dsimp only; omega,?_⟩
  ·dsimp only
   rw [zU hlt,zQ,← hR]; rfl
  ·simp (disch:=omega) only [go_sem,Ab,zQ]
 ·have hR:acc=x.args.map (Tm.val l n (C0 e)):=by rw [hR,yF hge]
  have hal:acc.length=x.args.length:=by rw [hR,zM]
  unfold KW
  rw [←hR] at hmx ⊢
  by_cases hq:x.name=⟨#[61]⟩
  ·have q1:(x.name=⟨#[61]⟩)=True:=eq_true hq
   by_cases h2:x.args.length=2
   ·have q2:((acc.length:Int)=2)=True:=eq_true (by omega)
    rw [Ar hq,Ar h2,yJ,cond_true]
    obtain ⟨a,b,hab⟩:∃ a b,acc=[a,b]:=by
     match acc,(show acc.length=2 by omega) with
     | [a,b],_=>exact ⟨a,b,rfl⟩
    subst hab
    simp (disch:=omega) only [go_sem,Ab,q1,q2,hni,Ps,II,MH,MJ,Rc]
   ·have q2:((acc.length:Int)=2)=False:=eq_false (by omega)
    rw [Ar hq,Aj h2,yY,cond_false]
    simp (disch:=omega) only [go_sem,Ab,q1,q2,z0,hs1,hs2,hmx,E7,hni,Ps,II,MH,MJ,Rc]
  ·have q1:(x.name=⟨#[61]⟩)=False:=eq_false hq
   rw [Aj hq,z8,cond_false]
   simp (disch:=omega) only [go_sem,Ab,q1,z0,hs1,hs2,hmx,E7,hni,Ps,II,MH,MJ,Rc]
theorem Z2 (l:List Int) (hl:Bytes l) (hn:l.length≤1099511627776) (n:Int) (hn0:1≤n∧n≤65535) (x:Fm) (hx:x.forms=true) (e:Ev) (he:e.length+x.nodes≤1048576) (hE:EnvOk e) (ih:∀ y∈x.parts,∀ e:Ev,e.length+y.nodes≤1048576→EnvOk e→E 15 [.arr (l.map by_),.int .i64 n,veS e,y.sv] []=some (.bool (y.vt l n (C0 e)),[])):E 15 [.arr (l.map by_),.int .i64 n,veS e,x.sv] []=some (.bool (x.vt l n (C0 e)),[]):=by
 have hne:=Fm.nodes_eq x
 have hf:=Fm.Bo hx
 have ih:∀ y∈x.parts,∀ e:Ev,e.length+1+y.nodes≤1048577→EnvOk e→E 15 [.arr (l.map by_),.int .i64 n,veS e,y.sv] []=some (.bool (y.vt l n (C0 e)),[]):=fun y hy e h1 h2=>ih y hy e (by omega) h2
 rcases Fm.W1 hf with ho | ho | ho | ho | (ho | ho | ho) | ho | ho
 ·rw [Fm.Qca ho]
  have o1:(x.op=1)=True:=eq_true ho
  refine Ai AX Av (of_decide_eq_true rfl) ?_
  simp (disch:=omega) only [AT,go_sem,Ab,o1]
 ·rw [Fm.Qcb ho]
  have o1:(x.op=1)=False:=eq_false (by omega)
  have o2:(x.op=2)=True:=eq_true ho
  refine Ai AX Av (of_decide_eq_true rfl) ?_
  simp (disch:=omega) only [AT,go_sem,Ab,o1,o2]
 ·rw [Fm.YU ho]
  have o1:(x.op=1)=False:=eq_false (by omega)
  have o2:(x.op=2)=False:=eq_false (by omega)
  have o3:(x.op=3)=True:=eq_true ho
  have h1:=Z1 l hl hn n hn0 e (by omega) hE x.atom (Fm.CZ hf ho).2.1 (by have:=Fm.F4 hf; omega)
  refine Ai AX Av (of_decide_eq_true rfl) ?_
  simp (disch:=omega) only [AT,go_sem,Ab,h1,Kz,o1,o2,o3]
 ·obtain ⟨p,hp⟩:=Fm.W0 hf ho
  have hpm:p∈x.parts:=by rw [hp]; simp
  have h1:=ih p hpm e (by have:=Fm.nodes_mem hpm; omega) hE
  have hg0:(x.parts.map Fm.d)[0]?=some p.d:=by rw [hp]; rfl
  rw [Fm.d_eq] at hg0
  rw [Fm.Qbu ho hp]
  have o1:(x.op=1)=False:=eq_false (by omega)
  have o2:(x.op=2)=False:=eq_false (by omega)
  have o3:(x.op=3)=False:=eq_false (by omega)
  have o4:(x.op=4)=True:=eq_true ho
  refine Ai AX Av (of_decide_eq_true rfl) ?_
  simp (disch:=omega) only [AT,go_sem,Ab,h1,hg0,Av,o1,o2,o3,o4]
 ·obtain ⟨p,q,hp⟩:=Fm.NO hf (by omega)
  have hpm:p∈x.parts:=by rw [hp]; simp
  have hqm:q∈x.parts:=by rw [hp]; simp
  have h1:=ih p hpm e (by have:=Fm.nodes_mem hpm; omega) hE
  have h2:=ih q hqm e (by have:=Fm.nodes_mem hqm; omega) hE
  rw [Fm.YV (by omega) hp]
  unfold Pb
  have hg0:(x.parts.map Fm.d)[0]?=some p.d:=by rw [hp]; rfl
  have hg1:(x.parts.map Fm.d)[1]?=some q.d:=by rw [hp]; rfl
  rw [Fm.d_eq] at hg0 hg1
  have o1:(x.op=1)=False:=eq_false (by omega)
  have o2:(x.op=2)=False:=eq_false (by omega)
  have o3:(x.op=3)=False:=eq_false (by omega)
  have o4:(x.op=4)=False:=eq_false (by omega)
  have o5:(x.op=5)=True:=eq_true ho
  cases hb1:p.vt l n (C0 e) with
  | true =>
   rw [hb1] at h1
   cases hb2:q.vt l n (C0 e) with
   | true =>
    rw [hb2] at h2
    refine Ai AX Av (of_decide_eq_true rfl) ?_
    simp (disch:=omega) only [AT,go_sem,Ab,o1,o2,o3,o4,o5,h1,h2,hg0,hg1,Av]
   | false =>
    rw [hb2] at h2
    refine Ai AX Av (of_decide_eq_true rfl) ?_
    simp (disch:=omega) only [AT,go_sem,Ab,o1,o2,o3,o4,o5,h1,h2,hg0,hg1,Av]
  | false =>
   rw [hb1] at h1
   cases hb2:q.vt l n (C0 e) with
   | true =>
    rw [hb2] at h2
    refine Ai AX Av (of_decide_eq_true rfl) ?_
    simp (disch:=omega) only [AT,go_sem,Ab,o1,o2,o3,o4,o5,h1,h2,hg0,hg1,Av]
   | false =>
    rw [hb2] at h2
    refine Ai AX Av (of_decide_eq_true rfl) ?_
    simp (disch:=omega) only [AT,go_sem,Ab,o1,o2,o3,o4,o5,h1,h2,hg0,hg1,Av]
 ·obtain ⟨p,q,hp⟩:=Fm.NO hf (by omega)
  have hpm:p∈x.parts:=by rw [hp]; simp
  have hqm:q∈x.parts:=by rw [hp]; simp
  have h1:=ih p hpm e (by have:=Fm.nodes_mem hpm; omega) hE
  have h2:=ih q hqm e (by have:=Fm.nodes_mem hqm; omega) hE
  rw [Fm.YV (by omega) hp]
  unfold Pb
  have hg0:(x.parts.map Fm.d)[0]?=some p.d:=by rw [hp]; rfl
  have hg1:(x.parts.map Fm.d)[1]?=some q.d:=by rw [hp]; rfl
  rw [Fm.d_eq] at hg0 hg1
  have o1:(x.op=1)=False:=eq_false (by omega)
  have o2:(x.op=2)=False:=eq_false (by omega)
  have o3:(x.op=3)=False:=eq_false (by omega)
  have o4:(x.op=4)=False:=eq_false (by omega)
  have o5:(x.op=5)=False:=eq_false (by omega)
  have o6:(x.op=6)=True:=eq_true ho
  cases hb1:p.vt l n (C0 e) with
  | true =>
   rw [hb1] at h1
   cases hb2:q.vt l n (C0 e) with
   | true =>
    rw [hb2] at h2
    refine Ai AX Av (of_decide_eq_true rfl) ?_
    simp (disch:=omega) only [AT,go_sem,Ab,o1,o2,o3,o4,o5,o6,h1,h2,hg0,hg1,Av]
   | false =>
    rw [hb2] at h2
    refine Ai AX Av (of_decide_eq_true rfl) ?_
    simp (disch:=omega) only [AT,go_sem,Ab,o1,o2,o3,o4,o5,o6,h1,h2,hg0,hg1,Av]
  | false =>
   rw [hb1] at h1
   cases hb2:q.vt l n (C0 e) with
   | true =>
    rw [hb2] at h2
    refine Ai AX Av (of_decide_eq_true rfl) ?_
    simp (disch:=omega) only [AT,go_sem,Ab,o1,o2,o3,o4,o5,o6,h1,h2,hg0,hg1,Av]
   | false =>
    rw [hb2] at h2
    refine Ai AX Av (of_decide_eq_true rfl) ?_
    simp (disch:=omega) only [AT,go_sem,Ab,o1,o2,o3,o4,o5,o6,h1,h2,hg0,hg1,Av]
 ·obtain ⟨p,q,hp⟩:=Fm.NO hf (by omega)
  have hpm:p∈x.parts:=by rw [hp]; simp
  have hqm:q∈x.parts:=by rw [hp]; simp
  have h1:=ih p hpm e (by have:=Fm.nodes_mem hpm; omega) hE
  have h2:=ih q hqm e (by have:=Fm.nodes_mem hqm; omega) hE
  rw [Fm.YV (by omega) hp]
  unfold Pb
  have hg0:(x.parts.map Fm.d)[0]?=some p.d:=by rw [hp]; rfl
  have hg1:(x.parts.map Fm.d)[1]?=some q.d:=by rw [hp]; rfl
  rw [Fm.d_eq] at hg0 hg1
  have o1:(x.op=1)=False:=eq_false (by omega)
  have o2:(x.op=2)=False:=eq_false (by omega)
  have o3:(x.op=3)=False:=eq_false (by omega)
  have o4:(x.op=4)=False:=eq_false (by omega)
  have o5:(x.op=5)=False:=eq_false (by omega)
  have o6:(x.op=6)=False:=eq_false (by omega)
  have o7:(x.op=7)=True:=eq_true ho
  cases hb1:p.vt l n (C0 e) with
  | true =>
   rw [hb1] at h1
   cases hb2:q.vt l n (C0 e) with
   | true =>
    rw [hb2] at h2
    refine Ai AX Av (of_decide_eq_true rfl) ?_
    simp (disch:=omega) only [AT,go_sem,Ab,o1,o2,o3,o4,o5,o6,o7,h1,h2,hg0,hg1,Av]
   | false =>
    rw [hb2] at h2
    refine Ai AX Av (of_decide_eq_true rfl) ?_
    simp (disch:=omega) only [AT,go_sem,Ab,o1,o2,o3,o4,o5,o6,o7,h1,h2,hg0,hg1,Av]
  | false =>
   rw [hb1] at h1
   cases hb2:q.vt l n (C0 e) with
   | true =>
    rw [hb2] at h2
    refine Ai AX Av (of_decide_eq_true rfl) ?_
    simp (disch:=omega) only [AT,go_sem,Ab,o1,o2,o3,o4,o5,o6,o7,h1,h2,hg0,hg1,Av]
   | false =>
    rw [hb2] at h2
    refine Ai AX Av (of_decide_eq_true rfl) ?_
    simp (disch:=omega) only [AT,go_sem,Ab,o1,o2,o3,o4,o5,o6,o7,h1,h2,hg0,hg1,Av]
 ·obtain ⟨_,p,hp⟩:=Fm.Bu hf (by unfold qB; rw [ho]; rw [Ar rfl]; rfl)
  have hpm:p∈x.parts:=by rw [hp]; simp
  have hg0:(x.parts.map Fm.d)[0]?=some p.d:=by rw [hp]; rfl
  rw [Fm.d_eq] at hg0
  rw [Fm.YW (by omega) hp]
  have o1:(x.op=1)=False:=eq_false (by omega)
  have o2:(x.op=2)=False:=eq_false (by omega)
  have o3:(x.op=3)=False:=eq_false (by omega)
  have o4:(x.op=4)=False:=eq_false (by omega)
  have o5:(x.op=5)=False:=eq_false (by omega)
  have o6:(x.op=6)=False:=eq_false (by omega)
  have o7:(x.op=7)=False:=eq_false (by omega)
  have o8:(x.op=8)=True:=eq_true ho
  have o9:(x.op=9)=False:=eq_false (by omega)
  obtain ⟨rg,hrg⟩:∃ rg,rg=List.range n.toNat:=⟨_,rfl⟩
  have hrl:rg.length=n.toNat:=by rw [hrg,List.length_range]
  refine Ai AX Av (of_decide_eq_true rfl) ?_
  simp (disch:=omega) only [AT,go_sem,Ab,o1,o2,o3,o4,o5,o6,o7]
  refine go_loop (α:=Int) (fun a=>⟨slots 123 0 [(0,.arr (l.map by_)),(1,.int .i64 n),(6,.ptr 0 0),(7,.ptr 1 0),(9,.int .i64 a)],[.box 39 [.arr (e.map nmD),.arr (e.map viD)],.box 29 [.int .i64 x.op,.str x.atom.name,.arr (x.atom.args.map Tm.d),.str x.var,.arr (x.parts.map Fm.d)]]⟩) (fun a=>∃ k:Nat,a=k∧k≤(rg).length∧((rg.drop k).all fun k=>p.vt l n (upE (C0 e) x.var (k:Nat)))=Ks x.op n fun k=>p.vt l n (upE (C0 e) x.var k)) (fun a=>(rg).length-(a).toNat) 0 ⟨0,rfl,zK _,by rw [zF,hrg]; unfold Ks; rw [Ar ho]; rfl⟩ (by simp (disch:=omega) only [go_sem,Ab]) ?_
  rintro i ⟨k,hi,hk,hR⟩
  have hni:i.toNat=k:=by omega
  have hni1:(i+1).toNat=k+1:=by omega
  rcases zC k (rg).length with hlt | hge
  ·have q1:(i<n)=True:=eq_true (by omega)
   have hk2:rg[k]=k:=by subst hrg; rw [List.getElem_range]
   have hd:rg.drop k=k :: rg.drop (k+1):=by rw [zA hlt,hk2]
   have hw:=Px e (by omega) x.var i
   have hc:=ih p hpm (e++[(x.var,i)]) (by rw [zD,zS]; have:=Fm.nodes_mem hpm; omega) (hE.snoc (by omega) (by omega))
   rw [ML] at hc
   rw [hd,List.all_cons,← hi] at hR
   cases hb:p.vt l n (upE (C0 e) x.var i) with
   | false =>
    rw [hb] at hc hR
    simp (disch:=omega) only [go_sem,Ab,q1,hw,hc,hg0,o8,o9,yR,yO,Bv,Av]
    exact hR
   | true =>
    rw [hb] at hc hR
    simp (disch:=omega) only [go_sem,Ab,q1,hw,hc,hg0,o8,o9,yR,yO,Bv,Av]
    exact ⟨i+1,⟨k+1,by omega,hlt,hR⟩,by omega,by first | trivial | rfl | exact ⟨rfl,rfl⟩⟩
  ·have q1:(i<n)=False:=eq_false (by omega)
   rw [zE hge] at hR
   simp (disch:=omega) only [go_sem,Ab,q1,o8,o9]
   exact hR
 ·obtain ⟨_,p,hp⟩:=Fm.Bu hf (by unfold qB; rw [ho]; rw [Aj (by omega),Ar rfl]; rfl)
  have hpm:p∈x.parts:=by rw [hp]; simp
  have hg0:(x.parts.map Fm.d)[0]?=some p.d:=by rw [hp]; rfl
  rw [Fm.d_eq] at hg0
  rw [Fm.YW (by omega) hp]
  have o1:(x.op=1)=False:=eq_false (by omega)
  have o2:(x.op=2)=False:=eq_false (by omega)
  have o3:(x.op=3)=False:=eq_false (by omega)
  have o4:(x.op=4)=False:=eq_false (by omega)
  have o5:(x.op=5)=False:=eq_false (by omega)
  have o6:(x.op=6)=False:=eq_false (by omega)
  have o7:(x.op=7)=False:=eq_false (by omega)
  have o8:(x.op=8)=False:=eq_false (by omega)
  have o9:(x.op=9)=True:=eq_true ho
  obtain ⟨rg,hrg⟩:∃ rg,rg=List.range n.toNat:=⟨_,rfl⟩
  have hrl:rg.length=n.toNat:=by rw [hrg,List.length_range]
  refine Ai AX Av (of_decide_eq_true rfl) ?_
  simp (disch:=omega) only [AT,go_sem,Ab,o1,o2,o3,o4,o5,o6,o7]
  refine go_loop (α:=Int) (fun a=>⟨slots 123 0 [(0,.arr (l.map by_)),(1,.int .i64 n),(6,.ptr 0 0),(7,.ptr 1 0),(9,.int .i64 a)],[.box 39 [.arr (e.map nmD),.arr (e.map viD)],.box 29 [.int .i64 x.op,.str x.atom.name,.arr (x.atom.args.map Tm.d),.str x.var,.arr (x.parts.map Fm.d)]]⟩) (fun a=>∃ k:Nat,a=k∧k≤(rg).length∧((rg.drop k).any fun k=>p.vt l n (upE (C0 e) x.var (k:Nat)))=Ks x.op n fun k=>p.vt l n (upE (C0 e) x.var k)) (fun a=>(rg).length-(a).toNat) 0 ⟨0,rfl,zK _,by rw [zF,hrg]; unfold Ks; rw [Aj (by omega)]; rfl⟩ (by simp (disch:=omega) only [go_sem,Ab]) ?_
  rintro i ⟨k,hi,hk,hR⟩
  have hni:i.toNat=k:=by omega
  have hni1:(i+1).toNat=k+1:=by omega
  rcases zC k (rg).length with hlt | hge
  ·have q1:(i<n)=True:=eq_true (by omega)
   have hk2:rg[k]=k:=by subst hrg; rw [List.getElem_range]
   have hd:rg.drop k=k :: rg.drop (k+1):=by rw [zA hlt,hk2]
   have hw:=Px e (by omega) x.var i
   have hc:=ih p hpm (e++[(x.var,i)]) (by rw [zD,zS]; have:=Fm.nodes_mem hpm; omega) (hE.snoc (by omega) (by omega))
   rw [ML] at hc
   rw [hd,yS,← hi] at hR
   cases hb:p.vt l n (upE (C0 e) x.var i) with
   | true =>
    rw [hb] at hc hR
    simp (disch:=omega) only [go_sem,Ab,q1,hw,hc,hg0,o8,o9,yR,yO,Bv,Av]
    exact hR
   | false =>
    rw [hb] at hc hR
    simp (disch:=omega) only [go_sem,Ab,q1,hw,hc,hg0,o8,o9,yR,yO,Bv,Av]
    exact ⟨i+1,⟨k+1,by omega,hlt,hR⟩,by omega,by first | trivial | rfl | exact ⟨rfl,rfl⟩⟩
  ·have q1:(i<n)=False:=eq_false (by omega)
   rw [zE hge] at hR
   simp (disch:=omega) only [go_sem,Ab,q1,o8,o9]
   exact hR
theorem Sc (l:List Int) (hl:Bytes l) (hn:l.length≤1099511627776) (n:Int) (hn0:1≤n∧n≤65535) (x:Fm) (hx:x.forms=true) (e:Ev) (he:e.length+x.nodes≤1048576) (hE:EnvOk e):E 15 [.arr (l.map by_),.int .i64 n,veS e,x.sv] []=some (.bool (x.vt l n (C0 e)),[]) :=
 Z2 l hl hn n hn0 x hx e he hE fun y hy e h1 h2=>Sc l hl hn n hn0 y (Fm.AQ hx hy) e h1 h2
termination_by SizeOf.sizeOf x
decreasing_by exact Fm.lt_of_mem hy
def Dp:SC:=(.seq (.reg [⟨some 2,none,.boxv 26 2 (.t 0)⟩,⟨(some 4),none,(.alloc 26 [(.str ⟨#[]⟩),.nil])⟩]) (.seq (.seq (.reg [⟨some 11,none,.mv (.t 1)⟩,⟨some 12,none,.faddr 0 (.t 2)⟩,⟨some 13,none,.load false 1 (.t 12)⟩,⟨(some 14),none,(.mget true true true [(.str ⟨#[]⟩),.nil] (.t 11) (.t 13))⟩,⟨some 10,none,.mv (.t 14)⟩,⟨some 15,none,.ext (.t 10) 0⟩,⟨some 16,none,.ext (.t 10) 1⟩,⟨(some 5),none,(.alloc 26 [(.str ⟨#[]⟩),.nil])⟩,⟨none,none,(.store 2 (.t 5) (.t 15))⟩,⟨some 6,none,.mv (.t 16)⟩]) (.seq (.reg [⟨some 17,none,.mv (.t 6)⟩,⟨some 18,none,.mv (.t 17)⟩,⟨(some 19),(some (18,true)),(.faddr 1 (.t 2))⟩,⟨(some 20),(some (18,true)),(.load false 1 (.t 19))⟩,⟨(some 21),(some (18,true)),(.len false (.t 20))⟩,⟨(some 22),(some (18,true)),(.bin .eql false (.t 21) (.c (.int .i64 0)))⟩,⟨some 23,none,.pick (.t 18) (.t 22) (.c (.bool false))⟩]) (.cond (.t 23) (.seq (.reg [⟨some 24,none,.load true 2 (.t 5)⟩,⟨some 25,none,.call 115 [(.t 24)]⟩,⟨none,none,(.store 2 (.t 4) (.t 25))⟩]) .ret) .skip))) (.seq (.reg [⟨some 26,none,.faddr 0 (.t 2)⟩,⟨some 27,none,.load false 1 (.t 26)⟩,⟨(some 28),none,(.build [(.str ⟨#[]⟩),.nil] [(0,(1,(.t 27)))])⟩,⟨(some 7),none,(.alloc 26 [(.str ⟨#[]⟩),.nil])⟩,⟨none,none,(.store 2 (.t 7) (.t 28))⟩]) (.seq (.seq (.reg [⟨some 29,none,.faddr 1 (.t 2)⟩,⟨some 30,none,.load false 1 (.t 29)⟩,⟨some 31,none,.len false (.t 30)⟩,⟨some 32,none,.mv (.c (.int .i64 0))⟩]) (.block 0 (.loop [0,1,0,0,1,0,0,1,0,0,0,0,0,0,0,0,0,0,0,0,0,0,0,0,0,0,0,0,0,0,1,1,1,0,0,0,0,0,0,0,0,0,0,0,0,0] (.seq (.reg [⟨some 33,none,.bin .lss false (.t 32) (.t 31)⟩]) (.seq (.cond (.t 33) .skip (.exit 0)) (.seq (.block 1 (.seq (.reg [⟨some 34,none,.iaddr 2 (.t 30) (.t 32)⟩,⟨some 35,none,.load true 2 (.t 34)⟩,⟨(some 9),none,(.alloc 26 [(.str ⟨#[]⟩),.nil])⟩,⟨none,none,(.store 2 (.t 9) (.t 35))⟩]) (.dreg [[],[0],[],[],[2,3],[4,2,3],[1,0,5,4,2,3],[0,1,2,3,4,5,6],[7,0,1,2,3,4,5,6]] [⟨some 36,none,.faddr 1 (.t 7)⟩,⟨some 37,none,.load false 1 (.t 36)⟩,⟨some 38,none,.load true 2 (.t 9)⟩,⟨some 39,none,.mv (.t 1)⟩,⟨some 40,none,.call 88 [(.t 38),(.t 39)]⟩,⟨(some 41),none,(.mkrow 26 2 [(.str ⟨#[]⟩),.nil] 1 [(0,(.t 40))])⟩,⟨(some 42),none,(.append 26 2 40 [(.str ⟨#[]⟩),.nil] (.t 37) (.t 41))⟩,⟨some 43,none,.faddr 1 (.t 7)⟩,⟨none,none,(.store 1 (.t 43) (.t 42))⟩]))) (.reg [⟨some 44,none,.bin .add false (.t 32) (.c (.int .i64 1))⟩,⟨some 32,none,.mv (.t 44)⟩]))))))) (.seq (.reg [⟨some 45,none,.load true 2 (.t 7)⟩,⟨none,none,(.store 2 (.t 4) (.t 45))⟩]) .ret)))))
theorem E4:At Tryz.prog 88=some ⟨46,Dp,[(.cell 4 true 2)]⟩:=by kernel_rfl
theorem BD:modes 88=⟨[],.own [none,some (26,2)],none,false⟩:=by unfold modes; rfl
abbrev RvC (e:TEnv) (x:Tm):Prop:=E 88 [x.sv,.mp true (CI e)] []=some ((x.rv e).osv,(x.rv e).obs)
theorem Py (e:TEnv) (m:Nat) (hm:m≤1099511627776) (he:TB m e) (x:Tm) (hn:x.args.length≤1099511627776) (ih:∀ y∈x.args,RvC e y):RvC e x:=by
 unfold RvC
 have h10:((1:Int)=0)=False:=by simp
 have e0:x.args.isEmpty=true→x.rv e=(e x.name).getD (.mk x.name []):=fun h=>by rw [Tm.Pi,h]; rfl
 have e9:x.args.isEmpty=false→x.rv e=.mk x.name (x.args.map (Tm.rv e)):=fun h=>by rw [Tm.Pi,h]; rfl
 have e1:(Tm.mk x.name (x.args.map (Tm.rv e))).osv=.agg [.str x.name,.ref 0]:=rfl
 have e2:(Tm.mk x.name (x.args.map (Tm.rv e))).obs=[.row 26 2 ((x.args.map (Tm.rv e)).map Tm.o)]:=rfl
 cases hq:e x.name with
 | none =>
  have hme:CI e (.str x.name)=none:=by rw [Fu,hq]
  have e3:x.rv e=.mk x.name (x.args.map (Tm.rv e)):=by
   cases hx:x.args.isEmpty with
   | true =>
    have h0:x.args=[]:=by simpa using hx
    rw [e0 hx,hq,h0]; rfl
   | false=>exact e9 hx
  rw [e3,e1,e2]
  clear e0 e1 e2 e3 e9
  obtain ⟨nm,hnm⟩:∃ nm,nm=x.name:=⟨_,rfl⟩
  rw [←hnm] at hme ⊢
  refine Ai E4 BD (of_decide_eq_true rfl) ?_
  simp (disch:=omega) only [Dp,go_sem,Ab,hme,← hnm]
  refine go_loop (α:=Int) (fun a=>⟨slots 46 0 [(1,.mp true (CI e)),(4,.ptr 0 0),(7,.ptr 1 0),(30,.arr (x.args.map Tm.d)),(31,.int .i64 x.args.length),(32,.int .i64 a)],(if a=0 then [.box 26 [.str ⟨#[]⟩,.nil],.box 26 [.str nm,.nil]] else [.box 26 [.str ⟨#[]⟩,.nil],.box 26 [.str nm,.ref 2],.row 26 2 (((x.args.map (Tm.rv e)).take a.toNat).map Tm.o)])⟩) (fun a=>∃ k:Nat,a=k∧k≤(x.args).length) (fun a=>(x.args).length-(a).toNat) 0 ⟨0,rfl,zK _⟩ (by simp (disch:=omega) only [go_sem,Ab,eq_self,if_true]) ?_
  rintro i ⟨k,hi,hk⟩
  have hni:i.toNat=k:=by omega
  have hni1:(i+1).toNat=k+1:=by omega
  rcases zC k (x.args).length with hlt | hge
  ·have hg:=get_at Tm.d hlt
   rw [Tm.d_eq] at hg
   have hc:=ih x.args[k] (zI hlt)
   have hlm:k<(x.args.map (Tm.rv e)).length:=by rw [zM]; exact hlt
   have hs:=GN Tm.o hlm
   rw [Tm.o_eq,yI] at hs
   rcases zG k with h0 | h0
   ·subst h0
    obtain rfl:i=0:=hi
    rw [zZ,zH,zJ] at hs
    simp (disch:=omega) only [go_sem,Ab,hni,hg,hc,Tm.osv,Tm.obs,BD,eq_self,if_true]
    refine ⟨1,⟨1,rfl,hlt⟩,by omega,?_⟩
    simp (disch:=omega) only [go_sem,Ab,h10,if_false,hs]
   ·have hi0:(i=0)=False:=by simp; omega
    have hi1:(i+1=0)=False:=by simp; omega
    have htl:((x.args.map (Tm.rv e)).take k).length=k:=by rw [zY,zM]; omega
    simp (disch:=omega) only [go_sem,Ab,hni,hg,hc,Tm.osv,Tm.obs,BD,hi0,if_false,htl]
    refine ⟨i+1,⟨k+1,by omega,hlt⟩,by omega,?_⟩
    simp (disch:=omega) only [go_sem,Ab,hni1,hi1,if_false,hs]
  ·obtain rfl:k=x.args.length:=by omega
   have ht:(x.args.map (Tm.rv e)).take x.args.length=x.args.map (Tm.rv e):=by rw [←zM (f:=Tm.rv e)]; exact yB
   rcases zG x.args.length with h0 | h0
   ·have hx:x.args=[]:=zB h0
    obtain rfl:i=0:=by omega
    first | omega | simp (disch:=omega) only [go_sem,Ab,hni,hx,eq_self,if_true,zH,zN]
   ·have hi0:(i=0)=False:=by simp; omega
    first | omega | simp (disch:=omega) only [go_sem,Ab,hni,hi0,if_false,ht]
 | some v =>
  have hme:CI e (.str x.name)=some (true,[.str v.name,.arr (v.args.map Tm.d)]):=by rw [Fu,hq]
  rcases zG x.args.length with hz | hz
  ·have hx:x.args=[]:=zB hz
   have hz0:((x.args.length:Int)=0)=True:=by rw [hx]; simp
   have hvn:=(he _ _ hq).1
   have hcp:=IB v (by omega)
   have hvs:v.sv=.agg [.str v.name,.arr (v.args.map Tm.d)]:=rfl
   rw [hvs] at hcp
   rw [e0 (by rw [hx]; rfl),hq]
   show E _ _ _=some (v.osv,v.obs)
   refine Ai E4 BD (of_decide_eq_true rfl) ?_
   simp (disch:=omega) only [Dp,go_sem,Ab,hme,hz0,Y6,hcp,Dy,Tm.osv,Tm.obs]
  ·have hz0:((x.args.length:Int)=0)=False:=eq_false (by omega)
   have hx:x.args.isEmpty=false:=by
    cases hx:x.args with
    | nil=>rw [hx] at hz; simp at hz
    | cons a r=>rfl
   rw [e9 hx,e1,e2]
   clear e0 e1 e2 e9
   obtain ⟨nm,hnm⟩:∃ nm,nm=x.name:=⟨_,rfl⟩
   rw [←hnm] at hme ⊢
   refine Ai E4 BD (of_decide_eq_true rfl) ?_
   simp (disch:=omega) only [Dp,go_sem,Ab,hme,hz0,Y7,← hnm]
   refine go_loop (α:=Int) (fun a=>⟨slots 46 0 [(1,.mp true (CI e)),(4,.ptr 0 0),(7,.ptr 1 0),(30,.arr (x.args.map Tm.d)),(31,.int .i64 x.args.length),(32,.int .i64 a)],(if a=0 then [.box 26 [.str ⟨#[]⟩,.nil],.box 26 [.str nm,.nil]] else [.box 26 [.str ⟨#[]⟩,.nil],.box 26 [.str nm,.ref 2],.row 26 2 (((x.args.map (Tm.rv e)).take a.toNat).map Tm.o)])⟩) (fun a=>∃ k:Nat,a=k∧k≤(x.args).length) (fun a=>(x.args).length-(a).toNat) 0 ⟨0,rfl,zK _⟩ (by simp (disch:=omega) only [go_sem,Ab,eq_self,if_true]) ?_
   rintro i ⟨k,hi,hk⟩
   have hni:i.toNat=k:=by omega
   have hni1:(i+1).toNat=k+1:=by omega
   rcases zC k (x.args).length with hlt | hge
   ·have hg:=get_at Tm.d hlt
    rw [Tm.d_eq] at hg
    have hc:=ih x.args[k] (zI hlt)
    have hlm:k<(x.args.map (Tm.rv e)).length:=by rw [zM]; exact hlt
    have hs:=GN Tm.o hlm
    rw [Tm.o_eq,yI] at hs
    rcases zG k with h0 | h0
    ·subst h0
     obtain rfl:i=0:=hi
     rw [zZ,zH,zJ] at hs
     simp (disch:=omega) only [go_sem,Ab,hni,hg,hc,Tm.osv,Tm.obs,BD,eq_self,if_true]
     refine ⟨1,⟨1,rfl,hlt⟩,by omega,?_⟩
     simp (disch:=omega) only [go_sem,Ab,h10,if_false,hs]
    ·have hi0:(i=0)=False:=by simp; omega
     have hi1:(i+1=0)=False:=by simp; omega
     have htl:((x.args.map (Tm.rv e)).take k).length=k:=by rw [zY,zM]; omega
     simp (disch:=omega) only [go_sem,Ab,hni,hg,hc,Tm.osv,Tm.obs,BD,hi0,if_false,htl]
     refine ⟨i+1,⟨k+1,by omega,hlt⟩,by omega,?_⟩
     simp (disch:=omega) only [go_sem,Ab,hni1,hi1,if_false,hs]
   ·obtain rfl:k=x.args.length:=by omega
    have ht:(x.args.map (Tm.rv e)).take x.args.length=x.args.map (Tm.rv e):=by rw [←zM (f:=Tm.rv e)]; exact yB
    rcases zG x.args.length with h0 | h0
    ·have hx:x.args=[]:=zB h0
     obtain rfl:i=0:=by omega
     first | omega | simp (disch:=omega) only [go_sem,Ab,hni,hx,eq_self,if_true,zH,zN]
    ·have hi0:(i=0)=False:=by simp; omega
     first | omega | simp (disch:=omega) only [go_sem,Ab,hni,hi0,if_false,ht]
theorem K0 (e:TEnv) (m:Nat) (hm:m≤1099511627776) (he:TB m e) (x:Tm) (hn:x.nodes≤1099511627776):RvC e x :=
 Py e m hm he x (by have:=Tm.length_le x.args; have:=Tm.nodes_eq x; omega) fun y hy=>K0 e m hm he y (by have:=Tm.nodes_mem hy; have:=Tm.nodes_eq x; omega)
termination_by SizeOf.sizeOf x
decreasing_by exact Tm.lt_of_mem hy
def H0:SC:=(.seq (.reg [⟨(some 2),none,(.mv (.c (.str ⟨#[]⟩)))⟩]) (.block 0 (.loop [1,0,0,0,0,0,0,0,0,0,0,0,0,0,0,0,0,0,0,0,0,0,0,0,0,0,0,0,0] (.block 1 (.seq (.reg [⟨some 4,none,.mv (.t 0)⟩,⟨some 5,none,.nilchk (.t 4)⟩,⟨some 6,none,.faddr 2 (.t 5)⟩,⟨some 7,none,.load false 1 (.t 6)⟩,⟨some 8,none,.bin .add false (.t 7) (.c (.int .i64 1))⟩,⟨some 9,none,.nilchk (.t 4)⟩,⟨some 10,none,.faddr 2 (.t 9)⟩,⟨none,none,(.store 1 (.t 10) (.t 8))⟩]) (.seq (.dreg [[],[0],[1,0],[2,1,0],[],[4],[5,4],[6,5,4],[7,6,5,4],[3,2,1,0,8,7,6,5,4],[9,3,2,1,0,8,7,6,5,4]] [⟨some 11,none,.mv (.t 0)⟩,⟨some 12,none,.nilchk (.t 11)⟩,⟨some 13,none,.faddr 0 (.t 12)⟩,⟨some 14,none,.load false 1 (.t 13)⟩,⟨some 15,none,.mv (.t 0)⟩,⟨some 16,none,.nilchk (.t 15)⟩,⟨some 17,none,.faddr 2 (.t 16)⟩,⟨some 18,none,.load false 1 (.t 17)⟩,⟨some 19,none,.call 136 [(.t 18)]⟩,⟨some 20,none,.bin .add false (.t 14) (.t 19)⟩,⟨some 3,none,.mv (.t 20)⟩]) (.seq (.reg [⟨some 21,none,.mv (.t 0)⟩,⟨some 22,none,.nilchk (.t 21)⟩,⟨some 23,none,.faddr 1 (.t 22)⟩,⟨some 24,none,.load false 1 (.t 23)⟩,⟨some 25,none,.mv (.t 3)⟩,⟨some 26,none,.call 133 [(.t 24),(.t 25)]⟩,⟨some 27,none,.un .not (.t 26)⟩]) (.cond (.t 27) (.seq (.reg [⟨some 28,none,.mv (.t 3)⟩,⟨some 2,none,.mv (.t 28)⟩]) .ret) .skip))))))))
theorem LP:At Tryz.prog 91=some ⟨29,H0,[(.tmp 2)]⟩:=by kernel_rfl
theorem ES:modes 91=⟨[],.asis,none,false⟩:=by unfold modes; rfl
theorem QaA (p:ByteArray) (hp:p.size≤1000) (tk:List ByteArray) (c:Int) (h0:0≤c) (hc:c+tk.length≤1099511600000):E 91 [.ptr 0 0] [.box 72 [.str p,.ref 1,.int .i64 c],.row 9 1 (tk.map fun s=>[OT.str s])]=some (.str (pre p (fresh p tk c)),[.box 72 [.str p,.ref 1,.int .i64 (fresh p tk c)],.row 9 1 (tk.map fun s=>[OT.str s])]):=by
 have hfr:=C7 p tk c
 refine Ai LP ES (of_decide_eq_true rfl) ?_
 simp (disch:=omega) only [H0,go_sem,Ab]
 refine go_loop (α:=Int) (fun a=>⟨slots 29 0 [(0,.ptr 0 0)],[.box 72 [.str p,.ref 1,.int .i64 a],.row 9 1 (tk.map fun s=>[OT.str s])]⟩) (fun a=>c≤a∧fresh p tk a=fresh p tk c) (fun a=>beyond p tk a) c ⟨yK _,rfl⟩ (by simp (disch:=omega) only [go_sem,Ab]) ?_
 rintro a ⟨ha,hR⟩
 have hfa:=C7 p tk a
 rw [hR] at hfa
 have hit:=Qbv (a+1) (by omega) (by omega)
 have hns:=JN (show 0≤a+1 by omega) (by omega:a+1≤1099511627776)
 have hpre:p++Jp (a+1)=pre p (a+1):=rfl
 have hcn:=FO tk (pre p (a+1)) (by omega)
 by_cases hm:pre p (a+1)∈tk
 ·rw [Ar hm] at hcn
  simp (disch:=omega) only [go_sem,Ab,hit,hpre,hcn,GP,A6]
  exact ⟨a+1,⟨by omega,by rw [←QM (by omega) hm]; exact hR⟩,JU (by omega) hm,by first | trivial | rfl | exact ⟨rfl,rfl⟩⟩
 ·rw [Aj hm] at hcn
  have hnew:=QN hm
  rw [hR] at hnew
  rw [hnew]
  simp (disch:=omega) only [go_sem,Ab,hit,hpre,hcn,GP,A6]
def IV:SC:=(.seq (.reg [⟨some 2,none,.mv (.c .nil)⟩]) (.seq (.reg [⟨(some 6),none,(.mkrow 26 2 [(.str ⟨#[]⟩),.nil] 0 [])⟩,⟨some 3,none,.mv (.t 6)⟩]) (.seq (.seq (.reg [⟨some 7,none,.mv (.t 0)⟩,⟨some 8,none,.len false (.t 7)⟩,⟨some 9,none,.mv (.c (.int .i64 0))⟩]) (.block 0 (.loop [0,0,0,1,0,0,0,1,1,1,0,0,0,0,0,0,0,0,0,0] (.seq (.reg [⟨some 10,none,.bin .lss false (.t 9) (.t 8)⟩]) (.seq (.cond (.t 10) .skip (.exit 0)) (.seq (.block 1 (.seq (.reg [⟨some 11,none,.iaddr 1 (.t 7) (.t 9)⟩,⟨some 12,none,.load false 1 (.t 11)⟩,⟨some 5,none,.mv (.t 12)⟩]) (.reg [⟨some 13,none,.mv (.t 3)⟩,⟨some 14,none,.mv (.t 5)⟩,⟨(some 15),none,(.build [(.str ⟨#[]⟩),.nil] [(0,(1,(.t 14)))])⟩,⟨(some 16),none,(.mkrow 26 2 [(.str ⟨#[]⟩),.nil] 1 [(0,(.t 15))])⟩,⟨(some 17),none,(.append 26 2 40 [(.str ⟨#[]⟩),.nil] (.t 13) (.t 16))⟩,⟨some 3,none,.mv (.t 17)⟩]))) (.reg [⟨some 18,none,.bin .add false (.t 9) (.c (.int .i64 1))⟩,⟨some 9,none,.mv (.t 18)⟩]))))))) (.seq (.reg [⟨some 19,none,.mv (.t 3)⟩,⟨some 2,none,.mv (.t 19)⟩]) .ret))))
theorem N9:At Tryz.prog 92=some ⟨20,IV,[(.tmp 2)]⟩:=by kernel_rfl
theorem Gd:modes 92=⟨[],.frz,none,false⟩:=by unfold modes; rfl
theorem V9 (l:List ByteArray) (hl:l.length≤1048576):E 92 [.arr (l.map fun s=>[D.str s])] []=some (.arr ((vT l).map Tm.d),[]):=by
 have hz:([]:List Tm).map Tm.o=[]:=rfl
 refine Ai N9 Gd (of_decide_eq_true rfl) ?_
 simp (disch:=omega) only [IV,go_sem,Ab]
 refine go_loop (α:=Int) (fun a=>⟨slots 20 0 [(3,.ref 0),(7,.arr (l.map fun s=>[D.str s])),(8,.int .i64 l.length),(9,.int .i64 a)],[.row 26 2 (((vT l).take a.toNat).map Tm.o)]⟩) (fun a=>∃ k:Nat,a=k∧k≤(l).length) (fun a=>(l).length-(a).toNat) 0 ⟨0,rfl,zK _⟩ (by simp (disch:=omega) only [go_sem,Ab,zZ,hz,yA]) ?_
 rintro i ⟨k,hi,hk⟩
 have hni:i.toNat=k:=by omega
 have hni1:(i+1).toNat=k+1:=by omega
 rcases zC k (l).length with hlt | hge
 ·have hg:=get_at (fun s=>[D.str s]) hlt
  have hs:((vT l).take k).map Tm.o++[[OT.str l[k],OT.ow []]]=((vT l).take (k+1)).map Tm.o:=by
   have hlv:k<(vT l).length:=by unfold vT; rw [zM]; exact hlt
   rw [zU hlv,zQ]
   rw [zL,zH,QaS hlt hlv]; rfl
  have htl:((vT l).take k).length=k:=by unfold vT; rw [zY,zM]; omega
  simp (disch:=omega) only [go_sem,Ab,hni,hg,htl,hs]
  refine ⟨i+1,⟨k+1,by omega,hlt⟩,by omega,?_⟩
  simp (disch:=omega) only [go_sem,Ab,hni1,hs]
 ·obtain rfl:k=l.length:=by omega
  have ht:(vT l).take l.length=vT l:=yF (by unfold vT; rw [zM]; exact yZ _)
  have her:=Tm.erss (vT l)
  have hfu:=Tm.fus (vT l)
  simp (disch:=omega) only [go_sem,Ab,hni,ht,her,hfu]
def Fx:SC:=(.seq (.reg [⟨some 1,none,.boxv 29 5 (.t 0)⟩,⟨(some 2),none,(.alloc 29 [(.int .i64 0),(.str ⟨#[]⟩),.nil,(.str ⟨#[]⟩),.nil])⟩,⟨some 3,none,.mv (.c (.bool false))⟩]) (.seq (.seq (.reg [⟨some 4,none,.load true 5 (.t 1)⟩,⟨some 5,none,.call 28 [(.t 4)]⟩,⟨some 6,none,.un .not (.t 5)⟩]) (.cond (.t 6) (.seq (.reg [⟨(some 7),none,(.build [(.int .i64 0),(.str ⟨#[]⟩),.nil,(.str ⟨#[]⟩),.nil] [])⟩,⟨none,none,(.store 5 (.t 2) (.t 7))⟩,⟨some 3,none,.mv (.c (.bool false))⟩]) .ret) .skip)) (.seq (.reg [⟨some 8,none,.load true 5 (.t 1)⟩,⟨none,none,(.store 5 (.t 2) (.t 8))⟩,⟨some 3,none,.mv (.c (.bool true))⟩]) .ret)))
theorem Iq:At Tryz.prog 29=some ⟨9,Fx,[(.cell 2 true 5),(.tmp 3)]⟩:=by kernel_rfl
theorem BW:modes 29=⟨[true],.own [none,none,some (26,2),none,some (29,5),none],none,false⟩:=by unfold modes; rfl
theorem PP (y:Fm) (hy:y.tame) (hn:y.nodes≤1099511627776) (hv:y.valid=true):E 29 [y.osv] y.obs=some (.tup [y.osv,.bool true],y.obs):=by
 have h:=Fw y hy hn
 rw [hv] at h
 refine Ai Iq BW (of_decide_eq_true rfl) ?_
 simp (disch:=omega) only [Fx,go_sem,Ab,h,AP,Fm.osv,Fm.obs,Tm.erss,Tm.noss,Fm.erss,Fm.noss]
theorem Sd (y:Fm) (hy:y.tame) (hn:y.nodes≤1099511627776) (hv:y.valid=false):E 29 [y.osv] y.obs=some (.tup [.agg [.int .i64 0,.str ⟨#[]⟩,.ref 2,.str ⟨#[]⟩,.ref 3],.bool false],[.row 26 2 (y.atom.args.map Tm.o),.row 29 5 (y.parts.map Fm.o),.row 26 2 [],.row 29 5 []]):=by
 have h:=Fw y hy hn
 rw [hv] at h
 refine Ai Iq BW (of_decide_eq_true rfl) ?_
 simp (disch:=omega) only [Fx,go_sem,Ab,h,AP,Fm.osv,Fm.obs,Tm.erss,Tm.noss,Fm.erss,Fm.noss]
def K1:SC:=(.seq (.reg [⟨some 1,none,.boxv 26 2 (.t 0)⟩,⟨(some 2),none,(.alloc 29 [(.int .i64 0),(.str ⟨#[]⟩),.nil,(.str ⟨#[]⟩),.nil])⟩]) (.seq (.reg [⟨some 3,none,.load true 2 (.t 1)⟩,⟨(some 4),none,(.build [(.int .i64 0),(.str ⟨#[]⟩),.nil,(.str ⟨#[]⟩),.nil] [(0,(1,(.c (.int .i64 3)))),(1,(2,(.t 3)))])⟩,⟨none,none,(.store 5 (.t 2) (.t 4))⟩]) .ret))
theorem PQ:At Tryz.prog 87=some ⟨5,K1,[(.cell 2 true 5)]⟩:=by kernel_rfl
theorem K2:modes 87=⟨[true],.own [none,none,some (26,2),none,some (29,5)],none,false⟩:=by unfold modes; rfl
theorem Z3 (y:Tm):E 87 [y.osv] y.obs=some (.agg [.int .i64 3,.str y.name,.ref 0,.str ⟨#[]⟩,.ref 1],[.row 26 2 (y.args.map Tm.o),.row 29 5 []]):=by
 refine Ai PQ K2 (of_decide_eq_true rfl) ?_
 simp (disch:=omega) only [K1,go_sem,Ab,Tm.osv,Tm.obs]
def H1:SC:=(.seq (.reg [⟨some 5,none,.boxv 29 5 (.t 2)⟩,⟨(some 6),none,(.alloc 29 [(.int .i64 0),(.str ⟨#[]⟩),.nil,(.str ⟨#[]⟩),.nil])⟩]) (.seq (.reg [⟨some 7,none,.mv (.t 0)⟩,⟨some 8,none,.mv (.t 1)⟩,⟨some 9,none,.load true 5 (.t 5)⟩,⟨(some 10),none,(.mkrow 29 5 [(.int .i64 0),(.str ⟨#[]⟩),.nil,(.str ⟨#[]⟩),.nil] 1 [(0,(.t 9))])⟩,⟨(some 11),none,(.build [(.int .i64 0),(.str ⟨#[]⟩),.nil,(.str ⟨#[]⟩),.nil] [(0,(1,(.t 7))),(3,(1,(.t 8))),(4,(1,(.t 10)))])⟩,⟨none,none,(.store 5 (.t 6) (.t 11))⟩]) .ret))
theorem LQ:At Tryz.prog 89=some ⟨12,H1,[(.cell 6 true 5)]⟩:=by kernel_rfl
theorem H2:modes 89=⟨[false,false,true],.own [none,none,some (26,2),none,some (29,5)],none,false⟩:=by unfold modes; rfl
theorem Se (op:Int) (v:ByteArray) (y:Fm):E 89 [.int .i64 op,.str v,y.osv] y.obs=some (.agg [.int .i64 op,.str ⟨#[]⟩,.ref 2,.str v,.ref 3],[.gone,.gone,.row 26 2 [],.row 29 5 [y.o]]):=by
 have ho:[[OT.int y.op,OT.str y.atom.name,OT.ow (y.atom.args.map Tm.o),OT.str y.var,OT.ow (y.parts.map Fm.o)]]=[y.o]:=by rw [Fm.o_eq]
 refine Ai LQ H2 (of_decide_eq_true rfl) ?_
 simp (disch:=omega) only [H1,go_sem,Ab,Fm.osv,Fm.obs,ho]
def Di:SC:=(.seq (.reg [⟨some 2,none,.mv (.c .nil)⟩]) (.seq (.reg [⟨some 3,none,.mv (.c (.int .i64 0))⟩]) (.seq (.seq (.reg [⟨some 9,none,.mv (.t 0)⟩,⟨some 10,none,.len false (.t 9)⟩,⟨some 11,none,.mv (.c (.int .i64 0))⟩]) (.block 0 (.loop [1,0,0,1,0,0,0,0,0,1,1,1,0,0,0,0,0,0,0,0,0,0,0,0,0,0,0,0,0,0,0,0,0,0,0,0] (.seq (.reg [⟨some 12,none,.bin .lss false (.t 11) (.t 10)⟩]) (.seq (.cond (.t 12) .skip (.exit 0)) (.seq (.block 1 (.seq (.reg [⟨some 13,none,.iaddr 1 (.t 9) (.t 11)⟩,⟨some 14,none,.load false 1 (.t 13)⟩,⟨some 5,none,.mv (.t 14)⟩]) (.seq (.reg [⟨some 15,none,.mv (.t 3)⟩,⟨some 16,none,.mv (.t 5)⟩,⟨some 17,none,.len false (.t 16)⟩,⟨some 18,none,.bin .add false (.t 15) (.t 17)⟩,⟨some 3,none,.mv (.t 18)⟩]) (.seq (.reg [⟨some 19,none,.mv (.t 3)⟩,⟨some 20,none,.bin .lss false (.t 19) (.c (.int .i64 0))⟩]) (.cond (.t 20) (.reg [⟨some 21,none,.un .neg (.c .nil)⟩,⟨none,none,(.un .neg (.c .nil))⟩]) .skip))))) (.reg [⟨some 22,none,.bin .add false (.t 11) (.c (.int .i64 1))⟩,⟨some 11,none,.mv (.t 22)⟩]))))))) (.seq (.reg [⟨some 23,none,.mv (.t 3)⟩,⟨some 24,none,.call 135 [(.c .nil),(.t 23)]⟩,⟨some 6,none,.mv (.t 24)⟩]) (.seq (.seq (.reg [⟨some 25,none,.mv (.t 0)⟩,⟨some 26,none,.len false (.t 25)⟩,⟨some 27,none,.mv (.c (.int .i64 0))⟩]) (.block 2 (.loop [0,0,0,0,0,0,1,0,0,0,0,0,0,0,0,0,0,0,0,0,0,0,0,0,0,1,1,1,0,0,0,0,0,0,0,0] (.seq (.reg [⟨some 28,none,.bin .lss false (.t 27) (.t 26)⟩]) (.seq (.cond (.t 28) .skip (.exit 2)) (.seq (.block 3 (.seq (.reg [⟨some 29,none,.iaddr 1 (.t 25) (.t 27)⟩,⟨some 30,none,.load false 1 (.t 29)⟩,⟨some 8,none,.mv (.t 30)⟩]) (.reg [⟨some 31,none,.mv (.t 6)⟩,⟨some 32,none,.mv (.t 8)⟩,⟨(some 33),none,(.append 9 1 16 [(.str ⟨#[]⟩)] (.t 31) (.t 32))⟩,⟨some 6,none,.mv (.t 33)⟩]))) (.reg [⟨some 34,none,.bin .add false (.t 27) (.c (.int .i64 1))⟩,⟨some 27,none,.mv (.t 34)⟩]))))))) (.seq (.reg [⟨some 35,none,.mv (.t 6)⟩,⟨some 2,none,.mv (.t 35)⟩]) .ret))))))
theorem FQ:At Tryz.prog 90=some ⟨36,Di,[(.tmp 2)]⟩:=by kernel_rfl
theorem Cu:modes 90=⟨[],.own [some (9,1)],none,false⟩:=by unfold modes; rfl
theorem BY:modes 135=⟨[true],.asis,some Nj,false⟩:=by unfold modes; rfl
theorem QaB:E 135 [.nil,.int .i64 0] []=some (.nil,[]):=by
 rw [KP (g:=Nj) (congrArg FM.ext BY)]
 unfold Nj
 simp only
 rw [Ar trivial,cond_true]
theorem QaC (n:Int) (h:0<n) (h1:n≤1048576):E 135 [.nil,.int .i64 n] []=some (.ref 0,[.row 9 1 []]):=by
 rw [KP (g:=Nj) (congrArg FM.ext BY)]
 unfold Nj
 simp only
 rw [Aj (by omega),cond_false,Ar ⟨h,h1⟩,cond_true]
theorem XC (xs:List (List ByteArray)) (hx:xs.length≤1024) (hs:xs.flatten.length≤1048576):E 90 [.arr (xs.map fun l=>[D.arr (l.map fun s=>[D.str s])])] []=some (.ref 0,[.row 9 1 (xs.flatten.map (fun s=>[OT.str s]))]):=by
 refine Ai FQ Cu (of_decide_eq_true rfl) ?_
 simp (disch:=omega) only [Di,go_sem,Ab]
 refine go_loop (α:=Int × (Int)) (fun a=>⟨slots 36 0 [(0,.arr (xs.map fun l=>[D.arr (l.map fun s=>[D.str s])])),(3,.int .i64 (a.2)),(9,.arr (xs.map fun l=>[D.arr (l.map fun s=>[D.str s])])),(10,.int .i64 xs.length),(11,.int .i64 (a.1))],[]⟩) (fun a=>∃ k:Nat,a.1=k∧k≤(xs).length∧(a.2)+((xs.drop k).flatten.length:Int)=xs.flatten.length∧0≤(a.2)) (fun a=>(xs).length-(a.1).toNat) (0,0) ⟨0,rfl,zK _,by rw [zF]; dsimp only; omega,yK _⟩ (by simp (disch:=omega) only [go_sem,Ab]) ?_
 rintro ⟨i,n⟩ ⟨k,hi,hk,hR⟩
 dsimp only at hi hR
 have hni:i.toNat=k:=by omega
 have hni1:(i+1).toNat=k+1:=by omega
 rcases zC k (xs).length with hlt | hge
 ·have hg:=get_at (fun l:List ByteArray=>[D.arr (l.map fun s=>[D.str s])]) hlt
  rw [zA hlt,yQ,zD] at hR
  obtain ⟨hR1,hR2⟩:=hR
  have hge:dec (n+(xs[k].length:Int)<0)=false:=Aj (by omega)
  simp (disch:=omega) only [go_sem,Ab,hni,hg,hge]
  refine ⟨(i+1,n+xs[k].length),⟨k+1,by dsimp only; omega,hlt,by dsimp only; omega,by dsimp only; omega⟩,by dsimp only; omega,?_⟩
  first | trivial | rfl
 ·rw [zE hge] at hR
  obtain ⟨hR1,hR2⟩:=hR
  have hn:n=xs.flatten.length:=by simpa using hR1
  clear hR1 hR2
  rcases zG xs.flatten.length with hz | hz
  ·have hxe:∀ l∈xs,l=[]:=by
    have:=zB hz
    rwa [List.flatten_eq_nil_iff] at this
   have hfe:xs.flatten=[]:=zB hz
   obtain rfl:n=0:=by omega
   have hgr:=QaB
   rw [hfe]
   simp (disch:=omega) only [go_sem,Ab,hni,hgr,BY]
   clear hi hni hni1 hk hge
   refine go_loop (α:=Int) (fun a=>⟨slots 36 0 [(6,(if a=0 then .nil else .ref 0)),(25,.arr (xs.map fun l=>[D.arr (l.map fun s=>[D.str s])])),(26,.int .i64 xs.length),(27,.int .i64 a)],(if a=0 then [] else [.row 9 1 []])⟩) (fun a=>∃ k:Nat,a=k∧k≤(xs).length) (fun a=>(xs).length-(a).toNat) 0 ⟨0,rfl,zK _⟩ (by simp (disch:=omega) only [go_sem,Ab,eq_self,if_true]) ?_
   rintro i ⟨k,hi,hk⟩
   have hni:i.toNat=k:=by omega
   have hni1:(i+1).toNat=k+1:=by omega
   rcases zC k (xs).length with hlt | hge
   ·have hg:=get_at (fun l:List ByteArray=>[D.arr (l.map fun s=>[D.str s])]) hlt
    rw [hxe _ (zI hlt)] at hg
    rcases zG k with h0 | h0
    ·subst h0
     obtain rfl:i=0:=hi
     simp (disch:=omega) only [go_sem,Ab,hg,eq_self,if_true]
     exact ⟨1,⟨1,rfl,hlt⟩,by omega,by first | trivial | rfl⟩
    ·have hi0:(i=0)=False:=by simp; omega
     have hi1:(i+1=0)=False:=by simp; omega
     simp (disch:=omega) only [go_sem,Ab,hni,hg,hi0,if_false]
     exact ⟨i+1,⟨k+1,by omega,hlt⟩,by omega,by simp only [hi1,if_false,and_self]⟩
   ·rcases zG k with h0 | h0
    ·subst h0
     obtain rfl:i=0:=hi
     simp (disch:=omega) only [go_sem,Ab,eq_self,if_true]
    ·have hi0:(i=0)=False:=by simp; omega
     simp (disch:=omega) only [go_sem,Ab,hni,hi0,if_false]
  ·have hgr:=QaC n (by omega) (by omega)
   simp (disch:=omega) only [go_sem,Ab,hni,hgr,BY]
   clear hi hni hni1 hk hge
   refine go_loop (α:=Int × (List ByteArray)) (fun a=>⟨slots 36 0 [(6,.ref 0),(25,.arr (xs.map fun l=>[D.arr (l.map fun s=>[D.str s])])),(26,.int .i64 xs.length),(27,.int .i64 (a.1))],[.row 9 1 ((a.2).map (fun s=>[OT.str s]))]⟩) (fun a=>∃ k:Nat,a.1=k∧k≤(xs).length∧(a.2)++(xs.drop k).flatten=xs.flatten) (fun a=>(xs).length-(a.1).toNat) (0,[]) ⟨0,rfl,zK _,by rw [zF]; rfl⟩ (by simp (disch:=omega) only [go_sem,Ab]) ?_
   rintro ⟨i,acc⟩ ⟨k,hi,hk,hR⟩
   dsimp only at hi hR
   have hni:i.toNat=k:=by omega
   have hni1:(i+1).toNat=k+1:=by omega
   rcases zC k (xs).length with hlt | hge
   ·have hg:=get_at (fun l:List ByteArray=>[D.arr (l.map fun s=>[D.str s])]) hlt
    rw [zA hlt,yQ,← zP] at hR
    have hlen:=congrArg List.length hR
    rw [zD,zD] at hlen
    have hap:acc.map (fun s=>[OT.str s])++xs[k].map (fun s=>[OT.str s])=(acc++xs[k]).map (fun s=>[OT.str s]):=by rw [zQ]
    have h1:(xs[k].map fun s=>[D.str s]).map (fun x=>x.map D.ot)=xs[k].map (fun s=>[OT.str s]):=by rw [yC]; rfl
    have h4:=CW xs[k]
    simp (disch:=omega) only [go_sem,Ab,hni,hg,hap,h1,h4]
    refine ⟨(i+1,acc++xs[k]),⟨k+1,by dsimp only; omega,hlt,hR⟩,by dsimp only; omega,?_⟩
    first | trivial | rfl | simp only [hap]
   ·rw [zE hge] at hR
    have hR:acc=xs.flatten:=by simpa using hR
    rw [←hR]
    simp (disch:=omega) only [go_sem,Ab,hni]
def Bs:SC:=(.seq (.reg [⟨some 4,none,.boxv 67 1 (.t 0)⟩,⟨some 5,none,.boxv 29 5 (.t 1)⟩,⟨some 6,none,.boxv 36 1 (.t 2)⟩,⟨some 7,none,.boxv 108 1 (.t 3)⟩,⟨(some 8),none,(.alloc 29 [(.int .i64 0),(.str ⟨#[]⟩),.nil,(.str ⟨#[]⟩),.nil])⟩]) (.seq (.seq (.reg [⟨some 13,none,.faddr 0 (.t 5)⟩,⟨some 14,none,.load false 1 (.t 13)⟩]) (.block 0 (.seq (.reg [⟨some 16,none,.bin .eql false (.t 14) (.c (.int .i64 3))⟩,⟨some 15,none,.mv (.t 16)⟩]) (.cond (.t 15) (.seq (.reg [⟨some 17,none,.faddr 1 (.t 5)⟩,⟨some 18,none,.load true 2 (.t 17)⟩,⟨some 19,none,.load false 1 (.t 7)⟩,⟨some 20,none,.call 88 [(.t 18),(.t 19)]⟩,⟨some 21,none,.call 87 [(.t 20)]⟩,⟨none,none,(.store 5 (.t 8) (.t 21))⟩]) .ret) (.seq (.reg [⟨some 23,none,.bin .eql false (.t 14) (.c (.int .i64 8))⟩,⟨some 22,none,.mv (.t 23)⟩]) (.cond (.t 22) (.seq (.dreg [[],[0],[],[],[3],[4,3],[5,4,3],[],[7],[],[9],[10,9],[8,7,11,10,9],[],[2,6,5,4,3,12,8,7,11,10,9,13],[1,0,14,2,6,5,4,3,12,8,7,11,10,9,13],[15,1,0,14,2,6,5,4,3,12,8,7,11,10,9,13]] [⟨some 24,none,.faddr 3 (.t 5)⟩,⟨some 25,none,.load false 1 (.t 24)⟩,⟨some 26,none,.load false 1 (.t 4)⟩,⟨some 27,none,.faddr 4 (.t 5)⟩,⟨some 28,none,.load false 1 (.t 27)⟩,⟨some 29,none,.iaddr 5 (.t 28) (.c (.int .i64 0))⟩,⟨some 30,none,.load true 5 (.t 29)⟩,⟨some 31,none,.load false 1 (.t 6)⟩,⟨some 32,none,.call 44 [(.t 31)]⟩,⟨some 33,none,.faddr 3 (.t 5)⟩,⟨some 34,none,.load false 1 (.t 33)⟩,⟨(some 35),none,(.mkrow 9 1 [(.str ⟨#[]⟩)] 1 [(0,(.t 34))])⟩,⟨(some 36),none,(.append 9 1 16 [(.str ⟨#[]⟩)] (.t 32) (.t 35))⟩,⟨some 37,none,.load false 1 (.t 7)⟩,⟨some 38,none,.call 46 [(.t 26),(.t 30),(.t 36),(.t 37)]⟩,⟨some 39,none,.call 89 [(.c (.int .i64 8)),(.t 25),(.t 38)]⟩,⟨none,none,(.store 5 (.t 8) (.t 39))⟩]) .ret) (.seq (.reg [⟨some 41,none,.bin .eql false (.t 14) (.c (.int .i64 9))⟩,⟨some 40,none,.mv (.t 41)⟩]) (.cond (.t 40) (.seq (.dreg [[],[0],[1,0],[2,1,0],[],[3,2,1,0,4],[5,3,2,1,0,4],[6,5,3,2,1,0,4]] [⟨some 42,none,.load false 1 (.t 4)⟩,⟨some 43,none,.nilchk (.t 42)⟩,⟨some 44,none,.faddr 1 (.t 43)⟩,⟨some 45,none,.load false 1 (.t 44)⟩,⟨some 46,none,.load false 1 (.t 6)⟩,⟨some 47,none,.mkrow 36 1 [.nil] 2 [(0,(.t 45)),(1,(.t 46))]⟩,⟨some 48,none,.call 90 [(.t 47)]⟩,⟨some 9,none,.mv (.t 48)⟩]) (.seq (.dreg [[],[],[1],[2,1],[3,2,1],[4,3,2,1],[5,4,3,2,1],[6,5,4,3,2,1],[7,6,5,4,3,2,1],[5,4,3,2,1,8,7,6],[0,1,2,3,4,5,6,7,8,9],[10,0,1,2,3,4,5,6,7,8,9],[11,10,0,1,2,3,4,5,6,7,8,9]] [⟨some 49,none,.load false 1 (.t 4)⟩,⟨some 50,none,.load false 1 (.t 4)⟩,⟨some 51,none,.nilchk (.t 50)⟩,⟨some 52,none,.faddr 2 (.t 51)⟩,⟨some 53,none,.load false 1 (.t 52)⟩,⟨some 54,none,.mv (.t 53)⟩,⟨(some 55),(some (54,false)),(.mv (.t 9))⟩,⟨(some 56),(some (54,false)),(.len false (.t 55))⟩,⟨(some 57),(some (54,false)),(.bin .gtr false (.t 56) (.c (.int .i64 4)))⟩,⟨some 58,none,.pick (.t 54) (.c (.bool true)) (.t 57)⟩,⟨some 59,none,.nilchk (.t 49)⟩,⟨some 60,none,.faddr 2 (.t 59)⟩,⟨none,none,(.store 1 (.t 60) (.t 58))⟩]) (.seq (.reg [⟨some 61,none,.mkmap true none⟩,⟨some 10,none,.mv (.t 61)⟩]) (.seq (.seq (.reg [⟨some 62,none,.load false 1 (.t 7)⟩,⟨some 63,none,.mkit (.t 62)⟩]) (.block 1 (.mloop [0,0,0,0,1,1,1,0,1,1,1,0,0,0,0,0,0,0,0,0,0,0,0,0,0,0,0,0,0,0,0,0,0,0,0,0,0,0,0,0,0,0,0,0,0,0,0,0,0,0,0,0,0,0,0,0,0,0,0,0,0,0,0,1,0,0,0,0,0,0,0,0,0,0,0,0,0,0,0,0,0,0,0,0,0,0,0,0,0,0,0,0,0,0] [0,0,0,0,1,1,1,1,1,1,1,0,0,0,0,0,0,0,0,0,0,0,0,0,0,0,0,0,0,0,0,0,0,0,0,0,0,0,0,0,0,0,0,0,0,0,0,0,0,0,0,0,0,0,0,0,0,0,0,0,0,0,0,0,0,0,0,0,0,0,0,0,0,0,0,0,0,0,0,0,0,0,0,0,0,0,0,0,0,0,0,0,0,0] (.t 63) 64 65 (.seq (.cond (.t 65) .skip (.exit 1)) (.block 2 (.seq (.reg [⟨some 66,none,.mcur (.t 63)⟩,⟨some 67,none,.ext (.t 66) 0⟩,⟨some 68,none,.ext (.t 66) 1⟩,⟨(some 12),none,(.alloc 26 [(.str ⟨#[]⟩),.nil])⟩,⟨some 11,none,.mv (.t 67)⟩,⟨none,none,(.store 2 (.t 12) (.t 68))⟩]) (.reg [⟨some 69,none,.mv (.t 10)⟩,⟨some 70,none,.mv (.t 11)⟩,⟨some 71,none,.load true 2 (.t 12)⟩,⟨none,none,(.mset true (.t 69) (.t 70) (.t 71))⟩]))))))) (.seq (.dreg [[],[],[1],[],[3],[4,3],[5,4,3],[6,5,4,3],[],[8,7,6,5,4,3],[7,6,5,4,3,9,8],[0,2,1,10,7,6,5,4,3,9,8]] [⟨some 72,none,.mv (.t 10)⟩,⟨some 73,none,.faddr 3 (.t 5)⟩,⟨some 74,none,.load false 1 (.t 73)⟩,⟨some 75,none,.load false 1 (.t 4)⟩,⟨some 76,none,.nilchk (.t 75)⟩,⟨some 77,none,.faddr 0 (.t 76)⟩,⟨some 78,none,.load false 1 (.t 77)⟩,⟨some 79,none,.call 91 [(.t 78)]⟩,⟨some 80,none,.mv (.t 9)⟩,⟨some 81,none,.call 92 [(.t 80)]⟩,⟨(some 82),none,(.build [(.str ⟨#[]⟩),.nil] [(0,(1,(.t 79))),(1,(1,(.t 81)))])⟩,⟨none,none,(.mset true (.t 72) (.t 74) (.t 82))⟩]) (.seq (.dreg [[],[],[1],[2,1],[3,2,1],[],[],[0,4,3,2,1,5,6],[7,0,4,3,2,1,5,6]] [⟨some 83,none,.load false 1 (.t 4)⟩,⟨some 84,none,.faddr 4 (.t 5)⟩,⟨some 85,none,.load false 1 (.t 84)⟩,⟨some 86,none,.iaddr 5 (.t 85) (.c (.int .i64 0))⟩,⟨some 87,none,.load true 5 (.t 86)⟩,⟨some 88,none,.load false 1 (.t 6)⟩,⟨some 89,none,.mv (.t 10)⟩,⟨some 90,none,.call 46 [(.t 83),(.t 87),(.t 88),(.t 89)]⟩,⟨none,none,(.store 5 (.t 8) (.t 90))⟩]) .ret)))))) .skip)))))))) (.seq (.reg [⟨some 91,none,.load true 5 (.t 5)⟩,⟨some 92,none,.mkfn 93 [(.t 4),(.t 6),(.t 7)]⟩,⟨some 93,none,.call 62 [(.t 91),(.t 92)]⟩,⟨none,none,(.store 5 (.t 8) (.t 93))⟩]) .ret)))
theorem B5:At Tryz.prog 46=some ⟨94,Bs,[(.cell 8 true 5)]⟩:=by kernel_rfl
theorem Ax:modes 46=⟨[],.own [none,none,some (26,2),none,some (29,5)],none,false⟩:=by unfold modes; rfl
def Dj:SC:=(.seq (.reg [⟨some 4,none,.boxv 29 5 (.t 0)⟩,⟨(some 5),none,(.alloc 29 [(.int .i64 0),(.str ⟨#[]⟩),.nil,(.str ⟨#[]⟩),.nil])⟩]) (.seq (.reg [⟨some 6,none,.load false 1 (.t 1)⟩,⟨some 7,none,.load true 5 (.t 4)⟩,⟨some 8,none,.load false 1 (.t 2)⟩,⟨some 9,none,.load false 1 (.t 3)⟩,⟨some 10,none,.call 46 [(.t 6),(.t 7),(.t 8),(.t 9)]⟩,⟨none,none,(.store 5 (.t 5) (.t 10))⟩]) .ret))
theorem FR:At Tryz.prog 93=some ⟨11,Dj,[(.cell 5 true 5)]⟩:=by kernel_rfl
theorem Cv:modes 93=⟨[],.own [none,none,some (26,2),none,some (29,5)],none,false⟩:=by unfold modes; rfl
theorem FS:IY Tryz.prog 93=true:=by kernel_rfl
theorem Sf (fid:Nat) (e:TEnv) (tk fr ou:List ByteArray) (f:Fm→Int × Bool→Fm × (Int × Bool)) (P:Nat→Int × Bool→Prop) (x:Fm) (c0:Int × Bool) (hP:P 0 c0) (hl:x.parts.length≤1099511627776) (hat:x.atom.nodes≤1099511627776) (hg:IY Tryz.prog fid=true) (hm:(modes fid).hand=[]) (hr:∀ r,Ds (modes fid).res r=r)
  (hE:∀ (k:Nat) (h:k<x.parts.length) (c:Int × Bool),P k c→E fid [x.parts[k].sv,.ptr 0 0,.ptr 1 0,.ptr 2 0] [.box 67 [.ptr 3 0],.box 36 [.arr (ou.map fun s=>[D.str s])],.box 108 [.mp true (CI e)],.box 75 [.ptr 4 0,.arr (fr.map fun s=>[D.str s]),.bool c.2],.box 72 [.str BL,.ref 5,.int .i64 c.1],.row 9 1 (tk.map fun s=>[OT.str s])]=some (.agg [.int .i64 (f x.parts[k] c).1.op,.str (f x.parts[k] c).1.atom.name,.ref 6,.str (f x.parts[k] c).1.var,.ref 7],[.box 67 [.ptr 3 0],.box 36 [.arr (ou.map fun s=>[D.str s])],.box 108 [.mp true (CI e)],.box 75 [.ptr 4 0,.arr (fr.map fun s=>[D.str s]),.bool (f x.parts[k] c).2.2],.box 72 [.str BL,.ref 5,.int .i64 (f x.parts[k] c).2.1],.row 9 1 (tk.map fun s=>[OT.str s]),.row 26 2 ((f x.parts[k] c).1.atom.args.map Tm.o),.row 29 5 ((f x.parts[k] c).1.parts.map Fm.o)])∧P (k+1) (f x.parts[k] c).2) :
  E 62 [x.sv,.fn fid [.ptr 0 0,.ptr 1 0,.ptr 2 0]] [.box 67 [.ptr 3 0],.box 36 [.arr (ou.map fun s=>[D.str s])],.box 108 [.mp true (CI e)],.box 75 [.ptr 4 0,.arr (fr.map fun s=>[D.str s]),.bool c0.2],.box 72 [.str BL,.ref 5,.int .i64 c0.1],.row 9 1 (tk.map fun s=>[OT.str s])]=some (.agg [.int .i64 x.op,.str x.atom.name,.ref 6,.str x.var,.ref 7],[.box 67 [.ptr 3 0],.box 36 [.arr (ou.map fun s=>[D.str s])],.box 108 [.mp true (CI e)],.box 75 [.ptr 4 0,.arr (fr.map fun s=>[D.str s]),.bool (A4 f x.parts c0).2.2],.box 72 [.str BL,.ref 5,.int .i64 (A4 f x.parts c0).2.1],.row 9 1 (tk.map fun s=>[OT.str s]),.row 26 2 (x.atom.args.map Tm.o),.row 29 5 ((A4 f x.parts c0).1.map Fm.o)]):=by
 have hct:=IB x.atom hat
 have h10:((1:Int)=0)=False:=by simp
 refine Ai IQ Es (of_decide_eq_true rfl) ?_
 simp (disch:=omega) only [Gb,go_sem,Ab,hct,Dy,Tm.osv,Tm.obs]
 refine go_loop (α:=Int × (Int × Bool) × (List Fm)) (fun a=>⟨slots 33 0 [(1,.fn fid [.ptr 0 0,.ptr 1 0,.ptr 2 0]),(4,.ptr 6 0),(5,.ptr 7 0),(17,.arr (x.parts.map Fm.d)),(18,.int .i64 x.parts.length),(19,.int .i64 (a.1))],(if (a.1)=0 then [.box 67 [.ptr 3 0],.box 36 [.arr (ou.map fun s=>[D.str s])],.box 108 [.mp true (CI e)],.box 75 [.ptr 4 0,.arr (fr.map fun s=>[D.str s]),.bool (a.2.1).2],.box 72 [.str BL,.ref 5,.int .i64 (a.2.1).1],.row 9 1 (tk.map fun s=>[OT.str s]),.box 29 [.int .i64 0,.str ⟨#[]⟩,.nil,.str ⟨#[]⟩,.nil],.box 29 [.int .i64 x.op,.str x.atom.name,.ref 8,.str x.var,.nil],.row 26 2 (x.atom.args.map Tm.o)] else [.box 67 [.ptr 3 0],.box 36 [.arr (ou.map fun s=>[D.str s])],.box 108 [.mp true (CI e)],.box 75 [.ptr 4 0,.arr (fr.map fun s=>[D.str s]),.bool (a.2.1).2],.box 72 [.str BL,.ref 5,.int .i64 (a.2.1).1],.row 9 1 (tk.map fun s=>[OT.str s]),.box 29 [.int .i64 0,.str ⟨#[]⟩,.nil,.str ⟨#[]⟩,.nil],.box 29 [.int .i64 x.op,.str x.atom.name,.ref 8,.str x.var,.ref 9],.row 26 2 (x.atom.args.map Tm.o),.row 29 5 ((a.2.2).map Fm.o)])⟩) (fun a=>∃ k:Nat,a.1=k∧k≤(x.parts).length∧(a.2.2).length=k∧P k (a.2.1)∧A4 f x.parts c0=((a.2.2)++(A4 f (x.parts.drop k) (a.2.1)).1,(A4 f (x.parts.drop k) (a.2.1)).2)) (fun a=>(x.parts).length-(a.1).toNat) (0,c0,[]) ⟨0,rfl,zK _,rfl,hP,by rw [zF]; rfl⟩ (by simp (disch:=omega) only [go_sem,Ab,eq_self,if_true]) ?_
 rintro ⟨i,c,acc⟩ ⟨k,hi,hk,hR⟩
 dsimp only at hi hR
 have hni:i.toNat=k:=by omega
 have hni1:(i+1).toNat=k+1:=by omega
 rcases zC k (x.parts).length with hlt | hge
 ·have hgt:=get_at Fm.d hlt
  rw [Fm.d_eq] at hgt
  obtain ⟨hR1,hR2,hR3⟩:=hR
  obtain ⟨hc,hp⟩:=hE k hlt c hR2
  rw [zA hlt,A4] at hR3
  obtain ⟨y,hy⟩:∃ y,y=f x.parts[k] c:=⟨_,rfl⟩
  rw [←hy] at hc hp hR3
  have hs:acc.map Fm.o++[[OT.int y.1.op,OT.str y.1.atom.name,OT.ow (y.1.atom.args.map Tm.o),OT.str y.1.var,OT.ow (y.1.parts.map Fm.o)]]=(acc++[y.1]).map Fm.o:=by rw [zQ,zL,zH,Fm.o_eq]
  have hR3':A4 f x.parts c0=((acc++[y.1])++(A4 f (x.parts.drop (k+1)) y.2).1,(A4 f (x.parts.drop (k+1)) y.2).2):=by rw [hR3,zP]; rfl
  rcases zG k with h0 | h0
  ·subst h0
   obtain rfl:i=0:=hi
   have ha0:acc=[]:=zB hR1
   subst ha0
   rw [zH,zJ] at hs
   simp (disch:=omega) only [go_sem,Ab,hni,hgt,hc,hg,hm,hr,eq_self,if_true]
   refine ⟨(1,y.2,[]++[y.1]),⟨1,rfl,hlt,rfl,hp,hR3'⟩,by dsimp only; omega,?_⟩
   simp (disch:=omega) only [go_sem,Ab,h10,if_false,hs,zJ]
  ·have hi0:(i=0)=False:=by simp; omega
   have hi1:(i+1=0)=False:=by simp; omega
   simp (disch:=omega) only [go_sem,Ab,hni,hgt,hc,hg,hm,hr,hi0,if_false]
   refine ⟨(i+1,y.2,acc++[y.1]),⟨k+1,by dsimp only; omega,hlt,by simp [hR1],hp,hR3'⟩,by dsimp only; omega,?_⟩
   simp (disch:=omega) only [go_sem,Ab,hi1,if_false,hs]
 ·obtain rfl:k=x.parts.length:=by omega
  obtain ⟨hR1,hR2,hR3⟩:=hR
  rw [zE hge,A4,zR] at hR3
  rw [hR3]
  rcases zG x.parts.length with h0 | h0
  ·have hx:x.parts=[]:=zB h0
   obtain rfl:i=0:=by omega
   have ha0:acc=[]:=zB (by rw [hR1]; exact h0)
   subst ha0
   simp (disch:=omega) only [go_sem,Ab,hni,hx,eq_self,if_true,zH,zN]
  ·have hi0:(i=0)=False:=by simp; omega
   simp (disch:=omega) only [go_sem,Ab,hni,hi0,if_false]
abbrev SkE (tk fr:List ByteArray) (x:Fm) (ou:List ByteArray) (e:TEnv) (c:Int) (b:Bool):Prop:=E 46 [.ptr 0 0,x.sv,.arr (ou.map fun s=>[D.str s]),.mp true (CI e)] [.box 75 [.ptr 1 0,.arr (fr.map fun s=>[D.str s]),.bool b],.box 72 [.str BL,.ref 2,.int .i64 c],.row 9 1 (tk.map fun s=>[OT.str s])]=some (.agg [.int .i64 (x.sk tk fr ou e c).1.op,.str (x.sk tk fr ou e c).1.atom.name,.ref 3,.str (x.sk tk fr ou e c).1.var,.ref 4],[.box 75 [.ptr 1 0,.arr (fr.map fun s=>[D.str s]),.bool (b || x.bad (fr.length+ou.length))],.box 72 [.str BL,.ref 2,.int .i64 (x.sk tk fr ou e c).2],.row 9 1 (tk.map fun s=>[OT.str s]),.row 26 2 ((x.sk tk fr ou e c).1.atom.args.map Tm.o),.row 29 5 ((x.sk tk fr ou e c).1.parts.map Fm.o)])
abbrev SkC (tk fr:List ByteArray) (x:Fm):Prop:=∀ (ou:List ByteArray) (e:TEnv) (c:Int) (b:Bool),FinT e→TB 1000001 e→fr.length+ou.length+x.nodes≤1000000→0≤c→c+x.nodes*(tk.length+2:Nat)≤1099511000000→SkE tk fr x ou e c b
theorem Qck (tk fr:List ByteArray) (x:Fm) (ou:List ByteArray) (e:TEnv) (c:Int) (b:Bool) (h:SkE tk fr x ou e c b):E 93 [x.sv,.ptr 0 0,.ptr 1 0,.ptr 2 0] [.box 67 [.ptr 3 0],.box 36 [.arr (ou.map fun s=>[D.str s])],.box 108 [.mp true (CI e)],.box 75 [.ptr 4 0,.arr (fr.map fun s=>[D.str s]),.bool (c,b).2],.box 72 [.str BL,.ref 5,.int .i64 (c,b).1],.row 9 1 (tk.map fun s=>[OT.str s])]=some (.agg [.int .i64 (x.sk tk fr ou e c).1.op,.str (x.sk tk fr ou e c).1.atom.name,.ref 6,.str (x.sk tk fr ou e c).1.var,.ref 7],[.box 67 [.ptr 3 0],.box 36 [.arr (ou.map fun s=>[D.str s])],.box 108 [.mp true (CI e)],.box 75 [.ptr 4 0,.arr (fr.map fun s=>[D.str s]),.bool ((x.sk tk fr ou e c).2,(b || x.bad (fr.length+ou.length))).2],.box 72 [.str BL,.ref 5,.int .i64 ((x.sk tk fr ou e c).2,(b || x.bad (fr.length+ou.length))).1],.row 9 1 (tk.map fun s=>[OT.str s]),.row 26 2 ((x.sk tk fr ou e c).1.atom.args.map Tm.o),.row 29 5 ((x.sk tk fr ou e c).1.parts.map Fm.o)]):=by
 unfold SkE at h
 obtain ⟨r,hr⟩:∃ r,r=x.sk tk fr ou e c:=⟨_,rfl⟩
 rw [←hr] at h ⊢
 dsimp only at h ⊢
 refine Ai FR Cv (of_decide_eq_true rfl) ?_
 simp (disch:=omega) only [Dj,go_sem,Ab,h,Ax]
theorem Sg (tk fr:List ByteArray) (x:Fm) (hx:x.forms=true) (ih:∀ y∈x.parts,SkC tk fr y):SkC tk fr x:=by
 intro ou e c0 b hf he hb h0 hc0
 have hfo:=Fm.Bo hx
 have hpl:=Fm.length_le x.parts
 have hnq:=Fm.nodes_eq x
 have hat:=Fm.F4 hfo
 have hbe:=Fm.Ze x (fr.length+ou.length)
 rw [hnq,zV,z7] at hc0
 have hge1:((1:Nat):Int)*(tk.length+2:Nat)=tk.length+2:=by simp
 rw [hge1] at hc0
 have hgeS:(0:Int)≤(Fm.nodeS x.parts:Int)*(tk.length+2:Nat):=zW (by omega) (by omega)
 unfold SkE
 by_cases h3:x.op=3
 ·have o3:dec (x.op=3)=true:=Ar h3
  have hp0:=(Fm.CZ hfo h3).1
  have hbad:x.bad (fr.length+ou.length)=false:=by rw [hbe,hp0,Aj (by omega)]; rfl
  have hrv:=K0 e 1000001 (by omega) he x.atom (by omega)
  unfold RvC at hrv
  rw [Fm.F7 tk fr h3,hbad,Bool.or_false]
  obtain ⟨z,hz⟩:∃ z,z=x.atom.rv e:=⟨_,rfl⟩
  rw [←hz] at hrv ⊢
  have hao:=Z3 z
  simp only [Tm.osv,Tm.obs] at hrv hao
  show E 46 [.ptr 0 0,x.sv,.arr (ou.map fun s=>[D.str s]),.mp true (CI e)] [.box 75 [.ptr 1 0,.arr (fr.map fun s=>[D.str s]),.bool b],.box 72 [.str BL,.ref 2,.int .i64 c0],.row 9 1 (tk.map fun s=>[OT.str s])]=some (.agg [.int .i64 3,.str z.name,.ref 3,.str ⟨#[]⟩,.ref 4],[.box 75 [.ptr 1 0,.arr (fr.map fun s=>[D.str s]),.bool b],.box 72 [.str BL,.ref 2,.int .i64 c0],.row 9 1 (tk.map fun s=>[OT.str s]),.row 26 2 (z.args.map Tm.o),.row 29 5 []])
  refine Ai B5 Ax (of_decide_eq_true rfl) ?_
  simp (disch:=omega) only [Bs,go_sem,Ab,o3,hrv,hao,BD,K2]
 have o3:dec (x.op=3)=false:=Aj h3
 by_cases h8:x.op=8
 ·have o8:dec (x.op=8)=true:=Ar h8
  obtain ⟨p,hp⟩:=(Fm.Bu hfo (by unfold qB; rw [o8]; rfl)).2
  have hbad:x.bad (fr.length+ou.length)=p.bad (fr.length+(ou++[x.var]).length):=by
   rw [hbe,hp,Aj (show ¬ x.op=9 by omega),o8,zD,zS,Nat.add_assoc]
   simp
  have hnp:Fm.nodeS x.parts=p.nodes:=by rw [hp]; simp [Fm.nodeS]
  have hcl:=LI ou (by omega)
  have hs:=ih p (by rw [hp]; simp) (ou++[x.var]) e c0 b hf he (by rw [zD,zS]; omega) h0 (by rw [←hnp]; omega)
  unfold SkE at hs
  have ha1:(ou.map fun s=>[OT.str s])++[[OT.str x.var]]=(ou++[x.var]).map fun s=>[OT.str s]:=by simp
  have hlt:0<x.parts.length:=by rw [hp]; simp
  have hg:=get_at Fm.d hlt
  have hx0:x.parts[0]=p:=by simp [hp]
  rw [hx0,Fm.d_eq] at hg
  have hps:p.sv=.agg [.int .i64 p.op,.str p.atom.name,.arr (p.atom.args.map Tm.d),.str p.var,.arr (p.parts.map Fm.d)]:=rfl
  have hgz:=CW ou
  rw [Fm.IG tk fr h8 hp,hbad]
  rw [hps] at hs
  obtain ⟨r,hr⟩:∃ r,r=p.sk tk fr (ou++[x.var]) e c0:=⟨_,rfl⟩
  rw [←hr] at hs ⊢
  have hqt:=Se 8 x.var r.1
  simp only [Fm.osv,Fm.obs] at hqt
  obtain ⟨o1,ho1⟩:∃ o1,o1=ou++[x.var]:=⟨_,rfl⟩
  rw [←ho1] at ha1 hs ⊢
  show E 46 [.ptr 0 0,x.sv,.arr (ou.map fun s=>[D.str s]),.mp true (CI e)] [.box 75 [.ptr 1 0,.arr (fr.map fun s=>[D.str s]),.bool b],.box 72 [.str BL,.ref 2,.int .i64 c0],.row 9 1 (tk.map fun s=>[OT.str s])]=some (.agg [.int .i64 8,.str ⟨#[]⟩,.ref 3,.str x.var,.ref 4],[.box 75 [.ptr 1 0,.arr (fr.map fun s=>[D.str s]),.bool (b || p.bad (fr.length+o1.length))],.box 72 [.str BL,.ref 2,.int .i64 r.2],.row 9 1 (tk.map fun s=>[OT.str s]),.row 26 2 [],.row 29 5 [r.1.o]])
  refine Ai B5 Ax (of_decide_eq_true rfl) ?_
  simp (disch:=omega) only [Bs,go_sem,Ab,o3,o8,hcl,ha1,hg,hs,hqt,hgz,yA,C4,H2,AF,Ax]
 have o8:dec (x.op=8)=false:=Aj h8
 by_cases h9:x.op=9
 ·have o9:dec (x.op=9)=true:=Ar h9
  obtain ⟨hvx,p,hp⟩:=Fm.Bu hfo (by unfold qB; rw [o9]; simp)
  have hbad:x.bad (fr.length+ou.length)=(dec (4<fr.length+ou.length) || p.bad (fr.length+ou.length)):=by
   rw [hbe,hp,o8,o9]
   simp
  have hnp:Fm.nodeS x.parts=p.nodes:=by rw [hp]; simp [Fm.nodeS]
  have hlt:0<x.parts.length:=by rw [hp]; simp
  have hg:=get_at Fm.d hlt
  have hx0:x.parts[0]=p:=by simp [hp]
  rw [hx0,Fm.d_eq] at hg
  have hps:p.sv=.agg [.int .i64 p.op,.str p.atom.name,.arr (p.atom.args.map Tm.d),.str p.var,.arr (p.parts.map Fm.d)]:=rfl
  have hcc:=XC [fr,ou] (by simp) (by simp; omega)
  simp only [zL,zH,yQ,List.flatten_nil,zR] at hcc
  have hvt:=V9 (fr++ou) (by rw [zD]; omega)
  have hfr:=C7 BL tk c0
  have hnx:=QaA BL (by decide) tk c0 h0 (by omega)
  have hpm:=X1 e x.var (skT tk fr ou c0)
  have hts:(skT tk fr ou c0).nodes≤1000001:=by
   unfold skT
   rw [Tm.nodes_eq]
   show 1+Tm.nodeS (vT (fr++ou))≤_
   rw [Jy,zD]; omega
  obtain ⟨b1,hb1⟩:∃ b1,b1=(b || dec (4<fr.length+ou.length)):=⟨_,rfl⟩
  have hs:=ih p (by rw [hp]; simp) ou (GQ e x.var (skT tk fr ou c0)) (fresh BL tk c0) b1 (hf.put _ _) (he.put hvx hts) (by omega) (by omega) (by rw [←hnp]; omega)
  unfold SkE at hs
  rw [hps] at hs
  rw [Fm.Gw tk fr h9 hp,hbad,← Bool.or_assoc,← hb1]
  obtain ⟨e1,he1⟩:∃ e1,e1=GQ e x.var (skT tk fr ou c0):=⟨_,rfl⟩
  rw [←he1] at hpm hs ⊢
  unfold skT at hpm
  have hla:fr.length+ou.length=(fr++ou).length:=zD.symm
  rw [hla] at hb1
  obtain ⟨ar,har⟩:∃ ar,ar=fr++ou:=⟨_,rfl⟩
  rw [←har] at hcc hvt hb1 hpm
  obtain ⟨cf,hcf⟩:∃ cf,cf=fresh BL tk c0:=⟨_,rfl⟩
  rw [←hcf] at hnx hfr hs hpm ⊢
  obtain ⟨v,hv⟩:∃ v,v=pre BL cf:=⟨_,rfl⟩
  rw [←hv] at hnx hpm
  obtain ⟨r,hr⟩:∃ r,r=p.sk tk fr ou e1 cf:=⟨_,rfl⟩
  rw [←hr] at hs ⊢
  have hpm2:K9 (CI e) (.str x.var) (true,[.str v,.arr ((vT ar).map Tm.d)])=CI e1:=hpm
  have hbi:(b || dec ((4:Int)<(ar.length:Int)))=b1:=by
   rw [hb1]
   by_cases h4:4<ar.length
   ·rw [Ar h4,Ar (by omega)]
   ·rw [Aj h4,Aj (by omega)]
  clear hb1 hpm
  cases b with
  | false =>
   rw [zX] at hbi
   refine Ai B5 Ax (of_decide_eq_true rfl) ?_
   simp (disch:=omega) only [Bs,go_sem,Ab,o3,o8,o9,hcc,C4,Cu,hbi]
   refine Tn (CI e) hf.enum (.exit 1,⟨slots 94 0 [(4,.ptr 3 0),(5,.ptr 4 0),(6,.ptr 5 0),(8,.ptr 6 0),(9,.ref 7),(10,.ref 8)],[.box 75 [.ptr 1 0,.arr (fr.map fun s=>[D.str s]),.bool b1],.box 72 [.str BL,.ref 2,.int .i64 c0],.row 9 1 (tk.map fun s=>[OT.str s]),.box 67 [.ptr 0 0],.box 29 [.int .i64 x.op,.str x.atom.name,.arr (x.atom.args.map Tm.d),.str x.var,.arr (x.parts.map Fm.d)],.box 36 [.arr (ou.map fun s=>[D.str s])],.box 29 [.int .i64 0,.str ⟨#[]⟩,.nil,.str ⟨#[]⟩,.nil],.row 9 1 (ar.map fun s=>[OT.str s]),.mp true (CI e)]⟩) (by simp (disch:=omega) only [go_sem,Ab,hg,hnx,hvt,hpm2,hs,C4,yA,Gd,ES,Ax]) (fun p=>⟨slots 94 0 [(4,.ptr 3 0),(5,.ptr 4 0),(6,.ptr 5 0),(8,.ptr 6 0),(9,.ref 7),(10,.ref 8),(63,.ptr 9 0)],[.box 75 [.ptr 1 0,.arr (fr.map fun s=>[D.str s]),.bool b1],.box 72 [.str BL,.ref 2,.int .i64 c0],.row 9 1 (tk.map fun s=>[OT.str s]),.box 67 [.ptr 0 0],.box 29 [.int .i64 x.op,.str x.atom.name,.arr (x.atom.args.map Tm.d),.str x.var,.arr (x.parts.map Fm.d)],.box 36 [.arr (ou.map fun s=>[D.str s])],.box 29 [.int .i64 0,.str ⟨#[]⟩,.nil,.str ⟨#[]⟩,.nil],.row 9 1 (ar.map fun s=>[OT.str s]),.mp true (Pc p),.it true (CI e) (p.map (·.1)).reverse p.getLast?]⟩) 9 true (by simp (disch:=omega) only [go_sem,Ab]; exact ⟨rfl,rfl⟩) (fun p=>by simp (disch:=omega) only [go_sem,Ab]) (fun p q y _ _ hyq _=>?_) (fun p hp=>?_)
   ·cases q with
    | int i=>cases hyq
    | str s =>
     rw [Fu] at hyq
     cases hs:e s with
     | none=>rw [hs] at hyq; cases hyq
     | some w =>
      rw [hs] at hyq
      obtain rfl:=Option.some.inj hyq
      simp (disch:=omega) only [go_sem,Ab,Pd,List.getLast?_append,zQ,List.reverse_append]
      rfl
   ·simp (disch:=omega) only [go_sem,Ab,T4 hp]
  | true =>
   rw [yM] at hbi
   subst hbi
   refine Ai B5 Ax (of_decide_eq_true rfl) ?_
   simp (disch:=omega) only [Bs,go_sem,Ab,o3,o8,o9,hcc,C4,Cu]
   refine Tn (CI e) hf.enum (.exit 1,⟨slots 94 0 [(4,.ptr 3 0),(5,.ptr 4 0),(6,.ptr 5 0),(8,.ptr 6 0),(9,.ref 7),(10,.ref 8)],[.box 75 [.ptr 1 0,.arr (fr.map fun s=>[D.str s]),.bool true],.box 72 [.str BL,.ref 2,.int .i64 c0],.row 9 1 (tk.map fun s=>[OT.str s]),.box 67 [.ptr 0 0],.box 29 [.int .i64 x.op,.str x.atom.name,.arr (x.atom.args.map Tm.d),.str x.var,.arr (x.parts.map Fm.d)],.box 36 [.arr (ou.map fun s=>[D.str s])],.box 29 [.int .i64 0,.str ⟨#[]⟩,.nil,.str ⟨#[]⟩,.nil],.row 9 1 (ar.map fun s=>[OT.str s]),.mp true (CI e)]⟩) (by simp (disch:=omega) only [go_sem,Ab,hg,hnx,hvt,hpm2,hs,C4,yA,Gd,ES,Ax]) (fun p=>⟨slots 94 0 [(4,.ptr 3 0),(5,.ptr 4 0),(6,.ptr 5 0),(8,.ptr 6 0),(9,.ref 7),(10,.ref 8),(63,.ptr 9 0)],[.box 75 [.ptr 1 0,.arr (fr.map fun s=>[D.str s]),.bool true],.box 72 [.str BL,.ref 2,.int .i64 c0],.row 9 1 (tk.map fun s=>[OT.str s]),.box 67 [.ptr 0 0],.box 29 [.int .i64 x.op,.str x.atom.name,.arr (x.atom.args.map Tm.d),.str x.var,.arr (x.parts.map Fm.d)],.box 36 [.arr (ou.map fun s=>[D.str s])],.box 29 [.int .i64 0,.str ⟨#[]⟩,.nil,.str ⟨#[]⟩,.nil],.row 9 1 (ar.map fun s=>[OT.str s]),.mp true (Pc p),.it true (CI e) (p.map (·.1)).reverse p.getLast?]⟩) 9 true (by simp (disch:=omega) only [go_sem,Ab]; exact ⟨rfl,rfl⟩) (fun p=>by simp (disch:=omega) only [go_sem,Ab]) (fun p q y _ _ hyq _=>?_) (fun p hp=>?_)
   ·cases q with
    | int i=>cases hyq
    | str s =>
     rw [Fu] at hyq
     cases hs:e s with
     | none=>rw [hs] at hyq; cases hyq
     | some w =>
      rw [hs] at hyq
      obtain rfl:=Option.some.inj hyq
      simp (disch:=omega) only [go_sem,Ab,Pd,List.getLast?_append,zQ,List.reverse_append]
      rfl
   ·simp (disch:=omega) only [go_sem,Ab,T4 hp]
 have o9:dec (x.op=9)=false:=Aj h9
 have hz:x.atom=Tm.zero:=Fm.E2 hfo h3
 have hv0:x.var=⟨#[]⟩:=Fm.Ph hfo (by unfold qB; rw [o8,o9]; rfl)
 have hm:=Sf 93 e tk fr ou (fun y s=>((y.sk tk fr ou e s.1).1,((y.sk tk fr ou e s.1).2,s.2 || y.bad (fr.length+ou.length)))) (fun k s=>0≤s.1∧s.1+(Fm.nodeS (x.parts.drop k):Int)*(tk.length+2:Nat)≤1099511000000) x (c0,b) ⟨h0,by rw [zF]; omega⟩ (by omega) (by omega) FS (by rw [Cv]) (fun r=>by rw [Cv]; rfl) (fun k hk s hp=>by
  obtain ⟨p1,p2⟩:=hp
  rw [zA hk,Fm.nodeS,zV,z7] at p2
  have hfk:=Fm.AQ hx (zI hk)
  have hcnt:=Fm.Jz tk fr x.parts[k] hfk ou e s.1 p1
  have hge0:(0:Int)≤(Fm.nodeS (x.parts.drop (k+1)):Int)*(tk.length+2:Nat):=zW (by omega) (by omega)
  have hle:=Fm.nodes_le x.parts k hk
  exact ⟨Qck tk fr x.parts[k] ou e s.1 s.2 (ih x.parts[k] (zI hk) ou e s.1 s.2 hf he (by omega) p1 (by omega)),by dsimp only; omega,by dsimp only; omega⟩)
 have hpair:=Pk (fun y c=>Fm.sk tk fr y ou e c) (fun y=>y.bad (fr.length+ou.length)) x.parts c0 b
 rw [hpair] at hm
 have hbad:x.bad (fr.length+ou.length)=x.parts.any fun y=>y.bad (fr.length+ou.length):=by rw [hbe,o8,o9]; rfl
 rw [Fm.DL tk fr h3 h8 h9,hbad]
 rw [hz,hv0] at hm
 obtain ⟨r,hr⟩:∃ r,r=A4 (fun y c=>Fm.sk tk fr y ou e c) x.parts c0:=⟨_,rfl⟩
 obtain ⟨bb,hbb⟩:∃ bb,bb=(b || x.parts.any fun y=>y.bad (fr.length+ou.length)):=⟨_,rfl⟩
 rw [←hr,← hbb] at hm
 rw [←hr,← hbb]
 have hxs:x.sv=.agg [.int .i64 x.op,.str Tm.zero.name,.arr (Tm.zero.args.map Tm.d),.str ⟨#[]⟩,.arr (x.parts.map Fm.d)]:=by
  show SV.agg [.int .i64 x.op,.str x.atom.name,.arr (x.atom.args.map Tm.d),.str x.var,.arr (x.parts.map Fm.d)]=_
  rw [hz,hv0]
 rw [hxs] at hm ⊢
 show E 46 [.ptr 0 0,.agg [.int .i64 x.op,.str Tm.zero.name,.arr (Tm.zero.args.map Tm.d),.str ⟨#[]⟩,.arr (x.parts.map Fm.d)],.arr (ou.map fun s=>[D.str s]),.mp true (CI e)] [.box 75 [.ptr 1 0,.arr (fr.map fun s=>[D.str s]),.bool b],.box 72 [.str BL,.ref 2,.int .i64 c0],.row 9 1 (tk.map fun s=>[OT.str s])]=some (.agg [.int .i64 x.op,.str Tm.zero.name,.ref 3,.str ⟨#[]⟩,.ref 4],[.box 75 [.ptr 1 0,.arr (fr.map fun s=>[D.str s]),.bool bb],.box 72 [.str BL,.ref 2,.int .i64 r.2],.row 9 1 (tk.map fun s=>[OT.str s]),.row 26 2 (Tm.zero.args.map Tm.o),.row 29 5 (r.1.map Fm.o)])
 refine Ai B5 Ax (of_decide_eq_true rfl) ?_
 simp (disch:=omega) only [Bs,go_sem,Ab,o3,o8,o9,hm,Es]
theorem Nt (tk fr:List ByteArray) (x:Fm) (hx:x.forms=true):SkC tk fr x :=
 Sg tk fr x hx fun y hy=>Nt tk fr y (Fm.AQ hx hy)
termination_by SizeOf.sizeOf x
decreasing_by exact Fm.lt_of_mem hy
mutual
noncomputable def Fm.ats:Fm→List Tm
 | .mk op atom _ parts=>bif dec (op=3) then [atom] else Fm.MN parts
noncomputable def Fm.MN:List Fm→List Tm
 | []=>[]
 | x :: xs=>Fm.ats x++Fm.MN xs
end
theorem Fm.VA (x:Fm):x.ats=bif dec (x.op=3) then [x.atom] else Fm.MN x.parts:=by
 obtain ⟨op,atom,var,parts⟩:=x
 rw [Fm.ats]; rfl
mutual
noncomputable def Tm.sy1:Tm→List ByteArray
 | .mk n args=>(bif D5 n then [n] else [])++Tm.Ge args
noncomputable def Tm.Ge:List Tm→List ByteArray
 | []=>[]
 | x :: xs=>Tm.sy1 x++Tm.Ge xs
end
theorem Tm.Sh (x:Tm):x.sy1=(bif D5 x.name then [x.name] else [])++Tm.Ge x.args:=by
 obtain ⟨n,args⟩:=x
 rw [Tm.sy1]; rfl
mutual
noncomputable def Tm.sy2:Tm→List ByteArray
 | .mk n args=>(bif !AS n&&!dec (n=⟨#[]⟩) then [n] else [])++Tm.sy2L args
noncomputable def Tm.sy2L:List Tm→List ByteArray
 | []=>[]
 | x :: xs=>Tm.sy2 x++Tm.sy2L xs
end
theorem Tm.sy2_eq (x:Tm):x.sy2=(bif !AS x.name&&!dec (x.name=⟨#[]⟩) then [x.name] else [])++Tm.sy2L x.args:=by
 obtain ⟨n,args⟩:=x
 rw [Tm.sy2]; rfl
noncomputable def syA (l:List Tm):List ByteArray:=l.flatMap Tm.sy1
mutual
noncomputable def Fm.sy2:Fm→List ByteArray
 | .mk _ atom _ parts=>atom.sy2++Fm.sy2L parts
noncomputable def Fm.sy2L:List Fm→List ByteArray
 | []=>[]
 | x :: xs=>Fm.sy2 x++Fm.sy2L xs
end
theorem Fm.sy2_eq (x:Fm):x.sy2=x.atom.sy2++Fm.sy2L x.parts:=by
 obtain ⟨op,atom,var,parts⟩:=x
 rw [Fm.sy2]; rfl
theorem Tm.JX (x:Tm):x.sy1.length≤x.nodes:=by
 have key:∀ xs:List Tm,(∀ y∈xs,y.sy1.length≤y.nodes)→(Tm.Ge xs).length≤Tm.nodeS xs:=by
  intro xs
  induction xs with
  | nil=>intro _; simp [Tm.Ge]
  | cons y ys ih =>
   intro h
   have h1:=h y (by simp)
   have h2:=ih fun z hz=>h z (by simp [hz])
   rw [Tm.Ge,Tm.nodeS,zD]; omega
 have h:=key x.args fun y hy=>Tm.JX y
 rw [Tm.Sh,Tm.nodes_eq,zD]
 cases D5 x.name with
 | true=>simp only [cond_true,zS]; omega
 | false=>simp only [cond_false,zN]; omega
termination_by SizeOf.sizeOf x
decreasing_by exact Tm.lt_of_mem hy
theorem Tm.sy2_len (x:Tm):x.sy2.length≤x.nodes:=by
 have key:∀ xs:List Tm,(∀ y∈xs,y.sy2.length≤y.nodes)→(Tm.sy2L xs).length≤Tm.nodeS xs:=by
  intro xs
  induction xs with
  | nil=>intro _; simp [Tm.sy2L]
  | cons y ys ih =>
   intro h
   have h1:=h y (by simp)
   have h2:=ih fun z hz=>h z (by simp [hz])
   rw [Tm.sy2L,Tm.nodeS,zD]; omega
 have h:=key x.args fun y hy=>Tm.sy2_len y
 rw [Tm.sy2_eq,Tm.nodes_eq,zD]
 cases !AS x.name&&!dec (x.name=⟨#[]⟩) with
 | true=>simp only [cond_true,zS]; omega
 | false=>simp only [cond_false,zN]; omega
termination_by SizeOf.sizeOf x
decreasing_by exact Tm.lt_of_mem hy
theorem Fm.sy2_len (x:Fm):x.sy2.length≤x.vn:=by
 have key:∀ xs:List Fm,(∀ y∈xs,y.sy2.length≤y.vn)→(Fm.sy2L xs).length≤Fm.vnS xs:=by
  intro xs
  induction xs with
  | nil=>intro _; simp [Fm.sy2L]
  | cons y ys ih =>
   intro h
   have h1:=h y (by simp)
   have h2:=ih fun z hz=>h z (by simp [hz])
   rw [Fm.sy2L,Fm.vnS,zD]; omega
 have h:=key x.parts fun y hy=>Fm.sy2_len y
 have h2:=Tm.sy2_len x.atom
 rw [Fm.sy2_eq,Fm.Kq,zD]; omega
termination_by SizeOf.sizeOf x
decreasing_by exact Fm.lt_of_mem hy
theorem Fm.TV {m:ByteArray}:∀ {xs:List Fm},m∈Fm.sy2L xs ↔ ∃ y∈xs,m∈y.sy2
 | []=>by simp [Fm.sy2L]
 | x :: xs=>by rw [Fm.sy2L,yL,Fm.TV]; simp
theorem Fm.TW {m:Tm}:∀ {xs:List Fm},m∈Fm.MN xs ↔ ∃ y∈xs,m∈y.ats
 | []=>by simp [Fm.MN]
 | x :: xs=>by rw [Fm.MN,yL,Fm.TW]; simp
theorem Fm.Z4 {y:Fm}:∀ {xs:List Fm},y∈xs→y.vn≤Fm.vnS xs
 | x :: xs,h=>by
  rw [Fm.vnS]
  rcases yT.1 h with rfl | h
  ·omega
  ·have:=Fm.Z4 h; omega
theorem Fm.JY (x:Fm):Tm.nodeS x.ats≤x.vn:=by
 have app:∀ a b:List Tm,Tm.nodeS (a++b)=Tm.nodeS a+Tm.nodeS b:=by
  intro a b
  induction a with
  | nil=>simp [Tm.nodeS]
  | cons y ys ih=>rw [yD,Tm.nodeS,Tm.nodeS,ih]; omega
 have key:∀ xs:List Fm,(∀ y∈xs,Tm.nodeS y.ats≤y.vn)→Tm.nodeS (Fm.MN xs)≤Fm.vnS xs:=by
  intro xs
  induction xs with
  | nil=>intro _; simp [Fm.MN,Tm.nodeS]
  | cons y ys ih =>
   intro h
   have h1:=h y (by simp)
   have h2:=ih fun z hz=>h z (by simp [hz])
   rw [Fm.MN,Fm.vnS,app]; omega
 have h:=key x.parts fun y hy=>Fm.JY y
 rw [Fm.VA,Fm.Kq]
 cases dec (x.op=3) with
 | true=>simp only [cond_true,Tm.nodeS]; omega
 | false=>simp only [cond_false]; omega
termination_by SizeOf.sizeOf x
decreasing_by exact Fm.lt_of_mem hy
theorem WD {s:ByteArray} (h:D5 s=true):s≠⟨#[]⟩:=fun e=>by
 rw [e] at h
 have:D5 ⟨#[]⟩=false:=by decide +kernel
 rw [this] at h; cases h
theorem VB {x:Tm} (h:x.names=true) (hv:AS x.name=false):D5 x.name=true:=by
 rw [Tm.Id,hv] at h
 simp only [Bool.false_eq_true,if_false] at h
 rw [zT,zT] at h
 exact h.1.1
theorem Tm.sy12 (x:Tm) (h:x.names=true):x.sy2=x.sy1:=by
 have ih:∀ xs:List Tm,(∀ y∈xs,y.sy2=y.sy1)→Tm.sy2L xs=Tm.Ge xs:=by
  intro xs
  induction xs with
  | nil=>intro _; rw [Tm.sy2L,Tm.Ge]
  | cons y ys ihy=>intro hh; rw [Tm.sy2L,Tm.Ge,hh y (by simp),ihy fun z hz=>hh z (by simp [hz])]
 rw [Tm.sy2_eq,Tm.Sh,ih x.args fun y hy=>Tm.sy12 y (Tm.DS h hy)]
 cases hv:AS x.name with
 | true=>rw [M4 hv]; rfl
 | false =>
  have hs:=VB h hv
  rw [hs,Aj (WD hs)]; rfl
termination_by SizeOf.sizeOf x
decreasing_by exact Tm.lt_of_mem hy
theorem Tm.Qcl {x:Tm} (h:x.atom=true) {m:ByteArray} (hm:m≠⟨#[61]⟩):m∈x.sy2 ↔ m∈x.sy1:=by
 have ih:∀ xs:List Tm,(∀ y∈xs,y.sy2=y.sy1)→Tm.sy2L xs=Tm.Ge xs:=by
  intro xs
  induction xs with
  | nil=>intro _; rw [Tm.sy2L,Tm.Ge]
  | cons y ys ihy=>intro hh; rw [Tm.sy2L,Tm.Ge,hh y (by simp),ihy fun z hz=>hh z (by simp [hz])]
 rw [Tm.sy2_eq,Tm.Sh,ih x.args fun y hy=>Tm.sy12 y (Tm.Tu (Tm.M1 h) hy),T9 h]
 unfold Tm.atom at h
 split at h
 ·rename_i hq
  have hq:x.name=⟨#[61]⟩:=Aw.1 hq
  have hsy:D5 x.name=false:=by rw [hq]; decide +kernel
  rw [hsy,Aj (by rw [hq]; decide)]
  simp only [yG,yJ,cond_true,cond_false,zJ,yD,yT,hq]
  exact ⟨fun h=>h.elim (fun e=>absurd e hm) id,.inr⟩
 ·rw [zT] at h
  rw [h.1,Aj (WD h.1)]; rfl
theorem Tm.Z5:Tm.zero.sy2=[]:=by
 rw [Tm.sy2_eq]
 show (bif !AS ⟨#[]⟩&&!dec ((⟨#[]⟩:ByteArray)=⟨#[]⟩) then [⟨#[]⟩] else [])++Tm.sy2L []=[]
 rw [Ar rfl,Tm.sy2L]; simp
theorem Fm.sy12 (x:Fm) (h:x.forms=true) {m:ByteArray} (hm:m≠⟨#[61]⟩):m∈x.sy2 ↔ m∈syA x.ats:=by
 have ih:∀ y∈x.parts,(m∈y.sy2 ↔ m∈syA y.ats):=fun y hy=>Fm.sy12 y (Fm.AQ h hy) hm
 have hfo:=Fm.Bo h
 rw [Fm.sy2_eq,Fm.VA,yL]
 by_cases h3:x.op=3
 ·have ha:=Fm.CZ hfo h3
  rw [Ar h3,cond_true,ha.1,Fm.sy2L]
  unfold syA
  simp only [List.flatMap_cons,List.flatMap_nil,zR,List.not_mem_nil,or_false]
  exact Tm.Qcl ha.2.1 hm
 ·have hz:x.atom=Tm.zero:=Fm.E2 hfo h3
  rw [Aj h3,cond_false,hz,Tm.Z5]
  simp only [List.not_mem_nil,false_or]
  rw [Fm.TV]
  unfold syA
  simp only [yW,Fm.TW]
  constructor
  ·rintro ⟨y,hy,hm2⟩
   have:=(ih y hy).1 hm2
   unfold syA at this
   obtain ⟨t,ht,hmt⟩:=yW.1 this
   exact ⟨t,⟨y,hy,ht⟩,hmt⟩
  ·rintro ⟨t,⟨y,hy,ht⟩,hmt⟩
   exact ⟨y,hy,(ih y hy).2 (by unfold syA; exact yW.2 ⟨t,ht,hmt⟩)⟩
termination_by SizeOf.sizeOf x
decreasing_by exact Fm.lt_of_mem hy
def DU:SC:=(.seq (.reg [⟨some 3,none,.boxv 26 2 (.t 1)⟩,⟨some 4,none,.mv (.c .nil)⟩]) (.seq (.seq (.reg [⟨some 7,none,.faddr 0 (.t 3)⟩,⟨some 8,none,.load false 1 (.t 7)⟩,⟨some 9,none,.call 132 [(.t 8)]⟩,⟨some 10,none,.mv (.t 9)⟩,⟨(some 11),(some (10,true)),(.mv (.t 0))⟩,⟨(some 12),(some (10,true)),(.faddr 0 (.t 3))⟩,⟨(some 13),(some (10,true)),(.load false 1 (.t 12))⟩,⟨(some 14),(some (10,true)),(.call 133 [(.t 11),(.t 13)])⟩,⟨(some 15),(some (10,true)),(.un .not (.t 14))⟩,⟨some 16,none,.pick (.t 10) (.t 15) (.c (.bool false))⟩]) (.cond (.t 16) (.reg [⟨some 17,none,.mv (.t 0)⟩,⟨some 18,none,.faddr 0 (.t 3)⟩,⟨some 19,none,.load false 1 (.t 18)⟩,⟨(some 20),none,(.mkrow 9 1 [(.str ⟨#[]⟩)] 1 [(0,(.t 19))])⟩,⟨(some 21),none,(.append 9 1 16 [(.str ⟨#[]⟩)] (.t 17) (.t 20))⟩,⟨some 0,none,.mv (.t 21)⟩]) .skip)) (.seq (.seq (.reg [⟨some 22,none,.faddr 1 (.t 3)⟩,⟨some 23,none,.load false 1 (.t 22)⟩,⟨some 24,none,.len false (.t 23)⟩,⟨some 25,none,.mv (.c (.int .i64 0))⟩]) (.block 0 (.loop [1,0,0,0,0,0,0,0,0,0,0,0,0,0,0,0,0,0,0,0,0,0,0,1,1,1,0,0,0,0,0,0,0,0] (.seq (.reg [⟨some 26,none,.bin .lss false (.t 25) (.t 24)⟩]) (.seq (.cond (.t 26) .skip (.exit 0)) (.seq (.block 1 (.seq (.reg [⟨some 27,none,.iaddr 2 (.t 23) (.t 25)⟩,⟨some 28,none,.load true 2 (.t 27)⟩,⟨(some 6),none,(.alloc 26 [(.str ⟨#[]⟩),.nil])⟩,⟨none,none,(.store 2 (.t 6) (.t 28))⟩]) (.reg [⟨some 29,none,.mv (.t 0)⟩,⟨some 30,none,.load true 2 (.t 6)⟩,⟨some 31,none,.call 85 [(.t 29),(.t 30)]⟩,⟨some 0,none,.mv (.t 31)⟩]))) (.reg [⟨some 32,none,.bin .add false (.t 25) (.c (.int .i64 1))⟩,⟨some 25,none,.mv (.t 32)⟩]))))))) (.seq (.reg [⟨some 33,none,.mv (.t 0)⟩,⟨some 4,none,.mv (.t 33)⟩]) .ret))))
theorem Fy:At Tryz.prog 85=some ⟨34,DU,[(.tmp 4)]⟩:=by kernel_rfl
theorem Cj:modes 85=⟨[true],.own [some (9,1)],none,false⟩:=by unfold modes; rfl
abbrev SyC (x:Tm):Prop:=∀ l:List ByteArray,l.length+x.nodes≤4194304→E 85 [.ref 0,x.sv] [.row 9 1 (l.map fun s=>[OT.str s])]=some ((bif dec (l.length<(B7 l x.sy1).length) then .ref 1 else .ref 0),(bif dec (l.length<(B7 l x.sy1).length) then [.gone,.row 9 1 ((B7 l x.sy1).map fun s=>[OT.str s])] else [.row 9 1 ((B7 l x.sy1).map fun s=>[OT.str s])]))
theorem XD (x:Tm) (ih:∀ y∈x.args,SyC y):SyC x:=by
 intro l hn
 have hxs:x.sv=.agg [.str x.name,.arr (x.args.map Tm.d)]:=rfl
 have hl:=Tm.length_le x.args
 have hne:=Tm.nodes_eq x
 have hvs:=Tm.Sh x
 cases hsb:D5 x.name with
 | false =>
  rw [hsb] at hvs
  simp only [cond_false,zJ] at hvs
  rw [hvs]
  have hgl:dec (l.length < l.length)=false:=Aj (by omega)
  have hl1:True:=trivial
  refine Ai Fy Cj (of_decide_eq_true rfl) ?_
  simp (disch:=omega) only [DU,go_sem,Ab,hsb,Be,GF]
  refine go_loop (α:=Int × (List ByteArray)) (fun a=>⟨slots 34 0 [(0,(bif dec (l.length < (a.2).length) then .ref 1 else .ref 0)),(23,.arr (x.args.map Tm.d)),(24,.int .i64 x.args.length),(25,.int .i64 (a.1))],(bif dec (l.length < (a.2).length) then [.gone,.row 9 1 ((a.2).map fun s=>[OT.str s])] else [.row 9 1 ((a.2).map fun s=>[OT.str s])])⟩) (fun a=>∃ k:Nat,a.1=k∧k≤(x.args).length∧B7 (a.2) (Tm.Ge (x.args.drop k))=B7 l (Tm.Ge x.args)∧(a.2).length+Tm.nodeS (x.args.drop k)≤4194304∧l.length≤(a.2).length) (fun a=>(x.args).length - (a.1).toNat) (0,l) ⟨0,rfl,zK _,by rw [zF],by rw [zF]; dsimp only; omega,by simp⟩ (by simp (disch:=omega) only [go_sem,Ab,hgl,hl1]) ?_
  rintro ⟨i,acc⟩ ⟨k,hi,hk,hR⟩
  dsimp only at hi hR
  have hni:i.toNat=k:=by omega
  have hni1:(i+1).toNat=k+1:=by omega
  rcases zC k (x.args).length with hlt | hge
  ·have hg:=get_at Tm.d hlt
   rw [Tm.d_eq] at hg
   obtain ⟨hR1,hR2,hR3⟩:=hR
   rw [zA hlt,Tm.Ge,GM] at hR1
   rw [zA hlt,Tm.nodeS] at hR2
   have hc:=ih x.args[k] (zI hlt) acc (by omega)
   have hlen:=DI x.args[k].sy1 acc
   have hgr:=E6 x.args[k].sy1 acc
   have hvl:=Tm.JX x.args[k]
   obtain ⟨acc2,ha2⟩:∃ a,a=B7 acc x.args[k].sy1:=⟨_,rfl⟩
   rw [←ha2] at hc hlen hgr hR1
   rcases zC l.length acc.length with q1 | q1 <;> rcases zC acc.length acc2.length with q2 | q2
   all_goals
    first
     |rw [Ar q2] at hc
     |rw [Aj (zO.2 q2)] at hc
    simp only [cond_true,cond_false] at hc
    first
     |have d1:=Ar q1
     |have d1:=Aj (zO.2 q1)
    first
     |have d2:dec (l.length < acc2.length)=true:=Ar (by omega)
     |have d2:dec (l.length < acc2.length)=false:=Aj (by omega)
    simp (disch:=omega) only [go_sem,Ab,hni,hg,hc,d1,Cj]
    refine ⟨(i+1,acc2),⟨k+1,by dsimp only; omega,hlt,hR1,by dsimp only; omega,by dsimp only; omega⟩,by dsimp only; omega,?_⟩
    first | done | simp (disch:=omega) only [go_sem,Ab,d2]
  ·rw [zE hge,Tm.Ge] at hR
   obtain ⟨hR1,hR2,hR3⟩:=hR
   have hR1:acc=_:=hR1
   rw [←hR1]
   rcases zC l.length acc.length with q1 | q1
   ·have d1:=Ar q1
    simp (disch:=omega) only [go_sem,Ab,hni,d1]
   ·have d1:=Aj (zO.2 q1)
    simp (disch:=omega) only [go_sem,Ab,hni,d1]
 | true =>
  rw [hsb] at hvs
  simp only [cond_true] at hvs
  have h1:=FO l x.name (by omega)
  have e:B7 l x.sy1=B7 (Gu l x.name) (Tm.Ge x.args):=by rw [hvs]; rfl
  rw [e]
  cases hm:dec (x.name∈l) with
  | true =>
   have e2:Gu l x.name=l:=by unfold Gu; rw [hm]; rfl
   rw [hm] at h1
   rw [e2]
   have hgl:dec (l.length < l.length)=false:=Aj (by omega)
   have hl1:True:=trivial
   refine Ai Fy Cj (of_decide_eq_true rfl) ?_
   simp (disch:=omega) only [DU,go_sem,Ab,hsb,h1,Be,GF,A6]
   refine go_loop (α:=Int × (List ByteArray)) (fun a=>⟨slots 34 0 [(0,(bif dec (l.length < (a.2).length) then .ref 1 else .ref 0)),(23,.arr (x.args.map Tm.d)),(24,.int .i64 x.args.length),(25,.int .i64 (a.1))],(bif dec (l.length < (a.2).length) then [.gone,.row 9 1 ((a.2).map fun s=>[OT.str s])] else [.row 9 1 ((a.2).map fun s=>[OT.str s])])⟩) (fun a=>∃ k:Nat,a.1=k∧k≤(x.args).length∧B7 (a.2) (Tm.Ge (x.args.drop k))=B7 l (Tm.Ge x.args)∧(a.2).length+Tm.nodeS (x.args.drop k)≤4194304∧l.length≤(a.2).length) (fun a=>(x.args).length - (a.1).toNat) (0,l) ⟨0,rfl,zK _,by rw [zF],by rw [zF]; dsimp only; omega,by simp⟩ (by simp (disch:=omega) only [go_sem,Ab,hgl,hl1]) ?_
   rintro ⟨i,acc⟩ ⟨k,hi,hk,hR⟩
   dsimp only at hi hR
   have hni:i.toNat=k:=by omega
   have hni1:(i+1).toNat=k+1:=by omega
   rcases zC k (x.args).length with hlt | hge
   ·have hg:=get_at Tm.d hlt
    rw [Tm.d_eq] at hg
    obtain ⟨hR1,hR2,hR3⟩:=hR
    rw [zA hlt,Tm.Ge,GM] at hR1
    rw [zA hlt,Tm.nodeS] at hR2
    have hc:=ih x.args[k] (zI hlt) acc (by omega)
    have hlen:=DI x.args[k].sy1 acc
    have hgr:=E6 x.args[k].sy1 acc
    have hvl:=Tm.JX x.args[k]
    obtain ⟨acc2,ha2⟩:∃ a,a=B7 acc x.args[k].sy1:=⟨_,rfl⟩
    rw [←ha2] at hc hlen hgr hR1
    rcases zC l.length acc.length with q1 | q1 <;> rcases zC acc.length acc2.length with q2 | q2
    all_goals
     first
      |rw [Ar q2] at hc
      |rw [Aj (zO.2 q2)] at hc
     simp only [cond_true,cond_false] at hc
     first
      |have d1:=Ar q1
      |have d1:=Aj (zO.2 q1)
     first
      |have d2:dec (l.length < acc2.length)=true:=Ar (by omega)
      |have d2:dec (l.length < acc2.length)=false:=Aj (by omega)
     simp (disch:=omega) only [go_sem,Ab,hni,hg,hc,d1,Cj]
     refine ⟨(i+1,acc2),⟨k+1,by dsimp only; omega,hlt,hR1,by dsimp only; omega,by dsimp only; omega⟩,by dsimp only; omega,?_⟩
     first | done | simp (disch:=omega) only [go_sem,Ab,d2]
   ·rw [zE hge,Tm.Ge] at hR
    obtain ⟨hR1,hR2,hR3⟩:=hR
    have hR1:acc=_:=hR1
    rw [←hR1]
    rcases zC l.length acc.length with q1 | q1
    ·have d1:=Ar q1
     simp (disch:=omega) only [go_sem,Ab,hni,d1]
    ·have d1:=Aj (zO.2 q1)
     simp (disch:=omega) only [go_sem,Ab,hni,d1]
  | false =>
   have e2:Gu l x.name=l++[x.name]:=by unfold Gu; rw [hm]; rfl
   have hl1:(l.map fun s=>[OT.str s])++[[OT.str x.name]]=(l++[x.name]).map fun s=>[OT.str s]:=by simp
   rw [hm] at h1
   rw [e2]
   have hgl:dec (l.length < (l++[x.name]).length)=true:=Ar (by simp)
   have hll:(l++[x.name]).length=l.length+1:=by simp
   refine Ai Fy Cj (of_decide_eq_true rfl) ?_
   simp (disch:=omega) only [DU,go_sem,Ab,hsb,h1,hl1,Be,GF,A6]
   refine go_loop (α:=Int × (List ByteArray)) (fun a=>⟨slots 34 0 [(0,(bif dec (l.length < (a.2).length) then .ref 1 else .ref 0)),(23,.arr (x.args.map Tm.d)),(24,.int .i64 x.args.length),(25,.int .i64 (a.1))],(bif dec (l.length < (a.2).length) then [.gone,.row 9 1 ((a.2).map fun s=>[OT.str s])] else [.row 9 1 ((a.2).map fun s=>[OT.str s])])⟩) (fun a=>∃ k:Nat,a.1=k∧k≤(x.args).length∧B7 (a.2) (Tm.Ge (x.args.drop k))=B7 (l++[x.name]) (Tm.Ge x.args)∧(a.2).length+Tm.nodeS (x.args.drop k)≤4194304∧l.length≤(a.2).length) (fun a=>(x.args).length - (a.1).toNat) (0,(l++[x.name])) ⟨0,rfl,zK _,by rw [zF],by rw [zF]; dsimp only; omega,by simp⟩ (by simp (disch:=omega) only [go_sem,Ab,hgl,hl1]) ?_
   rintro ⟨i,acc⟩ ⟨k,hi,hk,hR⟩
   dsimp only at hi hR
   have hni:i.toNat=k:=by omega
   have hni1:(i+1).toNat=k+1:=by omega
   rcases zC k (x.args).length with hlt | hge
   ·have hg:=get_at Tm.d hlt
    rw [Tm.d_eq] at hg
    obtain ⟨hR1,hR2,hR3⟩:=hR
    rw [zA hlt,Tm.Ge,GM] at hR1
    rw [zA hlt,Tm.nodeS] at hR2
    have hc:=ih x.args[k] (zI hlt) acc (by omega)
    have hlen:=DI x.args[k].sy1 acc
    have hgr:=E6 x.args[k].sy1 acc
    have hvl:=Tm.JX x.args[k]
    obtain ⟨acc2,ha2⟩:∃ a,a=B7 acc x.args[k].sy1:=⟨_,rfl⟩
    rw [←ha2] at hc hlen hgr hR1
    rcases zC l.length acc.length with q1 | q1 <;> rcases zC acc.length acc2.length with q2 | q2
    all_goals
     first
      |rw [Ar q2] at hc
      |rw [Aj (zO.2 q2)] at hc
     simp only [cond_true,cond_false] at hc
     first
      |have d1:=Ar q1
      |have d1:=Aj (zO.2 q1)
     first
      |have d2:dec (l.length < acc2.length)=true:=Ar (by omega)
      |have d2:dec (l.length < acc2.length)=false:=Aj (by omega)
     simp (disch:=omega) only [go_sem,Ab,hni,hg,hc,d1,Cj]
     refine ⟨(i+1,acc2),⟨k+1,by dsimp only; omega,hlt,hR1,by dsimp only; omega,by dsimp only; omega⟩,by dsimp only; omega,?_⟩
     first | done | simp (disch:=omega) only [go_sem,Ab,d2]
   ·rw [zE hge,Tm.Ge] at hR
    obtain ⟨hR1,hR2,hR3⟩:=hR
    have hR1:acc=_:=hR1
    rw [←hR1]
    rcases zC l.length acc.length with q1 | q1
    ·have d1:=Ar q1
     simp (disch:=omega) only [go_sem,Ab,hni,d1]
    ·have d1:=Aj (zO.2 q1)
     simp (disch:=omega) only [go_sem,Ab,hni,d1]
theorem TX (x:Tm):SyC x:=XD x fun y hy=>TX y
termination_by SizeOf.sizeOf x
decreasing_by exact Tm.lt_of_mem hy
def Hd:SC:=(.seq (.reg [⟨some 1,none,.boxv 29 5 (.t 0)⟩,⟨some 2,none,.mv (.c .nil)⟩]) (.seq (.seq (.reg [⟨some 6,none,.faddr 0 (.t 1)⟩,⟨some 7,none,.load false 1 (.t 6)⟩,⟨some 8,none,.bin .eql false (.t 7) (.c (.int .i64 3))⟩]) (.cond (.t 8) (.seq (.reg [⟨some 9,none,.faddr 1 (.t 1)⟩,⟨some 10,none,.load true 2 (.t 9)⟩,⟨(some 11),none,(.mkrow 26 2 [(.str ⟨#[]⟩),.nil] 1 [(0,(.t 10))])⟩,⟨some 2,none,.mv (.t 11)⟩]) .ret) .skip)) (.seq (.reg [⟨(some 12),none,(.mkrow 26 2 [(.str ⟨#[]⟩),.nil] 0 [])⟩,⟨some 3,none,.mv (.t 12)⟩]) (.seq (.seq (.reg [⟨some 13,none,.faddr 4 (.t 1)⟩,⟨some 14,none,.load false 1 (.t 13)⟩,⟨some 15,none,.len false (.t 14)⟩,⟨some 16,none,.mv (.c (.int .i64 0))⟩]) (.block 0 (.loop [0,0,0,1,0,0,0,0,0,0,0,0,0,0,1,1,1,0,0,0,0,0,0,0,0,0] (.seq (.reg [⟨some 17,none,.bin .lss false (.t 16) (.t 15)⟩]) (.seq (.cond (.t 17) .skip (.exit 0)) (.seq (.block 1 (.seq (.reg [⟨some 18,none,.iaddr 5 (.t 14) (.t 16)⟩,⟨some 19,none,.load true 5 (.t 18)⟩,⟨(some 5),none,(.alloc 29 [(.int .i64 0),(.str ⟨#[]⟩),.nil,(.str ⟨#[]⟩),.nil])⟩,⟨none,none,(.store 5 (.t 5) (.t 19))⟩]) (.reg [⟨some 20,none,.mv (.t 3)⟩,⟨some 21,none,.load true 5 (.t 5)⟩,⟨some 22,none,.call 84 [(.t 21)]⟩,⟨(some 23),none,(.append 26 2 40 [(.str ⟨#[]⟩),.nil] (.t 20) (.t 22))⟩,⟨some 3,none,.mv (.t 23)⟩]))) (.reg [⟨some 24,none,.bin .add false (.t 16) (.c (.int .i64 1))⟩,⟨some 16,none,.mv (.t 24)⟩]))))))) (.seq (.reg [⟨some 25,none,.mv (.t 3)⟩,⟨some 2,none,.mv (.t 25)⟩]) .ret)))))
theorem J2:At Tryz.prog 84=some ⟨26,Hd,[(.tmp 2)]⟩:=by kernel_rfl
theorem ET:modes 84=⟨[],.frz,none,false⟩:=by unfold modes; rfl
theorem Tm.Qcm (l:List Tm):OT.erss (l.map (fun t:Tm=>t.d.map D.ot))=l.map Tm.d:=by
 induction l with
 | nil=>rfl
 | cons t l ih=>rw [zL,OT.erss,ih,zL,Tm.d_eq]; rfl
theorem Tm.Qcn (l:List Tm):OT.AA (l.map (fun t:Tm=>t.d.map D.ot))=true:=by
 induction l with
 | nil=>rfl
 | cons t l ih=>rw [zL,OT.AA,ih,Tm.d_eq]; rfl
theorem Tm.Qco (l:List Tm):((l.map Tm.d).all fun x=>x.length == 2)=true:=by
 rw [List.all_map,yV]
 intro x _
 show ((x.d).length == 2)=true
 rw [Tm.d_eq]; rfl
theorem Tm.QbD (l:List Tm):((l.map (fun t:Tm=>t.d.map D.ot)).all fun x=>x.length == 2)=true:=by
 rw [List.all_map,yV]
 intro x _
 show ((x.d.map D.ot).length == 2)=true
 rw [Tm.d_eq]; rfl
abbrev AtC (x:Fm):Prop:=E 84 [x.sv] []=some (.arr (x.ats.map Tm.d),[])
theorem VC (x:Fm) (hn:x.vn≤4194304) (hln:Fm.nodeS x.parts≤4194304) (ih:∀ y∈x.parts,AtC y):AtC x:=by
 unfold AtC
 have hxs:x.sv=.agg [.int .i64 x.op,.str x.atom.name,.arr (x.atom.args.map Tm.d),.str x.var,.arr (x.parts.map Fm.d)]:=rfl
 have has:x.atom.sv=.agg [.str x.atom.name,.arr (x.atom.args.map Tm.d)]:=rfl
 have hpl:=Fm.length_le x.parts
 have hne:=Fm.Kq x
 have hae:=Fm.VA x
 cases ho:dec (x.op=3) with
 | true =>
  rw [ho,cond_true] at hae
  rw [hae]
  have h1:[x.atom].map Tm.d=[[D.str x.atom.name,D.arr (x.atom.args.map Tm.d)]]:=by rw [zL,zH,Tm.d_eq]
  rw [h1]
  refine Ai J2 ET (of_decide_eq_true rfl) ?_
  simp (disch:=omega) only [Hd,go_sem,Ab,ho]
 | false =>
  rw [ho,cond_false] at hae
  rw [hae]
  have hz0:([]:List Tm).map (fun t:Tm=>t.d.map D.ot)=[]:=rfl
  refine Ai J2 ET (of_decide_eq_true rfl) ?_
  simp (disch:=omega) only [Hd,go_sem,Ab,ho]
  refine go_loop (α:=Int × (List Tm)) (fun a=>⟨slots 26 0 [(3,.ref 0),(14,.arr (x.parts.map Fm.d)),(15,.int .i64 x.parts.length),(16,.int .i64 (a.1))],[.row 26 2 ((a.2).map (fun t:Tm=>t.d.map D.ot))]⟩) (fun a=>∃ k:Nat,a.1=k∧k≤(x.parts).length∧(a.2)++Fm.MN (x.parts.drop k)=Fm.MN x.parts) (fun a=>(x.parts).length-(a.1).toNat) (0,[]) ⟨0,rfl,zK _,by rw [zF]; rfl⟩ (by simp (disch:=omega) only [go_sem,Ab,hz0]) ?_
  rintro ⟨i,acc⟩ ⟨k,hi,hk,hR⟩
  dsimp only at hi hR
  have hni:i.toNat=k:=by omega
  have hni1:(i+1).toNat=k+1:=by omega
  rcases zC k (x.parts).length with hlt | hge
  ·have hg:=get_at Fm.d hlt
   rw [Fm.d_eq] at hg
   rw [zA hlt,Fm.MN,← zP] at hR
   have hc:=ih x.parts[k] (zI hlt)
   unfold AtC at hc
   have hps:x.parts[k].sv=.agg [.int .i64 x.parts[k].op,.str x.parts[k].atom.name,.arr (x.parts[k].atom.args.map Tm.d),.str x.parts[k].var,.arr (x.parts[k].parts.map Fm.d)]:=rfl
   rw [hps] at hc
   have hbf:(x.parts[k].ats.map Tm.d).map (fun x=>x.map D.ot)=x.parts[k].ats.map (fun t:Tm=>t.d.map D.ot):=by rw [yC]; rfl
   have hap:acc.map (fun t:Tm=>t.d.map D.ot)++x.parts[k].ats.map (fun t:Tm=>t.d.map D.ot)=(acc++x.parts[k].ats).map (fun t:Tm=>t.d.map D.ot):=by rw [zQ]
   have hal:=Tm.Qco x.parts[k].ats
   have hal2:=Tm.QbD x.parts[k].ats
   have hat:x.ats.length≤4194304:=by
    have:=Fm.JY x
    have h2:x.ats.length≤Tm.nodeS x.ats:=Tm.length_le x.ats
    omega
   rw [hae] at hat
   have hlen:=congrArg List.length hR
   rw [zD,zD] at hlen
   simp (disch:=omega) only [go_sem,Ab,hni,hg,hc,hbf,hap,hal,hal2,ET]
   refine ⟨(i+1,acc++x.parts[k].ats),⟨k+1,by dsimp only; omega,hlt,hR⟩,by dsimp only; omega,?_⟩
   first | trivial | rfl | simp (disch:=omega) only [go_sem,Ab]
  ·rw [zE hge,Fm.MN,zR] at hR
   have hR:acc=_:=hR
   rw [←hR]
   have her:=Tm.Qcm acc
   have hfu:=Tm.Qcn acc
   simp (disch:=omega) only [go_sem,Ab,hni,her,hfu]
theorem Rd (x:Fm) (hn:x.vn≤4194304) (hnn:x.nodes≤4194304):AtC x :=
 VC x hn (by have:=Fm.nodes_eq x; omega) fun y hy=>Rd y (by have h1:=Fm.Kq x; have h2:=Fm.Z4 hy; omega) (by have:=Fm.nodes_mem hy; have:=Fm.nodes_eq x; omega)
termination_by SizeOf.sizeOf x
decreasing_by exact Fm.lt_of_mem hy
def Ir:SC:=(.seq (.reg [⟨some 3,none,.boxv 29 5 (.t 1)⟩,⟨some 4,none,.mv (.c .nil)⟩]) (.seq (.seq (.reg [⟨some 7,none,.load true 5 (.t 3)⟩,⟨some 8,none,.call 84 [(.t 7)]⟩,⟨some 9,none,.len false (.t 8)⟩,⟨some 10,none,.mv (.c (.int .i64 0))⟩]) (.block 0 (.loop [1,0,0,0,0,0,0,0,1,1,1,0,0,0,0,0,0,0,0] (.seq (.reg [⟨some 11,none,.bin .lss false (.t 10) (.t 9)⟩]) (.seq (.cond (.t 11) .skip (.exit 0)) (.seq (.block 1 (.seq (.reg [⟨some 12,none,.iaddr 2 (.t 8) (.t 10)⟩,⟨some 13,none,.load true 2 (.t 12)⟩,⟨(some 6),none,(.alloc 26 [(.str ⟨#[]⟩),.nil])⟩,⟨none,none,(.store 2 (.t 6) (.t 13))⟩]) (.reg [⟨some 14,none,.mv (.t 0)⟩,⟨some 15,none,.load true 2 (.t 6)⟩,⟨some 16,none,.call 85 [(.t 14),(.t 15)]⟩,⟨some 0,none,.mv (.t 16)⟩]))) (.reg [⟨some 17,none,.bin .add false (.t 10) (.c (.int .i64 1))⟩,⟨some 10,none,.mv (.t 17)⟩]))))))) (.seq (.reg [⟨some 18,none,.mv (.t 0)⟩,⟨some 4,none,.mv (.t 18)⟩]) .ret)))
theorem MO:At Tryz.prog 43=some ⟨19,Ir,[(.tmp 4)]⟩:=by kernel_rfl
theorem Ck:modes 43=⟨[true],.own [some (9,1)],none,false⟩:=by unfold modes; rfl
theorem TY (x:Fm) (hn:x.vn≤1000000) (hnn:x.nodes≤1000000) (l:List ByteArray) (hl:l.length+x.vn≤4194304):E 43 [.ref 0,x.sv] [.row 9 1 (l.map fun s=>[OT.str s])]=some ((bif dec (l.length < (B7 l (syA x.ats)).length) then .ref 1 else .ref 0),(bif dec (l.length < (B7 l (syA x.ats)).length) then [.gone,.row 9 1 ((B7 l (syA x.ats)).map fun s=>[OT.str s])] else [.row 9 1 ((B7 l (syA x.ats)).map fun s=>[OT.str s])])):=by
 have hac:=Rd x (by omega) (by omega)
 unfold AtC at hac
 have hxs:x.sv=.agg [.int .i64 x.op,.str x.atom.name,.arr (x.atom.args.map Tm.d),.str x.var,.arr (x.parts.map Fm.d)]:=rfl
 have han:=Fm.JY x
 have hgl:dec (l.length < l.length)=false:=Aj (by omega)
 obtain ⟨xs,hxs2⟩:∃ xs,xs=x.ats:=⟨_,rfl⟩
 rw [←hxs2] at hac han ⊢
 have hll:=Tm.length_le xs
 refine Ai MO Ck (of_decide_eq_true rfl) ?_
 simp (disch:=omega) only [Ir,go_sem,Ab,hac,ET]
 refine go_loop (α:=Int × (List ByteArray)) (fun a=>⟨slots 19 0 [(0,(bif dec (l.length < (a.2).length) then .ref 1 else .ref 0)),(8,.arr (xs.map Tm.d)),(9,.int .i64 xs.length),(10,.int .i64 (a.1))],(bif dec (l.length < (a.2).length) then [.gone,.row 9 1 ((a.2).map fun s=>[OT.str s])] else [.row 9 1 ((a.2).map fun s=>[OT.str s])])⟩) (fun a=>∃ k:Nat,a.1=k∧k≤(xs).length∧B7 (a.2) (syA (xs.drop k))=B7 l (syA xs)∧(a.2).length+Tm.nodeS (xs.drop k)≤4194304∧l.length≤(a.2).length) (fun a=>(xs).length - (a.1).toNat) (0,l) ⟨0,rfl,zK _,by rw [zF],by rw [zF]; dsimp only; omega,yZ _⟩ (by simp (disch:=omega) only [go_sem,Ab,hgl]) ?_
 rintro ⟨i,acc⟩ ⟨k,hi,hk,hR⟩
 dsimp only at hi hR
 have hni:i.toNat=k:=by omega
 have hni1:(i+1).toNat=k+1:=by omega
 rcases zC k (xs).length with hlt | hge
 ·have hg:=get_at Tm.d hlt
  rw [Tm.d_eq] at hg
  obtain ⟨hR1,hR2,hR3⟩:=hR
  rw [zA hlt] at hR1
  have hR1:B7 acc (xs[k].sy1++syA (xs.drop (k+1)))=B7 l (syA xs):=hR1
  rw [GM] at hR1
  rw [zA hlt,Tm.nodeS] at hR2
  have hc:=TX xs[k] acc (by omega)
  have hts:xs[k].sv=.agg [.str xs[k].name,.arr (xs[k].args.map Tm.d)]:=rfl
  have hlen:=DI xs[k].sy1 acc
  have hgr:=E6 xs[k].sy1 acc
  have hvl:=Tm.JX xs[k]
  obtain ⟨acc2,ha2⟩:∃ a,a=B7 acc xs[k].sy1:=⟨_,rfl⟩
  rw [←ha2] at hc hlen hgr hR1
  rcases zC l.length acc.length with q1 | q1 <;> rcases zC acc.length acc2.length with q2 | q2
  all_goals
   first
    |rw [Ar q2] at hc
    |rw [Aj (zO.2 q2)] at hc
   simp only [cond_true,cond_false] at hc
   first
    |have d1:=Ar q1
    |have d1:=Aj (zO.2 q1)
   first
    |have d2:dec (l.length < acc2.length)=true:=Ar (by omega)
    |have d2:dec (l.length < acc2.length)=false:=Aj (by omega)
   simp (disch:=omega) only [go_sem,Ab,hni,hg,hc,d1,Cj]
   refine ⟨(i+1,acc2),⟨k+1,by dsimp only; omega,hlt,hR1,by dsimp only; omega,by dsimp only; omega⟩,by dsimp only; omega,?_⟩
   first | done | simp (disch:=omega) only [go_sem,Ab,d2]
 ·rw [zE hge] at hR
  obtain ⟨hR1,hR2,hR3⟩:=hR
  have hR1:acc=_:=hR1
  rw [←hR1]
  rcases zC l.length acc.length with q1 | q1
  ·have d1:=Ar q1
   simp (disch:=omega) only [go_sem,Ab,hni,d1]
  ·have d1:=Aj (zO.2 q1)
   simp (disch:=omega) only [go_sem,Ab,hni,d1]
def DV:SC:=(.seq (.reg [⟨some 3,none,.boxv 26 2 (.t 1)⟩,⟨some 4,none,.mv (.c .nil)⟩]) (.seq (.seq (.reg [⟨some 6,none,.faddr 0 (.t 3)⟩,⟨some 7,none,.load false 1 (.t 6)⟩,⟨some 8,none,.call 176 [(.t 7)]⟩,⟨some 9,none,.un .not (.t 8)⟩,⟨some 10,none,.mv (.t 9)⟩,⟨(some 11),(some (10,true)),(.faddr 0 (.t 3))⟩,⟨(some 12),(some (10,true)),(.load false 1 (.t 11))⟩,⟨(some 13),(some (10,true)),(.bin .neq false (.t 12) (.c (.str ⟨#[]⟩)))⟩,⟨some 14,none,.pick (.t 10) (.t 13) (.c (.bool false))⟩]) (.cond (.t 14) (.reg [⟨some 15,none,.mv (.t 0)⟩,⟨some 16,none,.faddr 0 (.t 3)⟩,⟨some 17,none,.load false 1 (.t 16)⟩,⟨(some 18),none,(.mkrow 9 1 [(.str ⟨#[]⟩)] 1 [(0,(.t 17))])⟩,⟨(some 19),none,(.append 9 1 16 [(.str ⟨#[]⟩)] (.t 15) (.t 18))⟩,⟨some 0,none,.mv (.t 19)⟩]) .skip)) (.seq (.seq (.reg [⟨some 5,none,.mv (.c (.int .i64 0))⟩]) (.block 0 (.loop [1,0,0,1,0,1,0,0,0,0,0,0,0,0,0,0,0,0,0,0,0,0,0,0,0,0,0,0,0,0,0,0,0,0,0] (.seq (.seq (.reg [⟨some 20,none,.mv (.t 5)⟩,⟨some 21,none,.faddr 1 (.t 3)⟩,⟨some 22,none,.load false 1 (.t 21)⟩,⟨some 23,none,.len false (.t 22)⟩,⟨some 24,none,.bin .lss false (.t 20) (.t 23)⟩]) (.cond (.t 24) .skip (.exit 0))) (.seq (.block 1 (.reg [⟨some 27,none,.mv (.t 0)⟩,⟨some 28,none,.faddr 1 (.t 3)⟩,⟨some 29,none,.load false 1 (.t 28)⟩,⟨some 30,none,.mv (.t 5)⟩,⟨some 31,none,.iaddr 2 (.t 29) (.t 30)⟩,⟨some 32,none,.load true 2 (.t 31)⟩,⟨some 33,none,.call 137 [(.t 27),(.t 32)]⟩,⟨some 0,none,.mv (.t 33)⟩])) (.reg [⟨some 25,none,.mv (.t 5)⟩,⟨some 26,none,.bin .add false (.t 25) (.c (.int .i64 1))⟩,⟨some 5,none,.mv (.t 26)⟩])))))) (.seq (.reg [⟨some 34,none,.mv (.t 0)⟩,⟨some 4,none,.mv (.t 34)⟩]) .ret))))
theorem Fz:At Tryz.prog 137=some ⟨35,DV,[(.tmp 4)]⟩:=by kernel_rfl
theorem Cm:modes 137=⟨[true],.asis,none,false⟩:=by unfold modes; rfl
abbrev SzC (x:Tm):Prop:=∀ l:List ByteArray,l.length+x.nodes≤4194304→E 137 [.ref 0,x.sv] [.row 9 1 (l.map fun s=>[OT.str s])]=some ((bif dec (l.length<(l++x.sy2).length) then .ref 1 else .ref 0),(bif dec (l.length<(l++x.sy2).length) then [.gone,.row 9 1 ((l++x.sy2).map fun s=>[OT.str s])] else [.row 9 1 ((l++x.sy2).map fun s=>[OT.str s])]))
theorem Si (x:Tm) (ih:∀ y∈x.args,SzC y):SzC x:=by
 intro l hn
 have hxs:x.sv=.agg [.str x.name,.arr (x.args.map Tm.d)]:=rfl
 have hl:=Tm.length_le x.args
 have hne:=Tm.nodes_eq x
 have hvs:=Tm.sy2_eq x
 have hv:=DB x.name
 have hgl0:dec (l.length < l.length)=false:=Aj (by omega)
 cases hvv:AS x.name with
 | true =>
  rw [hvv] at hvs
  simp only [yU,z8,cond_false,zJ] at hvs
  rw [hvs]
  have hgl:=hgl0
  have hl1:True:=trivial
  refine Ai Fz Cm (of_decide_eq_true rfl) ?_
  simp (disch:=omega) only [DV,go_sem,Ab,hv,hvv,Al]
  refine go_loop (α:=Int × (List ByteArray)) (fun a=>⟨slots 35 0 [(0,(bif dec (l.length < (a.2).length) then .ref 1 else .ref 0)),(3,(bif dec (l.length < (a.2).length) then .ptr 2 0 else .ptr 1 0)),(5,.int .i64 (a.1))],(bif dec (l.length < (a.2).length) then [.gone,.row 9 1 ((a.2).map fun s=>[OT.str s]),.box 26 [.str x.name,.arr (x.args.map Tm.d)]] else [.row 9 1 ((a.2).map fun s=>[OT.str s]),.box 26 [.str x.name,.arr (x.args.map Tm.d)]])⟩) (fun a=>∃ k:Nat,a.1=k∧k≤(x.args).length∧(a.2)++Tm.sy2L (x.args.drop k)=l++Tm.sy2L x.args∧(a.2).length+Tm.nodeS (x.args.drop k)≤4194304∧l.length≤(a.2).length) (fun a=>(x.args).length - (a.1).toNat) (0,l) ⟨0,rfl,zK _,by rw [zF],by rw [zF]; dsimp only; omega,by simp⟩ (by simp (disch:=omega) only [go_sem,Ab,hgl,hl1]) ?_
  rintro ⟨i,acc⟩ ⟨k,hi,hk,hR⟩
  dsimp only at hi hR
  have hni:i.toNat=k:=by omega
  have hni1:(i+1).toNat=k+1:=by omega
  rcases zC k (x.args).length with hlt | hge
  ·have hg:=get_at Tm.d hlt
   rw [Tm.d_eq] at hg
   obtain ⟨hR1,hR2,hR3⟩:=hR
   rw [zA hlt,Tm.sy2L,← zP] at hR1
   rw [zA hlt,Tm.nodeS] at hR2
   have hc:=ih x.args[k] (zI hlt) acc (by omega)
   have hgr:(acc++x.args[k].sy2).length=acc.length+x.args[k].sy2.length:=zD
   have hvl:=Tm.sy2_len x.args[k]
   obtain ⟨acc2,ha2⟩:∃ a,a=acc++x.args[k].sy2:=⟨_,rfl⟩
   rw [←ha2] at hc hgr hR1
   rcases zC l.length acc.length with q1 | q1 <;> rcases zC acc.length acc2.length with q2 | q2
   all_goals
    first
     |rw [Ar q2] at hc
     |rw [Aj (zO.2 q2)] at hc
    simp only [cond_true,cond_false] at hc
    first
     |have d1:=Ar q1
     |have d1:=Aj (zO.2 q1)
    first
     |have d2:dec (l.length < acc2.length)=true:=Ar (by omega)
     |have d2:dec (l.length < acc2.length)=false:=Aj (by omega)
    simp (disch:=omega) only [go_sem,Ab,hni,hg,hc,d1,Cm]
    refine ⟨(i+1,acc2),⟨k+1,by dsimp only; omega,hlt,hR1,by dsimp only; omega,by dsimp only; omega⟩,by dsimp only; omega,?_⟩
    first | done | simp (disch:=omega) only [go_sem,Ab,d2]
  ·rw [zE hge,Tm.sy2L,zR] at hR
   obtain ⟨hR1,hR2,hR3⟩:=hR
   have hR1:acc=_:=hR1
   rw [←hR1]
   rcases zC l.length acc.length with q1 | q1
   ·have d1:=Ar q1
    simp (disch:=omega) only [go_sem,Ab,hni,d1]
   ·have d1:=Aj (zO.2 q1)
    simp (disch:=omega) only [go_sem,Ab,hni,d1]
 | false =>
  rw [hvv] at hvs
  by_cases h0:x.name=⟨#[]⟩
  ·have d0:dec (x.name=⟨#[]⟩)=true:=Ar h0
   rw [d0] at hvs
   simp only [yG,yU,yY,cond_false,zJ] at hvs
   rw [hvs]
   have hgl:=hgl0
   have hl1:True:=trivial
   refine Ai Fz Cm (of_decide_eq_true rfl) ?_
   simp (disch:=omega) only [DV,go_sem,Ab,hv,hvv,d0,hl1,Al]
   refine go_loop (α:=Int × (List ByteArray)) (fun a=>⟨slots 35 0 [(0,(bif dec (l.length < (a.2).length) then .ref 1 else .ref 0)),(3,(bif dec (l.length < (a.2).length) then .ptr 2 0 else .ptr 1 0)),(5,.int .i64 (a.1))],(bif dec (l.length < (a.2).length) then [.gone,.row 9 1 ((a.2).map fun s=>[OT.str s]),.box 26 [.str x.name,.arr (x.args.map Tm.d)]] else [.row 9 1 ((a.2).map fun s=>[OT.str s]),.box 26 [.str x.name,.arr (x.args.map Tm.d)]])⟩) (fun a=>∃ k:Nat,a.1=k∧k≤(x.args).length∧(a.2)++Tm.sy2L (x.args.drop k)=l++Tm.sy2L x.args∧(a.2).length+Tm.nodeS (x.args.drop k)≤4194304∧l.length≤(a.2).length) (fun a=>(x.args).length - (a.1).toNat) (0,l) ⟨0,rfl,zK _,by rw [zF],by rw [zF]; dsimp only; omega,by simp⟩ (by simp (disch:=omega) only [go_sem,Ab,hgl,hl1]) ?_
   rintro ⟨i,acc⟩ ⟨k,hi,hk,hR⟩
   dsimp only at hi hR
   have hni:i.toNat=k:=by omega
   have hni1:(i+1).toNat=k+1:=by omega
   rcases zC k (x.args).length with hlt | hge
   ·have hg:=get_at Tm.d hlt
    rw [Tm.d_eq] at hg
    obtain ⟨hR1,hR2,hR3⟩:=hR
    rw [zA hlt,Tm.sy2L,← zP] at hR1
    rw [zA hlt,Tm.nodeS] at hR2
    have hc:=ih x.args[k] (zI hlt) acc (by omega)
    have hgr:(acc++x.args[k].sy2).length=acc.length+x.args[k].sy2.length:=zD
    have hvl:=Tm.sy2_len x.args[k]
    obtain ⟨acc2,ha2⟩:∃ a,a=acc++x.args[k].sy2:=⟨_,rfl⟩
    rw [←ha2] at hc hgr hR1
    rcases zC l.length acc.length with q1 | q1 <;> rcases zC acc.length acc2.length with q2 | q2
    all_goals
     first
      |rw [Ar q2] at hc
      |rw [Aj (zO.2 q2)] at hc
     simp only [cond_true,cond_false] at hc
     first
      |have d1:=Ar q1
      |have d1:=Aj (zO.2 q1)
     first
      |have d2:dec (l.length < acc2.length)=true:=Ar (by omega)
      |have d2:dec (l.length < acc2.length)=false:=Aj (by omega)
     simp (disch:=omega) only [go_sem,Ab,hni,hg,hc,d1,Cm]
     refine ⟨(i+1,acc2),⟨k+1,by dsimp only; omega,hlt,hR1,by dsimp only; omega,by dsimp only; omega⟩,by dsimp only; omega,?_⟩
     first | done | simp (disch:=omega) only [go_sem,Ab,d2]
   ·rw [zE hge,Tm.sy2L,zR] at hR
    obtain ⟨hR1,hR2,hR3⟩:=hR
    have hR1:acc=_:=hR1
    rw [←hR1]
    rcases zC l.length acc.length with q1 | q1
    ·have d1:=Ar q1
     simp (disch:=omega) only [go_sem,Ab,hni,d1]
    ·have d1:=Aj (zO.2 q1)
     simp (disch:=omega) only [go_sem,Ab,hni,d1]
  ·have d0:dec (x.name=⟨#[]⟩)=false:=Aj h0
   rw [d0] at hvs
   simp only [yG,yJ,cond_true] at hvs
   rw [hvs,← zP]
   have hl1:(l.map fun s=>[OT.str s])++[[OT.str x.name]]=(l++[x.name]).map fun s=>[OT.str s]:=by simp
   have hgl:dec (l.length < (l++[x.name]).length)=true:=Ar (by simp)
   have hll:(l++[x.name]).length=l.length+1:=by simp
   refine Ai Fz Cm (of_decide_eq_true rfl) ?_
   simp (disch:=omega) only [DV,go_sem,Ab,hv,hvv,d0,hl1,Al]
   refine go_loop (α:=Int × (List ByteArray)) (fun a=>⟨slots 35 0 [(0,(bif dec (l.length < (a.2).length) then .ref 1 else .ref 0)),(3,(bif dec (l.length < (a.2).length) then .ptr 2 0 else .ptr 1 0)),(5,.int .i64 (a.1))],(bif dec (l.length < (a.2).length) then [.gone,.row 9 1 ((a.2).map fun s=>[OT.str s]),.box 26 [.str x.name,.arr (x.args.map Tm.d)]] else [.row 9 1 ((a.2).map fun s=>[OT.str s]),.box 26 [.str x.name,.arr (x.args.map Tm.d)]])⟩) (fun a=>∃ k:Nat,a.1=k∧k≤(x.args).length∧(a.2)++Tm.sy2L (x.args.drop k)=(l++[x.name])++Tm.sy2L x.args∧(a.2).length+Tm.nodeS (x.args.drop k)≤4194304∧l.length≤(a.2).length) (fun a=>(x.args).length - (a.1).toNat) (0,(l++[x.name])) ⟨0,rfl,zK _,by rw [zF],by rw [zF]; dsimp only; omega,by simp⟩ (by simp (disch:=omega) only [go_sem,Ab,hgl,hl1]) ?_
   rintro ⟨i,acc⟩ ⟨k,hi,hk,hR⟩
   dsimp only at hi hR
   have hni:i.toNat=k:=by omega
   have hni1:(i+1).toNat=k+1:=by omega
   rcases zC k (x.args).length with hlt | hge
   ·have hg:=get_at Tm.d hlt
    rw [Tm.d_eq] at hg
    obtain ⟨hR1,hR2,hR3⟩:=hR
    rw [zA hlt,Tm.sy2L,← zP] at hR1
    rw [zA hlt,Tm.nodeS] at hR2
    have hc:=ih x.args[k] (zI hlt) acc (by omega)
    have hgr:(acc++x.args[k].sy2).length=acc.length+x.args[k].sy2.length:=zD
    have hvl:=Tm.sy2_len x.args[k]
    obtain ⟨acc2,ha2⟩:∃ a,a=acc++x.args[k].sy2:=⟨_,rfl⟩
    rw [←ha2] at hc hgr hR1
    rcases zC l.length acc.length with q1 | q1 <;> rcases zC acc.length acc2.length with q2 | q2
    all_goals
     first
      |rw [Ar q2] at hc
      |rw [Aj (zO.2 q2)] at hc
     simp only [cond_true,cond_false] at hc
     first
      |have d1:=Ar q1
      |have d1:=Aj (zO.2 q1)
     first
      |have d2:dec (l.length < acc2.length)=true:=Ar (by omega)
      |have d2:dec (l.length < acc2.length)=false:=Aj (by omega)
     simp (disch:=omega) only [go_sem,Ab,hni,hg,hc,d1,Cm]
     refine ⟨(i+1,acc2),⟨k+1,by dsimp only; omega,hlt,hR1,by dsimp only; omega,by dsimp only; omega⟩,by dsimp only; omega,?_⟩
     first | done | simp (disch:=omega) only [go_sem,Ab,d2]
   ·rw [zE hge,Tm.sy2L,zR] at hR
    obtain ⟨hR1,hR2,hR3⟩:=hR
    have hR1:acc=_:=hR1
    rw [←hR1]
    rcases zC l.length acc.length with q1 | q1
    ·have d1:=Ar q1
     simp (disch:=omega) only [go_sem,Ab,hni,d1]
    ·have d1:=Aj (zO.2 q1)
     simp (disch:=omega) only [go_sem,Ab,hni,d1]
theorem Nu (x:Tm):SzC x:=Si x fun y hy=>Nu y
termination_by SizeOf.sizeOf x
decreasing_by exact Tm.lt_of_mem hy
def J3:SC:=(.seq (.reg [⟨some 3,none,.boxv 29 5 (.t 1)⟩,⟨some 4,none,.mv (.c .nil)⟩]) (.seq (.reg [⟨some 6,none,.mv (.t 0)⟩,⟨some 7,none,.faddr 1 (.t 3)⟩,⟨some 8,none,.load true 2 (.t 7)⟩,⟨some 9,none,.call 137 [(.t 6),(.t 8)]⟩,⟨some 0,none,.mv (.t 9)⟩]) (.seq (.seq (.reg [⟨some 5,none,.mv (.c (.int .i64 0))⟩]) (.block 0 (.loop [1,0,0,1,0,1,0,0,0,0,0,0,0,0,0,0,0,0,0,0,0,0,0,0,0] (.seq (.seq (.reg [⟨some 10,none,.mv (.t 5)⟩,⟨some 11,none,.faddr 4 (.t 3)⟩,⟨some 12,none,.load false 1 (.t 11)⟩,⟨some 13,none,.len false (.t 12)⟩,⟨some 14,none,.bin .lss false (.t 10) (.t 13)⟩]) (.cond (.t 14) .skip (.exit 0))) (.seq (.block 1 (.reg [⟨some 17,none,.mv (.t 0)⟩,⟨some 18,none,.faddr 4 (.t 3)⟩,⟨some 19,none,.load false 1 (.t 18)⟩,⟨some 20,none,.mv (.t 5)⟩,⟨some 21,none,.iaddr 5 (.t 19) (.t 20)⟩,⟨some 22,none,.load true 5 (.t 21)⟩,⟨some 23,none,.call 96 [(.t 17),(.t 22)]⟩,⟨some 0,none,.mv (.t 23)⟩])) (.reg [⟨some 15,none,.mv (.t 5)⟩,⟨some 16,none,.bin .add false (.t 15) (.c (.int .i64 1))⟩,⟨some 5,none,.mv (.t 16)⟩])))))) (.seq (.reg [⟨some 24,none,.mv (.t 0)⟩,⟨some 4,none,.mv (.t 24)⟩]) .ret))))
theorem Pz:At Tryz.prog 96=some ⟨25,J3,[(.tmp 4)]⟩:=by kernel_rfl
theorem EU:modes 96=⟨[true],.asis,none,false⟩:=by unfold modes; rfl
abbrev NmC (x:Fm):Prop:=∀ l:List ByteArray,l.length+x.vn≤4194304→E 96 [.ref 0,x.sv] [.row 9 1 (l.map fun s=>[OT.str s])]=some ((bif dec (l.length<(l++x.sy2).length) then .ref 1 else .ref 0),(bif dec (l.length<(l++x.sy2).length) then [.gone,.row 9 1 ((l++x.sy2).map fun s=>[OT.str s])] else [.row 9 1 ((l++x.sy2).map fun s=>[OT.str s])]))
theorem VD (x:Fm) (hnn:Fm.nodeS x.parts≤4194304) (ih:∀ y∈x.parts,NmC y):NmC x:=by
 intro l hn
 have hxs:x.sv=.agg [.int .i64 x.op,.str x.atom.name,.arr (x.atom.args.map Tm.d),.str x.var,.arr (x.parts.map Fm.d)]:=rfl
 have has:x.atom.sv=.agg [.str x.atom.name,.arr (x.atom.args.map Tm.d)]:=rfl
 have hpl:=Fm.length_le x.parts
 have hne:=Fm.Kq x
 have hvs:=Fm.sy2_eq x
 rw [hvs,← zP]
 have hs:=Nu x.atom l (by omega)
 have hal:=Tm.sy2_len x.atom
 have hll:(l++x.atom.sy2).length=l.length+x.atom.sy2.length:=zD
 rw [has] at hs
 obtain ⟨l1,hl1⟩:∃ l1,l1=l++x.atom.sy2:=⟨_,rfl⟩
 rw [←hl1] at hs hll ⊢
 rcases zC l.length l1.length with q0 | q0
 all_goals
  first
   |have hgl:dec (l.length < l1.length)=true:=Ar q0
   |have hgl:dec (l.length < l1.length)=false:=Aj (zO.2 q0)
  rw [hgl] at hs
  simp only [cond_true,cond_false] at hs
  refine Ai Pz EU (of_decide_eq_true rfl) ?_
  simp (disch:=omega) only [J3,go_sem,Ab,hs,Cm]
  refine go_loop (α:=Int × (List ByteArray)) (fun a=>⟨slots 25 0 [(0,(bif dec (l.length < (a.2).length) then .ref 1 else .ref 0)),(3,(bif dec (l.length < (a.2).length) then .ptr 2 0 else .ptr 1 0)),(5,.int .i64 (a.1))],(bif dec (l.length < (a.2).length) then [.gone,.row 9 1 ((a.2).map fun s=>[OT.str s]),.box 29 [.int .i64 x.op,.str x.atom.name,.arr (x.atom.args.map Tm.d),.str x.var,.arr (x.parts.map Fm.d)]] else [.row 9 1 ((a.2).map fun s=>[OT.str s]),.box 29 [.int .i64 x.op,.str x.atom.name,.arr (x.atom.args.map Tm.d),.str x.var,.arr (x.parts.map Fm.d)]])⟩) (fun a=>∃ k:Nat,a.1=k∧k≤(x.parts).length∧(a.2)++Fm.sy2L (x.parts.drop k)=l1++Fm.sy2L x.parts∧(a.2).length+Fm.vnS (x.parts.drop k)≤4194304∧l.length≤(a.2).length) (fun a=>(x.parts).length - (a.1).toNat) (0,l1) ⟨0,rfl,zK _,by rw [zF],by rw [zF]; dsimp only; omega,by dsimp only; omega⟩ (by simp (disch:=omega) only [go_sem,Ab,hgl]) ?_
  rintro ⟨i,acc⟩ ⟨k,hi,hk,hR⟩
  dsimp only at hi hR
  have hni:i.toNat=k:=by omega
  have hni1:(i+1).toNat=k+1:=by omega
  rcases zC k (x.parts).length with hlt | hge
  ·have hg:=get_at Fm.d hlt
   rw [Fm.d_eq] at hg
   obtain ⟨hR1,hR2,hR3⟩:=hR
   rw [zA hlt,Fm.sy2L,← zP] at hR1
   rw [zA hlt,Fm.vnS] at hR2
   have hc:=ih x.parts[k] (zI hlt) acc (by omega)
   have hgr:(acc++x.parts[k].sy2).length=acc.length+x.parts[k].sy2.length:=zD
   have hvl:=Fm.sy2_len x.parts[k]
   obtain ⟨acc2,ha2⟩:∃ a,a=acc++x.parts[k].sy2:=⟨_,rfl⟩
   rw [←ha2] at hc hgr hR1
   rcases zC l.length acc.length with q1 | q1 <;> rcases zC acc.length acc2.length with q2 | q2
   all_goals
    first
     |rw [Ar q2] at hc
     |rw [Aj (zO.2 q2)] at hc
    simp only [cond_true,cond_false] at hc
    first
     |have d1:=Ar q1
     |have d1:=Aj (zO.2 q1)
    first
     |have d2:dec (l.length < acc2.length)=true:=Ar (by omega)
     |have d2:dec (l.length < acc2.length)=false:=Aj (by omega)
    simp (disch:=omega) only [go_sem,Ab,hni,hg,hc,d1,EU]
    refine ⟨(i+1,acc2),⟨k+1,by dsimp only; omega,hlt,hR1,by dsimp only; omega,by dsimp only; omega⟩,by dsimp only; omega,?_⟩
    first | done | simp (disch:=omega) only [go_sem,Ab,d2]
  ·rw [zE hge,Fm.sy2L,zR] at hR
   obtain ⟨hR1,hR2,hR3⟩:=hR
   have hR1:acc=_:=hR1
   rw [←hR1]
   rcases zC l.length acc.length with q1 | q1
   ·have d1:=Ar q1
    simp (disch:=omega) only [go_sem,Ab,hni,d1]
   ·have d1:=Aj (zO.2 q1)
    simp (disch:=omega) only [go_sem,Ab,hni,d1]
theorem JZ (x:Fm) (hnn:x.nodes≤4194304):NmC x:=VD x (by have:=Fm.nodes_eq x; omega) fun y hy=>JZ y (by have:=Fm.nodes_mem hy; have:=Fm.nodes_eq x; omega)
termination_by SizeOf.sizeOf x
decreasing_by exact Fm.lt_of_mem hy
def DP:SC:=(.seq (.reg [⟨some 2,none,.boxv 29 5 (.t 0)⟩,⟨some 4,none,.mv (.c (.bool false))⟩]) (.seq (.seq (.reg [⟨some 6,none,.faddr 0 (.t 2)⟩,⟨some 7,none,.load false 1 (.t 6)⟩,⟨some 8,none,.bin .eql false (.t 7) (.c (.int .i64 9))⟩,⟨some 9,none,.mv (.t 8)⟩,⟨(some 10),(some (9,true)),(.mv (.t 1))⟩,⟨(some 11),(some (9,true)),(.bin .gtr false (.t 10) (.c (.int .i64 4)))⟩,⟨some 12,none,.pick (.t 9) (.t 11) (.c (.bool false))⟩]) (.cond (.t 12) (.seq (.reg [⟨some 4,none,.mv (.c (.bool false))⟩]) .ret) .skip)) (.seq (.seq (.reg [⟨some 13,none,.faddr 0 (.t 2)⟩,⟨some 14,none,.load false 1 (.t 13)⟩,⟨some 15,none,.bin .eql false (.t 14) (.c (.int .i64 8))⟩]) (.cond (.t 15) (.reg [⟨some 16,none,.mv (.t 1)⟩,⟨some 17,none,.bin .add false (.t 16) (.c (.int .i64 1))⟩,⟨some 1,none,.mv (.t 17)⟩]) .skip)) (.seq (.seq (.reg [⟨some 5,none,.mv (.c (.int .i64 0))⟩]) (.block 0 (.loop [0,1,1,0,0,1,0,0,0,0,0,0,0,0,0,0,0,0,0,0,0,0,0,0,0,0,0,0,0,0,0,0,0] (.seq (.seq (.reg [⟨some 18,none,.mv (.t 5)⟩,⟨some 19,none,.faddr 4 (.t 2)⟩,⟨some 20,none,.load false 1 (.t 19)⟩,⟨some 21,none,.len false (.t 20)⟩,⟨some 22,none,.bin .lss false (.t 18) (.t 21)⟩]) (.cond (.t 22) .skip (.exit 0))) (.seq (.block 1 (.seq (.reg [⟨some 25,none,.faddr 4 (.t 2)⟩,⟨some 26,none,.load false 1 (.t 25)⟩,⟨some 27,none,.mv (.t 5)⟩,⟨some 28,none,.iaddr 5 (.t 26) (.t 27)⟩,⟨some 29,none,.load true 5 (.t 28)⟩,⟨some 30,none,.mv (.t 1)⟩,⟨some 31,none,.call 97 [(.t 29),(.t 30)]⟩,⟨some 32,none,.un .not (.t 31)⟩]) (.cond (.t 32) (.seq (.reg [⟨some 4,none,.mv (.c (.bool false))⟩]) .ret) .skip))) (.reg [⟨some 23,none,.mv (.t 5)⟩,⟨some 24,none,.bin .add false (.t 23) (.c (.int .i64 1))⟩,⟨some 5,none,.mv (.t 24)⟩])))))) (.seq (.reg [⟨some 4,none,.mv (.c (.bool true))⟩]) .ret)))))
theorem EV:At Tryz.prog 97=some ⟨33,DP,[(.tmp 4)]⟩:=by kernel_rfl
theorem Bz:modes 97=⟨[],.asis,none,false⟩:=by unfold modes; rfl
abbrev ArC (x:Fm):Prop:=∀ n:Nat,n+x.nodes≤4194304→∀ m:Int,m=n→E 97 [x.sv,.int .i64 m] []=some (.bool (!x.bad n),[])
theorem VE (x:Fm) (ih0:∀ y∈x.parts,ArC y):ArC x:=by
 intro n hn m hm
 have hxs:x.sv=.agg [.int .i64 x.op,.str x.atom.name,.arr (x.atom.args.map Tm.d),.str x.var,.arr (x.parts.map Fm.d)]:=rfl
 have hpl:=Fm.length_le x.parts
 have hnq:=Fm.nodes_eq x
 have hbe:=Fm.Ze x n
 by_cases h9:x.op=9
 ·have o9:dec (x.op=9)=true:=Ar h9
  have o8:dec (x.op=8)=false:=Aj (by omega)
  rw [o9,o8] at hbe
  simp only [y2,cond_false] at hbe
  by_cases h4:4<n
  ·have d4:dec ((4:Int)<m)=true:=Ar (by omega)
   rw [Ar h4,yM] at hbe
   rw [hbe]
   refine Ai EV Bz (of_decide_eq_true rfl) ?_
   simp (disch:=omega) only [DP,go_sem,Ab,o8,o9,d4]
  ·have d4:dec ((4:Int)<m)=false:=Aj (by omega)
   rw [Aj h4,zX] at hbe
   rw [hbe]
   obtain ⟨n1,hn1⟩:∃ n1,n1=n:=⟨_,rfl⟩
   obtain ⟨m1,hm1⟩:∃ m1,m1=m:=⟨_,rfl⟩
   have ih:∀ y∈x.parts,∀ n:Nat,n+y.nodes≤4194304→E 97 [y.sv,.int .i64 m1] []=some (.bool (!y.bad n1),[]):=fun y hy _ _=>ih0 y hy n1 (by have:=Fm.nodes_mem hy; omega) m1 (by omega)
   rw [←hn1,← hm1]
   rw [←hm1] at d4
   refine Ai EV Bz (of_decide_eq_true rfl) ?_
   simp (disch:=omega) only [DP,go_sem,Ab,o8,o9,d4]
   refine go_loop (α:=Int) (fun a=>⟨slots 33 0 [(1,.int .i64 m1),(2,.ptr 0 0),(5,.int .i64 a)],[.box 29 [.int .i64 x.op,.str x.atom.name,.arr (x.atom.args.map Tm.d),.str x.var,.arr (x.parts.map Fm.d)]]⟩) (fun a=>∃ k:Nat,a=k∧k≤(x.parts).length∧((x.parts.drop k).any fun y=>y.bad n1)=(x.parts.any fun y=>y.bad n1)) (fun a=>(x.parts).length-(a).toNat) 0 ⟨0,rfl,zK _,by rw [zF]⟩ (by simp (disch:=omega) only [go_sem,Ab]) ?_
   rintro i ⟨k,hi,hk,hR⟩
   have hni:i.toNat=k:=by omega
   have hni1:(i+1).toNat=k+1:=by omega
   rcases zC k (x.parts).length with hlt | hge
   ·have hg:=get_at Fm.d hlt
    rw [Fm.d_eq] at hg
    have hle:=Fm.nodes_le x.parts k hlt
    have hc:=ih x.parts[k] (zI hlt) 0 (by omega)
    rw [zA hlt,yS] at hR
    cases hp:x.parts[k].bad n1 with
    | true =>
     rw [hp] at hc hR
     rw [yM] at hR
     rw [←hR]
     simp (disch:=omega) only [go_sem,Ab,hni,hg,hc,Bz]
    | false =>
     rw [hp] at hc hR
     rw [zX] at hR
     simp (disch:=omega) only [go_sem,Ab,hni,hg,hc,Bz]
     exact ⟨i+1,⟨k+1,by omega,hlt,hR⟩,by omega,by first | trivial | rfl⟩
   ·rw [zE hge,List.any_nil] at hR
    rw [←hR]
    simp (disch:=omega) only [go_sem,Ab,hni]
 have o9:dec (x.op=9)=false:=Aj h9
 by_cases h8:x.op=8
 ·have o8:dec (x.op=8)=true:=Ar h8
  rw [o9,o8] at hbe
  simp only [z8,zX,cond_true] at hbe
  rw [hbe]
  obtain ⟨n1,hn1⟩:∃ n1,n1=n+1:=⟨_,rfl⟩
  obtain ⟨m1,hm1⟩:∃ m1,m1=m+1:=⟨_,rfl⟩
  have ih:∀ y∈x.parts,∀ n:Nat,n+y.nodes≤4194304→E 97 [y.sv,.int .i64 m1] []=some (.bool (!y.bad n1),[]):=fun y hy _ _=>ih0 y hy n1 (by have:=Fm.nodes_mem hy; omega) m1 (by omega)
  rw [←hn1]
  refine Ai EV Bz (of_decide_eq_true rfl) ?_
  simp (disch:=omega) only [DP,go_sem,Ab,o8,o9,← hm1]
  refine go_loop (α:=Int) (fun a=>⟨slots 33 0 [(1,.int .i64 m1),(2,.ptr 0 0),(5,.int .i64 a)],[.box 29 [.int .i64 x.op,.str x.atom.name,.arr (x.atom.args.map Tm.d),.str x.var,.arr (x.parts.map Fm.d)]]⟩) (fun a=>∃ k:Nat,a=k∧k≤(x.parts).length∧((x.parts.drop k).any fun y=>y.bad n1)=(x.parts.any fun y=>y.bad n1)) (fun a=>(x.parts).length-(a).toNat) 0 ⟨0,rfl,zK _,by rw [zF]⟩ (by simp (disch:=omega) only [go_sem,Ab]) ?_
  rintro i ⟨k,hi,hk,hR⟩
  have hni:i.toNat=k:=by omega
  have hni1:(i+1).toNat=k+1:=by omega
  rcases zC k (x.parts).length with hlt | hge
  ·have hg:=get_at Fm.d hlt
   rw [Fm.d_eq] at hg
   have hle:=Fm.nodes_le x.parts k hlt
   have hc:=ih x.parts[k] (zI hlt) 0 (by omega)
   rw [zA hlt,yS] at hR
   cases hp:x.parts[k].bad n1 with
   | true =>
    rw [hp] at hc hR
    rw [yM] at hR
    rw [←hR]
    simp (disch:=omega) only [go_sem,Ab,hni,hg,hc,Bz]
   | false =>
    rw [hp] at hc hR
    rw [zX] at hR
    simp (disch:=omega) only [go_sem,Ab,hni,hg,hc,Bz]
    exact ⟨i+1,⟨k+1,by omega,hlt,hR⟩,by omega,by first | trivial | rfl⟩
  ·rw [zE hge,List.any_nil] at hR
   rw [←hR]
   simp (disch:=omega) only [go_sem,Ab,hni]
 ·have o8:dec (x.op=8)=false:=Aj h8
  have d4:True:=trivial
  rw [o9,o8] at hbe
  simp only [z8,zX,cond_false] at hbe
  rw [hbe]
  obtain ⟨n1,hn1⟩:∃ n1,n1=n:=⟨_,rfl⟩
  obtain ⟨m1,hm1⟩:∃ m1,m1=m:=⟨_,rfl⟩
  have ih:∀ y∈x.parts,∀ n:Nat,n+y.nodes≤4194304→E 97 [y.sv,.int .i64 m1] []=some (.bool (!y.bad n1),[]):=fun y hy _ _=>ih0 y hy n1 (by have:=Fm.nodes_mem hy; omega) m1 (by omega)
  rw [←hn1,← hm1]
  refine Ai EV Bz (of_decide_eq_true rfl) ?_
  simp (disch:=omega) only [DP,go_sem,Ab,o8,o9,d4]
  refine go_loop (α:=Int) (fun a=>⟨slots 33 0 [(1,.int .i64 m1),(2,.ptr 0 0),(5,.int .i64 a)],[.box 29 [.int .i64 x.op,.str x.atom.name,.arr (x.atom.args.map Tm.d),.str x.var,.arr (x.parts.map Fm.d)]]⟩) (fun a=>∃ k:Nat,a=k∧k≤(x.parts).length∧((x.parts.drop k).any fun y=>y.bad n1)=(x.parts.any fun y=>y.bad n1)) (fun a=>(x.parts).length-(a).toNat) 0 ⟨0,rfl,zK _,by rw [zF]⟩ (by simp (disch:=omega) only [go_sem,Ab]) ?_
  rintro i ⟨k,hi,hk,hR⟩
  have hni:i.toNat=k:=by omega
  have hni1:(i+1).toNat=k+1:=by omega
  rcases zC k (x.parts).length with hlt | hge
  ·have hg:=get_at Fm.d hlt
   rw [Fm.d_eq] at hg
   have hle:=Fm.nodes_le x.parts k hlt
   have hc:=ih x.parts[k] (zI hlt) 0 (by omega)
   rw [zA hlt,yS] at hR
   cases hp:x.parts[k].bad n1 with
   | true =>
    rw [hp] at hc hR
    rw [yM] at hR
    rw [←hR]
    simp (disch:=omega) only [go_sem,Ab,hni,hg,hc,Bz]
   | false =>
    rw [hp] at hc hR
    rw [zX] at hR
    simp (disch:=omega) only [go_sem,Ab,hni,hg,hc,Bz]
    exact ⟨i+1,⟨k+1,by omega,hlt,hR⟩,by omega,by first | trivial | rfl⟩
  ·rw [zE hge,List.any_nil] at hR
   rw [←hR]
   simp (disch:=omega) only [go_sem,Ab,hni]
theorem MP (x:Fm):ArC x:=VE x fun y hy=>MP y
termination_by SizeOf.sizeOf x
decreasing_by exact Fm.lt_of_mem hy
def IJ:SC:=(.seq (.reg [⟨(some 2),none,(.mv (.c (.str ⟨#[]⟩)))⟩]) (.seq (.seq (.reg [⟨some 3,none,.mv (.t 0)⟩,⟨some 4,none,.bin .lss false (.t 3) (.c (.int .i64 0))⟩]) (.cond (.t 4) (.seq (.reg [⟨some 5,none,.mv (.t 0)⟩,⟨some 6,none,.un .neg (.t 5)⟩,⟨some 7,none,.call 178 [(.t 6)]⟩,⟨(some 8),none,(.bin .add false (.c (.str ⟨#[45]⟩)) (.t 7))⟩,⟨some 2,none,.mv (.t 8)⟩]) .ret) .skip)) (.seq (.seq (.reg [⟨some 9,none,.mv (.t 0)⟩,⟨some 10,none,.bin .lss false (.t 9) (.c (.int .i64 10))⟩]) (.cond (.t 10) (.seq (.reg [⟨some 11,none,.mv (.t 0)⟩,⟨some 12,none,.mv (.t 0)⟩,⟨some 13,none,.bin .add false (.t 12) (.c (.int .i64 1))⟩,⟨(some 14),none,(.slice true 0 (.c (.str ⟨#[48,49,50,51,52,53,54,55,56,57]⟩)) (some (.t 11)) (some (.t 13)))⟩,⟨some 2,none,.mv (.t 14)⟩]) .ret) .skip)) (.seq (.dreg [[],[0],[1,0],[],[3],[],[5],[6,5],[4,3,7,6,5],[2,1,0,8,4,3,7,6,5],[9,2,1,0,8,4,3,7,6,5]] [⟨some 15,none,.mv (.t 0)⟩,⟨some 16,none,.bin .quo false (.t 15) (.c (.int .i64 10))⟩,⟨some 17,none,.call 178 [(.t 16)]⟩,⟨some 18,none,.mv (.t 0)⟩,⟨some 19,none,.bin .rem false (.t 18) (.c (.int .i64 10))⟩,⟨some 20,none,.mv (.t 0)⟩,⟨some 21,none,.bin .rem false (.t 20) (.c (.int .i64 10))⟩,⟨some 22,none,.bin .add false (.t 21) (.c (.int .i64 1))⟩,⟨(some 23),none,(.slice true 0 (.c (.str ⟨#[48,49,50,51,52,53,54,55,56,57]⟩)) (some (.t 19)) (some (.t 22)))⟩,⟨some 24,none,.bin .add false (.t 17) (.t 23)⟩,⟨some 2,none,.mv (.t 24)⟩]) .ret))))
theorem LR:At Tryz.prog 178=some ⟨25,IJ,[(.tmp 2)]⟩:=by kernel_rfl
theorem EW:modes 178=⟨[],.asis,none,false⟩:=by unfold modes; rfl
theorem QaW (d:Nat) (h:d<10):(⟨#[48,49,50,51,52,53,54,55,56,57]⟩:ByteArray).extract d (d+1)=⟨#[UInt8.ofNat (48+d)]⟩:=by
 have key:∀ d:_root_.Fin 10,(⟨#[48,49,50,51,52,53,54,55,56,57]⟩:ByteArray).extract d.val (d.val+1)=⟨#[UInt8.ofNat (48+d.val)]⟩:=by decide +kernel
 exact key ⟨d,h⟩
theorem Z6 (n:Int) (h0:0≤n) (h1:n≤1099511627776) (ih:10≤n→E 178 [.int .i64 (n.tdiv 10)] []=some (.str (Jp (n.tdiv 10)),[])):E 178 [.int .i64 n] []=some (.str (Jp n),[]):=by
 have hsz:(⟨#[48,49,50,51,52,53,54,55,56,57]⟩:ByteArray).size=10:=rfl
 rcases Int.lt_or_le n 10 with h | h
 ·have e1:=QaW n.toNat (by omega)
  have e2:(n+1).toNat=n.toNat+1:=by omega
  rw [Vs h0 h]
  refine Ai LR EW (of_decide_eq_true rfl) ?_
  simp (disch:=omega) only [IJ,go_sem,Ab,e1,e2,hsz]
 ·have hc:=ih h
  have hq:n.tdiv 10=n / 10:=z6 h0
  have hr:n.tmod 10=n % 10:=Int.tmod_eq_emod_of_nonneg h0
  have hq2:0≤n.tdiv 10∧n.tdiv 10≤n:=by omega
  have hr2:0≤n.tmod 10∧n.tmod 10<10:=by omega
  have hs:=JN hq2.1 (by omega:n.tdiv 10≤1099511627776)
  have e1:=QaW (n.tmod 10).toNat (by omega)
  have e2:(n.tmod 10+1).toNat=(n.tmod 10).toNat+1:=by omega
  rw [YZ h]
  clear hq hr
  have hs1:(⟨#[UInt8.ofNat (48+(n.tmod 10).toNat)]⟩:ByteArray).size=1:=rfl
  refine Ai LR EW (of_decide_eq_true rfl) ?_
  simp (disch:=omega) only [IJ,go_sem,Ab,hc,e1,e2,hsz,hs1,EW]
theorem WE (n:Int) (h0:0≤n) (h1:n≤1099511627776):E 178 [.int .i64 n] []=some (.str (Jp n),[]) :=
 Z6 n h0 h1 fun h=>WE (n.tdiv 10) (by rw [z6 h0]; omega) (by rw [z6 h0]; omega)
termination_by n.toNat
decreasing_by rw [z6 h0]; omega
def Gp:SC:=(.seq (.reg [⟨(some 2),none,(.mv (.c (.str ⟨#[]⟩)))⟩]) (.block 0 (.loop [1,0,0,0,0,0,0,0,0,0,0,0,0,0,0,0,0,0,0,0,0,0,0,0,0,0,0,0,0] (.block 1 (.seq (.reg [⟨some 4,none,.mv (.t 0)⟩,⟨some 5,none,.nilchk (.t 4)⟩,⟨some 6,none,.faddr 1 (.t 5)⟩,⟨some 7,none,.load false 1 (.t 6)⟩,⟨some 8,none,.bin .add false (.t 7) (.c (.int .i64 1))⟩,⟨some 9,none,.nilchk (.t 4)⟩,⟨some 10,none,.faddr 1 (.t 9)⟩,⟨none,none,(.store 1 (.t 10) (.t 8))⟩]) (.seq (.dreg [[],[0],[1,0],[2,1,0],[],[4],[5,4],[6,5,4],[7,6,5,4],[3,2,1,0,8,7,6,5,4],[9,3,2,1,0,8,7,6,5,4]] [⟨some 11,none,.mv (.t 0)⟩,⟨some 12,none,.nilchk (.t 11)⟩,⟨some 13,none,.faddr 0 (.t 12)⟩,⟨some 14,none,.load false 1 (.t 13)⟩,⟨some 15,none,.mv (.t 0)⟩,⟨some 16,none,.nilchk (.t 15)⟩,⟨some 17,none,.faddr 1 (.t 16)⟩,⟨some 18,none,.load false 1 (.t 17)⟩,⟨some 19,none,.call 178 [(.t 18)]⟩,⟨some 20,none,.bin .add false (.t 14) (.t 19)⟩,⟨some 3,none,.mv (.t 20)⟩]) (.seq (.reg [⟨some 21,none,.mv (.t 0)⟩,⟨some 22,none,.nilchk (.t 21)⟩,⟨some 23,none,.faddr 2 (.t 22)⟩,⟨some 24,none,.load false 1 (.t 23)⟩,⟨some 25,none,.mv (.t 3)⟩,⟨some 26,none,.call 95 [(.t 24),(.t 25)]⟩,⟨some 27,none,.un .not (.t 26)⟩]) (.cond (.t 27) (.seq (.reg [⟨some 28,none,.mv (.t 3)⟩,⟨some 2,none,.mv (.t 28)⟩]) .ret) .skip))))))))
theorem Kc:At Tryz.prog 128=some ⟨29,Gp,[(.tmp 2)]⟩:=by kernel_rfl
theorem CX:modes 128=⟨[],.asis,none,false⟩:=by unfold modes; rfl
theorem Z7 (p:ByteArray) (hp:p.size≤1000) (tk:List ByteArray) (c:Int) (h0:0≤c) (hc:c+tk.length≤1099511600000):E 128 [.ptr 0 0] [.box 104 [.str p,.int .i64 c,.ref 1],.row 9 1 (tk.map fun s=>[OT.str s])]=some (.str (pre p (fresh p tk c)),[.box 104 [.str p,.int .i64 (fresh p tk c),.ref 1],.row 9 1 (tk.map fun s=>[OT.str s])]):=by
 have hfr:=C7 p tk c
 refine Ai Kc CX (of_decide_eq_true rfl) ?_
 simp (disch:=omega) only [Gp,go_sem,Ab]
 refine go_loop (α:=Int) (fun a=>⟨slots 29 0 [(0,.ptr 0 0)],[.box 104 [.str p,.int .i64 a,.ref 1],.row 9 1 (tk.map fun s=>[OT.str s])]⟩) (fun a=>c≤a∧fresh p tk a=fresh p tk c) (fun a=>beyond p tk a) c ⟨yK _,rfl⟩ (by simp (disch:=omega) only [go_sem,Ab]) ?_
 rintro a ⟨ha,hR⟩
 have hfa:=C7 p tk a
 rw [hR] at hfa
 have hit:=WE (a+1) (by omega) (by omega)
 have hns:=JN (show 0≤a+1 by omega) (by omega:a+1≤1099511627776)
 have hpre:p++Jp (a+1)=pre p (a+1):=rfl
 have hcn:=Vz tk (pre p (a+1)) (by omega)
 by_cases hm:pre p (a+1)∈tk
 ·rw [Ar hm] at hcn
  simp (disch:=omega) only [go_sem,Ab,hit,hpre,hcn,C4,EW,DM]
  exact ⟨a+1,⟨by omega,by rw [←QM (by omega) hm]; exact hR⟩,JU (by omega) hm,by first | trivial | rfl | exact ⟨rfl,rfl⟩⟩
 ·rw [Aj hm] at hcn
  have hnew:=QN hm
  rw [hR] at hnew
  rw [hnew]
  simp (disch:=omega) only [go_sem,Ab,hit,hpre,hcn,C4,EW,DM]
theorem LS {b c:Bd} {xs:List Bd}:c∈Ee xs b ↔ c=b∨c∈xs:=by rw [(Ii b xs).mem_iff,yT]
theorem WF {xs:List Bd} (hs:OZ xs) {b:Bd} (hn:∀ c∈xs,c.var≠b.var):OZ (Ee xs b):=by
 have h1:xs.Pairwise fun x y=>M7 x y=true:=by
  rw [yE]
  intro i j hi hj hij
  unfold M7
  rw [Jv (hs i j hij hj)]; rfl
 have h2:=Nn b xs h1
 have h3:((Ee xs b).map Bd.var).Nodup:=by
  rw [((Ii b xs).map Bd.var).nodup_iff,zL,List.nodup_cons]
  exact ⟨fun h=>by
   obtain ⟨c,hc,e⟩:=List.mem_map.1 h
   exact hn c hc e,Pg hs⟩
 intro j k hjk hk
 have a1:=yE.1 h2 j k (by omega) hk hjk
 unfold M7 at a1
 have a2:strLt (Ee xs b)[k].var (Ee xs b)[j].var=false:=by simpa using a1
 cases a3:strLt (Ee xs b)[j].var (Ee xs b)[k].var with
 | true=>rfl
 | false =>
  have e:=Ht a3 a2
  unfold List.Nodup at h3
  have h4:=yE.1 h3 j k (by rw [zM]; omega) (by rw [zM]; exact hk) hjk
  simp only [yI] at h4
  exact absurd e h4
theorem Z8 {s:Sb} (hs:OZ s.binds) {n:ByteArray} {t:Tm} (hn:s.look n=none):(Sb.mk (Ee s.binds ⟨n,t⟩)).look=GQ s.look n t:=by
 have hk:=(Sb.Ij hs).1 hn
 have hu:OZ (Ee s.binds ⟨n,t⟩):=WF hs hk
 funext q
 unfold GQ
 by_cases hq:q=n
 ·subst hq
  rw [Ar rfl,cond_true]
  exact Sb.Jx (s:=⟨Ee s.binds ⟨q,t⟩⟩) (b:=⟨q,t⟩) hu (LS.2 (.inl rfl))
 ·rw [Aj hq,cond_false]
  cases h:s.look q with
  | none =>
   rw [Sb.Ij (s:=⟨Ee s.binds ⟨n,t⟩⟩) hu]
   intro b hb
   rcases LS.1 hb with rfl | hb
   ·exact fun e=>hq e.symm
   ·exact (Sb.Ij hs).1 h b hb
  | some u=>exact Sb.Jx (s:=⟨Ee s.binds ⟨n,t⟩⟩) (b:=⟨q,u⟩) hu (LS.2 (.inr (Sb.T8 h)))
theorem Re (n:Int):AS (pre BL n)=false:=by
 cases h:AS (pre BL n) with
 | false=>rfl
 | true =>
  unfold AS at h
  rw [zT] at h
  have hsz:0<(pre BL n).size:=by unfold pre; rw [yH]; show 0<2+_; omega
  have h0:=GI h.1 hsz
  have hb:GC (pre BL n) 0=115:=by
   unfold GC pre
   rw [ByteArray.toList_eq,ByteArray.data_append,Array.toList_append]
   rfl
  unfold Ib N0 at h0
  rw [hb] at h0
  simp at h0
theorem Sb.QaD {s:Sb} {m:Nat} (hm:m≤1099511627776) (hs:OZ s.binds) (hl:s.binds.length≤1099511627776) (he:TB m s.look):s.tame:=⟨hl,fun b hb=>by have:=(he _ _ (Sb.Jx hs hb)).1; omega⟩
theorem TZ {x y:Fm} (hy:y∈x.parts):(∀ v∈y.qs,v∈x.qs)∧(x.qs.Nodup→y.qs.Nodup):=by
 have key:∀ xs:List Fm,y∈xs→y.qs.Sublist (Fm.qsL xs):=by
  intro xs
  induction xs with
  | nil=>intro h; cases h
  | cons z zs ih =>
   intro h
   rw [Fm.qsL]
   rcases yT.1 h with rfl | h
   ·exact List.sublist_append_left _ _
   ·exact (ih h).trans (yP _ _)
 have h:=key x.parts hy
 have h2:y.qs.Sublist x.qs:=by rw [Fm.Nr x]; exact h.trans (yP _ _)
 exact ⟨fun v hv=>h2.subset hv,fun hn=>h2.nodup hn⟩
def Dz:SC:=(.seq (.reg [⟨some 4,none,.boxv 29 5 (.t 0)⟩,⟨some 7,none,.boxv 119 1 (.t 3)⟩,⟨(some 8),none,(.alloc 29 [(.int .i64 0),(.str ⟨#[]⟩),.nil,(.str ⟨#[]⟩),.nil])⟩]) (.seq (.seq (.reg [⟨some 13,none,.faddr 0 (.t 4)⟩,⟨some 14,none,.load false 1 (.t 13)⟩]) (.block 0 (.seq (.reg [⟨some 16,none,.bin .eql false (.t 14) (.c (.int .i64 3))⟩,⟨some 15,none,.mv (.t 16)⟩]) (.cond (.t 15) (.seq (.dreg [[],[0],[],[],[3],[2,4,3],[1,0,5,2,4,3],[6,1,0,5,2,4,3]] [⟨some 17,none,.faddr 0 (.t 4)⟩,⟨some 18,none,.load false 1 (.t 17)⟩,⟨some 19,none,.load true 1 (.t 7)⟩,⟨some 20,none,.faddr 1 (.t 4)⟩,⟨some 21,none,.load true 2 (.t 20)⟩,⟨some 22,none,.call 138 [(.t 19),(.t 21)]⟩,⟨(some 23),none,(.build [(.int .i64 0),(.str ⟨#[]⟩),.nil,(.str ⟨#[]⟩),.nil] [(0,(1,(.t 18))),(1,(2,(.t 22)))])⟩,⟨none,none,(.store 5 (.t 8) (.t 23))⟩]) .ret) (.seq (.reg [⟨some 25,none,.bin .eql false (.t 14) (.c (.int .i64 9))⟩,⟨some 24,none,.mv (.t 25)⟩]) (.cond (.t 24) (.seq (.reg [⟨some 26,none,.mv (.t 1)⟩,⟨some 27,none,.call 128 [(.t 26)]⟩,⟨(some 28),none,(.build [(.str ⟨#[]⟩),.nil] [(0,(1,(.t 27)))])⟩,⟨(some 9),none,(.alloc 26 [(.str ⟨#[]⟩),.nil])⟩,⟨none,none,(.store 2 (.t 9) (.t 28))⟩]) (.seq (.seq (.reg [⟨some 10,none,.mv (.c (.int .i64 0))⟩]) (.block 1 (.loop [0,1,1,0,1,0,0,1,1,1,1,0,0,0,0,0,0,0,0,0,0,0,0,0,0,0,0,0,0,0,0,0,0,0,0,0,0,0,0,0,0,0,0,0,0,0,0,0,0,0,0,0,0,0,0,0,0,0,0,0,0,0,0,0,0,0,0,0,0,0,0,0,0,0,0,0,0,0,0,0,0,0,0,0,0,0,0,0,0,0,0,0,0] (.seq (.seq (.reg [⟨some 29,none,.mv (.t 10)⟩,⟨some 30,none,.mv (.t 2)⟩,⟨some 31,none,.len false (.t 30)⟩,⟨some 32,none,.bin .lss false (.t 29) (.t 31)⟩]) (.cond (.t 32) .skip (.exit 1))) (.seq (.block 2 (.dreg [[],[0],[],[],[2,3],[4,2,3],[5,4,2,3],[6,5,4,2,3],[1,0,7,6,5,4,2,3],[0,1,2,3,4,5,6,7,8],[9,0,1,2,3,4,5,6,7,8]] [⟨some 35,none,.faddr 1 (.t 9)⟩,⟨some 36,none,.load false 1 (.t 35)⟩,⟨some 37,none,.mv (.t 2)⟩,⟨some 38,none,.mv (.t 10)⟩,⟨some 39,none,.iaddr 1 (.t 37) (.t 38)⟩,⟨some 40,none,.load false 1 (.t 39)⟩,⟨(some 41),none,(.build [(.str ⟨#[]⟩),.nil] [(0,(1,(.t 40)))])⟩,⟨(some 42),none,(.mkrow 26 2 [(.str ⟨#[]⟩),.nil] 1 [(0,(.t 41))])⟩,⟨(some 43),none,(.append 26 2 40 [(.str ⟨#[]⟩),.nil] (.t 36) (.t 42))⟩,⟨some 44,none,.faddr 1 (.t 9)⟩,⟨none,none,(.store 1 (.t 44) (.t 43))⟩])) (.reg [⟨some 33,none,.mv (.t 10)⟩,⟨some 34,none,.bin .add false (.t 33) (.c (.int .i64 1))⟩,⟨some 10,none,.mv (.t 34)⟩])))))) (.seq (.dreg [[],[0],[1,0],[2,1,0],[],[],[],[],[7],[],[6,8,7,9],[3,2,1,0,4,5,10,6,8,7,9],[11,3,2,1,0,4,5,10,6,8,7,9]] [⟨some 45,none,.faddr 4 (.t 4)⟩,⟨some 46,none,.load false 1 (.t 45)⟩,⟨some 47,none,.iaddr 5 (.t 46) (.c (.int .i64 0))⟩,⟨some 48,none,.load true 5 (.t 47)⟩,⟨some 49,none,.mv (.t 1)⟩,⟨some 50,none,.mv (.t 2)⟩,⟨some 51,none,.load true 1 (.t 7)⟩,⟨some 52,none,.faddr 3 (.t 4)⟩,⟨some 53,none,.load false 1 (.t 52)⟩,⟨some 54,none,.load true 2 (.t 9)⟩,⟨some 55,none,.call 139 [(.t 51),(.t 53),(.t 54)]⟩,⟨some 56,none,.call 98 [(.t 48),(.t 49),(.t 50),(.t 55)]⟩,⟨none,none,(.store 5 (.t 8) (.t 56))⟩]) .ret))) (.seq (.reg [⟨some 58,none,.bin .eql false (.t 14) (.c (.int .i64 8))⟩,⟨some 57,none,.mv (.t 58)⟩]) (.cond (.t 57) (.dreg [[],[],[0,1],[],[3],[4,3],[2,0,1,5,4,3],[6,2,0,1,5,4,3]] [⟨(some 59),none,(.mkrow 9 1 [(.str ⟨#[]⟩)] 0 [])⟩,⟨some 60,none,.mv (.t 2)⟩,⟨(some 61),none,(.append 9 1 16 [(.str ⟨#[]⟩)] (.t 59) (.t 60))⟩,⟨some 62,none,.faddr 3 (.t 4)⟩,⟨some 63,none,.load false 1 (.t 62)⟩,⟨(some 64),none,(.mkrow 9 1 [(.str ⟨#[]⟩)] 1 [(0,(.t 63))])⟩,⟨(some 65),none,(.append 9 1 16 [(.str ⟨#[]⟩)] (.t 61) (.t 64))⟩,⟨some 2,none,.mv (.t 65)⟩]) .skip)))))))) (.seq (.reg [⟨some 66,none,.faddr 0 (.t 4)⟩,⟨some 67,none,.load false 1 (.t 66)⟩,⟨some 68,none,.faddr 3 (.t 4)⟩,⟨some 69,none,.load false 1 (.t 68)⟩,⟨(some 70),none,(.build [(.int .i64 0),(.str ⟨#[]⟩),.nil,(.str ⟨#[]⟩),.nil] [(0,(1,(.t 67))),(3,(1,(.t 69)))])⟩,⟨(some 11),none,(.alloc 29 [(.int .i64 0),(.str ⟨#[]⟩),.nil,(.str ⟨#[]⟩),.nil])⟩,⟨none,none,(.store 5 (.t 11) (.t 70))⟩]) (.seq (.seq (.reg [⟨some 12,none,.mv (.c (.int .i64 0))⟩]) (.block 3 (.loop [0,1,1,0,1,0,0,1,1,0,0,1,1,0,0,0,0,0,0,0,0,0,0,0,0,0,0,0,0,0,0,0,0,0,0,0,0,0,0,0,0,0,0,0,0,0,0,0,0,0,0,0,0,0,0,0,0,0,0,0,0,0,0,0,0,0,0,0,0,0,0,0,0,0,0,0,0,0,0,0,0,0,0,0,0,0,0,0,0,0,0,0,0] (.seq (.seq (.reg [⟨some 71,none,.mv (.t 12)⟩,⟨some 72,none,.faddr 4 (.t 4)⟩,⟨some 73,none,.load false 1 (.t 72)⟩,⟨some 74,none,.len false (.t 73)⟩,⟨some 75,none,.bin .lss false (.t 71) (.t 74)⟩]) (.cond (.t 75) .skip (.exit 3))) (.seq (.block 4 (.dreg [[],[0],[],[2],[],[3,2,4],[5,3,2,4],[],[],[],[6,5,3,2,4,7,8,9],[10,6,5,3,2,4,7,8,9],[1,0,11,10,6,5,3,2,4,7,8,9],[0,1,2,3,4,5,6,7,8,9,10,11,12],[13,0,1,2,3,4,5,6,7,8,9,10,11,12]] [⟨some 78,none,.faddr 4 (.t 11)⟩,⟨some 79,none,.load false 1 (.t 78)⟩,⟨some 80,none,.faddr 4 (.t 4)⟩,⟨some 81,none,.load false 1 (.t 80)⟩,⟨some 82,none,.mv (.t 12)⟩,⟨some 83,none,.iaddr 5 (.t 81) (.t 82)⟩,⟨some 84,none,.load true 5 (.t 83)⟩,⟨some 85,none,.mv (.t 1)⟩,⟨some 86,none,.mv (.t 2)⟩,⟨some 87,none,.load true 1 (.t 7)⟩,⟨some 88,none,.call 98 [(.t 84),(.t 85),(.t 86),(.t 87)]⟩,⟨(some 89),none,(.mkrow 29 5 [(.int .i64 0),(.str ⟨#[]⟩),.nil,(.str ⟨#[]⟩),.nil] 1 [(0,(.t 88))])⟩,⟨(some 90),none,(.append 29 5 88 [(.int .i64 0),(.str ⟨#[]⟩),.nil,(.str ⟨#[]⟩),.nil] (.t 79) (.t 89))⟩,⟨some 91,none,.faddr 4 (.t 11)⟩,⟨none,none,(.store 1 (.t 91) (.t 90))⟩])) (.reg [⟨some 76,none,.mv (.t 12)⟩,⟨some 77,none,.bin .add false (.t 76) (.c (.int .i64 1))⟩,⟨some 12,none,.mv (.t 77)⟩])))))) (.seq (.reg [⟨some 92,none,.load true 5 (.t 11)⟩,⟨none,none,(.store 5 (.t 8) (.t 92))⟩]) .ret)))))
theorem Et:At Tryz.prog 98=some ⟨93,Dz,[(.cell 8 true 5)]⟩:=by kernel_rfl
theorem B3:modes 98=⟨[],.frz,none,false⟩:=by unfold modes; rfl
abbrev SsE (tk fr:List ByteArray) (x:Fm) (ou:List ByteArray) (s:Sb) (e:TEnv) (c:Int):Prop:=E 98 [x.sv,.ptr 0 0,.arr ((fr++ou).map fun s=>[D.str s]),s.sv] [.box 104 [.str BL,.int .i64 c,.ref 1],.row 9 1 (tk.map fun s=>[OT.str s])]=some ((x.sk tk fr ou e c).1.sv,[.box 104 [.str BL,.int .i64 (x.sk tk fr ou e c).2,.ref 1],.row 9 1 (tk.map fun s=>[OT.str s])])
abbrev SsC (tk fr:List ByteArray) (x:Fm):Prop:=∀ (ou:List ByteArray) (s:Sb) (e:TEnv) (c:Int),s.fine→s.look=e→TB 1000001 e→x.qs.Nodup→(∀ v∈x.qs,e v=none)→s.binds.length+x.nodes≤1000000→fr.length+ou.length+x.nodes≤1000000→0≤c→c+x.nodes*(tk.length+2:Nat)≤1099511000000→SsE tk fr x ou s e c
theorem Ua (tk fr:List ByteArray) (x:Fm) (hx:x.forms=true) (ih:∀ y∈x.parts,SsC tk fr y):SsC tk fr x:=by
 intro ou s e c0 hs hse he hnd hqe hsl hb h0 hc0
 have hfo:=Fm.Bo hx
 have hpl:=Fm.length_le x.parts
 have hnq:=Fm.nodes_eq x
 have hat:=Fm.F4 hfo
 have hst:s.tame:=Sb.QaD (m:=1000001) (by omega) hs.1 (by omega) (by rw [hse]; exact he)
 have h10:((1:Int)=0)=False:=by simp
 have hxs:x.sv=.agg [.int .i64 x.op,.str x.atom.name,.arr (x.atom.args.map Tm.d),.str x.var,.arr (x.parts.map Fm.d)]:=rfl
 have has:x.atom.sv=.agg [.str x.atom.name,.arr (x.atom.args.map Tm.d)]:=rfl
 have hss:s.sv=.agg [.arr (s.binds.map Bd.d)]:=rfl
 have hz0:Tm.zero.name=⟨#[]⟩:=rfl
 have hz1:Tm.zero.args=[]:=rfl
 have hrs:∀ (op:Int) (a:Tm) (v:ByteArray) (ps:List Fm),(Fm.mk op a v ps).sv=.agg [.int .i64 op,.str a.name,.arr (a.args.map Tm.d),.str v,.arr (ps.map Fm.d)]:=fun _ _ _ _=>rfl
 have hxsk:∀ y:Fm,y.sv=.agg [.int .i64 y.op,.str y.atom.name,.arr (y.atom.args.map Tm.d),.str y.var,.arr (y.parts.map Fm.d)]:=fun _=>rfl
 rw [hnq,zV,z7] at hc0
 have hge1:((1:Nat):Int)*(tk.length+2:Nat)=tk.length+2:=by simp
 rw [hge1] at hc0
 have hgeS:(0:Int)≤(Fm.nodeS x.parts:Int)*(tk.length+2:Nat):=zW (by omega) (by omega)
 unfold SsE
 by_cases h3:x.op=3
 ·have o3:dec (x.op=3)=true:=Ar h3
  have hap:=QK s hs hst x.atom (by omega)
  rw [hse,← Tm.Qb0 he x.atom (Fm.CZ hfo h3).2.1,hss,has] at hap
  rw [Fm.F7 tk fr h3]
  obtain ⟨z,hz⟩:∃ z,z=x.atom.rv e:=⟨_,rfl⟩
  rw [←hz] at hap ⊢
  have hzs:z.sv=.agg [.str z.name,.arr (z.args.map Tm.d)]:=rfl
  rw [hzs] at hap
  dsimp only
  rw [hrs,← h3]
  refine Ai Et B3 (of_decide_eq_true rfl) ?_
  simp (disch:=omega) only [Dz,go_sem,Ab,o3,hap,Da]
 have o3:dec (x.op=3)=false:=Aj h3
 by_cases h9:x.op=9
 ·have o9:dec (x.op=9)=true:=Ar h9
  obtain ⟨hvx,p,hp⟩:=Fm.Bu hfo (by unfold qB; rw [o9]; simp)
  have hnp:Fm.nodeS x.parts=p.nodes:=by rw [hp]; simp [Fm.nodeS]
  have hlt0:0<x.parts.length:=by rw [hp]; simp
  have hg0:=get_at Fm.d hlt0
  have hx0:x.parts[0]=p:=by simp [hp]
  rw [hx0,Fm.d_eq] at hg0
  have hqx:x.qs=x.var :: p.qs:=by
   rw [Fm.Nr,hp]
   unfold qB
   rw [o9,Bool.or_true,cond_true,Fm.qsL,Fm.qsL,zR]; rfl
  have hfr:=C7 BL tk c0
  have hnx:=Z7 BL (by decide) tk c0 h0 (by omega)
  have hvn:=hqe x.var (by rw [hqx]; simp)
  have hpl2:=Z8 hs.1 (n:=x.var) (t:=skT tk fr ou c0) (by rw [hse]; exact hvn)
  rw [hse] at hpl2
  have hts:(skT tk fr ou c0).nodes≤1000001:=by
   unfold skT
   rw [Tm.nodes_eq]
   show 1+Tm.nodeS (vT (fr++ou))≤_
   rw [Jy,zD]; omega
  have hfine:(Sb.mk (Ee s.binds ⟨x.var,skT tk fr ou c0⟩)).fine:=⟨WF hs.1 ((Sb.Ij hs.1).1 (by rw [hse]; exact hvn)),fun b hb=>by
   rcases LS.1 hb with rfl | hb
   ·exact hvx
   ·exact hs.2 b hb⟩
  have hil:(Ee s.binds ⟨x.var,skT tk fr ou c0⟩).length=s.binds.length+1:=by rw [(Ii _ _).length_eq]; rfl
  rw [hqx,List.nodup_cons] at hnd
  have hc:=ih p (by rw [hp]; simp) ou ⟨Ee s.binds ⟨x.var,skT tk fr ou c0⟩⟩ (GQ e x.var (skT tk fr ou c0)) (fresh BL tk c0) hfine hpl2 (he.put hvx hts) hnd.2 (fun v hv=>by
   unfold GQ
   rw [Aj (fun e:v=x.var=>hnd.1 (by rw [←e]; exact hv)),cond_false]
   exact hqe v (by rw [hqx]; simp [hv])) (by show (Ee s.binds _).length+_≤_; omega) (by omega) (by omega) (by rw [←hnp]; omega)
  unfold SsE at hc
  have hpt:=Qa0 s x.var (skT tk fr ou c0) (by omega) (by omega)
  have hpe:s.put ⟨x.var,skT tk fr ou c0⟩=⟨Ee s.binds ⟨x.var,skT tk fr ou c0⟩⟩:=by
   unfold Sb.put
   rw [Aj (fun h=>by
    have h:pre BL (fresh BL tk c0)=x.var:=h
    have:=Re (fresh BL tk c0)
    rw [h,hvx] at this; cases this)]; rfl
  rw [hpe] at hpt
  rw [Fm.Gw tk fr h9 hp]
  obtain ⟨s1,hs1⟩:∃ s1,s1=Ee s.binds ⟨x.var,skT tk fr ou c0⟩:=⟨_,rfl⟩
  rw [←hs1] at hpt hc
  obtain ⟨e1,he1⟩:∃ e1,e1=GQ e x.var (skT tk fr ou c0):=⟨_,rfl⟩
  rw [←he1] at hc ⊢
  have hsv1:(Sb.mk s1).sv=.agg [.arr (s1.map Bd.d)]:=rfl
  rw [hsv1] at hpt hc
  have hskv:(skT tk fr ou c0).sv=.agg [.str (pre BL (fresh BL tk c0)),.arr ((vT (fr++ou)).map Tm.d)]:=rfl
  rw [hskv,hss] at hpt
  rw [hxsk] at hc
  obtain ⟨cf,hcf⟩:∃ cf,cf=fresh BL tk c0:=⟨_,rfl⟩
  rw [←hcf] at hnx hfr hc hpt ⊢
  obtain ⟨v,hv⟩:∃ v,v=pre BL cf:=⟨_,rfl⟩
  rw [←hv] at hnx hpt
  obtain ⟨r,hr⟩:∃ r,r=p.sk tk fr ou e1 cf:=⟨_,rfl⟩
  rw [←hr] at hc ⊢
  have hrv:r.1.sv=.agg [.int .i64 r.1.op,.str r.1.atom.name,.arr (r.1.atom.args.map Tm.d),.str r.1.var,.arr (r.1.parts.map Fm.d)]:=rfl
  rw [hrv] at hc ⊢
  have hol:(fr++ou).length≤1000000:=by rw [zD]; omega
  obtain ⟨o,ho⟩:∃ o,o=fr++ou:=⟨_,rfl⟩
  rw [←ho] at hc hpt hol ⊢
  have hvl:(vT o).length=o.length:=zM _
  refine Ai Et B3 (of_decide_eq_true rfl) ?_
  simp (disch:=omega) only [Dz,go_sem,Ab,o3,o9,hnx,CX]
  refine go_loop (α:=Int) (fun a=>⟨slots 93 0 [(1,.ptr 0 0),(2,.arr (o.map fun s=>[D.str s])),(4,.ptr 2 0),(7,.ptr 3 0),(8,.ptr 4 0),(9,.ptr 5 0),(10,.int .i64 a)],(if a=0 then [.box 104 [.str BL,.int .i64 cf,.ref 1],.row 9 1 (tk.map fun s=>[OT.str s]),.box 29 [.int .i64 x.op,.str x.atom.name,.arr (x.atom.args.map Tm.d),.str x.var,.arr (x.parts.map Fm.d)],.box 119 [.arr (s.binds.map Bd.d)],.box 29 [.int .i64 0,.str ⟨#[]⟩,.nil,.str ⟨#[]⟩,.nil],.box 26 [.str v,.nil]] else [.box 104 [.str BL,.int .i64 cf,.ref 1],.row 9 1 (tk.map fun s=>[OT.str s]),.box 29 [.int .i64 x.op,.str x.atom.name,.arr (x.atom.args.map Tm.d),.str x.var,.arr (x.parts.map Fm.d)],.box 119 [.arr (s.binds.map Bd.d)],.box 29 [.int .i64 0,.str ⟨#[]⟩,.nil,.str ⟨#[]⟩,.nil],.box 26 [.str v,.ref 6],.row 26 2 (((vT o).take a.toNat).map Tm.o)])⟩) (fun a=>∃ k:Nat,a=k∧k≤(o).length) (fun a=>(o).length-(a).toNat) 0 ⟨0,rfl,zK _⟩ (by simp (disch:=omega) only [go_sem,Ab,eq_self,if_true]) ?_
  rintro i ⟨k,hi,hk⟩
  have hni:i.toNat=k:=by omega
  have hni1:(i+1).toNat=k+1:=by omega
  rcases zC k (o).length with hlt | hge
  ·have hg:=get_at (fun s=>[D.str s]) hlt
   have hsn:((vT o).take k).map Tm.o++[[OT.str o[k],OT.ow []]]=((vT o).take (k+1)).map Tm.o:=by
    have hlv:k<(vT o).length:=by omega
    rw [zU hlv,zQ]
    rw [zL,zH,QaS hlt hlv]; rfl
   rcases zG k with h0 | h0
   ·subst h0
    obtain rfl:i=0:=hi
    rw [zZ,zH,zJ] at hsn
    simp (disch:=omega) only [go_sem,Ab,hni,hg,eq_self,if_true]
    refine ⟨1,⟨1,rfl,hlt⟩,by omega,?_⟩
    simp (disch:=omega) only [go_sem,Ab,h10,if_false,hsn]
   ·have hi0:(i=0)=False:=by simp; omega
    have hi1:(i+1=0)=False:=by simp; omega
    have htl:((vT o).take k).length=k:=by rw [zY]; omega
    simp (disch:=omega) only [go_sem,Ab,hni,hg,hi0,if_false,htl]
    refine ⟨i+1,⟨k+1,by omega,hlt⟩,by omega,?_⟩
    simp (disch:=omega) only [go_sem,Ab,hni1,hi1,if_false,hsn]
  ·obtain rfl:k=o.length:=by omega
   have ht:(vT o).take o.length=vT o:=yF (by omega)
   rcases zG o.length with h0 | h0
   ·have hon:o=[]:=zB h0
    obtain rfl:i=0:=by omega
    have hvn:(vT o).map Tm.d=[]:=by rw [hon]; rfl
    rw [hvn] at hpt
    simp (disch:=omega) only [go_sem,Ab,eq_self,if_true,hg0,hpt,hc,yA,Gv,B3]
   ·have hi0:(i=0)=False:=by simp; omega
    simp (disch:=omega) only [go_sem,Ab,hni,hi0,if_false,ht,hg0,hpt,hc,yA,Gv,B3]
 have o9:dec (x.op=9)=false:=Aj h9
 by_cases h8:x.op=8
 ·have o8:dec (x.op=8)=true:=Ar h8
  obtain ⟨p,hp⟩:=(Fm.Bu hfo (by unfold qB; rw [o8]; rfl)).2
  have hone:x.parts.length=1:=by rw [hp]; rfl
  obtain ⟨ou1,hou1⟩:∃ ou1,ou1=ou++[x.var]:=⟨_,rfl⟩
  have hskx:x.sk tk fr ou e c0=(.mk x.op Tm.zero x.var (A4 (fun y d=>Fm.sk tk fr y ou1 e d) x.parts c0).1,(A4 (fun y d=>Fm.sk tk fr y ou1 e d) x.parts c0).2):=by
   rw [Fm.IG tk fr h8 hp,hp,h8,hou1]
   simp only [A4]
  have hoL:ou1.length=ou.length+1:=by rw [hou1]; simp
  rw [hskx]
  obtain ⟨o1,ho1⟩:∃ o1,o1=(fr++ou)++[x.var]:=⟨_,rfl⟩
  have hoo:fr++ou1=o1:=by rw [ho1,hou1,zP]
  obtain ⟨o,ho⟩:∃ o,o=fr++ou:=⟨_,rfl⟩
  rw [←ho] at ho1 ⊢
  have hol:o.length=fr.length+ou.length:=by rw [ho,zD]
  have ha1:(o.map fun s=>[OT.str s])++[[OT.str x.var]]=o1.map fun s=>[OT.str s]:=by rw [ho1]; simp
  have hbf:(o.map fun s=>[D.str s]).map (fun x=>x.map D.ot)=o.map fun s=>[OT.str s]:=by rw [yC]; rfl
  have haf:=CW o
  have hadf:=EI o
  refine Ai Et B3 (of_decide_eq_true rfl) ?_
  simp (disch:=omega) only [Dz,go_sem,Ab,o3,o8,o9,ha1,hbf,haf,hadf,zJ]
  refine go_loop (α:=Int × (Int) × (List Fm)) (fun a=>⟨slots 93 0 [(1,.ptr 0 0),(2,(if (a.1)=0 then .ref 2 else .any)),(4,(if (a.1)=0 then .ptr 3 0 else .ptr 2 0)),(7,(if (a.1)=0 then .ptr 4 0 else .ptr 3 0)),(8,(if (a.1)=0 then .ptr 5 0 else .ptr 4 0)),(11,(if (a.1)=0 then .ptr 6 0 else .ptr 5 0)),(12,.int .i64 (a.1))],(if (a.1)=0 then [.box 104 [.str BL,.int .i64 (a.2.1),.ref 1],.row 9 1 (tk.map fun s=>[OT.str s]),.row 9 1 (o1.map fun s=>[OT.str s]),.box 29 [.int .i64 x.op,.str x.atom.name,.arr (x.atom.args.map Tm.d),.str x.var,.arr (x.parts.map Fm.d)],.box 119 [.arr (s.binds.map Bd.d)],.box 29 [.int .i64 0,.str ⟨#[]⟩,.nil,.str ⟨#[]⟩,.nil],.box 29 [.int .i64 x.op,.str ⟨#[]⟩,.nil,.str x.var,.nil]] else [.box 104 [.str BL,.int .i64 (a.2.1),.ref 1],.row 9 1 (tk.map fun s=>[OT.str s]),.box 29 [.int .i64 x.op,.str x.atom.name,.arr (x.atom.args.map Tm.d),.str x.var,.arr (x.parts.map Fm.d)],.box 119 [.arr (s.binds.map Bd.d)],.box 29 [.int .i64 0,.str ⟨#[]⟩,.nil,.str ⟨#[]⟩,.nil],.box 29 [.int .i64 x.op,.str ⟨#[]⟩,.nil,.str x.var,.ref 6],.row 29 5 ((a.2.2).map Fm.osh)])⟩) (fun a=>∃ k:Nat,a.1=k∧k≤(x.parts).length∧(a.2.2).length=k∧0≤(a.2.1)∧A4 (fun y d=>Fm.sk tk fr y ou1 e d) x.parts c0=((a.2.2)++(A4 (fun y d=>Fm.sk tk fr y ou1 e d) (x.parts.drop k) (a.2.1)).1,(A4 (fun y d=>Fm.sk tk fr y ou1 e d) (x.parts.drop k) (a.2.1)).2)∧(a.2.1)+(Fm.nodeS (x.parts.drop k):Int)*(tk.length+2:Nat)≤1099511000000) (fun a=>(x.parts).length-(a.1).toNat) (0,c0,[]) ⟨0,rfl,zK _,rfl,h0,by rw [zF]; rfl,by rw [zF]; dsimp only; omega⟩ (by simp (disch:=omega) only [go_sem,Ab,eq_self,if_true]) ?_
  rintro ⟨i,c,acc⟩ ⟨k,hi,hk,hR⟩
  dsimp only at hi hR
  have hni:i.toNat=k:=by omega
  have hni1:(i+1).toNat=k+1:=by omega
  rcases zC k (x.parts).length with hlt | hge
  ·have hg:=get_at Fm.d hlt
   rw [Fm.d_eq] at hg
   obtain ⟨hR1,hR2,hR3,hR4⟩:=hR
   rw [zA hlt,A4] at hR3
   rw [zA hlt,Fm.nodeS,zV,z7] at hR4
   have hfk:=Fm.AQ hx (zI hlt)
   have hcnt:=Fm.Jz tk fr x.parts[k] hfk ou1 e c hR2
   have hge0:(0:Int)≤(Fm.nodeS (x.parts.drop (k+1)):Int)*(tk.length+2:Nat):=zW (by omega) (by omega)
   have hle:=Fm.nodes_le x.parts k hlt
   have hq:=TZ (zI hlt)
   have hc:=ih x.parts[k] (zI hlt) ou1 s e c hs hse he (hq.2 hnd) (fun v hv=>hqe v (hq.1 v hv)) (by omega) (by omega) hR2 (by omega)
   unfold SsE at hc
   rw [hoo,hxsk,hss] at hc
   obtain ⟨y,hy⟩:∃ y,y=x.parts[k].sk tk fr ou1 e c:=⟨_,rfl⟩
   rw [←hy] at hc hcnt hR3
   have hysv:y.1.sv=.agg [.int .i64 y.1.op,.str y.1.atom.name,.arr (y.1.atom.args.map Tm.d),.str y.1.var,.arr (y.1.parts.map Fm.d)]:=rfl
   rw [hysv] at hc
   have hsn:acc.map Fm.osh++[[OT.int y.1.op,OT.str y.1.atom.name,OT.sh (y.1.atom.args.map Tm.d),OT.str y.1.var,OT.sh (y.1.parts.map Fm.d)]]=(acc++[y.1]).map Fm.osh:=by rw [zQ,zL,zH,Fm.osh_eq]
   have hR3':A4 (fun y c=>Fm.sk tk fr y ou1 e c) x.parts c0=((acc++[y.1])++(A4 (fun y c=>Fm.sk tk fr y ou1 e c) (x.parts.drop (k+1)) y.2).1,(A4 (fun y c=>Fm.sk tk fr y ou1 e c) (x.parts.drop (k+1)) y.2).2):=by rw [hR3,zP]; rfl
   rcases zG k with h0 | h0
   ·subst h0
    obtain rfl:i=0:=hi
    have ha0:acc=[]:=zB hR1
    subst ha0
    rw [zH,zJ] at hsn
    simp only [yN] at hR4 hge0 hR3'
    simp (disch:=omega) only [go_sem,Ab,hni,hg,hc,B3,eq_self,if_true,C4]
    refine ⟨(1,y.2,[]++[y.1]),⟨1,rfl,hlt,rfl,by dsimp only; omega,hR3',by dsimp only; omega⟩,by dsimp only; omega,?_⟩
    simp (disch:=omega) only [go_sem,Ab,h10,if_false,hsn,zJ]
   ·exfalso; omega
  ·obtain rfl:k=x.parts.length:=by omega
   obtain ⟨hR1,hR2,hR3,hR4⟩:=hR
   rw [zE hge,A4,zR] at hR3
   have hR3:A4 (fun y c=>Fm.sk tk fr y ou1 e c) x.parts c0=(acc,c):=hR3
   rw [hR3]
   have hfu:=Fm.osh_full acc
   have her:=Fm.osh_er acc
   rcases zG x.parts.length with h0 | h0
   ·have hx:x.parts=[]:=zB h0
    obtain rfl:i=0:=by omega
    have ha0:acc=[]:=zB (by rw [hR1]; exact h0)
    subst ha0
    exfalso; omega
   ·have hi0:(i=0)=False:=by simp; omega
    simp (disch:=omega) only [go_sem,Ab,hni,hi0,if_false,hfu,her,hrs,hz0,hz1,zH]
 ·have o8:dec (x.op=8)=false:=Aj h8
  have hv0:x.var=⟨#[]⟩:=Fm.Ph hfo (by unfold qB; rw [o8,o9]; rfl)
  obtain ⟨ou1,hou1⟩:∃ ou1,ou1=ou:=⟨_,rfl⟩
  have hskx:x.sk tk fr ou e c0=(.mk x.op Tm.zero x.var (A4 (fun y d=>Fm.sk tk fr y ou1 e d) x.parts c0).1,(A4 (fun y d=>Fm.sk tk fr y ou1 e d) x.parts c0).2):=by
   rw [Fm.DL tk fr h3 h8 h9,hou1,hv0]
  have hoL:ou1.length≤ou.length:=by rw [hou1]; exact yZ _
  rw [hskx,← hou1]
  obtain ⟨o,ho⟩:∃ o,o=fr++ou1:=⟨_,rfl⟩
  have hoo:fr++ou1=o:=ho.symm
  rw [hoo]
  refine Ai Et B3 (of_decide_eq_true rfl) ?_
  simp (disch:=omega) only [Dz,go_sem,Ab,o3,o8,o9]
  refine go_loop (α:=Int × (Int) × (List Fm)) (fun a=>⟨slots 93 0 [(1,.ptr 0 0),(2,.arr (o.map fun s=>[D.str s])),(4,.ptr 2 0),(7,.ptr 3 0),(8,.ptr 4 0),(11,.ptr 5 0),(12,.int .i64 (a.1))],(if (a.1)=0 then [.box 104 [.str BL,.int .i64 (a.2.1),.ref 1],.row 9 1 (tk.map fun s=>[OT.str s]),.box 29 [.int .i64 x.op,.str x.atom.name,.arr (x.atom.args.map Tm.d),.str x.var,.arr (x.parts.map Fm.d)],.box 119 [.arr (s.binds.map Bd.d)],.box 29 [.int .i64 0,.str ⟨#[]⟩,.nil,.str ⟨#[]⟩,.nil],.box 29 [.int .i64 x.op,.str ⟨#[]⟩,.nil,.str x.var,.nil]] else [.box 104 [.str BL,.int .i64 (a.2.1),.ref 1],.row 9 1 (tk.map fun s=>[OT.str s]),.box 29 [.int .i64 x.op,.str x.atom.name,.arr (x.atom.args.map Tm.d),.str x.var,.arr (x.parts.map Fm.d)],.box 119 [.arr (s.binds.map Bd.d)],.box 29 [.int .i64 0,.str ⟨#[]⟩,.nil,.str ⟨#[]⟩,.nil],.box 29 [.int .i64 x.op,.str ⟨#[]⟩,.nil,.str x.var,.ref 6],.row 29 5 ((a.2.2).map Fm.osh)])⟩) (fun a=>∃ k:Nat,a.1=k∧k≤(x.parts).length∧(a.2.2).length=k∧0≤(a.2.1)∧A4 (fun y d=>Fm.sk tk fr y ou1 e d) x.parts c0=((a.2.2)++(A4 (fun y d=>Fm.sk tk fr y ou1 e d) (x.parts.drop k) (a.2.1)).1,(A4 (fun y d=>Fm.sk tk fr y ou1 e d) (x.parts.drop k) (a.2.1)).2)∧(a.2.1)+(Fm.nodeS (x.parts.drop k):Int)*(tk.length+2:Nat)≤1099511000000) (fun a=>(x.parts).length-(a.1).toNat) (0,c0,[]) ⟨0,rfl,zK _,rfl,h0,by rw [zF]; rfl,by rw [zF]; dsimp only; omega⟩ (by simp (disch:=omega) only [go_sem,Ab,eq_self,if_true]) ?_
  rintro ⟨i,c,acc⟩ ⟨k,hi,hk,hR⟩
  dsimp only at hi hR
  have hni:i.toNat=k:=by omega
  have hni1:(i+1).toNat=k+1:=by omega
  rcases zC k (x.parts).length with hlt | hge
  ·have hg:=get_at Fm.d hlt
   rw [Fm.d_eq] at hg
   obtain ⟨hR1,hR2,hR3,hR4⟩:=hR
   rw [zA hlt,A4] at hR3
   rw [zA hlt,Fm.nodeS,zV,z7] at hR4
   have hfk:=Fm.AQ hx (zI hlt)
   have hcnt:=Fm.Jz tk fr x.parts[k] hfk ou1 e c hR2
   have hge0:(0:Int)≤(Fm.nodeS (x.parts.drop (k+1)):Int)*(tk.length+2:Nat):=zW (by omega) (by omega)
   have hle:=Fm.nodes_le x.parts k hlt
   have hq:=TZ (zI hlt)
   have hc:=ih x.parts[k] (zI hlt) ou1 s e c hs hse he (hq.2 hnd) (fun v hv=>hqe v (hq.1 v hv)) (by omega) (by omega) hR2 (by omega)
   unfold SsE at hc
   rw [hoo,hxsk,hss] at hc
   obtain ⟨y,hy⟩:∃ y,y=x.parts[k].sk tk fr ou1 e c:=⟨_,rfl⟩
   rw [←hy] at hc hcnt hR3
   have hysv:y.1.sv=.agg [.int .i64 y.1.op,.str y.1.atom.name,.arr (y.1.atom.args.map Tm.d),.str y.1.var,.arr (y.1.parts.map Fm.d)]:=rfl
   rw [hysv] at hc
   have hsn:acc.map Fm.osh++[[OT.int y.1.op,OT.str y.1.atom.name,OT.sh (y.1.atom.args.map Tm.d),OT.str y.1.var,OT.sh (y.1.parts.map Fm.d)]]=(acc++[y.1]).map Fm.osh:=by rw [zQ,zL,zH,Fm.osh_eq]
   have hR3':A4 (fun y c=>Fm.sk tk fr y ou1 e c) x.parts c0=((acc++[y.1])++(A4 (fun y c=>Fm.sk tk fr y ou1 e c) (x.parts.drop (k+1)) y.2).1,(A4 (fun y c=>Fm.sk tk fr y ou1 e c) (x.parts.drop (k+1)) y.2).2):=by rw [hR3,zP]; rfl
   rcases zG k with h0 | h0
   ·subst h0
    obtain rfl:i=0:=hi
    have ha0:acc=[]:=zB hR1
    subst ha0
    rw [zH,zJ] at hsn
    simp only [yN] at hR4 hge0 hR3'
    simp (disch:=omega) only [go_sem,Ab,hni,hg,hc,B3,eq_self,if_true,C4]
    refine ⟨(1,y.2,[]++[y.1]),⟨1,rfl,hlt,rfl,by dsimp only; omega,hR3',by dsimp only; omega⟩,by dsimp only; omega,?_⟩
    simp (disch:=omega) only [go_sem,Ab,h10,if_false,hsn,zJ]
   ·have hi0:(i=0)=False:=by simp; omega
    have hi1:(i+1=0)=False:=by simp; omega
    simp (disch:=omega) only [go_sem,Ab,hni,hg,hc,B3,hi0,if_false]
    refine ⟨(i+1,y.2,acc++[y.1]),⟨k+1,by dsimp only; omega,hlt,by simp [hR1],by dsimp only; omega,hR3',by dsimp only; omega⟩,by dsimp only; omega,?_⟩
    simp (disch:=omega) only [go_sem,Ab,hi1,if_false,hsn]
  ·obtain rfl:k=x.parts.length:=by omega
   obtain ⟨hR1,hR2,hR3,hR4⟩:=hR
   rw [zE hge,A4,zR] at hR3
   have hR3:A4 (fun y c=>Fm.sk tk fr y ou1 e c) x.parts c0=(acc,c):=hR3
   rw [hR3]
   have hfu:=Fm.osh_full acc
   have her:=Fm.osh_er acc
   rcases zG x.parts.length with h0 | h0
   ·have hx:x.parts=[]:=zB h0
    obtain rfl:i=0:=by omega
    have ha0:acc=[]:=zB (by rw [hR1]; exact h0)
    subst ha0
    simp (disch:=omega) only [go_sem,Ab,hni,hx,eq_self,if_true,zH,zN,hrs,hz0,hz1]
   ·have hi0:(i=0)=False:=by simp; omega
    simp (disch:=omega) only [go_sem,Ab,hni,hi0,if_false,hfu,her,hrs,hz0,hz1,zH]
theorem P0 (tk fr:List ByteArray) (x:Fm) (hx:x.forms=true):SsC tk fr x :=
 Ua tk fr x hx fun y hy=>P0 tk fr y (Fm.AQ hx hy)
termination_by SizeOf.sizeOf x
decreasing_by exact Fm.lt_of_mem hy
noncomputable def J4 (x:Fm) (us:List ByteArray):List ByteArray:=B7 us (syA x.ats)
noncomputable def skF (x:Fm) (us:List ByteArray):Fm:=(x.sk (J4 x us) x.free [] (fun _=>none) 0).1
noncomputable def skP (x:Fm):Bool:=x.valid&&(x.sepd&&x.isN)
noncomputable def skB (x:Fm) (us:List ByteArray):Bool:=!x.bad x.free.length&&(skF x us).valid
noncomputable def He (x:Fm) (us:List ByteArray):Bool:=skP x&&skB x us
noncomputable def Is (x:Fm) (us:List ByteArray):Fm:=bif He x us then skF x us else Fm.zero
theorem E8 {x:Fm} (h:x.valid=true):x.nodes≤40∧x.forms=true:=by
 unfold Fm.valid at h
 rw [zT,decide_eq_true_eq] at h
 exact h
theorem J5 (x:Fm) (hx:x.forms=true) (hn:x.nodes≤40):x.vn≤1200∧x.free.length≤1200∧(syA x.ats).length≤1200∧x.sy2.length≤1200:=by
 have h1:=Fm.YQ x hx
 have h2:=DK (x.fv []) []
 have h3:=Fm.HG x []
 have h4:x.free.length≤1200:=by
  simp only [zN] at h2
  show (C2 [] (x.fv [])).length≤_
  omega
 have h5:=Fm.JY x
 have h6:∀ l:List Tm,(syA l).length≤Tm.nodeS l:=by
  intro l
  induction l with
  | nil=>simp [syA,Tm.nodeS]
  | cons t l ih =>
   have:=Tm.JX t
   unfold syA at ih ⊢
   rw [List.flatMap_cons,zD,Tm.nodeS]; omega
 have h7:=h6 x.ats
 have h8:=Fm.sy2_len x
 exact ⟨by omega,h4,by omega,by omega⟩
theorem QaE (k:Int):pre BL k≠⟨#[61]⟩:=fun e=>by
 have h:=congrArg ByteArray.size e
 unfold pre at h
 rw [yH] at h
 have h2:BL.size=2:=rfl
 have h3:(⟨#[61]⟩:ByteArray).size=1:=rfl
 omega
theorem QaF (x:Fm) (hx:x.forms=true) (us:List ByteArray):(x.sk (us++x.sy2) x.free [] (fun _=>none) 0).1=skF x us:=by
 unfold skF J4
 rw [Fm.TE x.free (fun k=>?_) x hx [] _ 0 (yK 0)]
 rw [OQ,yL,Fm.sy12 x hx (QaE k)]
theorem WG {x:Fm} (h:x.sepd=true):x.qs.Nodup:=by
 unfold Fm.sepd at h
 exact (List.nodup_append.1 (Aw.1 h)).1
theorem Fm.QaX (tk fr:List ByteArray) (x:Fm) (hx:x.forms=true):∀ (ou:List ByteArray) (e:TEnv) (c:Int),fr.length+ou.length+x.nodes≤1299→TB 1300 e→(x.sk tk fr ou e c).1.vn≤40000*x.nodes:=by
 intro ou e c hb he
 have ih:∀ y∈x.parts,∀ (ou:List ByteArray) (e:TEnv) (c:Int),fr.length+ou.length+y.nodes≤1299→TB 1300 e→(y.sk tk fr ou e c).1.vn≤40000*y.nodes:=fun y hy=>Fm.QaX tk fr y (Fm.AQ hx hy)
 have key:∀ (xs:List Fm),(∀ y∈xs,y∈x.parts)→∀ c:Int,Fm.vnS (A4 (fun y c=>Fm.sk tk fr y ou e c) xs c).1≤40000*Fm.nodeS xs:=by
  intro xs
  induction xs with
  | nil=>intro _ c; rw [A4,Fm.vnS]; exact zK _
  | cons y ys ihy =>
   intro hm c
   have hle:=Fm.nodes_mem (hm y (by simp))
   have hxe:=Fm.nodes_eq x
   have h1:=ih y (hm y (by simp)) ou e c (by omega) he
   have h2:=ihy (fun z hz=>hm z (by simp [hz])) (y.sk tk fr ou e c).2
   rw [A4,Fm.vnS,Fm.nodeS]
   omega
 have hfo:=Fm.Bo hx
 have hz:=Tm.IE
 have hne:=Fm.nodes_eq x
 have hmk:∀ (op:Int) (t:Tm) (v:ByteArray) (ps:List Fm),(Fm.mk op t v ps).vn=t.nodes+Fm.vnS ps:=fun op t v ps=>Fm.Kq _
 by_cases h3:x.op=3
 ·rw [Fm.F7 tk fr h3,hmk,Fm.vnS]
  have h1:=Tm.Pj (by omega) he x.atom
  have h2:=Fm.F4 hfo
  have h4:1300*x.atom.nodes≤1300*30:=Nat.mul_le_mul_left _ h2
  omega
 by_cases h8:x.op=8
 ·obtain ⟨p,hp⟩:=(Fm.Bu hfo (by unfold qB; rw [Ar h8]; rfl)).2
  have hs:Fm.nodeS x.parts=p.nodes:=by rw [hp]; simp [Fm.nodeS]
  have:=ih p (by rw [hp]; simp) (ou++[x.var]) e c (by rw [zD,zS]; omega) he
  rw [Fm.IG tk fr h8 hp,hmk,Fm.vnS,Fm.vnS]
  omega
 by_cases h9:x.op=9
 ·obtain ⟨hvx,p,hp⟩:=Fm.Bu hfo (by unfold qB; rw [Ar h9]; simp)
  have hs:Fm.nodeS x.parts=p.nodes:=by rw [hp]; simp [Fm.nodeS]
  have ht:(skT tk fr ou c).nodes≤1300:=by
   unfold skT
   rw [Tm.nodes_eq]
   show 1+Tm.nodeS (vT (fr++ou))≤_
   rw [Jy,zD]; omega
  have:=ih p (by rw [hp]; simp) ou (GQ e x.var (skT tk fr ou c)) (fresh BL tk c) (by omega) (he.put hvx ht)
  rw [Fm.Gw tk fr h9 hp]
  omega
 ·have:=key x.parts (fun y hy=>hy) c
  rw [Fm.DL tk fr h3 h8 h9,hmk]
  omega
termination_by SizeOf.sizeOf x
decreasing_by exact Fm.lt_of_mem hy
theorem QbE (x:Fm) (hx:x.forms=true) (hn:x.nodes≤40) (us:List ByteArray):(skF x us).vn≤1600000:=by
 obtain ⟨_,b2,_,_⟩:=J5 x hx hn
 have:=Fm.QaX (J4 x us) x.free x hx [] (fun _=>none) 0 (by rw [zN]; omega) (TB.none _)
 unfold skF
 omega
def Cn:SC:=(.seq (.reg [⟨some 2,none,.boxv 29 5 (.t 0)⟩,⟨(some 4),none,(.alloc 29 [(.int .i64 0),(.str ⟨#[]⟩),.nil,(.str ⟨#[]⟩),.nil])⟩,⟨some 5,none,.mv (.c (.bool false))⟩]) (.seq (.seq (.reg [⟨some 8,none,.load true 5 (.t 2)⟩,⟨some 9,none,.call 28 [(.t 8)]⟩,⟨some 10,none,.un .not (.t 9)⟩,⟨some 11,none,.mv (.t 10)⟩,⟨(some 12),(some (11,false)),(.load true 5 (.t 2))⟩,⟨(some 13),(some (11,false)),(.call 42 [(.t 12)])⟩,⟨(some 14),(some (11,false)),(.un .not (.t 13))⟩,⟨some 15,none,.pick (.t 11) (.c (.bool true)) (.t 14)⟩,⟨some 16,none,.mv (.t 15)⟩,⟨(some 17),(some (16,false)),(.load true 5 (.t 2))⟩,⟨(some 18),(some (16,false)),(.call 36 [(.t 17)])⟩,⟨(some 19),(some (16,false)),(.un .not (.t 18))⟩,⟨some 20,none,.pick (.t 16) (.c (.bool true)) (.t 19)⟩]) (.cond (.t 20) (.seq (.reg [⟨(some 21),none,(.build [(.int .i64 0),(.str ⟨#[]⟩),.nil,(.str ⟨#[]⟩),.nil] [])⟩,⟨none,none,(.store 5 (.t 4) (.t 21))⟩,⟨some 5,none,.mv (.c (.bool false))⟩]) .ret) .skip)) (.seq (.dreg [[],[0],[],[1,0,2],[3,1,0,2],[4,3,1,0,2],[],[6,3,1,0,2],[5,4,3,1,0,2,7,6],[8,5,4,3,1,0,2,7,6],[9,8,5,4,3,1,0,2,7,6]] [⟨some 22,none,.mv (.t 1)⟩,⟨some 23,none,.call 44 [(.t 22)]⟩,⟨some 24,none,.load true 5 (.t 2)⟩,⟨some 25,none,.call 43 [(.t 23),(.t 24)]⟩,⟨(some 26),none,(.build [(.str ⟨#[]⟩),.nil,(.int .i64 0)] [(0,(1,(.c (.str ⟨#[115,107]⟩)))),(1,(1,(.t 25)))])⟩,⟨some 27,none,.boxv 72 3 (.t 26)⟩,⟨some 28,none,.load true 5 (.t 2)⟩,⟨some 29,none,.call 45 [(.t 28)]⟩,⟨some 30,none,.build [.any,.nil,(.bool false)] [(0,(1,(.t 27))),(1,(1,(.t 29)))]⟩,⟨some 31,none,.boxv 75 3 (.t 30)⟩,⟨some 6,none,.mv (.t 31)⟩]) (.seq (.reg [⟨some 32,none,.mv (.t 6)⟩,⟨some 33,none,.load true 5 (.t 2)⟩,⟨some 34,none,.call 46 [(.t 32),(.t 33),(.c .nil),(.c (.mp true nomap))]⟩,⟨(some 7),none,(.alloc 29 [(.int .i64 0),(.str ⟨#[]⟩),.nil,(.str ⟨#[]⟩),.nil])⟩,⟨none,none,(.store 5 (.t 7) (.t 34))⟩]) (.seq (.seq (.reg [⟨some 35,none,.mv (.t 6)⟩,⟨some 36,none,.nilchk (.t 35)⟩,⟨some 37,none,.faddr 2 (.t 36)⟩,⟨some 38,none,.load false 1 (.t 37)⟩]) (.cond (.t 38) (.seq (.reg [⟨(some 39),none,(.build [(.int .i64 0),(.str ⟨#[]⟩),.nil,(.str ⟨#[]⟩),.nil] [])⟩,⟨none,none,(.store 5 (.t 4) (.t 39))⟩,⟨some 5,none,.mv (.c (.bool false))⟩]) .ret) .skip)) (.seq (.reg [⟨some 40,none,.load true 5 (.t 7)⟩,⟨some 41,none,.call 29 [(.t 40)]⟩,⟨some 42,none,.ext (.t 41) 0⟩,⟨some 43,none,.ext (.t 41) 1⟩,⟨none,none,(.store 5 (.t 4) (.t 42))⟩,⟨some 5,none,.mv (.t 43)⟩]) .ret))))))
theorem CA:At Tryz.prog 18=some ⟨44,Cn,[(.cell 4 true 5),(.tmp 5)]⟩:=by kernel_rfl
theorem Bg:modes 18=⟨[],.own [none,none,some (26,2),none,some (29,5),none],none,false⟩:=by unfold modes; rfl
def E5:SC:=(.seq (.reg [⟨some 2,none,.boxv 29 5 (.t 0)⟩,⟨(some 4),none,(.alloc 29 [(.int .i64 0),(.str ⟨#[]⟩),.nil,(.str ⟨#[]⟩),.nil])⟩,⟨some 5,none,.mv (.c .nil)⟩,⟨some 6,none,.mv (.c (.bool false))⟩]) (.seq (.reg [⟨some 10,none,.load true 5 (.t 2)⟩,⟨some 11,none,.call 80 [(.t 10)]⟩,⟨some 7,none,.mv (.t 11)⟩]) (.seq (.dreg [[],[],[0,1],[],[2,0,1,3],[4,2,0,1,3],[5,4,2,0,1,3],[6,5,4,2,0,1,3]] [⟨(some 12),none,(.mkrow 9 1 [(.str ⟨#[]⟩)] 0 [])⟩,⟨some 13,none,.mv (.t 1)⟩,⟨(some 14),none,(.append 9 1 16 [(.str ⟨#[]⟩)] (.t 12) (.t 13))⟩,⟨some 15,none,.load true 5 (.t 2)⟩,⟨some 16,none,.call 96 [(.t 14),(.t 15)]⟩,⟨(some 17),none,(.build [(.str ⟨#[]⟩),(.int .i64 0),.nil] [(0,(1,(.c (.str ⟨#[115,107]⟩)))),(2,(1,(.t 16)))])⟩,⟨some 18,none,.boxv 104 3 (.t 17)⟩,⟨some 8,none,.mv (.t 18)⟩]) (.seq (.seq (.reg [⟨some 19,none,.load true 5 (.t 2)⟩,⟨some 20,none,.mv (.t 7)⟩,⟨some 21,none,.len false (.t 20)⟩,⟨some 22,none,.call 97 [(.t 19),(.t 21)]⟩,⟨some 23,none,.un .not (.t 22)⟩]) (.cond (.t 23) (.seq (.reg [⟨(some 24),none,(.build [(.int .i64 0),(.str ⟨#[]⟩),.nil,(.str ⟨#[]⟩),.nil] [])⟩,⟨some 25,none,.mv (.t 1)⟩,⟨none,none,(.store 5 (.t 4) (.t 24))⟩,⟨some 5,none,.mv (.t 25)⟩,⟨some 6,none,.mv (.c (.bool false))⟩]) .ret) .skip)) (.seq (.reg [⟨some 26,none,.load true 5 (.t 2)⟩,⟨some 27,none,.mv (.t 8)⟩,⟨some 28,none,.mv (.t 7)⟩,⟨some 29,none,.build [.nil] []⟩,⟨some 30,none,.call 98 [(.t 26),(.t 27),(.t 28),(.t 29)]⟩,⟨(some 9),none,(.alloc 29 [(.int .i64 0),(.str ⟨#[]⟩),.nil,(.str ⟨#[]⟩),.nil])⟩,⟨none,none,(.store 5 (.t 9) (.t 30))⟩]) (.seq (.dreg [[],[],[],[1,2],[],[3,1,2,4],[],[6,5,3,1,2,4],[0,7,6,5,3,1,2,4],[5,3,1,2,4,8,0,7,6],[7,6,5,3,1,2,4,9,8,0]] [⟨some 31,none,.load true 5 (.t 9)⟩,⟨(some 32),none,(.mkrow 9 1 [(.str ⟨#[]⟩)] 0 [])⟩,⟨some 33,none,.mv (.t 1)⟩,⟨(some 34),none,(.append 9 1 16 [(.str ⟨#[]⟩)] (.t 32) (.t 33))⟩,⟨some 35,none,.load true 5 (.t 9)⟩,⟨some 36,none,.call 96 [(.t 34),(.t 35)]⟩,⟨some 37,none,.load true 5 (.t 9)⟩,⟨some 38,none,.call 32 [(.t 37)]⟩,⟨none,none,(.store 5 (.t 4) (.t 31))⟩,⟨some 5,none,.mv (.t 36)⟩,⟨some 6,none,.mv (.t 38)⟩]) .ret))))))
theorem Hf:At Tryz.prog 49=some ⟨39,E5,[(.cell 4 true 5),(.tmp 5),(.tmp 6)]⟩:=by kernel_rfl
theorem BE:modes 49=⟨[],.frz,none,false⟩:=by unfold modes; rfl
def Co:SC:=(.seq (.reg [⟨some 2,none,.boxv 29 5 (.t 0)⟩,⟨(some 4),none,(.alloc 29 [(.int .i64 0),(.str ⟨#[]⟩),.nil,(.str ⟨#[]⟩),.nil])⟩,⟨some 5,none,.mv (.c (.bool false))⟩]) (.seq (.seq (.reg [⟨some 9,none,.load true 5 (.t 2)⟩,⟨some 10,none,.call 32 [(.t 9)]⟩,⟨some 11,none,.un .not (.t 10)⟩,⟨some 12,none,.mv (.t 11)⟩,⟨(some 13),(some (12,false)),(.load true 5 (.t 2))⟩,⟨(some 14),(some (12,false)),(.call 47 [(.t 13)])⟩,⟨(some 15),(some (12,false)),(.un .not (.t 14))⟩,⟨some 16,none,.pick (.t 12) (.c (.bool true)) (.t 15)⟩,⟨some 17,none,.mv (.t 16)⟩,⟨(some 18),(some (17,false)),(.load true 5 (.t 2))⟩,⟨(some 19),(some (17,false)),(.call 48 [(.t 18)])⟩,⟨(some 20),(some (17,false)),(.un .not (.t 19))⟩,⟨some 21,none,.pick (.t 17) (.c (.bool true)) (.t 20)⟩]) (.cond (.t 21) (.seq (.reg [⟨(some 22),none,(.build [(.int .i64 0),(.str ⟨#[]⟩),.nil,(.str ⟨#[]⟩),.nil] [])⟩,⟨none,none,(.store 5 (.t 4) (.t 22))⟩,⟨some 5,none,.mv (.c (.bool false))⟩]) .ret) .skip)) (.seq (.reg [⟨some 24,none,.load true 5 (.t 2)⟩,⟨some 25,none,.mv (.t 1)⟩,⟨some 26,none,.call 49 [(.t 24),(.t 25)]⟩,⟨some 23,none,.mv (.t 26)⟩,⟨some 27,none,.ext (.t 23) 0⟩,⟨some 28,none,.ext (.t 23) 1⟩,⟨some 29,none,.ext (.t 23) 2⟩,⟨(some 6),none,(.alloc 29 [(.int .i64 0),(.str ⟨#[]⟩),.nil,(.str ⟨#[]⟩),.nil])⟩,⟨none,none,(.store 5 (.t 6) (.t 27))⟩,⟨some 7,none,.mv (.t 28)⟩,⟨some 8,none,.mv (.t 29)⟩]) (.seq (.seq (.reg [⟨some 30,none,.mv (.t 8)⟩,⟨some 31,none,.un .not (.t 30)⟩]) (.cond (.t 31) (.seq (.reg [⟨(some 32),none,(.build [(.int .i64 0),(.str ⟨#[]⟩),.nil,(.str ⟨#[]⟩),.nil] [])⟩,⟨none,none,(.store 5 (.t 4) (.t 32))⟩,⟨some 5,none,.mv (.c (.bool false))⟩]) .ret) .skip)) (.seq (.reg [⟨some 33,none,.load true 5 (.t 6)⟩,⟨none,none,(.store 5 (.t 4) (.t 33))⟩,⟨some 5,none,.mv (.c (.bool true))⟩]) .ret)))))
theorem CB:At Tryz.prog 19=some ⟨34,Co,[(.cell 4 true 5),(.tmp 5)]⟩:=by kernel_rfl
theorem Bh:modes 19=⟨[],.frz,none,false⟩:=by unfold modes; rfl
theorem NA (x:Fm) (us:List ByteArray) (hta:x.tame) (hn:x.nodes≤1099511627776) (hu:us.length≤1048576):E 18 [x.sv,.arr (us.map fun s=>[D.str s])] []=some (.tup [(Is x us).osv,.bool (He x us)],(Is x us).obs):=by
 have h1:=Fw x hta hn
 have hz1:Fm.zero.osv=.agg [.int .i64 0,.str ⟨#[]⟩,.ref 0,.str ⟨#[]⟩,.ref 1]:=rfl
 have hz2:Fm.zero.obs=[.row 26 2 [],.row 29 5 []]:=rfl
 have hxs:x.sv=.agg [.int .i64 x.op,.str x.atom.name,.arr (x.atom.args.map Tm.d),.str x.var,.arr (x.parts.map Fm.d)]:=rfl
 cases hv:x.valid with
 | false =>
  rw [hv] at h1
  have ho:He x us=false:=by unfold He skP; rw [hv]; rfl
  unfold Is
  rw [ho,cond_false,hz1,hz2]
  refine Ai CA Bg (of_decide_eq_true rfl) ?_
  simp (disch:=omega) only [Cn,go_sem,Ab,h1,AP,BP,AH,Ck,CM,BW,AF,Ax,Fm.osv,Fm.obs]
 | true =>
 rw [hv] at h1
 obtain ⟨hva1,hva2⟩:=E8 hv
 obtain ⟨b1,b2,b3,b4⟩:=J5 x hva2 hva1
 have h2:=PM x hva2 (by omega) (by omega)
 have h3:=GX x hva2 (by omega)
 cases hs:x.sepd with
 | false =>
  rw [hs] at h2
  have ho:He x us=false:=by unfold He skP; rw [hv,hs]; rfl
  unfold Is
  rw [ho,cond_false,hz1,hz2]
  refine Ai CA Bg (of_decide_eq_true rfl) ?_
  simp (disch:=omega) only [Cn,go_sem,Ab,h1,h2,AP,BP,AH,Ck,CM,BW,AF,Ax,Fm.osv,Fm.obs]
 | true =>
 rw [hs] at h2
 cases hin:x.isN with
 | false =>
  rw [hin] at h3
  have ho:He x us=false:=by unfold He skP; rw [hv,hs,hin]; rfl
  unfold Is
  rw [ho,cond_false,hz1,hz2]
  refine Ai CA Bg (of_decide_eq_true rfl) ?_
  simp (disch:=omega) only [Cn,go_sem,Ab,h1,h2,h3,AP,BP,AH,Ck,CM,BW,AF,Ax,Fm.osv,Fm.obs]
 | true =>
 rw [hin] at h3
 have hok:He x us=skB x us:=by unfold He skP; rw [hv,hs,hin]; rfl
 unfold Is
 rw [hok]
 have h4:=LI us hu
 have h5:=TY x (by omega) (by omega) us (by omega)
 have h6:=Zl x hva2 (by omega) (by omega)
 have htk:(J4 x us).length≤1050000:=by
  have:=DI (syA x.ats) us
  unfold J4; omega
 have hmul:(x.nodes:Int)*((J4 x us).length+2:Nat)≤42000080:=by
  have h:=y0 hva1 (show (J4 x us).length+2≤1050002 by omega)
  rw [←yX]; omega
 have h7:=Nt (J4 x us) x.free x hva2 [] (fun _=>none) 0 false FinT.none (TB.none _) (by rw [zN]; omega) (yK 0) (by omega)
 obtain ⟨hp1,hp2⟩:=Fm.Pl (J4 x us) x.free x hva2 [] (fun _=>none) 0 (by rw [zN]; omega) (TB.none _)
 unfold SkE at h7
 rw [Vw,zH,zN,Nat.add_zero,zX] at h7
 unfold skB
 have e0:(x.sk (J4 x us) x.free [] (fun _=>none) 0).1=skF x us:=rfl
 rw [e0] at hp1 hp2 h7
 generalize (x.sk (J4 x us) x.free [] (fun _=>none) 0).2=c1 at h7
 have h5:E 43 [.ref 0,x.sv] [.row 9 1 (us.map fun s=>[OT.str s])]=some (bif dec (us.length<(J4 x us).length) then .ref 1 else .ref 0,bif dec (us.length<(J4 x us).length) then [.gone,.row 9 1 ((J4 x us).map fun s=>[OT.str s])] else [.row 9 1 ((J4 x us).map fun s=>[OT.str s])]):=h5
 unfold BL at h7
 obtain ⟨tk,htk2⟩:∃ tk,tk=J4 x us:=⟨_,rfl⟩
 rw [←htk2] at h5 h7
 generalize skF x us=y at *
 obtain ⟨bb,hbb⟩:∃ bb,bb=x.bad x.free.length:=⟨_,rfl⟩
 rw [←hbb] at h7 ⊢
 clear htk htk2 hmul hbb
 rcases zC us.length tk.length with q | q
 all_goals
  first
   |rw [Ar q] at h5
   |rw [Aj (zO.2 q)] at h5
  simp only [cond_true,cond_false] at h5
  cases bb with
  | true =>
   rw [yU,z8,cond_false,hz1,hz2]
   refine Ai CA Bg (of_decide_eq_true rfl) ?_
   simp (disch:=omega) only [Cn,go_sem,Ab,h1,h2,h3,h4,h5,h6,h7,AP,BP,AH,Ck,CM,BW,AF,Ax,Fm.osv,Fm.obs]
  | false =>
   rw [yG,y2]
   cases hq:y.valid with
   | true =>
    have hi:=PP y hp1 (by omega) hq
    rw [cond_true]
    refine Ai CA Bg (of_decide_eq_true rfl) ?_
    simp (disch:=omega) only [Cn,go_sem,Ab,h1,h2,h3,h4,h5,h6,h7,hi,AP,BP,AH,Ck,CM,BW,AF,Ax,Fm.osv,Fm.obs]
   | false =>
    have hi:=Sd y hp1 (by omega) hq
    rw [cond_false,hz1,hz2]
    refine Ai CA Bg (of_decide_eq_true rfl) ?_
    simp (disch:=omega) only [Cn,go_sem,Ab,h1,h2,h3,h4,h5,h6,h7,hi,AP,BP,AH,Ck,CM,BW,AF,Ax,Fm.osv,Fm.obs]
theorem NB (x:Fm) (us:List ByteArray) (hx:x.forms=true) (hn:x.nodes≤40) (hu:us.length≤1048576) (hbb:x.bad x.free.length=true):E 49 [x.sv,.arr (us.map fun s=>[D.str s])] []=some (.tup [Fm.zero.sv,.arr (us.map fun s=>[D.str s]),.bool false],[]):=by
 obtain ⟨b1,b2,b3,b4⟩:=J5 x hx hn
 have hxs:x.sv=.agg [.int .i64 x.op,.str x.atom.name,.arr (x.atom.args.map Tm.d),.str x.var,.arr (x.parts.map Fm.d)]:=rfl
 have hz1:Fm.zero.sv=.agg [.int .i64 0,.str ⟨#[]⟩,.arr [],.str ⟨#[]⟩,.arr []]:=rfl
 have h1:=LJ x hx (by omega) (by omega)
 have h2:=JZ x (by omega) us (by omega)
 have h3:=MP x x.free.length (by omega) x.free.length rfl
 rw [hbb] at h3
 have hbf:(us.map fun s=>[D.str s]).map (fun x=>x.map D.ot)=us.map fun s=>[OT.str s]:=by rw [yC]; rfl
 have haf:=CW us
 have hadf:=EI us
 rw [hz1]
 rcases zC us.length (us++x.sy2).length with q | q
 all_goals
  first
   |rw [Ar q] at h2
   |rw [Aj (zO.2 q)] at h2
  simp only [cond_true,cond_false] at h2
  refine Ai Hf BE (of_decide_eq_true rfl) ?_
  simp (disch:=omega) only [E5,go_sem,Ab,h1,h2,h3,hbf,haf,hadf,zJ,D2,EU,Bz,B3,Bb]
theorem PR (x:Fm) (us:List ByteArray) (hx:x.forms=true) (hn:x.nodes≤40) (hu:us.length≤1048576) (hbb:x.bad x.free.length=false) (hqs:x.qs.Nodup):E 49 [x.sv,.arr (us.map fun s=>[D.str s])] []=some (.tup [(skF x us).sv,.arr ((us++(skF x us).sy2).map fun s=>[D.str s]),.bool (skF x us).valid],[]):=by
 obtain ⟨b1,b2,b3,b4⟩:=J5 x hx hn
 have hxs:x.sv=.agg [.int .i64 x.op,.str x.atom.name,.arr (x.atom.args.map Tm.d),.str x.var,.arr (x.parts.map Fm.d)]:=rfl
 have h1:=LJ x hx (by omega) (by omega)
 have h2:=JZ x (by omega) us (by omega)
 have h3:=MP x x.free.length (by omega) x.free.length rfl
 rw [hbb] at h3
 have hbf:(us.map fun s=>[D.str s]).map (fun x=>x.map D.ot)=us.map fun s=>[OT.str s]:=by rw [yC]; rfl
 have haf:=CW us
 have hadf:=EI us
 have htl:(us++x.sy2).length≤1050000:=by rw [zD]; omega
 have hmul:(x.nodes:Int)*((us++x.sy2).length+2:Nat)≤42000080:=by
  have h:=y0 hn (show (us++x.sy2).length+2≤1050002 by omega)
  rw [←yX]; omega
 have hem:(Sb.mk []).look=fun _=>none:=funext Vr
 have h7:=P0 (us++x.sy2) x.free x hx [] ⟨[]⟩ (fun _=>none) 0 Vq hem (TB.none _) hqs (fun v _=>rfl) (by show 0+_≤_; omega) (by rw [zN]; omega) (yK 0) (by omega)
 obtain ⟨hp1,hp2⟩:=Fm.Pl (us++x.sy2) x.free x hx [] (fun _=>none) 0 (by rw [zN]; omega) (TB.none _)
 unfold SsE at h7
 rw [zR] at h7
 have hsb:(Sb.mk []).sv=.agg [.arr []]:=rfl
 rw [hsb] at h7
 rw [QaF x hx us] at hp1 hp2 h7
 generalize (x.sk (us++x.sy2) x.free [] (fun _=>none) 0).2=c1 at h7
 unfold BL at h7
 obtain ⟨y,hy⟩:∃ y,y=skF x us:=⟨_,rfl⟩
 rw [←hy] at hp1 hp2 h7 ⊢
 have hys:y.sv=.agg [.int .i64 y.op,.str y.atom.name,.arr (y.atom.args.map Tm.d),.str y.var,.arr (y.parts.map Fm.d)]:=rfl
 have hyn:y.nodes≤40:=by omega
 have h8:=LG y hp1 (by omega)
 have h9:=JZ y (by omega) us (by
  have:=QbE x hx hn us
  rw [hy]; omega)
 rw [hys] at h7 h8 h9 ⊢
 rcases zC us.length (us++x.sy2).length with q | q <;> rcases zC us.length (us++y.sy2).length with q' | q'
 all_goals
  first
   |rw [Ar q] at h2
   |rw [Aj (zO.2 q)] at h2
  first
   |rw [Ar q'] at h9
   |rw [Aj (zO.2 q')] at h9
  simp only [cond_true,cond_false] at h2 h9
  obtain ⟨u1,hu1⟩:∃ u1,u1=us++x.sy2:=⟨_,rfl⟩
  obtain ⟨u2,hu2⟩:∃ u2,u2=us++y.sy2:=⟨_,rfl⟩
  rw [←hu1] at h2 h7
  rw [←hu2] at h9 ⊢
  refine Ai Hf BE (of_decide_eq_true rfl) ?_
  simp (disch:=omega) only [E5,go_sem,Ab,h1,h2,h3,h7,h8,h9,hbf,haf,hadf,zJ,C4,D2,EU,Bz,B3,Bb]
theorem NC (x:Fm) (us:List ByteArray) (hta:x.tame) (hn:x.nodes≤1099511627776) (hu:us.length≤1048576):E 19 [x.sv,.arr (us.map fun s=>[D.str s])] []=some (.tup [(Is x us).sv,.bool (He x us)],[]):=by
 have h1:=LG x hta hn
 have hz1:Fm.zero.sv=.agg [.int .i64 0,.str ⟨#[]⟩,.arr [],.str ⟨#[]⟩,.arr []]:=rfl
 have hxs:x.sv=.agg [.int .i64 x.op,.str x.atom.name,.arr (x.atom.args.map Tm.d),.str x.var,.arr (x.parts.map Fm.d)]:=rfl
 cases hv:x.valid with
 | false =>
  rw [hv] at h1
  have ho:He x us=false:=by unfold He skP; rw [hv]; rfl
  unfold Is
  rw [ho,cond_false,hz1]
  refine Ai CB Bh (of_decide_eq_true rfl) ?_
  simp (disch:=omega) only [Co,go_sem,Ab,h1,Bb,Bj,BQ,BE]
 | true =>
 rw [hv] at h1
 obtain ⟨hva1,hva2⟩:=E8 hv
 obtain ⟨b1,b2,b3,b4⟩:=J5 x hva2 hva1
 have h2:=QY x hva2 (by omega)
 have h3:=PN x hva2 (by omega) (by omega)
 cases hin:x.isN with
 | false =>
  rw [hin] at h2
  have ho:He x us=false:=by unfold He skP; rw [hv,hin,yY]; rfl
  unfold Is
  rw [ho,cond_false,hz1]
  refine Ai CB Bh (of_decide_eq_true rfl) ?_
  simp (disch:=omega) only [Co,go_sem,Ab,h1,h2,Bb,Bj,BQ,BE]
 | true =>
 rw [hin] at h2
 cases hs:x.sepd with
 | false =>
  rw [hs] at h3
  have ho:He x us=false:=by unfold He skP; rw [hv,hs]; rfl
  unfold Is
  rw [ho,cond_false,hz1]
  refine Ai CB Bh (of_decide_eq_true rfl) ?_
  simp (disch:=omega) only [Co,go_sem,Ab,h1,h2,h3,Bb,Bj,BQ,BE]
 | true =>
 rw [hs] at h3
 have hok:He x us=skB x us:=by unfold He skP; rw [hv,hs,hin]; rfl
 unfold Is
 rw [hok]
 unfold skB
 cases hbb:x.bad x.free.length with
 | true =>
  have h4:=NB x us hva2 hva1 hu hbb
  rw [hz1] at h4
  rw [yU,z8,cond_false,hz1]
  refine Ai CB Bh (of_decide_eq_true rfl) ?_
  simp (disch:=omega) only [Co,go_sem,Ab,h1,h2,h3,h4,Bb,Bj,BQ,BE]
 | false =>
  have h4:=PR x us hva2 hva1 hu hbb (WG hs)
  rw [yG,y2]
  generalize skF x us=y at *
  have hys:y.sv=.agg [.int .i64 y.op,.str y.atom.name,.arr (y.atom.args.map Tm.d),.str y.var,.arr (y.parts.map Fm.d)]:=rfl
  rw [hys] at h4
  cases hq:y.valid with
  | true =>
   rw [hq] at h4
   rw [cond_true,hys]
   refine Ai CB Bh (of_decide_eq_true rfl) ?_
   simp (disch:=omega) only [Co,go_sem,Ab,h1,h2,h3,h4,Bb,Bj,BQ,BE]
  | false =>
   rw [hq] at h4
   rw [cond_false,hz1]
   refine Ai CB Bh (of_decide_eq_true rfl) ?_
   simp (disch:=omega) only [Co,go_sem,Ab,h1,h2,h3,h4,Bb,Bj,BQ,BE]
def AW:SC:=(.seq (.reg [⟨(some 4),none,(.alloc 29 [(.int .i64 0),(.str ⟨#[]⟩),.nil,(.str ⟨#[]⟩),.nil])⟩]) (.seq (.seq (.reg [⟨some 6,none,.mv (.t 1)⟩,⟨some 7,none,.bin .leq false (.t 6) (.c (.int .i64 1))⟩,⟨some 8,none,.mv (.t 7)⟩,⟨(some 9),(some (8,false)),(.mv (.t 0))⟩,⟨(some 10),(some (8,false)),(.call 40 [(.t 9),(.c (.int .i64 4))])⟩,⟨some 11,none,.pick (.t 8) (.c (.bool true)) (.t 10)⟩]) (.cond (.t 11) (.seq (.seq (.reg [⟨some 12,none,.mv (.t 0)⟩,⟨some 13,none,.call 40 [(.t 12),(.c (.int .i64 16))]⟩]) (.cond (.t 13) (.seq (.reg [⟨some 14,none,.mv (.t 0)⟩,⟨some 15,none,.call 38 [(.t 14),(.c (.int .i64 2))]⟩,⟨some 16,none,.bin .add false (.c (.int .i64 1)) (.t 15)⟩,⟨(some 17),none,(.build [(.int .i64 0),(.str ⟨#[]⟩),.nil,(.str ⟨#[]⟩),.nil] [(0,(1,(.t 16)))])⟩,⟨none,none,(.store 5 (.t 4) (.t 17))⟩]) .ret) .skip)) (.seq (.reg [⟨some 18,none,.mv (.t 0)⟩,⟨some 19,none,.call 212 [(.t 18)]⟩,⟨(some 20),none,(.build [(.int .i64 0),(.str ⟨#[]⟩),.nil,(.str ⟨#[]⟩),.nil] [(0,(1,(.c (.int .i64 3)))),(1,(2,(.t 19)))])⟩,⟨none,none,(.store 5 (.t 4) (.t 20))⟩]) .ret)) .skip)) (.seq (.reg [⟨some 21,none,.mv (.t 0)⟩,⟨some 22,none,.mkrow 3 1 [(.int .i64 0)] 10 [(0,(.c (.int .i64 4))),(1,(.c (.int .i64 5))),(2,(.c (.int .i64 6))),(3,(.c (.int .i64 7))),(4,(.c (.int .i64 8))),(5,(.c (.int .i64 9))),(6,(.c (.int .i64 8))),(7,(.c (.int .i64 9))),(8,(.c (.int .i64 5))),(9,(.c (.int .i64 7)))]⟩,⟨some 23,none,.call 213 [(.t 21),(.t 22)]⟩,⟨some 5,none,.mv (.t 23)⟩]) (.seq (.seq (.reg [⟨some 24,none,.mv (.t 5)⟩,⟨some 25,none,.bin .eql false (.t 24) (.c (.int .i64 4))⟩]) (.cond (.t 25) (.seq (.reg [⟨some 26,none,.mv (.t 5)⟩,⟨some 27,none,.mv (.t 0)⟩,⟨some 28,none,.mv (.t 1)⟩,⟨some 29,none,.bin .sub false (.t 28) (.c (.int .i64 1))⟩,⟨some 30,none,.call 161 [(.t 27),(.t 29)]⟩,⟨(some 31),none,(.mkrow 29 5 [(.int .i64 0),(.str ⟨#[]⟩),.nil,(.str ⟨#[]⟩),.nil] 1 [(0,(.t 30))])⟩,⟨(some 32),none,(.build [(.int .i64 0),(.str ⟨#[]⟩),.nil,(.str ⟨#[]⟩),.nil] [(0,(1,(.t 26))),(4,(1,(.t 31)))])⟩,⟨none,none,(.store 5 (.t 4) (.t 32))⟩]) .ret) .skip)) (.seq (.seq (.reg [⟨some 33,none,.mv (.t 5)⟩,⟨some 34,none,.bin .eql false (.t 33) (.c (.int .i64 8))⟩,⟨some 35,none,.mv (.t 34)⟩,⟨(some 36),(some (35,false)),(.mv (.t 5))⟩,⟨(some 37),(some (35,false)),(.bin .eql false (.t 36) (.c (.int .i64 9)))⟩,⟨some 38,none,.pick (.t 35) (.c (.bool true)) (.t 37)⟩]) (.cond (.t 38) (.seq (.reg [⟨some 39,none,.mv (.t 5)⟩,⟨some 40,none,.mv (.t 0)⟩,⟨(some 41),none,(.mkrow 9 1 [(.str ⟨#[]⟩)] 4 [(0,(.c (.str ⟨#[88]⟩))),(1,(.c (.str ⟨#[89]⟩))),(2,(.c (.str ⟨#[90]⟩))),(3,(.c (.str ⟨#[88]⟩)))])⟩,⟨some 42,none,.call 39 [(.t 40),(.t 41)]⟩,⟨some 43,none,.mv (.t 0)⟩,⟨some 44,none,.mv (.t 1)⟩,⟨some 45,none,.bin .sub false (.t 44) (.c (.int .i64 1))⟩,⟨some 46,none,.call 161 [(.t 43),(.t 45)]⟩,⟨(some 47),none,(.mkrow 29 5 [(.int .i64 0),(.str ⟨#[]⟩),.nil,(.str ⟨#[]⟩),.nil] 1 [(0,(.t 46))])⟩,⟨(some 48),none,(.build [(.int .i64 0),(.str ⟨#[]⟩),.nil,(.str ⟨#[]⟩),.nil] [(0,(1,(.t 39))),(3,(1,(.t 42))),(4,(1,(.t 47)))])⟩,⟨none,none,(.store 5 (.t 4) (.t 48))⟩]) .ret) .skip)) (.seq (.reg [⟨some 49,none,.mv (.t 5)⟩,⟨some 50,none,.mv (.t 0)⟩,⟨some 51,none,.mv (.t 1)⟩,⟨some 52,none,.bin .sub false (.t 51) (.c (.int .i64 1))⟩,⟨some 53,none,.call 161 [(.t 50),(.t 52)]⟩,⟨some 54,none,.mv (.t 0)⟩,⟨some 55,none,.mv (.t 1)⟩,⟨some 56,none,.bin .sub false (.t 55) (.c (.int .i64 1))⟩,⟨some 57,none,.call 161 [(.t 54),(.t 56)]⟩,⟨(some 58),none,(.mkrow 29 5 [(.int .i64 0),(.str ⟨#[]⟩),.nil,(.str ⟨#[]⟩),.nil] 2 [(0,(.t 53)),(1,(.t 57))])⟩,⟨(some 59),none,(.build [(.int .i64 0),(.str ⟨#[]⟩),.nil,(.str ⟨#[]⟩),.nil] [(0,(1,(.t 49))),(4,(1,(.t 58)))])⟩,⟨none,none,(.store 5 (.t 4) (.t 59))⟩]) .ret))))))
theorem Bp:At Tryz.prog 161=some ⟨60,AW,[(.cell 4 true 5)]⟩:=by kernel_rfl
theorem AG:modes 161=⟨[],.half [none,none,some (26,2),none,some (29,5)],none,false⟩:=by unfold modes; rfl
def FT:SC:=(.seq (.reg [⟨(some 2),none,(.alloc 29 [(.int .i64 0),(.str ⟨#[]⟩),.nil,(.str ⟨#[]⟩),.nil])⟩]) (.seq (.reg [⟨some 3,none,.mv (.t 0)⟩,⟨some 4,none,.mv (.t 0)⟩,⟨some 5,none,.call 38 [(.t 4),(.c (.int .i64 4))]⟩,⟨some 6,none,.bin .add false (.c (.int .i64 1)) (.t 5)⟩,⟨some 7,none,.call 161 [(.t 3),(.t 6)]⟩,⟨none,none,(.store 5 (.t 2) (.t 7))⟩]) .ret))
theorem J6:At Tryz.prog 107=some ⟨8,FT,[(.cell 2 true 5)]⟩:=by kernel_rfl
theorem Bk:modes 107=⟨[],.half [none,none,some (26,2),none,some (29,5)],none,false⟩:=by unfold modes; rfl
def Fm.hs (x:Fm):List OT:=[.int x.op,.str x.atom.name,.sh (x.atom.args.map Tm.d),.str x.var,.sh (x.parts.map Fm.d)]
theorem Fm.Sj:∀ xs:List Fm,OT.AA (xs.map Fm.hs)=true
 | []=>rfl
 | x :: xs=>by simp only [zL,OT.AA,Fm.hs,OT.C1,OT.full,Fm.Sj xs,yJ]
theorem Fm.Z9:∀ xs:List Fm,OT.erss (xs.map Fm.hs)=xs.map Fm.d
 | []=>rfl
 | x :: xs=>by simp only [zL,OT.erss,Fm.hs,OT.ers,OT.er,Fm.Z9 xs,Fm.d_eq]
theorem Fm.WH:∀ xs:List Fm,OT.C3 (xs.map Fm.hs)=xs.map Fm.hs
 | []=>rfl
 | x :: xs=>by simp only [zL,OT.C3,Fm.hs,OT.Jk,OT.half,Fm.WH xs]
attribute [go_sem] Fm.Sj Fm.Z9 Fm.WH
abbrev fmH (x:Fm) (g h:Nat):SV:=.agg [.int .i64 x.op,.str x.atom.name,.ref g,.str x.var,.ref h]
abbrev Ub (x:Fm):Ob:=.row 26 2 (x.atom.args.map Tm.osh)
abbrev VF (x:Fm):Ob:=.row 29 5 (x.parts.map Fm.hs)
theorem Fm.BX (op:Int) (a:Tm) (v:ByteArray) (l:List Fm):(Fm.mk op a v l).nodes=1+Fm.nodeS l:=Fm.nodes_eq _
theorem Fm.Cw {op:Int} {a:Tm} {v:ByteArray} {l:List Fm} (h1:a.nodes≤1099511627776) (h2:Fm.Cb l):(Fm.mk op a v l).tame:=by rw [Fm.JP]; exact ⟨h1,h2⟩
theorem Fm.P1 {a:Fm} (h:a.tame):Fm.Cb [a]:=by simp only [Fm.Cb]; exact ⟨h,trivial⟩
theorem Fm.QbF {a b:Fm} (h:a.tame) (k:b.tame):Fm.Cb [a,b]:=by simp only [Fm.Cb]; exact ⟨h,k,trivial⟩
theorem FU:Tm.zero.nodes=1:=by rw [Tm.nodes_eq]; rfl
theorem QaG (l:List Int) (hl:Bytes l) (hn:l.length≤1099511627776):∀ (d:Nat) (m:Int),m=d→d≤20→∀ p s:Int,0≤p→p+(120*2 ^ d:Nat)≤1080000000000→∃ x p' s',E 161 [.ptr 0 0,.int .i64 m] [cur l p s]=some (fmH x 1 2,[cur l p' s',Ub x,VF x])∧(p≤p'∧p'+10≤p+(120*2 ^ d:Nat))∧x.nodes+1≤2*2 ^ d∧x.tame:=by
 intro d
 have base:∀ (p1 s1:Int),0≤p1→p1≤1090000000000→∃ b2 p2 s2,E 40 [.ptr 0 0,.int .i64 16] [cur l p1 s1]=some (.bool b2,[cur l p2 s2])∧(p1≤p2∧p2≤p1+1)∧(∃ v p3 s3,E 38 [.ptr 0 0,.int .i64 2] [cur l p2 s2]=some (.int .i64 v,[cur l p3 s3])∧(0≤v∧v<2)∧p2≤p3∧p3≤p2+1)∧∃ t p4 s4,E 212 [.ptr 0 0] [cur l p2 s2]=some (tmH t 1,[cur l p4 s4,MD t])∧(p2≤p4∧p4≤p2+100)∧t.nodes≤50:=fun p1 s1 a b=>by
  obtain ⟨b2,p2,s2,h1,h2,h3⟩:=LK l hl hn 16 (by omega) (by omega) p1 s1 a (by omega)
  exact ⟨b2,p2,s2,h1,⟨h2,h3⟩,ER l hl hn 2 (by omega) (by omega) p2 s2 (by omega) (by omega),Qb6 l hl hn p2 s2 (by omega) (by omega)⟩
 induction d with
 | zero =>
  rintro m rfl _ p s h0 h1
  rw [show 2 ^ 0=1 by rfl] at h1 ⊢
  obtain ⟨Q,hQ⟩:∃ Q:SV × List Ob→Prop,Q=fun out=>∃ x p' s',out=(fmH x 1 2,[cur l p' s',Ub x,VF x])∧(p≤p'∧p'+10≤p+(120*1:Nat))∧x.nodes+1≤2*1∧x.tame:=⟨_,rfl⟩
  suffices hq0:∃ out,E 161 [.ptr 0 0,.int .i64 ((0:Nat):Int)] [cur l p s]=some out∧Q out by
   obtain ⟨out,hq1,hq2⟩:=hq0
   rw [hQ] at hq2
   obtain ⟨x,p',s',rfl,hq3⟩:=hq2
   exact ⟨x,p',s',hq1,hq3⟩
  obtain ⟨b2,p2,s2,hb2,⟨g3,g4⟩,⟨v,p3,s3,hv,⟨v0,v1⟩,g5,g6⟩,t,p4,s4,ht,⟨g7,g8⟩,g9⟩:=base p s (by omega) (by omega)
  cases b2 with
  | true =>
   have hi:dec (inK .i64 (1+v))=true:=B9 (by omega) (by omega)
   refine AL Bp AG (of_decide_eq_true rfl) ?_
   simp (disch:=omega) only [AW,go_sem,Ab,hb2,hv,hi,Az,As,AV]
   rw [hQ]
   exact ⟨.mk (1+v) Tm.zero ⟨#[]⟩ [],p3,s3,rfl,by omega,by rw [Fm.BX]; show 1+0+1≤_; omega,Fm.Cw (by rw [FU]; omega) trivial⟩
  | false =>
   refine AL Bp AG (of_decide_eq_true rfl) ?_
   simp (disch:=omega) only [AW,go_sem,Ab,hb2,ht,Az,As,AV]
   rw [hQ]
   exact ⟨.mk 3 t ⟨#[]⟩ [],p4,s4,rfl,by omega,by rw [Fm.BX]; show 1+0+1≤_; omega,Fm.Cw (by omega) trivial⟩
 | succ e ih =>
  intro m hm hd p s h0 h1
  have hpe:2 ^ (e+1)=2*2 ^ e:=by rw [Nat.pow_succ,Nat.mul_comm]
  have hp1:1≤2 ^ e:=Nat.one_le_two_pow
  have hp2:2 ^ e≤2 ^ 20:=Nat.pow_le_pow_right (by omega) (by omega)
  have hp3:(2:Nat) ^ 20=1048576:=by decide
  have ih:=ih (m-1) (by omega) (by omega)
  rw [hpe] at h1 ⊢
  generalize 2 ^ e=q at *
  generalize hq2:2*q=q2 at *
  obtain ⟨Q,hQ⟩:∃ Q:SV × List Ob→Prop,Q=fun out=>∃ x p' s',out=(fmH x 1 2,[cur l p' s',Ub x,VF x])∧(p≤p'∧p'+10≤p+(120*q2:Nat))∧x.nodes+1≤2*q2∧x.tame:=⟨_,rfl⟩
  suffices hq0:∃ out,E 161 [.ptr 0 0,.int .i64 m] [cur l p s]=some out∧Q out by
   obtain ⟨out,hq1,hq2⟩:=hq0
   rw [hQ] at hq2
   obtain ⟨x,p',s',rfl,hq3⟩:=hq2
   exact ⟨x,p',s',hq1,hq3⟩
  by_cases hm1:m≤1
  ·have q1:(m≤1)=True:=eq_true hm1
   obtain ⟨b2,p2,s2,hb2,⟨g3,g4⟩,⟨v,p3,s3,hv,⟨v0,v1⟩,g5,g6⟩,t,p4,s4,ht,⟨g7,g8⟩,g9⟩:=base p s (by omega) (by omega)
   cases b2 with
   | true =>
    have hi:dec (inK .i64 (1+v))=true:=B9 (by omega) (by omega)
    refine AL Bp AG (of_decide_eq_true rfl) ?_
    simp (disch:=omega) only [AW,go_sem,Ab,q1,hb2,hv,hi,Az,As,AV]
    rw [hQ]
    exact ⟨.mk (1+v) Tm.zero ⟨#[]⟩ [],p3,s3,rfl,by omega,by rw [Fm.BX]; show 1+0+1≤_; omega,Fm.Cw (by rw [FU]; omega) trivial⟩
   | false =>
    refine AL Bp AG (of_decide_eq_true rfl) ?_
    simp (disch:=omega) only [AW,go_sem,Ab,q1,hb2,ht,Az,As,AV]
    rw [hQ]
    exact ⟨.mk 3 t ⟨#[]⟩ [],p4,s4,rfl,by omega,by rw [Fm.BX]; show 1+0+1≤_; omega,Fm.Cw (by omega) trivial⟩
  ·have q1:(m≤1)=False:=eq_false hm1
   obtain ⟨b1,p1,s1,hb1,g1,g2⟩:=LK l hl hn 4 (by omega) (by omega) p s h0 (by omega)
   cases b1 with
   | true =>
    obtain ⟨b2,p2,s2,hb2,⟨g3,g4⟩,⟨v,p3,s3,hv,⟨v0,v1⟩,g5,g6⟩,t,p4,s4,ht,⟨g7,g8⟩,g9⟩:=base p1 s1 (by omega) (by omega)
    cases b2 with
    | true =>
     have hi:dec (inK .i64 (1+v))=true:=B9 (by omega) (by omega)
     refine AL Bp AG (of_decide_eq_true rfl) ?_
     simp (disch:=omega) only [AW,go_sem,Ab,q1,hb1,hb2,hv,hi,Az,As,AV]
     rw [hQ]
     exact ⟨.mk (1+v) Tm.zero ⟨#[]⟩ [],p3,s3,rfl,by omega,by rw [Fm.BX]; show 1+0+1≤_; omega,Fm.Cw (by rw [FU]; omega) trivial⟩
    | false =>
     refine AL Bp AG (of_decide_eq_true rfl) ?_
     simp (disch:=omega) only [AW,go_sem,Ab,q1,hb1,hb2,ht,Az,As,AV]
     rw [hQ]
     exact ⟨.mk 3 t ⟨#[]⟩ [],p4,s4,rfl,by omega,by rw [Fm.BX]; show 1+0+1≤_; omega,Fm.Cw (by omega) trivial⟩
   | false =>
    obtain ⟨op,p2,s2,hop,hmem,g3,g4⟩:=Qa4 l hl hn [4,5,6,7,8,9,8,9,5,7] (by decide) (by decide) p1 s1 (by omega) (by omega)
    simp only [zL,zH] at hop
    have hi:dec (inK .i64 (m-1))=true:=B9 (by omega) (by omega)
    by_cases ho4:op=4
    ·subst ho4
     obtain ⟨y,p3,s3,hy,⟨g5,g6⟩,g7,g8⟩:=ih p2 s2 (by omega) (by omega)
     refine AL Bp AG (of_decide_eq_true rfl) ?_
     simp (disch:=omega) only [AW,go_sem,Ab,q1,hb1,hop,hi,hy,Az,CF,AG]
     rw [hQ]
     exact ⟨.mk 4 Tm.zero ⟨#[]⟩ [y],p3,s3,rfl,by omega,by rw [Fm.BX]; show 1+(y.nodes+0)+1≤_; omega,Fm.Cw (by rw [FU]; omega) (Fm.P1 g8)⟩
    ·have o4:(op=4)=False:=eq_false ho4
     by_cases ho8:op=8
     ·subst ho8
      obtain ⟨x,p3,s3,hx,_,g5,g6⟩:=TO l hl hn [⟨#[88]⟩,⟨#[89]⟩,⟨#[90]⟩,⟨#[88]⟩] (by decide) (by decide) p2 s2 (by omega) (by omega)
      simp only [zL,zH] at hx
      obtain ⟨y,p4,s4,hy,⟨g7,g8⟩,g9,g10⟩:=ih p3 s3 (by omega) (by omega)
      refine AL Bp AG (of_decide_eq_true rfl) ?_
      simp (disch:=omega) only [AW,go_sem,Ab,q1,hb1,hop,hi,hx,hy,Az,CF,A1,AG]
      rw [hQ]
      exact ⟨.mk 8 Tm.zero x [y],p4,s4,rfl,by omega,by rw [Fm.BX]; show 1+(y.nodes+0)+1≤_; omega,Fm.Cw (by rw [FU]; omega) (Fm.P1 g10)⟩
     ·have o8:(op=8)=False:=eq_false ho8
      by_cases ho9:op=9
      ·subst ho9
       obtain ⟨x,p3,s3,hx,_,g5,g6⟩:=TO l hl hn [⟨#[88]⟩,⟨#[89]⟩,⟨#[90]⟩,⟨#[88]⟩] (by decide) (by decide) p2 s2 (by omega) (by omega)
       simp only [zL,zH] at hx
       obtain ⟨y,p4,s4,hy,⟨g7,g8⟩,g9,g10⟩:=ih p3 s3 (by omega) (by omega)
       refine AL Bp AG (of_decide_eq_true rfl) ?_
       simp (disch:=omega) only [AW,go_sem,Ab,q1,hb1,hop,hi,hx,hy,Az,CF,A1,AG]
       rw [hQ]
       exact ⟨.mk 9 Tm.zero x [y],p4,s4,rfl,by omega,by rw [Fm.BX]; show 1+(y.nodes+0)+1≤_; omega,Fm.Cw (by rw [FU]; omega) (Fm.P1 g10)⟩
      ·have o9:(op=9)=False:=eq_false ho9
       obtain ⟨y,p3,s3,hy,⟨g5,g6⟩,g7,g8⟩:=ih p2 s2 (by omega) (by omega)
       obtain ⟨z,p4,s4,hz,⟨g9,g10⟩,g11,g12⟩:=ih p3 s3 (by omega) (by omega)
       refine AL Bp AG (of_decide_eq_true rfl) ?_
       simp (disch:=omega) only [AW,go_sem,Ab,q1,hb1,hop,hi,hy,hz,o4,o8,o9,Az,CF,AG]
       rw [hQ]
       exact ⟨.mk op Tm.zero ⟨#[]⟩ [y,z],p4,s4,rfl,by omega,by rw [Fm.BX]; show 1+(y.nodes+(z.nodes+0))+1≤_; omega,Fm.Cw (by rw [FU]; omega) (Fm.QbF g8 g12)⟩
theorem Rf (l:List Int) (hl:Bytes l) (hn:l.length≤1099511627776) (p s:Int) (h0:0≤p) (h1:p≤1070000000000):∃ x p' s',E 107 [.ptr 0 0] [cur l p s]=some (fmH x 1 2,[cur l p' s',Ub x,VF x])∧(p≤p'∧p'≤p+2000)∧x.nodes≤31∧x.tame:=by
 obtain ⟨v,p1,s1,hv,⟨v0,v1⟩,g1,g2⟩:=ER l hl hn 4 (by omega) (by omega) p s h0 (by omega)
 have hp3:(2:Nat) ^ (1+v).toNat≤2 ^ 4:=Nat.pow_le_pow_right (by omega) (by omega)
 have hp4:(2:Nat) ^ 4=16:=by decide
 obtain ⟨x,p2,s2,hx,⟨g3,g4⟩,g5,g6⟩:=QaG l hl hn (1+v).toNat (1+v) (by omega) (by omega) p1 s1 (by omega) (by omega)
 refine ⟨x,p2,s2,?_,by omega,by omega,g6⟩
 have hi:dec (inK .i64 (1+v))=true:=B9 (by omega) (by omega)
 refine Ai J6 Bk (of_decide_eq_true rfl) ?_
 simp (disch:=omega) only [FT,go_sem,Ab,hv,hx,hi,As,AG]
def K3:SC:=(.seq (.reg [⟨some 1,none,.boxv 29 5 (.t 0)⟩,⟨some 2,none,.mv (.c (.int .i64 0))⟩]) (.seq (.reg [⟨some 3,none,.mv (.c (.int .i64 1))⟩]) (.seq (.seq (.reg [⟨some 4,none,.mv (.c (.int .i64 0))⟩]) (.block 0 (.loop [0,1,0,1,1,0,0,0,0,0,0,0,0,0,0,0,0,0,0,0,0] (.seq (.seq (.reg [⟨some 5,none,.mv (.t 4)⟩,⟨some 6,none,.faddr 4 (.t 1)⟩,⟨some 7,none,.load false 1 (.t 6)⟩,⟨some 8,none,.len false (.t 7)⟩,⟨some 9,none,.bin .lss false (.t 5) (.t 8)⟩]) (.cond (.t 9) .skip (.exit 0))) (.seq (.block 1 (.reg [⟨some 12,none,.mv (.t 3)⟩,⟨some 13,none,.faddr 4 (.t 1)⟩,⟨some 14,none,.load false 1 (.t 13)⟩,⟨some 15,none,.mv (.t 4)⟩,⟨some 16,none,.iaddr 5 (.t 14) (.t 15)⟩,⟨some 17,none,.load true 5 (.t 16)⟩,⟨some 18,none,.call 109 [(.t 17)]⟩,⟨some 19,none,.bin .add false (.t 12) (.t 18)⟩,⟨some 3,none,.mv (.t 19)⟩])) (.reg [⟨some 10,none,.mv (.t 4)⟩,⟨some 11,none,.bin .add false (.t 10) (.c (.int .i64 1))⟩,⟨some 4,none,.mv (.t 11)⟩])))))) (.seq (.reg [⟨some 20,none,.mv (.t 3)⟩,⟨some 2,none,.mv (.t 20)⟩]) .ret))))
theorem PS:At Tryz.prog 109=some ⟨21,K3,[(.tmp 2)]⟩:=by kernel_rfl
theorem B4:modes 109=⟨[],.asis,none,false⟩:=by unfold modes; rfl
def AN:SC:=(.seq (.reg [⟨(some 2),none,(.alloc 29 [(.int .i64 0),(.str ⟨#[]⟩),.nil,(.str ⟨#[]⟩),.nil])⟩]) (.seq (.reg [⟨some 5,none,.mv (.t 0)⟩,⟨some 6,none,.call 107 [(.t 5)]⟩,⟨(some 3),none,(.alloc 29 [(.int .i64 0),(.str ⟨#[]⟩),.nil,(.str ⟨#[]⟩),.nil])⟩,⟨none,none,(.store 5 (.t 3) (.t 6))⟩]) (.seq (.seq (.reg [⟨some 7,none,.mv (.t 0)⟩,⟨some 8,none,.call 38 [(.t 7),(.c (.int .i64 24))]⟩]) (.block 0 (.seq (.reg [⟨some 10,none,.bin .eql false (.t 8) (.c (.int .i64 0))⟩,⟨some 9,none,.mv (.t 10)⟩]) (.cond (.t 9) (.reg [⟨some 11,none,.mv (.t 0)⟩,⟨some 12,none,.call 38 [(.t 11),(.c (.int .i64 11))]⟩,⟨some 13,none,.faddr 0 (.t 3)⟩,⟨none,none,(.store 1 (.t 13) (.t 12))⟩]) (.seq (.reg [⟨some 15,none,.bin .eql false (.t 8) (.c (.int .i64 1))⟩,⟨some 14,none,.mv (.t 15)⟩]) (.cond (.t 14) (.reg [⟨some 16,none,.mv (.t 0)⟩,⟨(some 17),none,(.mkrow 9 1 [(.str ⟨#[]⟩)] 3 [(0,(.c (.str ⟨#[88]⟩))),(1,(.c (.str ⟨#[97]⟩))),(2,(.c (.str ⟨#[]⟩)))])⟩,⟨some 18,none,.call 39 [(.t 16),(.t 17)]⟩,⟨some 19,none,.faddr 3 (.t 3)⟩,⟨none,none,(.store 1 (.t 19) (.t 18))⟩]) (.seq (.reg [⟨some 21,none,.bin .eql false (.t 8) (.c (.int .i64 2))⟩,⟨some 20,none,.mv (.t 21)⟩]) (.cond (.t 20) (.reg [⟨some 22,none,.mv (.t 0)⟩,⟨some 23,none,.call 108 [(.t 22)]⟩,⟨some 24,none,.faddr 1 (.t 3)⟩,⟨none,none,(.store 2 (.t 24) (.t 23))⟩]) (.seq (.reg [⟨some 26,none,.bin .eql false (.t 8) (.c (.int .i64 3))⟩,⟨some 25,none,.mv (.t 26)⟩]) (.cond (.t 25) (.dreg [[],[0],[],[2],[3,2],[1,0,4,3,2],[0,1,2,3,4,5],[6,0,1,2,3,4,5]] [⟨some 27,none,.faddr 4 (.t 3)⟩,⟨some 28,none,.load false 1 (.t 27)⟩,⟨some 29,none,.mv (.t 0)⟩,⟨some 30,none,.call 107 [(.t 29)]⟩,⟨(some 31),none,(.mkrow 29 5 [(.int .i64 0),(.str ⟨#[]⟩),.nil,(.str ⟨#[]⟩),.nil] 1 [(0,(.t 30))])⟩,⟨(some 32),none,(.append 29 5 88 [(.int .i64 0),(.str ⟨#[]⟩),.nil,(.str ⟨#[]⟩),.nil] (.t 28) (.t 31))⟩,⟨some 33,none,.faddr 4 (.t 3)⟩,⟨none,none,(.store 1 (.t 33) (.t 32))⟩]) (.seq (.reg [⟨some 35,none,.bin .eql false (.t 8) (.c (.int .i64 4))⟩,⟨some 34,none,.mv (.t 35)⟩]) (.cond (.t 34) (.seq (.reg [⟨some 36,none,.mv (.t 0)⟩,⟨some 37,none,.call 38 [(.t 36),(.c (.int .i64 5))]⟩,⟨some 38,none,.bin .add false (.c (.int .i64 36)) (.t 37)⟩,⟨some 4,none,.mv (.t 38)⟩]) (.block 1 (.loop [0,0,1,1,1,0,0,0,0,0,0,0,0,0,0,0,0,0,0,0,0,0,0,0,0,0,0,0,0,0,0,0,0,0,0,0,0,0,0,0,0,0,0,0,0,0,0,0,0,0,0,0,0,0,0,0,0,0,0] (.seq (.seq (.reg [⟨some 39,none,.load true 5 (.t 3)⟩,⟨some 40,none,.call 109 [(.t 39)]⟩,⟨some 41,none,.mv (.t 4)⟩,⟨some 42,none,.bin .lss false (.t 40) (.t 41)⟩]) (.cond (.t 42) .skip (.exit 1))) (.block 2 (.reg [⟨some 43,none,.load true 5 (.t 3)⟩,⟨(some 44),none,(.mkrow 29 5 [(.int .i64 0),(.str ⟨#[]⟩),.nil,(.str ⟨#[]⟩),.nil] 1 [(0,(.t 43))])⟩,⟨(some 45),none,(.build [(.int .i64 0),(.str ⟨#[]⟩),.nil,(.str ⟨#[]⟩),.nil] [(0,(1,(.c (.int .i64 4)))),(4,(1,(.t 44)))])⟩,⟨none,none,(.store 5 (.t 3) (.t 45))⟩])))))) (.seq (.reg [⟨some 47,none,.bin .eql false (.t 8) (.c (.int .i64 5))⟩,⟨some 46,none,.mv (.t 47)⟩]) (.cond (.t 46) (.seq (.reg [⟨some 48,none,.faddr 4 (.t 3)⟩,⟨some 49,none,.load false 1 (.t 48)⟩,⟨some 50,none,.len false (.t 49)⟩,⟨some 51,none,.bin .gtr false (.t 50) (.c (.int .i64 0))⟩]) (.cond (.t 51) (.dreg [[],[0],[],[2],[1,0,2,3],[4,1,0,2,3],[5,4,1,0,2,3]] [⟨some 52,none,.faddr 4 (.t 3)⟩,⟨some 53,none,.load false 1 (.t 52)⟩,⟨some 54,none,.mv (.t 0)⟩,⟨some 55,none,.call 38 [(.t 54),(.c (.int .i64 11))]⟩,⟨some 56,none,.iaddr 5 (.t 53) (.c (.int .i64 0))⟩,⟨some 57,none,.faddr 0 (.t 56)⟩,⟨none,none,(.store 1 (.t 57) (.t 55))⟩]) .skip)) .skip)))))))))))))) (.seq (.reg [⟨some 58,none,.load true 5 (.t 3)⟩,⟨none,none,(.store 5 (.t 2) (.t 58))⟩]) .ret))))
theorem AZ:At Tryz.prog 56=some ⟨59,AN,[(.cell 2 true 5)]⟩:=by kernel_rfl
theorem AI:modes 56=⟨[],.half [none,none,some (26,2),none,some (29,5)],none,false⟩:=by unfold modes; rfl
theorem XE (x:Fm) (hn:x.nodes≤1099511627776) (ih:∀ y∈x.parts,E 109 [y.sv] []=some (.int .i64 y.nodes,[])):E 109 [x.sv] []=some (.int .i64 x.nodes,[]):=by
 have hl:=Fm.length_le x.parts
 have hne:=Fm.nodes_eq x
 refine Ai PS B4 (of_decide_eq_true rfl) ?_
 simp (disch:=omega) only [K3,go_sem,Ab]
 refine go_loop (α:=Int × (Int)) (fun a=>⟨slots 21 0 [(1,.ptr 0 0),(3,.int .i64 (a.2)),(4,.int .i64 (a.1))],[.box 29 [.int .i64 x.op,.str x.atom.name,.arr (x.atom.args.map Tm.d),.str x.var,.arr (x.parts.map Fm.d)]]⟩) (fun a=>∃ k:Nat,a.1=k∧k≤(x.parts).length∧(a.2)=((1+Fm.nodeS (x.parts.take k):Nat):Int)) (fun a=>(x.parts).length-(a.1).toNat) (0,1) ⟨0,rfl,zK _,by rw [zZ]; rfl⟩ (by simp (disch:=omega) only [go_sem,Ab]) ?_
 rintro ⟨i,n⟩ ⟨k,hi,hk,hR⟩
 dsimp only at hi hR
 have hni:i.toNat=k:=by omega
 have hni1:(i+1).toNat=k+1:=by omega
 rcases zC k (x.parts).length with hlt | hge
 ·have hg:=get_at Fm.d hlt
  rw [Fm.d_eq] at hg
  have hc:=ih x.parts[k] (zI hlt)
  have ht:=Fm.OP x.parts k hlt
  have htl:=Fm.PG x.parts (k+1)
  have hi2:dec (inK .i64 (n+(x.parts[k].nodes:Int)))=true:=B9 (by omega) (by omega)
  simp (disch:=omega) only [go_sem,Ab,hni,hg,hc,hi2,B4]
  exact ⟨(i+1,n+(x.parts[k].nodes:Int)),⟨k+1,by dsimp only; omega,hlt,by dsimp only; omega⟩,by dsimp only; omega,by first | trivial | rfl⟩
 ·obtain rfl:k=x.parts.length:=by omega
  rw [yB,← hne] at hR
  rw [←hR]
  simp (disch:=omega) only [go_sem,Ab,hni]
theorem Uc (x:Fm) (hn:x.nodes≤1099511627776):E 109 [x.sv] []=some (.int .i64 x.nodes,[]) :=
 XE x hn fun y hy=>Uc y (by have:=Fm.nodes_mem hy; have:=Fm.nodes_eq x; omega)
termination_by SizeOf.sizeOf x
decreasing_by exact Fm.lt_of_mem hy
def Gf (x:Fm):Nat→Fm
 | 0=>x
 | k+1=>.mk 4 Tm.zero ⟨#[]⟩ [Gf x k]
theorem IK (x:Fm):∀ k,(Gf x k).nodes=x.nodes+k
 | 0=>rfl
 | k+1=>by
  have:(Gf x (k+1)).nodes=1+((Gf x k).nodes+0):=by rw [Gf,Fm.BX]; rfl
  rw [this,IK x k]; omega
theorem Rg {x:Fm} (h:x.tame):∀ k,(Gf x k).tame
 | 0=>h
 | k+1=>Fm.Cw (by rw [FU]; omega) (Fm.P1 (Rg h k))
theorem Fm.nodeS_app:∀ (a b:List Fm),Fm.nodeS (a++b)=Fm.nodeS a+Fm.nodeS b
 | [],b=>by simp [Fm.nodeS]
 | x :: a,b=>by simp only [yD,Fm.nodeS,Fm.nodeS_app a b]; omega
theorem Fm.Rh:∀ {a b:List Fm},Fm.Cb a→Fm.Cb b→Fm.Cb (a++b)
 | [],b,_,h=>h
 | x :: a,b,h,k=>by
  simp only [Fm.Cb] at h
  simp only [yD,Fm.Cb]
  exact ⟨h.1,Fm.Rh h.2 k⟩
theorem Fm.WI {x:Fm} (h:x.tame):Fm.Cb x.parts:=by rw [Fm.JP] at h; exact h.2
theorem Sk (l:List Int) (hl:Bytes l) (hn:l.length≤1099511627776) (p s:Int) (h0:0≤p) (h1:p≤1060000000000):∃ x p' s',E 56 [.ptr 0 0] [cur l p s]=some (fmH x 1 2,[cur l p' s',Ub x,VF x])∧(p≤p'∧p'≤p+5000)∧x.nodes≤100∧x.tame:=by
 obtain ⟨Q,hQ⟩:∃ Q:SV × List Ob→Prop,Q=fun out=>∃ x p' s',out=(fmH x 1 2,[cur l p' s',Ub x,VF x])∧(p≤p'∧p'≤p+5000)∧x.nodes≤100∧x.tame:=⟨_,rfl⟩
 suffices hq0:∃ out,E 56 [.ptr 0 0] [cur l p s]=some out∧Q out by
  obtain ⟨out,hq1,hq2⟩:=hq0
  rw [hQ] at hq2
  obtain ⟨x,p',s',rfl,hq3⟩:=hq2
  exact ⟨x,p',s',hq1,hq3⟩
 obtain ⟨x,p1,s1,hf,⟨g1,g2⟩,g3,hta⟩:=Rf l hl hn p s h0 (by omega)
 obtain ⟨v,p2,s2,hv,⟨v0,v1⟩,g4,g5⟩:=ER l hl hn 24 (by omega) (by omega) p1 s1 (by omega) (by omega)
 have hlen:=Fm.length_le x.parts
 have hne:=Fm.nodes_eq x
 have hat:=Fm.tame_at hta
 have hps:=Fm.WI hta
 rcases (show v=0∨v=1∨v=2∨v=3∨v=4∨v=5∨(¬ v=0∧¬ v=1∧¬ v=2∧¬ v=3∧¬ v=4∧¬ v=5) by omega) with rfl | rfl | rfl | rfl | rfl | rfl | ⟨k0,k1,k2,k3,k4,k5⟩
 ·obtain ⟨u,p3,s3,hu,_,g6,g7⟩:=ER l hl hn 11 (by omega) (by omega) p2 s2 (by omega) (by omega)
  refine AL AZ AI (of_decide_eq_true rfl) ?_
  simp (disch:=omega) only [AN,go_sem,Ab,hf,hv,hu,As,Bk,A1,AB,B4]
  rw [hQ]
  exact ⟨.mk u x.atom x.var x.parts,p3,s3,rfl,by omega,by rw [Fm.BX]; omega,Fm.Cw hat hps⟩
 ·obtain ⟨y,p3,s3,hu,_,g6,g7⟩:=TO l hl hn [⟨#[88]⟩,⟨#[97]⟩,⟨#[]⟩] (by decide) (by decide) p2 s2 (by omega) (by omega)
  simp only [zL,zH] at hu
  refine AL AZ AI (of_decide_eq_true rfl) ?_
  simp (disch:=omega) only [AN,go_sem,Ab,hf,hv,hu,As,Bk,A1,AB,B4]
  rw [hQ]
  exact ⟨.mk x.op x.atom y x.parts,p3,s3,rfl,by omega,by rw [Fm.BX]; omega,Fm.Cw hat hps⟩
 ·obtain ⟨t,p3,s3,hu,⟨g6,g7⟩,g8⟩:=X9 l hl hn p2 s2 (by omega) (by omega)
  refine AL AZ AI (of_decide_eq_true rfl) ?_
  simp (disch:=omega) only [AN,go_sem,Ab,hf,hv,hu,As,Bk,A1,AB,B4]
  rw [hQ]
  exact ⟨.mk x.op t x.var x.parts,p3,s3,rfl,by omega,by rw [Fm.BX]; omega,Fm.Cw (by omega) hps⟩
 ·obtain ⟨y,p3,s3,hu,⟨g6,g7⟩,g8,hty⟩:=Rf l hl hn p2 s2 (by omega) (by omega)
  have hxl:x.parts.length≤31:=by omega
  refine AL AZ AI (of_decide_eq_true rfl) ?_
  simp (disch:=omega) only [AN,go_sem,Ab,hf,hv,hu,As,Bk,A1,AB,B4]
  rw [hQ]
  refine ⟨.mk x.op x.atom x.var (x.parts++[y]),p3,s3,?_,by omega,by rw [Fm.BX,Fm.nodeS_app]; show 1+(_+(y.nodes+0))≤_; omega,Fm.Cw hat (Fm.Rh hps (Fm.P1 hty))⟩
  show _=(fmH (.mk x.op x.atom x.var (x.parts++[y])) 1 2,[cur l p3 s3,Ub x,.row 29 5 ((x.parts++[y]).map Fm.hs)])
  rw [zQ]
  rfl
 ·obtain ⟨u,p3,s3,hu,⟨u0,u1⟩,g6,g7⟩:=ER l hl hn 5 (by omega) (by omega) p2 s2 (by omega) (by omega)
  have hi:dec (inK .i64 (36+u))=true:=B9 (by omega) (by omega)
  refine AL AZ AI (of_decide_eq_true rfl) ?_
  simp (disch:=omega) only [AN,go_sem,Ab,hf,hv,hu,hi,As,Bk,A1,AB,B4]
  refine go_loop (α:=Nat × List (List OT) × List (List OT)) (fun a=>⟨slots 59 0 [(2,.ptr 1 0),(3,.ptr 2 0),(4,.int .i64 (36+u))],(if a.1=0 then [cur l p3 s3,.box 29 [.int .i64 0,.str ⟨#[]⟩,.nil,.str ⟨#[]⟩,.nil],.box 29 [.int .i64 x.op,.str x.atom.name,.ref 3,.str x.var,.ref 4],Ub x,VF x] else [cur l p3 s3,.box 29 [.int .i64 0,.str ⟨#[]⟩,.nil,.str ⟨#[]⟩,.nil],.box 29 [.int .i64 4,.str ⟨#[]⟩,.nil,.str ⟨#[]⟩,.ref 3],.row 29 5 [[.int (Gf x (a.1-1)).op,.str (Gf x (a.1-1)).atom.name,.ow a.2.1,.str (Gf x (a.1-1)).var,.ow a.2.2]]])⟩) (fun a=>(a.1=0∨(OT.erss a.2.1=(Gf x (a.1-1)).atom.args.map Tm.d∧OT.erss a.2.2=(Gf x (a.1-1)).parts.map Fm.d∧OT.AA a.2.1=true∧OT.AA a.2.2=true))∧a.1≤50) (fun a=>50-a.1) (0,[],[]) ⟨.inl rfl,by omega⟩ (by simp (disch:=omega) only [go_sem,Ab,eq_self,if_true]) ?_
  rintro ⟨k,A,B⟩ ⟨hR,hk⟩
  dsimp only at hR hk
  have hsz:=Uc (Gf x k) (by rw [IK]; omega)
  rw [IK] at hsz
  have hnn:=IK x k
  rcases zG k with hk0 | hk0
  ·subst hk0
   have hsz:E 109 [.agg [.int .i64 x.op,.str x.atom.name,.arr (x.atom.args.map Tm.d),.str x.var,.arr (x.parts.map Fm.d)]] []=some (.int .i64 ((x.nodes+0:Nat):Int),[]):=hsz
   have q6:((0:Nat)+1=0)=False:=by simp
   by_cases hc:((x.nodes+0:Nat):Int)<36+u
   ·have q1:(((x.nodes+0:Nat):Int)<36+u)=True:=eq_true hc
    simp (disch:=omega) only [go_sem,Ab,hsz,q1,eq_self,if_true,B4]
    refine ⟨(0+1,x.atom.args.map Tm.osh,x.parts.map Fm.hs),⟨.inr ⟨Tm.osh_er _,Fm.Z9 _,Tm.osh_full _,Fm.Sj _⟩,by dsimp only; omega⟩,by dsimp only; omega,?_⟩
    simp (disch:=omega) only [go_sem,Ab,q6,if_false,Nat.add_sub_cancel]
    first | rfl | exact ⟨rfl,rfl⟩
   ·exact absurd (show ((x.nodes+0:Nat):Int)<36+u by omega) hc
  ·obtain ⟨j,rfl⟩:∃ j,k=j+1:=⟨k-1,by omega⟩
   obtain ⟨e1,e2,e3,e4⟩:=hR.resolve_left (by omega)
   rw [Nat.add_sub_cancel] at e1 e2
   have hsv:(Gf x (j+1)).sv=.agg [.int .i64 4,.str ⟨#[]⟩,.arr [],.str ⟨#[]⟩,.arr [[.int (Gf x j).op,.str (Gf x j).atom.name,.arr ((Gf x j).atom.args.map Tm.d),.str (Gf x j).var,.arr ((Gf x j).parts.map Fm.d)]]]:=by
    show SV.agg [.int .i64 4,.str ⟨#[]⟩,.arr (([]:List Tm).map Tm.d),.str ⟨#[]⟩,.arr ([Gf x j].map Fm.d)]=_
    rw [zL,zH,zH,Fm.d_eq]
   rw [hsv] at hsz
   have q8:(j+1=0)=False:=by simp
   have q9:j+1-1=j:=by omega
   have q10:(j+1+1=0)=False:=by simp
   have q11:j+1+1-1=j+1:=by omega
   by_cases hc:((x.nodes+(j+1):Nat):Int)<36+u
   ·have q1:(((x.nodes+(j+1):Nat):Int)<36+u)=True:=eq_true hc
    simp (disch:=omega) only [go_sem,Ab,hsz,q1,q8,q9,if_false,e1,e2,e3,e4,B4]
    refine ⟨(j+1+1,[],[[.int (Gf x j).op,.str (Gf x j).atom.name,.ow A,.str (Gf x j).var,.ow B]]),⟨.inr ⟨?_,?_,rfl,?_⟩,by dsimp only; omega⟩,by dsimp only; omega,?_⟩
    ·dsimp only; rw [q11]; rfl
    ·dsimp only; rw [q11]
     simp only [OT.erss,OT.ers,OT.er,e1,e2]
     rw [show (Gf x (j+1)).parts=[Gf x j] from rfl,zL,zH,Fm.d_eq]
    ·simp only [OT.AA,OT.C1,OT.full,e3,e4,yJ]
    ·simp (disch:=omega) only [go_sem,Ab,q10,q11,if_false]
     first | rfl | exact ⟨rfl,rfl⟩
   ·have q1:(((x.nodes+(j+1):Nat):Int)<36+u)=False:=eq_false hc
    simp (disch:=omega) only [go_sem,Ab,hsz,q1,q8,q9,if_false,e1,e2,e3,e4,B4]
    rw [hQ]
    exact ⟨Gf x (j+1),p3,s3,rfl,by omega,by omega,Rg hta _⟩
 ·rcases hc:x.parts with _ | ⟨a0,ar⟩
  ·have q0:((0:Int)<(x.parts.length:Int))=False:=eq_false (by rw [hc]; simp)
   rw [←hc] at *
   refine AL AZ AI (of_decide_eq_true rfl) ?_
   simp (disch:=omega) only [AN,go_sem,Ab,hf,hv,q0,As,Bk,A1,AB,B4]
   rw [hQ]
   exact ⟨x,p2,s2,rfl,by omega,by omega,hta⟩
  ·have q0:((0:Int)<(x.parts.length:Int))=True:=eq_true (by rw [hc]; simp)
   obtain ⟨u,p3,s3,hu,_,g6,g7⟩:=ER l hl hn 11 (by omega) (by omega) p2 s2 (by omega) (by omega)
   have hm:x.parts.map Fm.hs=[.int a0.op,.str a0.atom.name,.sh (a0.atom.args.map Tm.d),.str a0.var,.sh (a0.parts.map Fm.d)] :: ar.map Fm.hs:=by rw [hc]; rfl
   have hgl:(x.parts.map Fm.hs)[0]?=some [.int a0.op,.str a0.atom.name,.sh (a0.atom.args.map Tm.d),.str a0.var,.sh (a0.parts.map Fm.d)]:=by rw [hm]; rfl
   have hst:∀ y,(x.parts.map Fm.hs).set 0 y=y :: ar.map Fm.hs:=fun y=>by rw [hm]; rfl
   have q1:0<x.parts.length:=by rw [hc]; simp
   have hnn:x.nodes=1+(a0.nodes+Fm.nodeS ar):=by rw [Fm.nodes_eq,hc]; rfl
   rw [hc] at hps
   simp only [Fm.Cb] at hps
   refine AL AZ AI (of_decide_eq_true rfl) ?_
   simp (disch:=omega) only [AN,go_sem,Ab,hf,hv,q0,hu,hgl,hst,q1,As,Bk,A1,AB,B4]
   rw [hQ]
   refine ⟨.mk x.op x.atom x.var (.mk u a0.atom a0.var a0.parts :: ar),p3,s3,rfl,by omega,?_,Fm.Cw hat ?_⟩
   ·rw [Fm.BX]
    show 1+((Fm.mk u a0.atom a0.var a0.parts).nodes+Fm.nodeS ar)≤_
    rw [Fm.BX]
    have:=Fm.nodes_eq a0
    omega
   ·simp only [Fm.Cb]
    exact ⟨Fm.Cw (Fm.tame_at hps.1) (Fm.WI hps.1),hps.2⟩
 ·have k0:=eq_false k0
  have k1:=eq_false k1
  have k2:=eq_false k2
  have k3:=eq_false k3
  have k4:=eq_false k4
  have k5:=eq_false k5
  refine AL AZ AI (of_decide_eq_true rfl) ?_
  simp (disch:=omega) only [AN,go_sem,Ab,hf,hv,k0,k1,k2,k3,k4,k5,As,Bk,A1,AB,B4]
  rw [hQ]
  exact ⟨x,p2,s2,rfl,by omega,by omega,hta⟩
def K4:SC:=(.seq (.reg [⟨some 4,none,.mv (.c (.int .i64 0))⟩]) (.seq (.seq (.reg [⟨some 6,none,.mv (.t 0)⟩,⟨some 7,none,.len false (.t 6)⟩,⟨some 8,none,.bin .sub false (.t 7) (.c (.int .i64 1))⟩,⟨some 5,none,.mv (.t 8)⟩]) (.block 0 (.loop [1,1,0,0,0,1,0,0,0,0,0,0,0,0,0,0,0,0,0,0] (.seq (.seq (.reg [⟨some 9,none,.mv (.t 5)⟩,⟨some 10,none,.bin .geq false (.t 9) (.c (.int .i64 0))⟩]) (.cond (.t 10) .skip (.exit 0))) (.seq (.block 1 (.seq (.reg [⟨some 13,none,.mv (.t 0)⟩,⟨some 14,none,.mv (.t 5)⟩,⟨some 15,none,.iaddr 1 (.t 13) (.t 14)⟩,⟨some 16,none,.load false 1 (.t 15)⟩,⟨some 17,none,.mv (.t 1)⟩,⟨some 18,none,.bin .eql false (.t 16) (.t 17)⟩]) (.cond (.t 18) (.seq (.reg [⟨some 19,none,.mv (.t 5)⟩,⟨some 4,none,.mv (.t 19)⟩]) .ret) .skip))) (.reg [⟨some 11,none,.mv (.t 5)⟩,⟨some 12,none,.bin .sub false (.t 11) (.c (.int .i64 1))⟩,⟨some 5,none,.mv (.t 12)⟩])))))) (.seq (.reg [⟨some 4,none,.mv (.c (.int .i64 (-(0+1))))⟩]) .ret)))
theorem PT:At Tryz.prog 177=some ⟨20,K4,[(.tmp 4)]⟩:=by kernel_rfl
theorem HM:modes 177=⟨[],.asis,none,false⟩:=by unfold modes; rfl
theorem P2 (a:ByteArray) (s:ByteArray):∀ l:List ByteArray,C8 (l++[a]) s=bif dec (a=s) then (l.length:Int) else C8 l s
 | []=>by
  have h1:C8 [] s=-1:=by rw [C8]
  rw [zJ,h1,C8,h1,Aj (by omega)]; rfl
 | x :: l=>by
  have ih:=P2 a s l
  rw [yD,C8,ih,C8,List.length_cons]
  cases dec (a=s) with
  | true=>simp only [cond_true]; rw [Ar (by omega),cond_true]; omega
  | false=>simp only [cond_false]
theorem ZA (l:List ByteArray) (hl:l.length≤1099511627776) (s:ByteArray):E 177 [.arr (l.map fun s=>[D.str s]),.str s] []=some (.int .i64 (C8 l s),[]):=by
 refine Ai PT HM (of_decide_eq_true rfl) ?_
 simp (disch:=omega) only [K4,go_sem,Ab]
 refine go_loop (α:=Int) (fun i=>⟨slots 20 0 [(0,.arr (l.map fun s=>[D.str s])),(1,.str s),(5,.int .i64 i)],[]⟩) (fun i=>∃ k:Nat,i=(k:Int)-1∧k≤l.length∧C8 (l.take k) s=C8 l s) (fun i=>(i+1).toNat) ((l.length:Int)-1) ⟨l.length,rfl,yZ _,by rw [yB]⟩ (by simp (disch:=omega) only [go_sem,Ab]) ?_
 rintro i ⟨k0,hi,hk,hR⟩
 rcases zG k0 with h0 | h0
 ·subst h0
  obtain rfl:i=-1:=by omega
  rw [zZ,C8] at hR
  rw [←hR]
  simp (disch:=omega) only [go_sem,Ab]
 ·obtain ⟨k,rfl⟩:∃ k,k0=k+1:=⟨k0-1,by omega⟩
  have hlt:k<l.length:=by omega
  have hni:i.toNat=k:=by omega
  have hg:=get_at (fun s=>[D.str s]) hlt
  have hlk:(l.take k).length=k:=by rw [zY]; omega
  rw [zU hlt,P2,hlk] at hR
  cases hd:dec (l[k]=s) with
  | true =>
   rw [hd,cond_true] at hR
   have hik:i=(k:Int):=by omega
   rw [←hR,← hik]
   simp (disch:=omega) only [go_sem,Ab,hni,hg,hd]
  | false =>
   rw [hd,cond_false] at hR
   simp (disch:=omega) only [go_sem,Ab,hni,hg,hd]
   exact ⟨i-1,⟨k,by omega,by omega,hR⟩,by omega,by first | trivial | rfl | exact ⟨rfl,rfl⟩⟩
def FB:SC:=(.seq (.reg [⟨some 3,none,.boxv 26 2 (.t 0)⟩,⟨(some 6),none,(.alloc 26 [(.str ⟨#[]⟩),.nil])⟩]) (.seq (.seq (.reg [⟨some 10,none,.faddr 0 (.t 3)⟩,⟨some 11,none,.load false 1 (.t 10)⟩,⟨some 12,none,.call 176 [(.t 11)]⟩]) (.cond (.t 12) (.seq (.seq (.reg [⟨some 13,none,.mv (.t 1)⟩,⟨some 14,none,.faddr 0 (.t 3)⟩,⟨some 15,none,.load false 1 (.t 14)⟩,⟨some 16,none,.call 177 [(.t 13),(.t 15)]⟩,⟨some 7,none,.mv (.t 16)⟩]) (.seq (.reg [⟨some 17,none,.mv (.t 7)⟩,⟨some 18,none,.bin .geq false (.t 17) (.c (.int .i64 0))⟩]) (.cond (.t 18) (.seq (.reg [⟨some 19,none,.mv (.t 2)⟩,⟨some 20,none,.mv (.t 7)⟩,⟨some 21,none,.iaddr 1 (.t 19) (.t 20)⟩,⟨some 22,none,.load false 1 (.t 21)⟩,⟨(some 23),none,(.build [(.str ⟨#[]⟩),.nil] [(0,(1,(.t 22)))])⟩,⟨none,none,(.store 2 (.t 6) (.t 23))⟩]) .ret) .skip))) (.seq (.reg [⟨some 24,none,.faddr 0 (.t 3)⟩,⟨some 25,none,.load false 1 (.t 24)⟩,⟨(some 26),none,(.build [(.str ⟨#[]⟩),.nil] [(0,(1,(.t 25)))])⟩,⟨none,none,(.store 2 (.t 6) (.t 26))⟩]) .ret)) .skip)) (.seq (.reg [⟨some 27,none,.faddr 0 (.t 3)⟩,⟨some 28,none,.load false 1 (.t 27)⟩,⟨(some 29),none,(.build [(.str ⟨#[]⟩),.nil] [(0,(1,(.t 28)))])⟩,⟨(some 8),none,(.alloc 26 [(.str ⟨#[]⟩),.nil])⟩,⟨none,none,(.store 2 (.t 8) (.t 29))⟩]) (.seq (.seq (.reg [⟨some 9,none,.mv (.c (.int .i64 0))⟩]) (.block 0 (.loop [0,1,1,1,0,0,1,0,1,1,0,0,0,0,0,0,0,0,0,0,0,0,0,0,0,0,0,0,0,0,0,0,0,0,0,0,0,0,0,0,0,0,0,0,0,0,0,0,0,0,0] (.seq (.seq (.reg [⟨some 30,none,.mv (.t 9)⟩,⟨some 31,none,.faddr 1 (.t 3)⟩,⟨some 32,none,.load false 1 (.t 31)⟩,⟨some 33,none,.len false (.t 32)⟩,⟨some 34,none,.bin .lss false (.t 30) (.t 33)⟩]) (.cond (.t 34) .skip (.exit 0))) (.seq (.block 1 (.dreg [[],[0],[],[2],[],[3,2,4],[5,3,2,4],[],[],[6,5,3,2,4,7,8],[9,6,5,3,2,4,7,8],[1,0,10,9,6,5,3,2,4,7,8],[0,1,2,3,4,5,6,7,8,9,10,11],[12,0,1,2,3,4,5,6,7,8,9,10,11]] [⟨some 37,none,.faddr 1 (.t 8)⟩,⟨some 38,none,.load false 1 (.t 37)⟩,⟨some 39,none,.faddr 1 (.t 3)⟩,⟨some 40,none,.load false 1 (.t 39)⟩,⟨some 41,none,.mv (.t 9)⟩,⟨some 42,none,.iaddr 2 (.t 40) (.t 41)⟩,⟨some 43,none,.load true 2 (.t 42)⟩,⟨some 44,none,.mv (.t 1)⟩,⟨some 45,none,.mv (.t 2)⟩,⟨some 46,none,.call 127 [(.t 43),(.t 44),(.t 45)]⟩,⟨(some 47),none,(.mkrow 26 2 [(.str ⟨#[]⟩),.nil] 1 [(0,(.t 46))])⟩,⟨(some 48),none,(.append 26 2 40 [(.str ⟨#[]⟩),.nil] (.t 38) (.t 47))⟩,⟨some 49,none,.faddr 1 (.t 8)⟩,⟨none,none,(.store 1 (.t 49) (.t 48))⟩])) (.reg [⟨some 35,none,.mv (.t 9)⟩,⟨some 36,none,.bin .add false (.t 35) (.c (.int .i64 1))⟩,⟨some 9,none,.mv (.t 36)⟩])))))) (.seq (.reg [⟨some 50,none,.load true 2 (.t 8)⟩,⟨none,none,(.store 2 (.t 6) (.t 50))⟩]) .ret)))))
theorem HN:At Tryz.prog 127=some ⟨51,FB,[(.cell 6 true 2)]⟩:=by kernel_rfl
theorem D3:modes 127=⟨[],.frz,none,false⟩:=by unfold modes; rfl
abbrev RsC (from_ to_:List ByteArray) (x:Tm):Prop:=E 127 [x.sv,.arr (from_.map fun s=>[D.str s]),.arr (to_.map fun s=>[D.str s])] []=some ((x.rn (Ga from_ to_)).sv,[])
theorem Ri (from_ to_:List ByteArray) (hlen:from_.length=to_.length) (hfl:from_.length≤1099511627776) (hon:OnV (Ga from_ to_)) (x:Tm) (hx:AS x.name=true→x.args=[]) (hn:x.args.length≤1099511627776) (ih:∀ y∈x.args,RsC from_ to_ y):RsC from_ to_ x:=by
 unfold RsC
 have hv:=DB x.name
 have hla:=ZA from_ hfl x.name
 have hlr:=Jw from_ x.name
 have hev:=QS from_ to_ x.name hlen
 obtain ⟨e,he⟩:∃ e,e=Ga from_ to_:=⟨_,rfl⟩
 rw [←he] at hon hev ⊢
 cases hb:AS x.name with
 | true =>
  rw [hb] at hv
  have hx0:=hx hb
  rcases Int.lt_or_le (C8 from_ x.name) 0 with h0 | h0
  ·rw [Aj (by omega),cond_false] at hev
   have e1:x.rn e=.mk x.name []:=by rw [Tm.W3,hx0,hev]; rfl
   have e2:(Tm.mk x.name []).sv=.agg [.str x.name,.arr []]:=rfl
   rw [e1,e2]
   refine Ai HN D3 (of_decide_eq_true rfl) ?_
   simp (disch:=omega) only [FB,go_sem,Ab,hv,hla,Al,HM]
  ·rw [Ar h0,cond_true] at hev
   have hlt:(C8 from_ x.name).toNat<to_.length:=by omega
   rw [List.getElem?_eq_getElem hlt] at hev
   have hg:=get_at (fun s=>[D.str s]) hlt
   have e1:x.rn e=.mk to_[(C8 from_ x.name).toNat] []:=by rw [Tm.W3,hx0,hev]; rfl
   have e2:(Tm.mk to_[(C8 from_ x.name).toNat] []).sv=.agg [.str to_[(C8 from_ x.name).toNat],.arr []]:=rfl
   rw [e1,e2]
   refine Ai HN D3 (of_decide_eq_true rfl) ?_
   simp (disch:=omega) only [FB,go_sem,Ab,hv,hla,hg,Al,HM]
 | false =>
  rw [hb] at hv
  have hen:e x.name=none:=by
   cases h:e x.name with
   | none=>rfl
   | some v=>have:=hon x.name (by rw [h]; simp); rw [hb] at this; cases this
  have e1:x.rn e=.mk x.name (x.args.map (Tm.rn e)):=by
   rw [Tm.W3,hen]
   cases x.args.isEmpty <;> rfl
  have e2:(Tm.mk x.name (x.args.map (Tm.rn e))).sv=.agg [.str x.name,.arr ((x.args.map (Tm.rn e)).map Tm.d)]:=rfl
  rw [e1,e2]
  have h10:((1:Int)=0)=False:=by simp
  have hfu:=Tm.osh_full (x.args.map (Tm.rn e))
  have her:=Tm.osh_er (x.args.map (Tm.rn e))
  refine Ai HN D3 (of_decide_eq_true rfl) ?_
  simp (disch:=omega) only [FB,go_sem,Ab,hv,Al]
  refine go_loop (α:=Int) (fun a=>⟨slots 51 0 [(1,.arr (from_.map fun s=>[D.str s])),(2,.arr (to_.map fun s=>[D.str s])),(3,.ptr 0 0),(6,.ptr 1 0),(8,.ptr 2 0),(9,.int .i64 a)],(if a=0 then [.box 26 [.str x.name,.arr (x.args.map Tm.d)],.box 26 [.str ⟨#[]⟩,.nil],.box 26 [.str x.name,.nil]] else [.box 26 [.str x.name,.arr (x.args.map Tm.d)],.box 26 [.str ⟨#[]⟩,.nil],.box 26 [.str x.name,.ref 3],.row 26 2 (((x.args.map (Tm.rn e)).take a.toNat).map Tm.osh)])⟩) (fun a=>∃ k:Nat,a=k∧k≤(x.args).length) (fun a=>(x.args).length-(a).toNat) 0 ⟨0,rfl,zK _⟩ (by simp (disch:=omega) only [go_sem,Ab,eq_self,if_true]) ?_
  rintro i ⟨k,hi,hk⟩
  have hni:i.toNat=k:=by omega
  have hni1:(i+1).toNat=k+1:=by omega
  rcases zC k (x.args).length with hlt | hge
  ·have hg:=get_at Tm.d hlt
   rw [Tm.d_eq] at hg
   have hc:=ih x.args[k] (zI hlt)
   unfold RsC at hc
   rw [←he] at hc
   have hlm:k<(x.args.map (Tm.rn e)).length:=by rw [zM]; exact hlt
   have hs:=GN Tm.osh hlm
   rw [Tm.osh_eq,yI] at hs
   rcases zG k with h0 | h0
   ·subst h0
    obtain rfl:i=0:=hi
    rw [zZ,zH,zJ] at hs
    simp (disch:=omega) only [go_sem,Ab,hni,hg,hc,D3,eq_self,if_true]
    refine ⟨1,⟨1,rfl,hlt⟩,by omega,?_⟩
    simp (disch:=omega) only [go_sem,Ab,h10,if_false,hs]
   ·have hi0:(i=0)=False:=by simp; omega
    have hi1:(i+1=0)=False:=by simp; omega
    have htl:((x.args.map (Tm.rn e)).take k).length=k:=by rw [zY,zM]; omega
    simp (disch:=omega) only [go_sem,Ab,hni,hg,hc,D3,hi0,if_false,htl]
    refine ⟨i+1,⟨k+1,by omega,hlt⟩,by omega,?_⟩
    simp (disch:=omega) only [go_sem,Ab,hni1,hi1,if_false,hs]
  ·obtain rfl:k=x.args.length:=by omega
   have ht:(x.args.map (Tm.rn e)).take x.args.length=x.args.map (Tm.rn e):=by rw [←zM (f:=Tm.rn e)]; exact yB
   rcases zG x.args.length with h0 | h0
   ·have hx:x.args=[]:=zB h0
    obtain rfl:i=0:=by omega
    simp (disch:=omega) only [go_sem,Ab,hni,hx,eq_self,if_true,zH,zN]
   ·have hi0:(i=0)=False:=by simp; omega
    simp (disch:=omega) only [go_sem,Ab,hni,hi0,if_false,ht,hfu,her]
theorem Ud (from_ to_:List ByteArray) (hlen:from_.length=to_.length) (hfl:from_.length≤1099511627776) (hon:OnV (Ga from_ to_)) (x:Tm) (hx:x.names=true) (hn:x.nodes≤1099511627776):RsC from_ to_ x :=
 Ri from_ to_ hlen hfl hon x (fun h=>Tm.G2 hx h) (by have:=Tm.length_le x.args; have:=Tm.nodes_eq x; omega) fun y hy=>Ud from_ to_ hlen hfl hon y (Tm.DS hx hy) (by have:=Tm.nodes_mem hy; have:=Tm.nodes_eq x; omega)
termination_by SizeOf.sizeOf x
decreasing_by exact Tm.lt_of_mem hy
theorem XF (from_ to_:List ByteArray) (hlen:from_.length=to_.length) (hfl:from_.length≤1099511627776) (hon:OnV (Ga from_ to_)) (x:Tm) (hx:x.atom=true):RsC from_ to_ x:=by
 have hn:=Tm.KR hx
 have h1:=Tm.nodes_eq x
 have h2:=Tm.length_le x.args
 exact Ri from_ to_ hlen hfl hon x (Tm.G3 hx).1 (by omega) fun y hy=>Ud from_ to_ hlen hfl hon y ((Tm.G3 hx).2 y hy) (by have:=Tm.nodes_mem hy; omega)
def CN:SC:=(.seq (.reg [⟨some 4,none,.boxv 29 5 (.t 0)⟩,⟨(some 8),none,(.alloc 29 [(.int .i64 0),(.str ⟨#[]⟩),.nil,(.str ⟨#[]⟩),.nil])⟩]) (.seq (.reg [⟨some 11,none,.faddr 0 (.t 4)⟩,⟨some 12,none,.load false 1 (.t 11)⟩,⟨(some 13),none,(.build [(.int .i64 0),(.str ⟨#[]⟩),.nil,(.str ⟨#[]⟩),.nil] [(0,(1,(.t 12)))])⟩,⟨(some 9),none,(.alloc 29 [(.int .i64 0),(.str ⟨#[]⟩),.nil,(.str ⟨#[]⟩),.nil])⟩,⟨none,none,(.store 5 (.t 9) (.t 13))⟩]) (.seq (.seq (.reg [⟨some 14,none,.faddr 0 (.t 4)⟩,⟨some 15,none,.load false 1 (.t 14)⟩,⟨some 16,none,.bin .eql false (.t 15) (.c (.int .i64 3))⟩]) (.cond (.t 16) (.reg [⟨some 17,none,.faddr 1 (.t 4)⟩,⟨some 18,none,.load true 2 (.t 17)⟩,⟨some 19,none,.mv (.t 2)⟩,⟨some 20,none,.mv (.t 3)⟩,⟨some 21,none,.call 127 [(.t 18),(.t 19),(.t 20)]⟩,⟨some 22,none,.faddr 1 (.t 9)⟩,⟨none,none,(.store 2 (.t 22) (.t 21))⟩]) .skip)) (.seq (.seq (.reg [⟨some 23,none,.faddr 0 (.t 4)⟩,⟨some 24,none,.load false 1 (.t 23)⟩,⟨some 25,none,.bin .eql false (.t 24) (.c (.int .i64 8))⟩,⟨some 26,none,.mv (.t 25)⟩,⟨(some 27),(some (26,false)),(.faddr 0 (.t 4))⟩,⟨(some 28),(some (26,false)),(.load false 1 (.t 27))⟩,⟨(some 29),(some (26,false)),(.bin .eql false (.t 28) (.c (.int .i64 9)))⟩,⟨some 30,none,.pick (.t 26) (.c (.bool true)) (.t 29)⟩]) (.cond (.t 30) (.seq (.reg [⟨some 31,none,.mv (.t 1)⟩,⟨some 32,none,.call 128 [(.t 31)]⟩,⟨some 33,none,.faddr 3 (.t 9)⟩,⟨none,none,(.store 1 (.t 33) (.t 32))⟩]) (.seq (.dreg [[],[],[0,1],[],[3],[4,3],[2,0,1,5,4,3],[6,2,0,1,5,4,3]] [⟨(some 34),none,(.mkrow 9 1 [(.str ⟨#[]⟩)] 0 [])⟩,⟨some 35,none,.mv (.t 2)⟩,⟨(some 36),none,(.append 9 1 16 [(.str ⟨#[]⟩)] (.t 34) (.t 35))⟩,⟨some 37,none,.faddr 3 (.t 4)⟩,⟨some 38,none,.load false 1 (.t 37)⟩,⟨(some 39),none,(.mkrow 9 1 [(.str ⟨#[]⟩)] 1 [(0,(.t 38))])⟩,⟨(some 40),none,(.append 9 1 16 [(.str ⟨#[]⟩)] (.t 36) (.t 39))⟩,⟨some 2,none,.mv (.t 40)⟩]) (.dreg [[],[],[0,1],[],[3],[4,3],[2,0,1,5,4,3],[6,2,0,1,5,4,3]] [⟨(some 41),none,(.mkrow 9 1 [(.str ⟨#[]⟩)] 0 [])⟩,⟨some 42,none,.mv (.t 3)⟩,⟨(some 43),none,(.append 9 1 16 [(.str ⟨#[]⟩)] (.t 41) (.t 42))⟩,⟨some 44,none,.faddr 3 (.t 9)⟩,⟨some 45,none,.load false 1 (.t 44)⟩,⟨(some 46),none,(.mkrow 9 1 [(.str ⟨#[]⟩)] 1 [(0,(.t 45))])⟩,⟨(some 47),none,(.append 9 1 16 [(.str ⟨#[]⟩)] (.t 43) (.t 46))⟩,⟨some 3,none,.mv (.t 47)⟩]))) .skip)) (.seq (.seq (.reg [⟨some 10,none,.mv (.c (.int .i64 0))⟩]) (.block 0 (.loop [0,1,1,1,1,0,0,0,1,1,1,0,0,0,0,0,0,0,0,0,0,0,0,0,0,0,0,0,0,0,0,0,0,0,0,0,0,0,0,0,0,0,0,0,0,0,0,0,0,0,0,0,0,0,0,0,0,0,0,0,0,0,0,0,0,0,0,0,0,0] (.seq (.seq (.reg [⟨some 48,none,.mv (.t 10)⟩,⟨some 49,none,.faddr 4 (.t 4)⟩,⟨some 50,none,.load false 1 (.t 49)⟩,⟨some 51,none,.len false (.t 50)⟩,⟨some 52,none,.bin .lss false (.t 48) (.t 51)⟩]) (.cond (.t 52) .skip (.exit 0))) (.seq (.block 1 (.dreg [[],[0],[],[2],[],[3,2,4],[5,3,2,4],[],[],[],[6,5,3,2,4,7,8,9],[10,6,5,3,2,4,7,8,9],[1,0,11,10,6,5,3,2,4,7,8,9],[0,1,2,3,4,5,6,7,8,9,10,11,12],[13,0,1,2,3,4,5,6,7,8,9,10,11,12]] [⟨some 55,none,.faddr 4 (.t 9)⟩,⟨some 56,none,.load false 1 (.t 55)⟩,⟨some 57,none,.faddr 4 (.t 4)⟩,⟨some 58,none,.load false 1 (.t 57)⟩,⟨some 59,none,.mv (.t 10)⟩,⟨some 60,none,.iaddr 5 (.t 58) (.t 59)⟩,⟨some 61,none,.load true 5 (.t 60)⟩,⟨some 62,none,.mv (.t 1)⟩,⟨some 63,none,.mv (.t 2)⟩,⟨some 64,none,.mv (.t 3)⟩,⟨some 65,none,.call 79 [(.t 61),(.t 62),(.t 63),(.t 64)]⟩,⟨(some 66),none,(.mkrow 29 5 [(.int .i64 0),(.str ⟨#[]⟩),.nil,(.str ⟨#[]⟩),.nil] 1 [(0,(.t 65))])⟩,⟨(some 67),none,(.append 29 5 88 [(.int .i64 0),(.str ⟨#[]⟩),.nil,(.str ⟨#[]⟩),.nil] (.t 56) (.t 66))⟩,⟨some 68,none,.faddr 4 (.t 9)⟩,⟨none,none,(.store 1 (.t 68) (.t 67))⟩])) (.reg [⟨some 53,none,.mv (.t 10)⟩,⟨some 54,none,.bin .add false (.t 53) (.c (.int .i64 1))⟩,⟨some 10,none,.mv (.t 54)⟩])))))) (.seq (.reg [⟨some 69,none,.load true 5 (.t 9)⟩,⟨none,none,(.store 5 (.t 8) (.t 69))⟩]) .ret))))))
theorem DC:At Tryz.prog 79=some ⟨70,CN,[(.cell 8 true 5)]⟩:=by kernel_rfl
theorem B6:modes 79=⟨[],.frz,none,false⟩:=by unfold modes; rfl
theorem Fm.WJ (op:Int) (a:Tm) (v:ByteArray) (ps:List Fm):(Fm.mk op a v ps).sv=.agg [.int .i64 op,.str a.name,.arr (a.args.map Tm.d),.str v,.arr (ps.map Fm.d)]:=rfl
abbrev QbG (tk:List ByteArray) (x:Fm):Prop:=∀ (from_ to_:List ByteArray),from_.length=to_.length→from_.length+x.nodes≤1048576→OnV (Ga from_ to_)→∀ c:Int,0≤c→c+x.nodes*(tk.length+2:Nat)≤1099511000000→E 79 [x.sv,.ptr 0 0,.arr (from_.map fun s=>[D.str s]),.arr (to_.map fun s=>[D.str s])] [.box 104 [.str D8,.int .i64 c,.ref 1],.row 9 1 (tk.map fun s=>[OT.str s])]=some ((x.sep tk (Ga from_ to_) c).1.sv,[.box 104 [.str D8,.int .i64 (x.sep tk (Ga from_ to_) c).2,.ref 1],.row 9 1 (tk.map fun s=>[OT.str s])])
theorem PU (tk:List ByteArray) (x:Fm) (hx:x.forms=true) (ih:∀ y∈x.parts,QbG tk y):QbG tk x:=by
 intro from_ to_ hlen hfl hon c0 h0 hc0
 have hfo:=Fm.Bo hx
 have hpl:=Fm.length_le x.parts
 have hnq:=Fm.nodes_eq x
 have h10:((1:Int)=0)=False:=by simp
 have hxs:x.sv=.agg [.int .i64 x.op,.str x.atom.name,.arr (x.atom.args.map Tm.d),.str x.var,.arr (x.parts.map Fm.d)]:=rfl
 have has:x.atom.sv=.agg [.str x.atom.name,.arr (x.atom.args.map Tm.d)]:=rfl
 have hse:=Fm.Vu tk x (Ga from_ to_) c0
 rw [hnq,zV,z7] at hc0
 have hge1:((1:Nat):Int)*(tk.length+2:Nat)=tk.length+2:=by simp
 rw [hge1] at hc0
 have hgeS:(0:Int)≤(Fm.nodeS x.parts:Int)*(tk.length+2:Nat):=zW (by omega) (by omega)
 cases ho:dec (x.op=3) with
 | true =>
  have h3:=Aw.1 ho
  have o8:dec (x.op=8)=false:=Aj (by omega)
  have o9:dec (x.op=9)=false:=Aj (by omega)
  rw [ho,cond_true] at hse
  rw [hse]
  have hp0:=(Fm.CZ hfo h3).1
  have hlen0:(x.parts.length:Int)=0:=by rw [hp0]; rfl
  have ht:=XF from_ to_ hlen (by omega) hon x.atom (Fm.CZ hfo h3).2.1
  unfold RsC at ht
  obtain ⟨z,hz⟩:∃ z,z=x.atom.rn (Ga from_ to_):=⟨_,rfl⟩
  rw [←hz] at ht ⊢
  have hzs:z.sv=.agg [.str z.name,.arr (z.args.map Tm.d)]:=rfl
  have hr1:(Fm.mk 3 z ⟨#[]⟩ []).sv=.agg [.int .i64 3,.str z.name,.arr (z.args.map Tm.d),.str ⟨#[]⟩,.arr []]:=rfl
  dsimp only
  rw [hr1,← h3]
  refine Ai DC B6 (of_decide_eq_true rfl) ?_
  simp (disch:=omega) only [CN,go_sem,Ab,ho,o8,o9,ht,D3]
  refine go_loop (α:=Int) (fun a=>⟨slots 70 0 [(1,.ptr 0 0),(2,.arr (from_.map fun s=>[D.str s])),(3,.arr (to_.map fun s=>[D.str s])),(4,.ptr 2 0),(8,.ptr 3 0),(9,.ptr 4 0),(10,.int .i64 a)],[.box 104 [.str D8,.int .i64 c0,.ref 1],.row 9 1 (tk.map fun s=>[OT.str s]),.box 29 [.int .i64 x.op,.str x.atom.name,.arr (x.atom.args.map Tm.d),.str x.var,.arr (x.parts.map Fm.d)],.box 29 [.int .i64 0,.str ⟨#[]⟩,.nil,.str ⟨#[]⟩,.nil],.box 29 [.int .i64 x.op,.str z.name,.arr (z.args.map Tm.d),.str ⟨#[]⟩,.nil]]⟩) (fun a=>∃ k:Nat,a=k∧k≤(x.parts).length) (fun a=>(x.parts).length-(a).toNat) 0 ⟨0,rfl,zK _⟩ (by simp (disch:=omega) only [go_sem,Ab]) ?_
  rintro i ⟨k,hi,hk⟩
  have hni:i.toNat=k:=by omega
  have hni1:(i+1).toNat=k+1:=by omega
  rcases zC k (x.parts).length with hlt | hge
  ·omega
  ·simp (disch:=omega) only [go_sem,Ab,hni,hp0,zH,zN]
 | false =>
  rw [ho,cond_false] at hse
  cases hq:qB x.op with
  | false =>
   rw [hq,cond_false] at hse
   rw [hse]
   unfold qB at hq
   rw [Bool.or_eq_false_iff] at hq
   obtain ⟨o8,o9⟩:=hq
   obtain ⟨e1,he1⟩:∃ e1,e1=Ga from_ to_:=⟨_,rfl⟩
   obtain ⟨f1,hf1⟩:∃ f1,f1=from_:=⟨_,rfl⟩
   obtain ⟨t1,ht1⟩:∃ t1,t1=to_:=⟨_,rfl⟩
   rw [←hf1,← ht1] at he1
   have hlen1:f1.length=t1.length:=by rw [hf1,ht1]; exact hlen
   have hon1:OnV (Ga f1 t1):=by rw [hf1,ht1]; exact hon
   rw [←hf1] at hfl
   rw [←hf1,← ht1,← he1]
   have hz0:Tm.zero.name=⟨#[]⟩:=rfl
   have hz1:Tm.zero.args=[]:=rfl
   refine Ai DC B6 (of_decide_eq_true rfl) ?_
   simp (disch:=omega) only [CN,go_sem,Ab,ho,o8,o9]
   refine go_loop (α:=Int × (Int) × (List Fm)) (fun a=>⟨slots 70 0 [(1,.ptr 0 0),(2,.arr (f1.map fun s=>[D.str s])),(3,.arr (t1.map fun s=>[D.str s])),(4,.ptr 2 0),(8,.ptr 3 0),(9,.ptr 4 0),(10,.int .i64 (a.1))],(if (a.1)=0 then [.box 104 [.str D8,.int .i64 (a.2.1),.ref 1],.row 9 1 (tk.map fun s=>[OT.str s]),.box 29 [.int .i64 x.op,.str x.atom.name,.arr (x.atom.args.map Tm.d),.str x.var,.arr (x.parts.map Fm.d)],.box 29 [.int .i64 0,.str ⟨#[]⟩,.nil,.str ⟨#[]⟩,.nil],.box 29 [.int .i64 x.op,.str ⟨#[]⟩,.nil,.str ⟨#[]⟩,.nil]] else [.box 104 [.str D8,.int .i64 (a.2.1),.ref 1],.row 9 1 (tk.map fun s=>[OT.str s]),.box 29 [.int .i64 x.op,.str x.atom.name,.arr (x.atom.args.map Tm.d),.str x.var,.arr (x.parts.map Fm.d)],.box 29 [.int .i64 0,.str ⟨#[]⟩,.nil,.str ⟨#[]⟩,.nil],.box 29 [.int .i64 x.op,.str ⟨#[]⟩,.nil,.str ⟨#[]⟩,.ref 5],.row 29 5 ((a.2.2).map Fm.osh)])⟩) (fun a=>∃ k:Nat,a.1=k∧k≤(x.parts).length∧(a.2.2).length=k∧0≤(a.2.1)∧A4 (fun y d=>Fm.sep tk y e1 d) x.parts c0=((a.2.2)++(A4 (fun y d=>Fm.sep tk y e1 d) (x.parts.drop k) (a.2.1)).1,(A4 (fun y d=>Fm.sep tk y e1 d) (x.parts.drop k) (a.2.1)).2)∧(a.2.1)+(Fm.nodeS (x.parts.drop k):Int)*(tk.length+2:Nat)≤1099511000000) (fun a=>(x.parts).length-(a.1).toNat) (0,c0,[]) ⟨0,rfl,zK _,rfl,h0,by rw [zF]; rfl,by rw [zF]; dsimp only; omega⟩ (by simp (disch:=omega) only [go_sem,Ab,eq_self,if_true]) ?_
   rintro ⟨i,c,acc⟩ ⟨k,hi,hk,hR⟩
   dsimp only at hi hR
   have hni:i.toNat=k:=by omega
   have hni1:(i+1).toNat=k+1:=by omega
   rcases zC k (x.parts).length with hlt | hge
   have hfl1:f1.length+Fm.nodeS x.parts≤1048576:=by omega
   ·have hg:=get_at Fm.d hlt
    rw [Fm.d_eq] at hg
    obtain ⟨hR1,hR2,hR3,hR4⟩:=hR
    rw [zA hlt,A4] at hR3
    rw [zA hlt,Fm.nodeS,zV,z7] at hR4
    have hcnt:=Fm.JW tk x.parts[k] e1 c hR2
    have hge0:(0:Int)≤(Fm.nodeS (x.parts.drop (k+1)):Int)*(tk.length+2:Nat):=zW (by omega) (by omega)
    have hc:=ih x.parts[k] (zI hlt) f1 t1 hlen1 (by have:=Fm.nodes_le x.parts k hlt; omega) hon1 c hR2 (by omega)
    rw [←he1] at hc
    obtain ⟨y,hy⟩:∃ y,y=x.parts[k].sep tk e1 c:=⟨_,rfl⟩
    rw [←hy] at hc hcnt hR3
    have hs:acc.map Fm.osh++[[OT.int y.1.op,OT.str y.1.atom.name,OT.sh (y.1.atom.args.map Tm.d),OT.str y.1.var,OT.sh (y.1.parts.map Fm.d)]]=(acc++[y.1]).map Fm.osh:=by rw [zQ,zL,zH,Fm.osh_eq]
    have hR3':A4 (fun y c=>Fm.sep tk y e1 c) x.parts c0=((acc++[y.1])++(A4 (fun y c=>Fm.sep tk y e1 c) (x.parts.drop (k+1)) y.2).1,(A4 (fun y c=>Fm.sep tk y e1 c) (x.parts.drop (k+1)) y.2).2):=by rw [hR3,zP]; rfl
    rcases zG k with h0 | h0
    ·subst h0
     obtain rfl:i=0:=hi
     have ha0:acc=[]:=zB hR1
     subst ha0
     rw [zH,zJ] at hs
     simp only [yN] at hR4 hge0 hR3'
     simp (disch:=omega) only [go_sem,Ab,hni,hg,hc,B6,eq_self,if_true,C4]
     refine ⟨(1,y.2,[]++[y.1]),⟨1,rfl,hlt,rfl,by dsimp only; omega,hR3',by dsimp only; omega⟩,by dsimp only; omega,?_⟩
     simp (disch:=omega) only [go_sem,Ab,h10,if_false,hs,zJ]
    ·have hi0:(i=0)=False:=by simp; omega
     have hi1:(i+1=0)=False:=by simp; omega
     simp (disch:=omega) only [go_sem,Ab,hni,hg,hc,B6,hi0,if_false]
     refine ⟨(i+1,y.2,acc++[y.1]),⟨k+1,by dsimp only; omega,hlt,by simp [hR1],by dsimp only; omega,hR3',by dsimp only; omega⟩,by dsimp only; omega,?_⟩
     simp (disch:=omega) only [go_sem,Ab,hi1,if_false,hs]
   ·obtain rfl:k=x.parts.length:=by omega
    obtain ⟨hR1,hR2,hR3,hR4⟩:=hR
    rw [zE hge,A4,zR] at hR3
    have hR3:A4 (fun y c=>Fm.sep tk y e1 c) x.parts c0=(acc,c):=hR3
    rw [hR3]
    have hfu:=Fm.osh_full acc
    have her:=Fm.osh_er acc
    rcases zG x.parts.length with h0 | h0
    ·have hx:x.parts=[]:=zB h0
     obtain rfl:i=0:=by omega
     have ha0:acc=[]:=zB (by rw [hR1]; exact h0)
     subst ha0
     simp (disch:=omega) only [go_sem,Ab,hni,hx,eq_self,if_true,zH,zN,Fm.WJ,hz0,hz1]
    ·have hi0:(i=0)=False:=by simp; omega
     simp (disch:=omega) only [go_sem,Ab,hni,hi0,if_false,hfu,her,Fm.WJ,hz0,hz1,zH]
  | true =>
   rw [hq,cond_true] at hse
   rw [hse]
   have hvx:=(Fm.Bu hfo hq).1
   have hone:x.parts.length=1:=by obtain ⟨p,hp⟩:=(Fm.Bu hfo hq).2; rw [hp]; rfl
   unfold qB at hq
   have hfr:=C7 D8 tk c0
   have hnx:=Z7 D8 (by decide) tk c0 h0 (by omega)
   obtain ⟨cf,hcf⟩:∃ cf,cf=fresh D8 tk c0:=⟨_,rfl⟩
   rw [←hcf] at hnx hfr ⊢
   obtain ⟨v,hv⟩:∃ v,v=pre D8 cf:=⟨_,rfl⟩
   rw [←hv] at hnx ⊢
   obtain ⟨e1,he1⟩:∃ e1,e1=Ga (from_++[x.var]) (to_++[v]):=⟨_,rfl⟩
   have hes:=QR from_ to_ x.var v hlen
   have hon1:OnV (Ga (from_++[x.var]) (to_++[v])):=by rw [hes]; exact hon.put hvx v
   rw [←hes,← he1]
   obtain ⟨f1,hf1⟩:∃ f1,f1=from_++[x.var]:=⟨_,rfl⟩
   obtain ⟨t1,ht1⟩:∃ t1,t1=to_++[v]:=⟨_,rfl⟩
   have ha1:(from_.map fun s=>[OT.str s])++[[OT.str x.var]]=(from_++[x.var]).map fun s=>[OT.str s]:=by simp
   have ha2:(to_.map fun s=>[OT.str s])++[[OT.str v]]=(to_++[v]).map fun s=>[OT.str s]:=by simp
   have hbf:(from_.map fun s=>[D.str s]).map (fun x=>x.map D.ot)=from_.map fun s=>[OT.str s]:=by rw [yC]; rfl
   have hbt:(to_.map fun s=>[D.str s]).map (fun x=>x.map D.ot)=to_.map fun s=>[OT.str s]:=by rw [yC]; rfl
   have haf:=CW from_
   have hat:=CW to_
   have hlen1:(from_++[x.var]).length=(to_++[v]).length:=by simp [hlen]
   rw [←hf1] at he1 hon1 hlen1 ha1
   rw [←ht1] at he1 hon1 hlen1 ha2
   have hfl1':f1.length=from_.length+1:=by rw [hf1]; simp
   have hz0:Tm.zero.name=⟨#[]⟩:=rfl
   have hz1:Tm.zero.args=[]:=rfl
   rcases hq8:dec (x.op=8) with _ | _
   ·have o8:=hq8
    have o9:dec (x.op=9)=true:=by rw [hq8,zX] at hq; exact hq
    refine Ai DC B6 (of_decide_eq_true rfl) ?_
    simp (disch:=omega) only [CN,go_sem,Ab,ho,o8,o9,hnx,ha1,ha2,hbf,hbt,haf,hat,zJ,CX]
    refine go_loop (α:=Int × (Int) × (List Fm)) (fun a=>⟨slots 70 0 [(1,.ptr 0 0),(2,(if (a.1)=0 then .ref 2 else .any)),(3,(if (a.1)=0 then .ref 3 else .any)),(4,(if (a.1)=0 then .ptr 4 0 else .ptr 2 0)),(8,(if (a.1)=0 then .ptr 5 0 else .ptr 3 0)),(9,(if (a.1)=0 then .ptr 6 0 else .ptr 4 0)),(10,.int .i64 (a.1))],(if (a.1)=0 then [.box 104 [.str D8,.int .i64 (a.2.1),.ref 1],.row 9 1 (tk.map fun s=>[OT.str s]),.row 9 1 (f1.map fun s=>[OT.str s]),.row 9 1 (t1.map fun s=>[OT.str s]),.box 29 [.int .i64 x.op,.str x.atom.name,.arr (x.atom.args.map Tm.d),.str x.var,.arr (x.parts.map Fm.d)],.box 29 [.int .i64 0,.str ⟨#[]⟩,.nil,.str ⟨#[]⟩,.nil],.box 29 [.int .i64 x.op,.str ⟨#[]⟩,.nil,.str v,.nil]] else [.box 104 [.str D8,.int .i64 (a.2.1),.ref 1],.row 9 1 (tk.map fun s=>[OT.str s]),.box 29 [.int .i64 x.op,.str x.atom.name,.arr (x.atom.args.map Tm.d),.str x.var,.arr (x.parts.map Fm.d)],.box 29 [.int .i64 0,.str ⟨#[]⟩,.nil,.str ⟨#[]⟩,.nil],.box 29 [.int .i64 x.op,.str ⟨#[]⟩,.nil,.str v,.ref 5],.row 29 5 ((a.2.2).map Fm.osh)])⟩) (fun a=>∃ k:Nat,a.1=k∧k≤(x.parts).length∧(a.2.2).length=k∧0≤(a.2.1)∧A4 (fun y d=>Fm.sep tk y e1 d) x.parts cf=((a.2.2)++(A4 (fun y d=>Fm.sep tk y e1 d) (x.parts.drop k) (a.2.1)).1,(A4 (fun y d=>Fm.sep tk y e1 d) (x.parts.drop k) (a.2.1)).2)∧(a.2.1)+(Fm.nodeS (x.parts.drop k):Int)*(tk.length+2:Nat)≤1099511000000) (fun a=>(x.parts).length-(a.1).toNat) (0,cf,[]) ⟨0,rfl,zK _,rfl,by dsimp only; omega,by rw [zF]; rfl,by rw [zF]; dsimp only; omega⟩ (by simp (disch:=omega) only [go_sem,Ab,eq_self,if_true]) ?_
    rintro ⟨i,c,acc⟩ ⟨k,hi,hk,hR⟩
    dsimp only at hi hR
    have hni:i.toNat=k:=by omega
    have hni1:(i+1).toNat=k+1:=by omega
    rcases zC k (x.parts).length with hlt | hge
    ·have hg:=get_at Fm.d hlt
     rw [Fm.d_eq] at hg
     obtain ⟨hR1,hR2,hR3,hR4⟩:=hR
     rw [zA hlt,A4] at hR3
     rw [zA hlt,Fm.nodeS,zV,z7] at hR4
     have hcnt:=Fm.JW tk x.parts[k] e1 c hR2
     have hge0:(0:Int)≤(Fm.nodeS (x.parts.drop (k+1)):Int)*(tk.length+2:Nat):=zW (by omega) (by omega)
     have hc:=ih x.parts[k] (zI hlt) f1 t1 hlen1 (by have:=Fm.nodes_le x.parts k hlt; omega) hon1 c hR2 (by omega)
     rw [←he1] at hc
     obtain ⟨y,hy⟩:∃ y,y=x.parts[k].sep tk e1 c:=⟨_,rfl⟩
     rw [←hy] at hc hcnt hR3
     have hs:acc.map Fm.osh++[[OT.int y.1.op,OT.str y.1.atom.name,OT.sh (y.1.atom.args.map Tm.d),OT.str y.1.var,OT.sh (y.1.parts.map Fm.d)]]=(acc++[y.1]).map Fm.osh:=by rw [zQ,zL,zH,Fm.osh_eq]
     have hR3':A4 (fun y c=>Fm.sep tk y e1 c) x.parts cf=((acc++[y.1])++(A4 (fun y c=>Fm.sep tk y e1 c) (x.parts.drop (k+1)) y.2).1,(A4 (fun y c=>Fm.sep tk y e1 c) (x.parts.drop (k+1)) y.2).2):=by rw [hR3,zP]; rfl
     rcases zG k with h0 | h0
     ·subst h0
      obtain rfl:i=0:=hi
      have ha0:acc=[]:=zB hR1
      subst ha0
      rw [zH,zJ] at hs
      simp only [yN] at hR4 hge0 hR3'
      simp (disch:=omega) only [go_sem,Ab,hni,hg,hc,B6,eq_self,if_true,C4]
      refine ⟨(1,y.2,[]++[y.1]),⟨1,rfl,hlt,rfl,by dsimp only; omega,hR3',by dsimp only; omega⟩,by dsimp only; omega,?_⟩
      simp (disch:=omega) only [go_sem,Ab,h10,if_false,hs,zJ]
     ·exfalso; omega
    ·obtain rfl:k=x.parts.length:=by omega
     obtain ⟨hR1,hR2,hR3,hR4⟩:=hR
     rw [zE hge,A4,zR] at hR3
     have hR3:A4 (fun y c=>Fm.sep tk y e1 c) x.parts cf=(acc,c):=hR3
     rw [hR3]
     have hfu:=Fm.osh_full acc
     have her:=Fm.osh_er acc
     rcases zG x.parts.length with h0 | h0
     ·have hx:x.parts=[]:=zB h0
      obtain rfl:i=0:=by omega
      have ha0:acc=[]:=zB (by rw [hR1]; exact h0)
      subst ha0
      exfalso; omega
     ·have hi0:(i=0)=False:=by simp; omega
      simp (disch:=omega) only [go_sem,Ab,hni,hi0,if_false,hfu,her,Fm.WJ,hz0,hz1,zH]
   ·have o8:=hq8
    refine Ai DC B6 (of_decide_eq_true rfl) ?_
    simp (disch:=omega) only [CN,go_sem,Ab,ho,o8,hnx,ha1,ha2,hbf,hbt,haf,hat,zJ,CX]
    refine go_loop (α:=Int × (Int) × (List Fm)) (fun a=>⟨slots 70 0 [(1,.ptr 0 0),(2,(if (a.1)=0 then .ref 2 else .any)),(3,(if (a.1)=0 then .ref 3 else .any)),(4,(if (a.1)=0 then .ptr 4 0 else .ptr 2 0)),(8,(if (a.1)=0 then .ptr 5 0 else .ptr 3 0)),(9,(if (a.1)=0 then .ptr 6 0 else .ptr 4 0)),(10,.int .i64 (a.1))],(if (a.1)=0 then [.box 104 [.str D8,.int .i64 (a.2.1),.ref 1],.row 9 1 (tk.map fun s=>[OT.str s]),.row 9 1 (f1.map fun s=>[OT.str s]),.row 9 1 (t1.map fun s=>[OT.str s]),.box 29 [.int .i64 x.op,.str x.atom.name,.arr (x.atom.args.map Tm.d),.str x.var,.arr (x.parts.map Fm.d)],.box 29 [.int .i64 0,.str ⟨#[]⟩,.nil,.str ⟨#[]⟩,.nil],.box 29 [.int .i64 x.op,.str ⟨#[]⟩,.nil,.str v,.nil]] else [.box 104 [.str D8,.int .i64 (a.2.1),.ref 1],.row 9 1 (tk.map fun s=>[OT.str s]),.box 29 [.int .i64 x.op,.str x.atom.name,.arr (x.atom.args.map Tm.d),.str x.var,.arr (x.parts.map Fm.d)],.box 29 [.int .i64 0,.str ⟨#[]⟩,.nil,.str ⟨#[]⟩,.nil],.box 29 [.int .i64 x.op,.str ⟨#[]⟩,.nil,.str v,.ref 5],.row 29 5 ((a.2.2).map Fm.osh)])⟩) (fun a=>∃ k:Nat,a.1=k∧k≤(x.parts).length∧(a.2.2).length=k∧0≤(a.2.1)∧A4 (fun y d=>Fm.sep tk y e1 d) x.parts cf=((a.2.2)++(A4 (fun y d=>Fm.sep tk y e1 d) (x.parts.drop k) (a.2.1)).1,(A4 (fun y d=>Fm.sep tk y e1 d) (x.parts.drop k) (a.2.1)).2)∧(a.2.1)+(Fm.nodeS (x.parts.drop k):Int)*(tk.length+2:Nat)≤1099511000000) (fun a=>(x.parts).length-(a.1).toNat) (0,cf,[]) ⟨0,rfl,zK _,rfl,by dsimp only; omega,by rw [zF]; rfl,by rw [zF]; dsimp only; omega⟩ (by simp (disch:=omega) only [go_sem,Ab,eq_self,if_true]) ?_
    rintro ⟨i,c,acc⟩ ⟨k,hi,hk,hR⟩
    dsimp only at hi hR
    have hni:i.toNat=k:=by omega
    have hni1:(i+1).toNat=k+1:=by omega
    rcases zC k (x.parts).length with hlt | hge
    ·have hg:=get_at Fm.d hlt
     rw [Fm.d_eq] at hg
     obtain ⟨hR1,hR2,hR3,hR4⟩:=hR
     rw [zA hlt,A4] at hR3
     rw [zA hlt,Fm.nodeS,zV,z7] at hR4
     have hcnt:=Fm.JW tk x.parts[k] e1 c hR2
     have hge0:(0:Int)≤(Fm.nodeS (x.parts.drop (k+1)):Int)*(tk.length+2:Nat):=zW (by omega) (by omega)
     have hc:=ih x.parts[k] (zI hlt) f1 t1 hlen1 (by have:=Fm.nodes_le x.parts k hlt; omega) hon1 c hR2 (by omega)
     rw [←he1] at hc
     obtain ⟨y,hy⟩:∃ y,y=x.parts[k].sep tk e1 c:=⟨_,rfl⟩
     rw [←hy] at hc hcnt hR3
     have hs:acc.map Fm.osh++[[OT.int y.1.op,OT.str y.1.atom.name,OT.sh (y.1.atom.args.map Tm.d),OT.str y.1.var,OT.sh (y.1.parts.map Fm.d)]]=(acc++[y.1]).map Fm.osh:=by rw [zQ,zL,zH,Fm.osh_eq]
     have hR3':A4 (fun y c=>Fm.sep tk y e1 c) x.parts cf=((acc++[y.1])++(A4 (fun y c=>Fm.sep tk y e1 c) (x.parts.drop (k+1)) y.2).1,(A4 (fun y c=>Fm.sep tk y e1 c) (x.parts.drop (k+1)) y.2).2):=by rw [hR3,zP]; rfl
     rcases zG k with h0 | h0
     ·subst h0
      obtain rfl:i=0:=hi
      have ha0:acc=[]:=zB hR1
      subst ha0
      rw [zH,zJ] at hs
      simp only [yN] at hR4 hge0 hR3'
      simp (disch:=omega) only [go_sem,Ab,hni,hg,hc,B6,eq_self,if_true,C4]
      refine ⟨(1,y.2,[]++[y.1]),⟨1,rfl,hlt,rfl,by dsimp only; omega,hR3',by dsimp only; omega⟩,by dsimp only; omega,?_⟩
      simp (disch:=omega) only [go_sem,Ab,h10,if_false,hs,zJ]
     ·exfalso; omega
    ·obtain rfl:k=x.parts.length:=by omega
     obtain ⟨hR1,hR2,hR3,hR4⟩:=hR
     rw [zE hge,A4,zR] at hR3
     have hR3:A4 (fun y c=>Fm.sep tk y e1 c) x.parts cf=(acc,c):=hR3
     rw [hR3]
     have hfu:=Fm.osh_full acc
     have her:=Fm.osh_er acc
     rcases zG x.parts.length with h0 | h0
     ·have hx:x.parts=[]:=zB h0
      obtain rfl:i=0:=by omega
      have ha0:acc=[]:=zB (by rw [hR1]; exact h0)
      subst ha0
      exfalso; omega
     ·have hi0:(i=0)=False:=by simp; omega
      simp (disch:=omega) only [go_sem,Ab,hni,hi0,if_false,hfu,her,Fm.WJ,hz0,hz1,zH]
theorem LT (tk:List ByteArray) (x:Fm) (hx:x.forms=true):QbG tk x :=
 PU tk x hx fun y hy=>LT tk y (Fm.AQ hx hy)
termination_by SizeOf.sizeOf x
decreasing_by exact Fm.lt_of_mem hy
def J7:SC:=(.seq (.reg [⟨some 1,none,.boxv 29 5 (.t 0)⟩,⟨(some 2),none,(.alloc 29 [(.int .i64 0),(.str ⟨#[]⟩),.nil,(.str ⟨#[]⟩),.nil])⟩]) (.seq (.dreg [[],[],[1],[2,1],[3,2,1],[],[],[0,4,3,2,1,5,6],[7,0,4,3,2,1,5,6]] [⟨some 3,none,.load true 5 (.t 1)⟩,⟨some 4,none,.load true 5 (.t 1)⟩,⟨some 5,none,.call 80 [(.t 4)]⟩,⟨(some 6),none,(.build [(.str ⟨#[]⟩),(.int .i64 0),.nil] [(0,(1,(.c (.str ⟨#[86]⟩)))),(2,(1,(.t 5)))])⟩,⟨some 7,none,.boxv 104 3 (.t 6)⟩,⟨(some 8),none,(.mkrow 9 1 [(.str ⟨#[]⟩)] 0 [])⟩,⟨(some 9),none,(.mkrow 9 1 [(.str ⟨#[]⟩)] 0 [])⟩,⟨some 10,none,.call 79 [(.t 3),(.t 7),(.t 8),(.t 9)]⟩,⟨none,none,(.store 5 (.t 2) (.t 10))⟩]) .ret))
theorem P3:At Tryz.prog 41=some ⟨11,J7,[(.cell 2 true 5)]⟩:=by kernel_rfl
theorem J8:modes 41=⟨[],.frz,none,false⟩:=by unfold modes; rfl
theorem XG (x:Fm) (hx:x.forms=true) (hn:x.nodes≤40):x.vn≤1200∧x.free.length≤1200∧(x.nodes:Int)*(x.free.length+2:Nat)≤48080:=by
 have h1:=Fm.YQ x hx
 have h2:=DK (x.fv []) []
 have h3:=Fm.HG x []
 have h4:x.free.length≤1200:=by
  simp only [zN] at h2
  show (C2 [] (x.fv [])).length≤_
  omega
 refine ⟨by omega,h4,?_⟩
 have h5:=y0 hn (show x.free.length+2≤1202 by omega)
 rw [←yX]
 omega
theorem Ue:Ga [] []=fun _=>none:=by
 funext s
 rw [Ga]
theorem XH (x:Fm) (hx:x.forms=true) (hn:x.nodes≤40):E 41 [x.sv] []=some ((Qaz x).sv,[]):=by
 obtain ⟨b1,b2,b3⟩:=XG x hx hn
 have hfr:=LJ x hx (by omega) (by omega)
 have hs:=LT x.free x hx [] [] rfl (by simp only [zN]; omega) (by rw [Ue]; exact OnV.none) 0 (by omega) (by omega)
 rw [Ue] at hs
 unfold D8 at hs
 rw [zH] at hs
 unfold Qaz
 obtain ⟨r,hr⟩:∃ r,r=x.sep x.free (fun _=>none) 0:=⟨_,rfl⟩
 rw [←hr] at hs ⊢
 refine Ai P3 J8 (of_decide_eq_true rfl) ?_
 simp (disch:=omega) only [J7,go_sem,Ab,hfr,hs,D2,B6]
end Go.Proofs.YtkmenhhapfombaaGreatDoor
