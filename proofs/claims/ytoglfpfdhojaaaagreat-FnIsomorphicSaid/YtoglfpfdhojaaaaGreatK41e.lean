/-
  Texts of this claim, one behind the other, each built on those ahead of it. No condition.
-/
import Derived.Test.YtoglfpfdhojaaaaGreatK41b
import Derived.Test.YtoglfpfdhojaaaaGreatK41c
import Derived.Test.YtoglfpfdhojaaaaGreatK41d
import Derived.ProofKit
import Derived.Deep.Slices
import Derived.Deep.Fields
import Derived.ChangeSame
import Derived.OpenShut
import Derived.ShutString
import Derived.ChangeOld
set_option maxHeartbeats 16000000
open Option renaming isSome_some → zA, isSome_none → zB, getD_some → zC, getD_none → zD, map_some → zE, map_none → zF
open List renaming drop_eq_getElem_cons → zG, map_cons → zH, length_replicate → zI, drop_eq_nil_of_le → zJ, map_nil → zK, replicate → zL, getElem?_eq_getElem → zO, getElem_mem → zQ, length_map → zR, cons_append → zS, drop_zero → zT, map_append → zV, eq_nil_of_length_eq_zero → zW, length_nil → zX, range → z7, append_assoc → yA, take_succ_eq_append_getElem → yB, getElem?_map → yC, filter_cons → yD, getD_eq_getElem?_getD → yH, length_cons → yJ, length_take → yK, take_length → yL, length_drop → yM, getElem_map → yN, map_map → yO, nil_append → yP, take_zero → yT
open Nat renaming lt_or_ge → zM, eq_zero_or_pos → zN, zero_le → zP, pow_le_pow_right → zY, le_refl → yQ
open Option.some renaming inj → zU, injEq → z8
open Bool renaming and_eq_true → zZ, and_self → z6, false_eq_true → yF, not_false → yR
open List.cons renaming injEq → yE
open Int renaming tdiv_eq_ediv_of_nonneg → yG, toNat_zero → yS
open Prod.mk renaming injEq → yI
set_option maxRecDepth 100000
set_option linter.unusedSimpArgs false
set_option linter.unusedVariables false
set_option linter.unusedSectionVars false
namespace Go.Proofs.YtoglfpfdhojaaaaGreat
open Go.RowKit
def BD:SC:=(.seq (.reg [⟨some 3,none,.boxv 26 2 (.t 0)⟩,⟨some 4,none,.boxv 33 5 (.t 1)⟩,⟨some 5,none,.boxv 58 1 (.t 2)⟩,⟨some 6,none,.mv (.c (.bool false))⟩]) (.seq (.seq (.reg [⟨some 9,none,.faddr 0 (.t 4)⟩,⟨some 10,none,.load false 1 (.t 9)⟩,⟨some 11,none,.bin .eql false (.t 10) (.c (.int .i64 3))⟩]) (.cond (.t 11) (.seq (.reg [⟨some 13,none,.load true 2 (.t 3)⟩,⟨some 14,none,.faddr 1 (.t 4)⟩,⟨some 15,none,.load true 2 (.t 14)⟩,⟨some 16,none,.load false 1 (.t 5)⟩,⟨some 17,none,.call 53 [(.t 13),(.t 15),(.t 16)]⟩,⟨some 12,none,.mv (.t 17)⟩,⟨some 18,none,.ext (.t 12) 0⟩,⟨some 19,none,.ext (.t 12) 1⟩,⟨some 7,none,.mv (.t 18)⟩,⟨some 8,none,.mv (.t 19)⟩]) (.seq (.reg [⟨some 20,none,.mv (.t 8)⟩,⟨some 6,none,.mv (.t 20)⟩]) .ret)) .skip)) (.seq (.seq (.reg [⟨some 21,none,.faddr 0 (.t 4)⟩,⟨some 22,none,.load false 1 (.t 21)⟩,⟨some 23,none,.call 54 [(.t 22)]⟩]) (.cond (.t 23) (.reg [⟨some 24,none,.load false 1 (.t 5)⟩,⟨some 25,none,.faddr 3 (.t 4)⟩,⟨some 26,none,.load false 1 (.t 25)⟩,⟨some 27,none,.call 55 [(.t 24),(.t 26),(.c (.int .i64 0))]⟩,⟨none,none,(.store 1 (.t 5) (.t 27))⟩]) .skip)) (.seq (.reg [⟨some 28,none,.faddr 4 (.t 4)⟩,⟨some 29,none,.load false 1 (.t 28)⟩,⟨some 30,none,.mkfn 57 [(.t 3),(.t 5)]⟩,⟨some 31,none,.call 56 [(.t 29),(.t 30)]⟩,⟨some 32,none,.un .not (.t 31)⟩,⟨some 6,none,.mv (.t 32)⟩]) .ret))))
theorem Ck:Aq Tryz.prog 22=some ⟨33,BD,[(.tmp 6)]⟩:=by kernel_rfl
theorem Ba:modes 22=⟨[],.asis,none,false⟩:=by unfold modes; rfl
def CP:SC:=(.seq (.reg [⟨some 3,none,.boxv 33 5 (.t 0)⟩,⟨some 4,none,.mv (.c (.bool false))⟩]) (.seq (.reg [⟨some 5,none,.load true 2 (.t 1)⟩,⟨some 6,none,.load true 5 (.t 3)⟩,⟨some 7,none,.load false 1 (.t 2)⟩,⟨some 8,none,.call 22 [(.t 5),(.t 6),(.t 7)]⟩,⟨some 9,none,.un .not (.t 8)⟩,⟨some 4,none,.mv (.t 9)⟩]) .ret))
theorem EC:Aq Tryz.prog 57=some ⟨10,CP,[(.tmp 4)]⟩:=by kernel_rfl
theorem BY:modes 57=⟨[],.asis,none,false⟩:=by unfold modes; rfl
theorem Br:IG Tryz.prog 57=true:=by kernel_rfl
def A1:SC:=(.seq (.reg [⟨some 3,none,.boxv 26 2 (.t 0)⟩,⟨some 4,none,.boxv 33 5 (.t 1)⟩,⟨some 6,none,.mv (.c (.bool false))⟩]) (.seq (.seq (.reg [⟨some 10,none,.faddr 0 (.t 4)⟩,⟨some 11,none,.load false 1 (.t 10)⟩]) (.block 0 (.seq (.reg [⟨some 13,none,.bin .eql false (.t 11) (.c (.int .i64 1))⟩,⟨some 12,none,.mv (.t 13)⟩]) (.cond (.t 12) (.seq (.reg [⟨some 6,none,.mv (.c (.bool true))⟩]) .ret) (.seq (.reg [⟨some 15,none,.bin .eql false (.t 11) (.c (.int .i64 3))⟩,⟨some 14,none,.mv (.t 15)⟩]) (.cond (.t 14) (.seq (.reg [⟨some 17,none,.load true 2 (.t 3)⟩,⟨some 18,none,.faddr 1 (.t 4)⟩,⟨some 19,none,.load true 2 (.t 18)⟩,⟨some 20,none,.mv (.t 2)⟩,⟨some 21,none,.call 53 [(.t 17),(.t 19),(.t 20)]⟩,⟨some 16,none,.mv (.t 21)⟩,⟨some 22,none,.ext (.t 16) 0⟩,⟨some 23,none,.ext (.t 16) 1⟩,⟨some 7,none,.mv (.t 22)⟩,⟨some 8,none,.mv (.t 23)⟩]) (.seq (.reg [⟨some 24,none,.mv (.t 7)⟩,⟨some 6,none,.mv (.t 24)⟩]) .ret)) (.seq (.reg [⟨some 26,none,.bin .eql false (.t 11) (.c (.int .i64 4))⟩,⟨some 25,none,.mv (.t 26)⟩]) (.cond (.t 25) (.seq (.dreg [[],[],[1],[2,1],[3,2,1],[],[0,4,3,2,1,5],[6,0,4,3,2,1,5],[7,6,0,4,3,2,1,5]] [⟨some 27,none,.load true 2 (.t 3)⟩,⟨some 28,none,.faddr 4 (.t 4)⟩,⟨some 29,none,.load false 1 (.t 28)⟩,⟨some 30,none,.iaddr 5 (.t 29) (.c (.int .i64 0))⟩,⟨some 31,none,.load true 5 (.t 30)⟩,⟨some 32,none,.mv (.t 2)⟩,⟨some 33,none,.call 23 [(.t 27),(.t 31),(.t 32)]⟩,⟨some 34,none,.un .not (.t 33)⟩,⟨some 6,none,.mv (.t 34)⟩]) .ret) (.seq (.reg [⟨some 36,none,.bin .eql false (.t 11) (.c (.int .i64 5))⟩,⟨some 35,none,.mv (.t 36)⟩]) (.cond (.t 35) (.seq (.dreg [[],[],[1],[2,1],[3,2,1],[],[0,4,3,2,1,5],[6,0,4,3,2,1,5],[7,6,0,4,3,2,1,5],[7,6,0,4,3,2,1,5],[9,7,6,0,4,3,2,1,5],[10,9,7,6,0,4,3,2,1,5],[11,10,9,7,6,0,4,3,2,1,5],[7,6,0,4,3,2,1,5],[8,7,6,0,4,3,2,1,5,12,11,10,9,13],[7,6,0,4,3,2,1,5,14,8,12,11,10,9,13],[15,7,6,0,4,3,2,1,5,14,8,12,11,10,9,13]] [⟨some 37,none,.load true 2 (.t 3)⟩,⟨some 38,none,.faddr 4 (.t 4)⟩,⟨some 39,none,.load false 1 (.t 38)⟩,⟨some 40,none,.iaddr 5 (.t 39) (.c (.int .i64 0))⟩,⟨some 41,none,.load true 5 (.t 40)⟩,⟨some 42,none,.mv (.t 2)⟩,⟨some 43,none,.call 23 [(.t 37),(.t 41),(.t 42)]⟩,⟨some 44,none,.mv (.t 43)⟩,⟨(some 45),(some (44,true)),(.load true 2 (.t 3))⟩,⟨(some 46),(some (44,true)),(.faddr 4 (.t 4))⟩,⟨(some 47),(some (44,true)),(.load false 1 (.t 46))⟩,⟨(some 48),(some (44,true)),(.iaddr 5 (.t 47) (.c (.int .i64 1)))⟩,⟨(some 49),(some (44,true)),(.load true 5 (.t 48))⟩,⟨(some 50),(some (44,true)),(.mv (.t 2))⟩,⟨(some 51),(some (44,true)),(.call 23 [(.t 45),(.t 49),(.t 50)])⟩,⟨some 52,none,.pick (.t 44) (.t 51) (.c (.bool false))⟩,⟨some 6,none,.mv (.t 52)⟩]) .ret) (.seq (.reg [⟨some 54,none,.bin .eql false (.t 11) (.c (.int .i64 6))⟩,⟨some 53,none,.mv (.t 54)⟩]) (.cond (.t 53) (.seq (.dreg [[],[],[1],[2,1],[3,2,1],[],[0,4,3,2,1,5],[6,0,4,3,2,1,5],[7,6,0,4,3,2,1,5],[7,6,0,4,3,2,1,5],[9,7,6,0,4,3,2,1,5],[10,9,7,6,0,4,3,2,1,5],[11,10,9,7,6,0,4,3,2,1,5],[7,6,0,4,3,2,1,5],[8,7,6,0,4,3,2,1,5,12,11,10,9,13],[7,6,0,4,3,2,1,5,14,8,12,11,10,9,13],[15,7,6,0,4,3,2,1,5,14,8,12,11,10,9,13]] [⟨some 55,none,.load true 2 (.t 3)⟩,⟨some 56,none,.faddr 4 (.t 4)⟩,⟨some 57,none,.load false 1 (.t 56)⟩,⟨some 58,none,.iaddr 5 (.t 57) (.c (.int .i64 0))⟩,⟨some 59,none,.load true 5 (.t 58)⟩,⟨some 60,none,.mv (.t 2)⟩,⟨some 61,none,.call 23 [(.t 55),(.t 59),(.t 60)]⟩,⟨some 62,none,.mv (.t 61)⟩,⟨(some 63),(some (62,false)),(.load true 2 (.t 3))⟩,⟨(some 64),(some (62,false)),(.faddr 4 (.t 4))⟩,⟨(some 65),(some (62,false)),(.load false 1 (.t 64))⟩,⟨(some 66),(some (62,false)),(.iaddr 5 (.t 65) (.c (.int .i64 1)))⟩,⟨(some 67),(some (62,false)),(.load true 5 (.t 66))⟩,⟨(some 68),(some (62,false)),(.mv (.t 2))⟩,⟨(some 69),(some (62,false)),(.call 23 [(.t 63),(.t 67),(.t 68)])⟩,⟨some 70,none,.pick (.t 62) (.c (.bool true)) (.t 69)⟩,⟨some 6,none,.mv (.t 70)⟩]) .ret) (.seq (.reg [⟨some 72,none,.bin .eql false (.t 11) (.c (.int .i64 7))⟩,⟨some 71,none,.mv (.t 72)⟩]) (.cond (.t 71) (.seq (.dreg [[],[],[1],[2,1],[3,2,1],[],[0,4,3,2,1,5],[6,0,4,3,2,1,5],[7,6,0,4,3,2,1,5],[8,7,6,0,4,3,2,1,5],[8,7,6,0,4,3,2,1,5],[10,8,7,6,0,4,3,2,1,5],[11,10,8,7,6,0,4,3,2,1,5],[12,11,10,8,7,6,0,4,3,2,1,5],[8,7,6,0,4,3,2,1,5],[9,8,7,6,0,4,3,2,1,5,13,12,11,10,14],[8,7,6,0,4,3,2,1,5,15,9,13,12,11,10,14],[16,8,7,6,0,4,3,2,1,5,15,9,13,12,11,10,14]] [⟨some 73,none,.load true 2 (.t 3)⟩,⟨some 74,none,.faddr 4 (.t 4)⟩,⟨some 75,none,.load false 1 (.t 74)⟩,⟨some 76,none,.iaddr 5 (.t 75) (.c (.int .i64 0))⟩,⟨some 77,none,.load true 5 (.t 76)⟩,⟨some 78,none,.mv (.t 2)⟩,⟨some 79,none,.call 23 [(.t 73),(.t 77),(.t 78)]⟩,⟨some 80,none,.un .not (.t 79)⟩,⟨some 81,none,.mv (.t 80)⟩,⟨(some 82),(some (81,false)),(.load true 2 (.t 3))⟩,⟨(some 83),(some (81,false)),(.faddr 4 (.t 4))⟩,⟨(some 84),(some (81,false)),(.load false 1 (.t 83))⟩,⟨(some 85),(some (81,false)),(.iaddr 5 (.t 84) (.c (.int .i64 1)))⟩,⟨(some 86),(some (81,false)),(.load true 5 (.t 85))⟩,⟨(some 87),(some (81,false)),(.mv (.t 2))⟩,⟨(some 88),(some (81,false)),(.call 23 [(.t 82),(.t 86),(.t 87)])⟩,⟨some 89,none,.pick (.t 81) (.c (.bool true)) (.t 88)⟩,⟨some 6,none,.mv (.t 89)⟩]) .ret) (.seq (.seq (.reg [⟨some 91,none,.bin .eql false (.t 11) (.c (.int .i64 8))⟩,⟨some 90,none,.mv (.t 91)⟩]) (.cond (.t 90) .skip (.reg [⟨some 92,none,.bin .eql false (.t 11) (.c (.int .i64 9))⟩,⟨some 90,none,.mv (.t 92)⟩]))) (.cond (.t 90) (.seq (.seq (.reg [⟨some 93,none,.faddr 0 (.t 3)⟩,⟨some 94,none,.load false 1 (.t 93)⟩,⟨some 95,none,.mv (.c (.int .i64 0))⟩]) (.block 1 (.loop [0,0,1,1,1,0,0,0,0,0,0,0,0,0,0,0,0,0,0,0,0,0,0,0,0,0,0,0,0,0,0,0,0,0,0,0,0,0,0,0,0,0,0,0,0,0,0,0,0,0,0,0,0,0,0,0,0,0,0,0,0,0,0,0,0,0,0,0,0,0,0,0,0,0,0,0,0,0,0,0,0,0,0,0,0,0,0,0,0,0,0,0,0,0,1,1,0,0,0,0,0,0,0,0,0,0,0,0,0,0,0,0,0,0,0,0,0,0,0,0,0,0,0,0,0,0,0,0,0] (.seq (.reg [⟨some 96,none,.bin .lss false (.t 95) (.t 94)⟩]) (.seq (.cond (.t 96) .skip (.exit 1)) (.seq (.block 2 (.seq (.reg [⟨some 97,none,.mv (.t 95)⟩,⟨some 9,none,.mv (.t 97)⟩]) (.seq (.seq (.dreg [[],[],[1],[2,1],[3,2,1],[],[],[6],[],[5,7,6,8],[0,4,3,2,1,9,5,7,6,8],[],[11],[12,11],[10,0,4,3,2,1,9,5,7,6,8,13,12,11]] [⟨some 98,none,.load true 2 (.t 3)⟩,⟨some 99,none,.faddr 4 (.t 4)⟩,⟨some 100,none,.load false 1 (.t 99)⟩,⟨some 101,none,.iaddr 5 (.t 100) (.c (.int .i64 0))⟩,⟨some 102,none,.load true 5 (.t 101)⟩,⟨some 103,none,.mv (.t 2)⟩,⟨some 104,none,.faddr 3 (.t 4)⟩,⟨some 105,none,.load false 1 (.t 104)⟩,⟨some 106,none,.mv (.t 9)⟩,⟨some 107,none,.call 55 [(.t 103),(.t 105),(.t 106)]⟩,⟨some 108,none,.call 23 [(.t 98),(.t 102),(.t 107)]⟩,⟨some 109,none,.faddr 0 (.t 4)⟩,⟨some 110,none,.load false 1 (.t 109)⟩,⟨some 111,none,.bin .eql false (.t 110) (.c (.int .i64 9))⟩,⟨some 112,none,.bin .eql true (.t 108) (.t 111)⟩]) (.cond (.t 112) (.seq (.reg [⟨some 113,none,.faddr 0 (.t 4)⟩,⟨some 114,none,.load false 1 (.t 113)⟩,⟨some 115,none,.bin .eql false (.t 114) (.c (.int .i64 9))⟩,⟨some 6,none,.mv (.t 115)⟩]) .ret) .skip)) (.seq (.dreg [[],[0],[1,0],[2,1,0],[3,2,1,0],[],[5],[4,3,2,1,0,6,5],[7,4,3,2,1,0,6,5]] [⟨some 116,none,.faddr 4 (.t 4)⟩,⟨some 117,none,.load false 1 (.t 116)⟩,⟨some 118,none,.iaddr 5 (.t 117) (.c (.int .i64 0))⟩,⟨some 119,none,.load true 5 (.t 118)⟩,⟨some 120,none,.call 59 [(.t 119)]⟩,⟨some 121,none,.faddr 3 (.t 4)⟩,⟨some 122,none,.load false 1 (.t 121)⟩,⟨some 123,none,.call 58 [(.t 120),(.t 122)]⟩,⟨some 124,none,.un .not (.t 123)⟩]) (.cond (.t 124) (.exit 1) .skip))))) (.reg [⟨some 125,none,.bin .add false (.t 95) (.c (.int .i64 1))⟩,⟨some 95,none,.mv (.t 125)⟩]))))))) (.seq (.reg [⟨some 126,none,.faddr 0 (.t 4)⟩,⟨some 127,none,.load false 1 (.t 126)⟩,⟨some 128,none,.bin .eql false (.t 127) (.c (.int .i64 8))⟩,⟨some 6,none,.mv (.t 128)⟩]) .ret)) .skip)))))))))))))))) (.seq (.reg [⟨some 6,none,.mv (.c (.bool false))⟩]) .ret)))
theorem A4:Aq Tryz.prog 23=some ⟨129,A1,[(.tmp 6)]⟩:=by kernel_rfl
theorem Ah:modes 23=⟨[],.asis,none,false⟩:=by unfold modes; rfl
abbrev CaC (m:Ip) (e:Env) (x:Fm):Prop:=E 22 [m.sv,x.sv,.mp true (Dy e)] []=some (.bool (x.tr m e).isSome,[])
theorem Fm.V9 {m:Ip} {x:Fm} (hx:x.forms=true) (h3:¬ x.op=3) (hs:1≤m.size) (e:Env):(x.tr m e).isSome=!(x.parts.any fun y=>!(y.tr m (bif qB x.op then C4 e x.var 0 else e)).isSome):=by
 have hf:=Fm.Dq hx
 rcases Fm.Jp hf with ho | ho | ho | ho | ho | ho | ho | ho | ho
 ·have hp:x.parts=[]:=by rw [Fm.PJ hf (.inl ho)]; rfl
  rw [Fm.Tv ho,hp]; rfl
 ·have hp:x.parts=[]:=by rw [Fm.PJ hf (.inr ho)]; rfl
  rw [Fm.Tw ho,hp]; rfl
 ·exact absurd ho h3
 ·obtain ⟨p,hp⟩:=Fm.Jo hf ho
  have hp:x.parts=[p]:=by rw [hp]; rfl
  have hq:qB x.op=false:=by unfold qB; rw [Aj (by omega),Aj (by omega)]; rfl
  rw [Fm.KG ho hp,hp,hq,Option.isSome_map]
  simp
 all_goals try
  obtain ⟨p,q,hp⟩:=Fm.Fj hf (by omega)
  have hp:x.parts=[p,q]:=by rw [hp]; rfl
  have hq:qB x.op=false:=by unfold qB; rw [Aj (by omega),Aj (by omega)]; rfl
  rw [Fm.GO (by omega) hp,hp,hq,Ot]
  simp
  done
 all_goals
  obtain ⟨p,hp⟩:=Fm.KF hf (by omega)
  have hp:x.parts=[p]:=by rw [hp]; rfl
  have hq:qB x.op=true:=by unfold qB; rw [ho]; simp [Aw]
  rw [Fm.Qav hx (by omega) hp hs,hp,hq]
  simp
theorem Fm.X8 {m:Ip} {x:Fm} {e:Env} (h:x.op=3):(x.tr m e).isSome=(x.atom.tru m e).isSome:=by rw [Fm.Iz h,Option.isSome_map]
theorem T3 (m:Ip) (e:Env) (p:Fm→Bool) (xs:List Fm) (hl:xs.length≤1099511627776) (hg:IG Tryz.prog 57=true) (hm:modes 57=⟨[],.asis,none,false⟩) (hE:∀ x∈xs,E 57 [x.sv,.ptr 0 0,.ptr 1 0] [.box 26 [.int .i64 m.size,.arr (m.tables.map Tl.d)],.box 58 [.mp true (Dy e)]]=some (.bool (p x),[.box 26 [.int .i64 m.size,.arr (m.tables.map Tl.d)],.box 58 [.mp true (Dy e)]])):E 91 [.arr (xs.map Fm.d),.fn 57 [.ptr 0 0,.ptr 1 0]] [.box 26 [.int .i64 m.size,.arr (m.tables.map Tl.d)],.box 58 [.mp true (Dy e)]]=some (.int .i64 (Cw p xs 0),[.box 26 [.int .i64 m.size,.arr (m.tables.map Tl.d)],.box 58 [.mp true (Dy e)]]):=by
 refine Al Ce Be (of_decide_eq_true rfl) ?_
 simp (disch:=omega) only [B7,go_sem,Ab]
 refine go_loop (α:=Int) (fun a=>⟨slots 19 0 [(0,.arr (xs.map Fm.d)),(1,.fn 57 [.ptr 0 0,.ptr 1 0]),(7,.int .i64 xs.length),(8,.int .i64 a)],[.box 26 [.int .i64 m.size,.arr (m.tables.map Tl.d)],.box 58 [.mp true (Dy e)]]⟩) (fun a=>∃ k:Nat,a=k∧k≤(xs).length∧Cw p (xs.drop k) a=Cw p xs 0) (fun a=>(xs).length-(a).toNat) 0 ⟨0,rfl,zP _,by rw [zT]⟩ (by simp (disch:=omega) only [go_sem,Ab]) ?_
 rintro i ⟨k,hi,hk,hR⟩
 have hni:i.toNat=k:=by omega
 have hni1:(i+1).toNat=k+1:=by omega
 rcases zM k (xs).length with hlt | hge
 ·have hg':=get_at Fm.d hlt
  rw [Fm.d_eq] at hg'
  have hc:=hE xs[k] (zQ hlt)
  rw [zG hlt,Cw] at hR
  cases hp:p xs[k] with
  | true =>
   rw [hp] at hc hR
   simp (disch:=omega) only [go_sem,Ab,hni,hg',hc,hg,hm]
   simpa using hR
  | false =>
   rw [hp] at hc hR
   simp (disch:=omega) only [go_sem,Ab,hni,hg',hc,hg,hm]
   exact ⟨i+1,⟨k+1,by omega,hlt,by simpa using hR⟩,by omega,by first | trivial | rfl⟩
 ·rw [zJ hge,Cw] at hR
  simp (disch:=omega) only [go_sem,Ab,hni]
  exact hR
theorem Ki (m:Ip) (e:Env) (p:Fm→Bool) (xs:List Fm) (hl:xs.length≤1099511627776) (hg:IG Tryz.prog 57=true) (hm:modes 57=⟨[],.asis,none,false⟩) (hE:∀ x∈xs,E 57 [x.sv,.ptr 0 0,.ptr 1 0] [.box 26 [.int .i64 m.size,.arr (m.tables.map Tl.d)],.box 58 [.mp true (Dy e)]]=some (.bool (p x),[.box 26 [.int .i64 m.size,.arr (m.tables.map Tl.d)],.box 58 [.mp true (Dy e)]])):E 56 [.arr (xs.map Fm.d),.fn 57 [.ptr 0 0,.ptr 1 0]] [.box 26 [.int .i64 m.size,.arr (m.tables.map Tl.d)],.box 58 [.mp true (Dy e)]]=some (.bool (xs.any p),[.box 26 [.int .i64 m.size,.arr (m.tables.map Tl.d)],.box 58 [.mp true (Dy e)]]):=by
 have h:=T3 m e p xs hl hg hm hE
 refine Al BT Aa (of_decide_eq_true rfl) ?_
 simp (disch:=omega) only [By,go_sem,Ab,h,Be]
 rw [EZ]
theorem X9 (m:Ip) (e:Env) (x:Fm) (h:CaC m e x):E 57 [x.sv,.ptr 0 0,.ptr 1 0] [.box 26 [.int .i64 m.size,.arr (m.tables.map Tl.d)],.box 58 [.mp true (Dy e)]]=some (.bool (!(x.tr m e).isSome),[.box 26 [.int .i64 m.size,.arr (m.tables.map Tl.d)],.box 58 [.mp true (Dy e)]]):=by
 unfold CaC at h
 refine Al EC BY (of_decide_eq_true rfl) ?_
 simp (disch:=omega) only [CP,go_sem,Ab,h,Ba]
theorem O0 (m:Ip) (hm:m.ok=true) (ht:m.tame) (x:Fm) (hx:x.forms=true) (hn:x.nodes≤1048576) (e:Env) (he:InE m.size e) (hf:FinE e) (ih:∀ y∈x.parts,∀ e,InE m.size e→FinE e→CaC m e y):CaC m e x:=by
 have hfo:=Fm.Dq hx
 obtain ⟨⟨s1,s3⟩,_,_⟩:=Ip.Cx hm
 have hxs:x.sv=.agg [.int .i64 x.op,.str x.atom.name,.arr (x.atom.args.map Tm.d),.str x.var,.arr (x.parts.map Fm.d)]:=rfl
 have has:x.atom.sv=.agg [.str x.atom.name,.arr (x.atom.args.map Tm.d)]:=rfl
 have hpl:=Fm.length_le x.parts
 have hnq:=Fm.nodes_eq x
 have hu:=CD x.op
 unfold CaC
 cases ho:dec (x.op=3) with
 | true =>
  obtain ⟨b,hct,_⟩:=Ut m hm ht e he x.atom (Fm.F8 hfo (Ar.1 ho)).2.1
  rw [Fm.X8 (Ar.1 ho)]
  refine Al Ck Ba (of_decide_eq_true rfl) ?_
  simp (disch:=omega) only [BD,go_sem,Ab,ho,hxs,has,hu,hct,Ac,A3,Bh,Aa,Br]
 | false =>
  rw [Fm.V9 hx (EU.1 ho) s1 e]
  cases hq:qB x.op with
  | true =>
   have hwi:=T0 e hf x.var 0
   have hcn:=Ki m (C4 e x.var 0) (fun y=>!(y.tr m (C4 e x.var 0)).isSome) x.parts (by omega) Br BY (fun y hy=>X9 m _ y (ih y hy _ (JE he (by omega) (by omega) _) (hf.put _ _)))
   unfold qB at hq
   rw [hq] at hu
   rw [cond_true]
   refine Al Ck Ba (of_decide_eq_true rfl) ?_
   simp (disch:=omega) only [BD,go_sem,Ab,ho,hxs,has,hu,hwi,hcn,Ac,A3,Bh,Aa,Br]
  | false =>
   have hcn:=Ki m e (fun y=>!(y.tr m e).isSome) x.parts (by omega) Br BY (fun y hy=>X9 m _ y (ih y hy _ he hf))
   unfold qB at hq
   rw [hq] at hu
   rw [cond_false]
   refine Al Ck Ba (of_decide_eq_true rfl) ?_
   simp (disch:=omega) only [BD,go_sem,Ab,ho,hxs,has,hu,hcn,Ac,A3,Bh,Aa,Br]
theorem Kj (m:Ip) (hm:m.ok=true) (ht:m.tame) (x:Fm) (hx:x.forms=true) (hn:x.nodes≤1048576) (e:Env) (he:InE m.size e) (hf:FinE e):CaC m e x :=
 O0 m hm ht x hx hn e he hf fun y hy e he hf=>Kj m hm ht y (Fm.C1 hx hy) (by have:=Fm.nodes_mem hy; have:=Fm.nodes_eq x; omega) e he hf
termination_by SizeOf.sizeOf x
decreasing_by exact Fm.lt_of_mem hy
abbrev HoC (m:Ip) (e:Env) (x:Fm):Prop:=∀ b,x.tr m e=some b→E 23 [m.sv,x.sv,.mp true (Dy e)] []=some (.bool b,[])
theorem holds_of (m:Ip) (hm:m.ok=true) (ht:m.tame) (x:Fm) (hx:x.forms=true) (hn:x.nodes≤30000) (e:Env) (he:InE m.size e) (hf:FinE e) (ih:∀ y∈x.parts,∀ e,InE m.size e→FinE e→HoC m e y):HoC m e x:=by
 intro b hb
 have hfo:=Fm.Dq hx
 obtain ⟨⟨s1,s3⟩,_,_⟩:=Ip.Cx hm
 have hxs:x.sv=.agg [.int .i64 x.op,.str x.atom.name,.arr (x.atom.args.map Tm.d),.str x.var,.arr (x.parts.map Fm.d)]:=rfl
 have has:x.atom.sv=.agg [.str x.atom.name,.arr (x.atom.args.map Tm.d)]:=rfl
 have hpl:=Fm.length_le x.parts
 have hnq:=Fm.nodes_eq x
 have hms:(m.size.toNat:Int)=m.size:=by omega
 rcases Fm.Jp hfo with ho | ho | ho | ho | ho | ho | ho | ho | ho
 ·rw [Fm.Tv ho] at hb
  obtain rfl:=zU hb
  have d1:dec (x.op=1)=true:=Aw (by omega)
  have d2:dec (x.op=2)=false:=Aj (by omega)
  have d3:dec (x.op=3)=false:=Aj (by omega)
  have d4:dec (x.op=4)=false:=Aj (by omega)
  have d5:dec (x.op=5)=false:=Aj (by omega)
  have d6:dec (x.op=6)=false:=Aj (by omega)
  have d7:dec (x.op=7)=false:=Aj (by omega)
  have d8:dec (x.op=8)=false:=Aj (by omega)
  have d9:dec (x.op=9)=false:=Aj (by omega)
  refine Al A4 Ah (of_decide_eq_true rfl) ?_
  simp (disch:=omega) only [A1,go_sem,d1,d2,d3,d4,d5,d6,d7,d8,d9]
  repeat ((first | (refine At ?_ ?_; (focus (simp (disch:=omega) only [go_sem,d1,d2,d3,d4,d5,d6,d7,d8,d9]; done))) | (refine Au ?_ ?_; (focus (simp (disch:=omega) only [go_sem,d1,d2,d3,d4,d5,d6,d7,d8,d9]; done)))); (try simp (disch:=omega) only [go_sem,d1,d2,d3,d4,d5,d6,d7,d8,d9]))
 ·rw [Fm.Tw ho] at hb
  obtain rfl:=zU hb
  have d1:dec (x.op=1)=false:=Aj (by omega)
  have d2:dec (x.op=2)=true:=Aw (by omega)
  have d3:dec (x.op=3)=false:=Aj (by omega)
  have d4:dec (x.op=4)=false:=Aj (by omega)
  have d5:dec (x.op=5)=false:=Aj (by omega)
  have d6:dec (x.op=6)=false:=Aj (by omega)
  have d7:dec (x.op=7)=false:=Aj (by omega)
  have d8:dec (x.op=8)=false:=Aj (by omega)
  have d9:dec (x.op=9)=false:=Aj (by omega)
  refine Al A4 Ah (of_decide_eq_true rfl) ?_
  simp (disch:=omega) only [A1,go_sem,d1,d2,d3,d4,d5,d6,d7,d8,d9]
  repeat ((first | (refine At ?_ ?_; (focus (simp (disch:=omega) only [go_sem,d1,d2,d3,d4,d5,d6,d7,d8,d9]; done))) | (refine Au ?_ ?_; (focus (simp (disch:=omega) only [go_sem,d1,d2,d3,d4,d5,d6,d7,d8,d9]; done)))); (try simp (disch:=omega) only [go_sem,d1,d2,d3,d4,d5,d6,d7,d8,d9]))
 ·rw [Fm.Iz ho] at hb
  have d1:dec (x.op=1)=false:=Aj (by omega)
  have d2:dec (x.op=2)=false:=Aj (by omega)
  have d3:dec (x.op=3)=true:=Aw (by omega)
  have d4:dec (x.op=4)=false:=Aj (by omega)
  have d5:dec (x.op=5)=false:=Aj (by omega)
  have d6:dec (x.op=6)=false:=Aj (by omega)
  have d7:dec (x.op=7)=false:=Aj (by omega)
  have d8:dec (x.op=8)=false:=Aj (by omega)
  have d9:dec (x.op=9)=false:=Aj (by omega)
  obtain ⟨c,hct,hcv⟩:=Ut m hm ht e he x.atom (Fm.F8 hfo ho).2.1
  cases hv:x.atom.tru m e with
  | none=>rw [hv] at hb; cases hb
  | some n =>
   rw [hv] at hb hct
   have hb:some (dec (n=1))=some b:=hb
   obtain rfl:=zU hb
   have hcv:=hcv n hv
   subst hcv
   refine Al A4 Ah (of_decide_eq_true rfl) ?_
   simp (disch:=omega) only [A1,go_sem,d1,d2,d3,d4,d5,d6,d7,d8,d9,hct,A3]
   repeat ((first | (refine At ?_ ?_; (focus (simp (disch:=omega) only [go_sem,d1,d2,d3,d4,d5,d6,d7,d8,d9,hct,A3]; done))) | (refine Au ?_ ?_; (focus (simp (disch:=omega) only [go_sem,d1,d2,d3,d4,d5,d6,d7,d8,d9,hct,A3]; done)))); (try simp (disch:=omega) only [go_sem,d1,d2,d3,d4,d5,d6,d7,d8,d9,hct,A3]))
 ·
  have d1:dec (x.op=1)=false:=Aj (by omega)
  have d2:dec (x.op=2)=false:=Aj (by omega)
  have d3:dec (x.op=3)=false:=Aj (by omega)
  have d4:dec (x.op=4)=true:=Aw (by omega)
  have d5:dec (x.op=5)=false:=Aj (by omega)
  have d6:dec (x.op=6)=false:=Aj (by omega)
  have d7:dec (x.op=7)=false:=Aj (by omega)
  have d8:dec (x.op=8)=false:=Aj (by omega)
  have d9:dec (x.op=9)=false:=Aj (by omega)
  obtain ⟨p,hp⟩:=Fm.Jo hfo ho
  have hp:x.parts=[p]:=by rw [hp]; rfl
  have hpl1:0<x.parts.length:=by rw [hp]; simp
  have hpe:x.parts[0]=p:=by simp [hp]
  have hgp:=get_at Fm.d hpl1
  rw [Fm.d_eq,hpe] at hgp
  rw [Fm.KG ho hp] at hb
  cases hv:p.tr m e with
  | none=>rw [hv] at hb; cases hb
  | some v =>
   rw [hv] at hb
   have hb:some (!v)=some b:=hb
   obtain rfl:=zU hb
   have hc:=ih p (by rw [hp]; simp) e he hf v hv
   refine Al A4 Ah (of_decide_eq_true rfl) ?_
   simp (disch:=omega) only [A1,go_sem,d1,d2,d3,d4,d5,d6,d7,d8,d9,hgp,hc,Ah]
   repeat ((first | (refine At ?_ ?_; (focus (simp (disch:=omega) only [go_sem,d1,d2,d3,d4,d5,d6,d7,d8,d9,hgp,hc,Ah]; done))) | (refine Au ?_ ?_; (focus (simp (disch:=omega) only [go_sem,d1,d2,d3,d4,d5,d6,d7,d8,d9,hgp,hc,Ah]; done)))); (try simp (disch:=omega) only [go_sem,d1,d2,d3,d4,d5,d6,d7,d8,d9,hgp,hc,Ah]))
 ·
  have d1:dec (x.op=1)=false:=Aj (by omega)
  have d2:dec (x.op=2)=false:=Aj (by omega)
  have d3:dec (x.op=3)=false:=Aj (by omega)
  have d4:dec (x.op=4)=false:=Aj (by omega)
  have d5:dec (x.op=5)=true:=Aw (by omega)
  have d6:dec (x.op=6)=false:=Aj (by omega)
  have d7:dec (x.op=7)=false:=Aj (by omega)
  have d8:dec (x.op=8)=false:=Aj (by omega)
  have d9:dec (x.op=9)=false:=Aj (by omega)
  obtain ⟨p,q,hp⟩:=Fm.Fj hfo (by omega)
  have hp:x.parts=[p,q]:=by rw [hp]; rfl
  have hpl2:1<x.parts.length:=by rw [hp]; simp
  have hpl1:0<x.parts.length:=by omega
  have hpe:x.parts[0]=p:=by simp [hp]
  have hqe:x.parts[1]=q:=by simp [hp]
  have hgp:=get_at Fm.d hpl1
  have hgq:=get_at Fm.d hpl2
  rw [Fm.d_eq,hpe] at hgp
  rw [Fm.d_eq,hqe] at hgq
  rw [Fm.GO (by omega) hp] at hb
  cases hv1:p.tr m e with
  | none=>rw [hv1] at hb; cases hb
  | some u =>
   cases hv2:q.tr m e with
   | none=>rw [hv1,hv2] at hb; cases hb
   | some v =>
    rw [hv1,hv2] at hb
    have hb:some (conn x.op u v)=some b:=hb
    obtain rfl:=zU hb
    have hc1:=ih p (by rw [hp]; simp) e he hf u hv1
    have hc2:=ih q (by rw [hp]; simp) e he hf v hv2
    unfold conn
    rw [d5,d6]
    cases u
    ·refine Al A4 Ah (of_decide_eq_true rfl) ?_
     simp (disch:=omega) only [A1,go_sem,d1,d2,d3,d4,d5,d6,d7,d8,d9,hgp,hgq,hc1,hc2,Ah]
     repeat ((first | (refine At ?_ ?_; (focus (simp (disch:=omega) only [go_sem,d1,d2,d3,d4,d5,d6,d7,d8,d9,hgp,hgq,hc1,hc2,Ah]; done))) | (refine Au ?_ ?_; (focus (simp (disch:=omega) only [go_sem,d1,d2,d3,d4,d5,d6,d7,d8,d9,hgp,hgq,hc1,hc2,Ah]; done)))); (try simp (disch:=omega) only [go_sem,d1,d2,d3,d4,d5,d6,d7,d8,d9,hgp,hgq,hc1,hc2,Ah]))
     try rfl
    ·refine Al A4 Ah (of_decide_eq_true rfl) ?_
     simp (disch:=omega) only [A1,go_sem,d1,d2,d3,d4,d5,d6,d7,d8,d9,hgp,hgq,hc1,hc2,Ah]
     repeat ((first | (refine At ?_ ?_; (focus (simp (disch:=omega) only [go_sem,d1,d2,d3,d4,d5,d6,d7,d8,d9,hgp,hgq,hc1,hc2,Ah]; done))) | (refine Au ?_ ?_; (focus (simp (disch:=omega) only [go_sem,d1,d2,d3,d4,d5,d6,d7,d8,d9,hgp,hgq,hc1,hc2,Ah]; done)))); (try simp (disch:=omega) only [go_sem,d1,d2,d3,d4,d5,d6,d7,d8,d9,hgp,hgq,hc1,hc2,Ah]))
     try rfl
 ·
  have d1:dec (x.op=1)=false:=Aj (by omega)
  have d2:dec (x.op=2)=false:=Aj (by omega)
  have d3:dec (x.op=3)=false:=Aj (by omega)
  have d4:dec (x.op=4)=false:=Aj (by omega)
  have d5:dec (x.op=5)=false:=Aj (by omega)
  have d6:dec (x.op=6)=true:=Aw (by omega)
  have d7:dec (x.op=7)=false:=Aj (by omega)
  have d8:dec (x.op=8)=false:=Aj (by omega)
  have d9:dec (x.op=9)=false:=Aj (by omega)
  obtain ⟨p,q,hp⟩:=Fm.Fj hfo (by omega)
  have hp:x.parts=[p,q]:=by rw [hp]; rfl
  have hpl2:1<x.parts.length:=by rw [hp]; simp
  have hpl1:0<x.parts.length:=by omega
  have hpe:x.parts[0]=p:=by simp [hp]
  have hqe:x.parts[1]=q:=by simp [hp]
  have hgp:=get_at Fm.d hpl1
  have hgq:=get_at Fm.d hpl2
  rw [Fm.d_eq,hpe] at hgp
  rw [Fm.d_eq,hqe] at hgq
  rw [Fm.GO (by omega) hp] at hb
  cases hv1:p.tr m e with
  | none=>rw [hv1] at hb; cases hb
  | some u =>
   cases hv2:q.tr m e with
   | none=>rw [hv1,hv2] at hb; cases hb
   | some v =>
    rw [hv1,hv2] at hb
    have hb:some (conn x.op u v)=some b:=hb
    obtain rfl:=zU hb
    have hc1:=ih p (by rw [hp]; simp) e he hf u hv1
    have hc2:=ih q (by rw [hp]; simp) e he hf v hv2
    unfold conn
    rw [d5,d6]
    cases u
    ·refine Al A4 Ah (of_decide_eq_true rfl) ?_
     simp (disch:=omega) only [A1,go_sem,d1,d2,d3,d4,d5,d6,d7,d8,d9,hgp,hgq,hc1,hc2,Ah]
     repeat ((first | (refine At ?_ ?_; (focus (simp (disch:=omega) only [go_sem,d1,d2,d3,d4,d5,d6,d7,d8,d9,hgp,hgq,hc1,hc2,Ah]; done))) | (refine Au ?_ ?_; (focus (simp (disch:=omega) only [go_sem,d1,d2,d3,d4,d5,d6,d7,d8,d9,hgp,hgq,hc1,hc2,Ah]; done)))); (try simp (disch:=omega) only [go_sem,d1,d2,d3,d4,d5,d6,d7,d8,d9,hgp,hgq,hc1,hc2,Ah]))
     try rfl
    ·refine Al A4 Ah (of_decide_eq_true rfl) ?_
     simp (disch:=omega) only [A1,go_sem,d1,d2,d3,d4,d5,d6,d7,d8,d9,hgp,hgq,hc1,hc2,Ah]
     repeat ((first | (refine At ?_ ?_; (focus (simp (disch:=omega) only [go_sem,d1,d2,d3,d4,d5,d6,d7,d8,d9,hgp,hgq,hc1,hc2,Ah]; done))) | (refine Au ?_ ?_; (focus (simp (disch:=omega) only [go_sem,d1,d2,d3,d4,d5,d6,d7,d8,d9,hgp,hgq,hc1,hc2,Ah]; done)))); (try simp (disch:=omega) only [go_sem,d1,d2,d3,d4,d5,d6,d7,d8,d9,hgp,hgq,hc1,hc2,Ah]))
     try rfl
 ·
  have d1:dec (x.op=1)=false:=Aj (by omega)
  have d2:dec (x.op=2)=false:=Aj (by omega)
  have d3:dec (x.op=3)=false:=Aj (by omega)
  have d4:dec (x.op=4)=false:=Aj (by omega)
  have d5:dec (x.op=5)=false:=Aj (by omega)
  have d6:dec (x.op=6)=false:=Aj (by omega)
  have d7:dec (x.op=7)=true:=Aw (by omega)
  have d8:dec (x.op=8)=false:=Aj (by omega)
  have d9:dec (x.op=9)=false:=Aj (by omega)
  obtain ⟨p,q,hp⟩:=Fm.Fj hfo (by omega)
  have hp:x.parts=[p,q]:=by rw [hp]; rfl
  have hpl2:1<x.parts.length:=by rw [hp]; simp
  have hpl1:0<x.parts.length:=by omega
  have hpe:x.parts[0]=p:=by simp [hp]
  have hqe:x.parts[1]=q:=by simp [hp]
  have hgp:=get_at Fm.d hpl1
  have hgq:=get_at Fm.d hpl2
  rw [Fm.d_eq,hpe] at hgp
  rw [Fm.d_eq,hqe] at hgq
  rw [Fm.GO (by omega) hp] at hb
  cases hv1:p.tr m e with
  | none=>rw [hv1] at hb; cases hb
  | some u =>
   cases hv2:q.tr m e with
   | none=>rw [hv1,hv2] at hb; cases hb
   | some v =>
    rw [hv1,hv2] at hb
    have hb:some (conn x.op u v)=some b:=hb
    obtain rfl:=zU hb
    have hc1:=ih p (by rw [hp]; simp) e he hf u hv1
    have hc2:=ih q (by rw [hp]; simp) e he hf v hv2
    unfold conn
    rw [d5,d6]
    cases u
    ·refine Al A4 Ah (of_decide_eq_true rfl) ?_
     simp (disch:=omega) only [A1,go_sem,d1,d2,d3,d4,d5,d6,d7,d8,d9,hgp,hgq,hc1,hc2,Ah]
     repeat ((first | (refine At ?_ ?_; (focus (simp (disch:=omega) only [go_sem,d1,d2,d3,d4,d5,d6,d7,d8,d9,hgp,hgq,hc1,hc2,Ah]; done))) | (refine Au ?_ ?_; (focus (simp (disch:=omega) only [go_sem,d1,d2,d3,d4,d5,d6,d7,d8,d9,hgp,hgq,hc1,hc2,Ah]; done)))); (try simp (disch:=omega) only [go_sem,d1,d2,d3,d4,d5,d6,d7,d8,d9,hgp,hgq,hc1,hc2,Ah]))
     try rfl
    ·refine Al A4 Ah (of_decide_eq_true rfl) ?_
     simp (disch:=omega) only [A1,go_sem,d1,d2,d3,d4,d5,d6,d7,d8,d9,hgp,hgq,hc1,hc2,Ah]
     repeat ((first | (refine At ?_ ?_; (focus (simp (disch:=omega) only [go_sem,d1,d2,d3,d4,d5,d6,d7,d8,d9,hgp,hgq,hc1,hc2,Ah]; done))) | (refine Au ?_ ?_; (focus (simp (disch:=omega) only [go_sem,d1,d2,d3,d4,d5,d6,d7,d8,d9,hgp,hgq,hc1,hc2,Ah]; done)))); (try simp (disch:=omega) only [go_sem,d1,d2,d3,d4,d5,d6,d7,d8,d9,hgp,hgq,hc1,hc2,Ah]))
     try rfl
 ·
  have d1:dec (x.op=1)=false:=Aj (by omega)
  have d2:dec (x.op=2)=false:=Aj (by omega)
  have d3:dec (x.op=3)=false:=Aj (by omega)
  have d4:dec (x.op=4)=false:=Aj (by omega)
  have d5:dec (x.op=5)=false:=Aj (by omega)
  have d6:dec (x.op=6)=false:=Aj (by omega)
  have d7:dec (x.op=7)=false:=Aj (by omega)
  have d8:dec (x.op=8)=true:=Aw (by omega)
  have d9:dec (x.op=9)=false:=Aj (by omega)
  obtain ⟨p,hp⟩:=Fm.KF hfo (by omega)
  have hp:x.parts=[p]:=by rw [hp]; rfl
  have hpl1:0<x.parts.length:=by rw [hp]; simp
  have hpe:x.parts[0]=p:=by simp [hp]
  have hgp:=get_at Fm.d hpl1
  rw [Fm.d_eq,hpe] at hgp
  have hpm:p∈x.parts:=by rw [hp]; simp
  have hpf:=Fm.C1 hx hpm
  have hpn:=Fm.nodes_mem hpm
  have hvn:=Fm.Uk p hpf
  have hfr:=X7 p hpf (by omega) (by omega)
  have hfl:=E9 (p.fv []) []
  have hfv:=Fm.Ix p []
  have hcn:=FX p.free x.var (by unfold Fm.free; rw [zX] at hfl; omega)
  rw [Fm.RS (by omega) hp] at hb
  cases hov:Db (fun k=>p.tr m (C4 e x.var k)) m.size.toNat with
  | none=>rw [hov] at hb; cases hb
  | some as_ =>
   obtain ⟨a,s⟩:=as_
   rw [hov] at hb
   have hb:some (bif dec (x.op=8) then a else s)=some b:=hb
   obtain rfl:=zU hb
   have hat:=fun k hk=>Ou hov k hk
   have htf:(true == false)=false:=rfl
   have hft:(false == true)=false:=rfl
   rw [d8]
   simp only [cond_true,cond_false]
   refine Al A4 Ah (of_decide_eq_true rfl) ?_
   simp (disch:=omega) only [A1,go_sem,d1,d2,d3,d4,d5,d6,d7,d8,d9]
   repeat ((first | (refine At ?_ ?_; (focus (simp (disch:=omega) only [go_sem,d1,d2,d3,d4,d5,d6,d7,d8,d9]; done))) | (refine Au ?_ ?_; (focus (simp (disch:=omega) only [go_sem,d1,d2,d3,d4,d5,d6,d7,d8,d9]; done)))); (try simp (disch:=omega) only [go_sem,d1,d2,d3,d4,d5,d6,d7,d8,d9]))
   refine go_loop (α:=Int) (fun i=>⟨slots 129 0 [(2,.mp true (Dy e)),(3,.ptr 0 0),(4,.ptr 1 0),(94,.int .i64 m.size),(95,.int .i64 i)],[.box 26 [.int .i64 m.size,.arr (m.tables.map Tl.d)],.box 33 [.int .i64 x.op,.str x.atom.name,.arr (x.atom.args.map Tm.d),.str x.var,.arr (x.parts.map Fm.d)]]⟩) (fun i=>∃ k:Nat,i=k∧k≤m.size.toNat∧∀ j:Nat,j<k→p.tr m (C4 e x.var j)=some true) (fun i=>m.size.toNat-i.toNat) 0 ⟨0,rfl,zP _,fun j hj=>by omega⟩ (by simp (disch:=omega) only [go_sem,Ab]) ?_
   rintro i ⟨k,hi,hk,hR⟩
   rcases Int.lt_or_le i m.size with hlt | hge
   ·have hwi:=T0 e hf x.var i
    obtain ⟨v,hv,v0,v1⟩:=hat k (by omega)
    have hi':p.tr m (C4 e x.var i)=some v:=by rw [hi]; exact hv
    have hc:=ih p hpm _ (JE he (by omega) (by omega) _) (hf.put _ _) v hi'
    cases v with
    | false =>
     have hfin:=v0 rfl
     rw [hfin]
     simp (disch:=omega) only [go_sem,Ab,d1,d2,d3,d4,d5,d6,d7,d8,d9,htf,hft,hgp,hwi,hc,hfr,hcn,DB,Ay,Bh,Ah]
    | true =>
     cases hm2:dec (x.var∈p.free) with
     | true =>
      rw [hm2] at hcn
      simp (disch:=omega) only [go_sem,Ab,d1,d2,d3,d4,d5,d6,d7,d8,d9,htf,hft,hgp,hwi,hc,hfr,hcn,DB,Ay,Bh,Ah]
      refine ⟨i+1,⟨k+1,by omega,by omega,fun j hj=>?_⟩,by omega,by first | trivial | rfl⟩
      rcases zM j k with h | h
      ·exact hR j h
      ·obtain rfl:j=k:=by omega
       exact hv
     | false =>
      rw [hm2] at hcn
      have hnf:¬ x.var∈p.fv []:=fun h=>(EU.1 hm2) ((Fm.RQ p _).2 h)
      have hall:=HY (p:=fun k=>p.tr m (C4 e x.var k)) (b:=true) (n:=m.size.toNat) (fun j _=>by rw [Fm.Uo hpf hnf e j k]; exact hv) (by omega)
      rw [hall] at hov
      simp only [z8,yI] at hov
      obtain ⟨rfl,rfl⟩:=hov
      simp (disch:=omega) only [go_sem,Ab,d1,d2,d3,d4,d5,d6,d7,d8,d9,htf,hft,hgp,hwi,hc,hfr,hcn,DB,Ay,Bh,Ah]
   ·have hall:=HY (p:=fun k=>p.tr m (C4 e x.var k)) (b:=true) (n:=m.size.toNat) (fun j hj=>hR j (by omega)) (by omega)
    rw [hall] at hov
    simp only [z8,yI] at hov
    obtain ⟨rfl,rfl⟩:=hov
    simp (disch:=omega) only [go_sem,Ab,d1,d2,d3,d4,d5,d6,d7,d8,d9]
 ·
  have d1:dec (x.op=1)=false:=Aj (by omega)
  have d2:dec (x.op=2)=false:=Aj (by omega)
  have d3:dec (x.op=3)=false:=Aj (by omega)
  have d4:dec (x.op=4)=false:=Aj (by omega)
  have d5:dec (x.op=5)=false:=Aj (by omega)
  have d6:dec (x.op=6)=false:=Aj (by omega)
  have d7:dec (x.op=7)=false:=Aj (by omega)
  have d8:dec (x.op=8)=false:=Aj (by omega)
  have d9:dec (x.op=9)=true:=Aw (by omega)
  obtain ⟨p,hp⟩:=Fm.KF hfo (by omega)
  have hp:x.parts=[p]:=by rw [hp]; rfl
  have hpl1:0<x.parts.length:=by rw [hp]; simp
  have hpe:x.parts[0]=p:=by simp [hp]
  have hgp:=get_at Fm.d hpl1
  rw [Fm.d_eq,hpe] at hgp
  have hpm:p∈x.parts:=by rw [hp]; simp
  have hpf:=Fm.C1 hx hpm
  have hpn:=Fm.nodes_mem hpm
  have hvn:=Fm.Uk p hpf
  have hfr:=X7 p hpf (by omega) (by omega)
  have hfl:=E9 (p.fv []) []
  have hfv:=Fm.Ix p []
  have hcn:=FX p.free x.var (by unfold Fm.free; rw [zX] at hfl; omega)
  rw [Fm.RS (by omega) hp] at hb
  cases hov:Db (fun k=>p.tr m (C4 e x.var k)) m.size.toNat with
  | none=>rw [hov] at hb; cases hb
  | some as_ =>
   obtain ⟨a,s⟩:=as_
   rw [hov] at hb
   have hb:some (bif dec (x.op=8) then a else s)=some b:=hb
   obtain rfl:=zU hb
   have hat:=fun k hk=>Ou hov k hk
   have htf:(true == false)=false:=rfl
   have hft:(false == true)=false:=rfl
   rw [d8]
   simp only [cond_true,cond_false]
   refine Al A4 Ah (of_decide_eq_true rfl) ?_
   simp (disch:=omega) only [A1,go_sem,d1,d2,d3,d4,d5,d6,d7,d8,d9]
   repeat ((first | (refine At ?_ ?_; (focus (simp (disch:=omega) only [go_sem,d1,d2,d3,d4,d5,d6,d7,d8,d9]; done))) | (refine Au ?_ ?_; (focus (simp (disch:=omega) only [go_sem,d1,d2,d3,d4,d5,d6,d7,d8,d9]; done)))); (try simp (disch:=omega) only [go_sem,d1,d2,d3,d4,d5,d6,d7,d8,d9]))
   refine go_loop (α:=Int) (fun i=>⟨slots 129 0 [(2,.mp true (Dy e)),(3,.ptr 0 0),(4,.ptr 1 0),(94,.int .i64 m.size),(95,.int .i64 i)],[.box 26 [.int .i64 m.size,.arr (m.tables.map Tl.d)],.box 33 [.int .i64 x.op,.str x.atom.name,.arr (x.atom.args.map Tm.d),.str x.var,.arr (x.parts.map Fm.d)]]⟩) (fun i=>∃ k:Nat,i=k∧k≤m.size.toNat∧∀ j:Nat,j<k→p.tr m (C4 e x.var j)=some false) (fun i=>m.size.toNat-i.toNat) 0 ⟨0,rfl,zP _,fun j hj=>by omega⟩ (by simp (disch:=omega) only [go_sem,Ab]) ?_
   rintro i ⟨k,hi,hk,hR⟩
   rcases Int.lt_or_le i m.size with hlt | hge
   ·have hwi:=T0 e hf x.var i
    obtain ⟨v,hv,v0,v1⟩:=hat k (by omega)
    have hi':p.tr m (C4 e x.var i)=some v:=by rw [hi]; exact hv
    have hc:=ih p hpm _ (JE he (by omega) (by omega) _) (hf.put _ _) v hi'
    cases v with
    | true =>
     have hfin:=v1 rfl
     rw [hfin]
     simp (disch:=omega) only [go_sem,Ab,d1,d2,d3,d4,d5,d6,d7,d8,d9,htf,hft,hgp,hwi,hc,hfr,hcn,DB,Ay,Bh,Ah]
    | false =>
     cases hm2:dec (x.var∈p.free) with
     | true =>
      rw [hm2] at hcn
      simp (disch:=omega) only [go_sem,Ab,d1,d2,d3,d4,d5,d6,d7,d8,d9,htf,hft,hgp,hwi,hc,hfr,hcn,DB,Ay,Bh,Ah]
      refine ⟨i+1,⟨k+1,by omega,by omega,fun j hj=>?_⟩,by omega,by first | trivial | rfl⟩
      rcases zM j k with h | h
      ·exact hR j h
      ·obtain rfl:j=k:=by omega
       exact hv
     | false =>
      rw [hm2] at hcn
      have hnf:¬ x.var∈p.fv []:=fun h=>(EU.1 hm2) ((Fm.RQ p _).2 h)
      have hall:=HY (p:=fun k=>p.tr m (C4 e x.var k)) (b:=false) (n:=m.size.toNat) (fun j _=>by rw [Fm.Uo hpf hnf e j k]; exact hv) (by omega)
      rw [hall] at hov
      simp only [z8,yI] at hov
      obtain ⟨rfl,rfl⟩:=hov
      simp (disch:=omega) only [go_sem,Ab,d1,d2,d3,d4,d5,d6,d7,d8,d9,htf,hft,hgp,hwi,hc,hfr,hcn,DB,Ay,Bh,Ah]
   ·have hall:=HY (p:=fun k=>p.tr m (C4 e x.var k)) (b:=false) (n:=m.size.toNat) (fun j hj=>hR j (by omega)) (by omega)
    rw [hall] at hov
    simp only [z8,yI] at hov
    obtain ⟨rfl,rfl⟩:=hov
    simp (disch:=omega) only [go_sem,Ab,d1,d2,d3,d4,d5,d6,d7,d8,d9]
theorem Uw (m:Ip) (hm:m.ok=true) (ht:m.tame) (x:Fm) (hx:x.forms=true) (hn:x.nodes≤30000) (e:Env) (he:InE m.size e) (hf:FinE e):HoC m e x :=
 holds_of m hm ht x hx hn e he hf fun y hy e he hf=>Uw m hm ht y (Fm.C1 hx hy) (by have:=Fm.nodes_mem hy; have:=Fm.nodes_eq x; omega) e he hf
termination_by SizeOf.sizeOf x
decreasing_by exact Fm.lt_of_mem hy
def Ju:SC:=(.seq (.reg [⟨some 6,none,.mv (.c .nil)⟩]) (.seq (.reg [⟨(some 9),none,(.mkrow 76 2 [(.str ⟨#[]⟩),(.int .i64 0)] 0 [])⟩,⟨some 7,none,.mv (.t 9)⟩]) (.seq (.reg [⟨some 8,none,.mv (.c (.int .i64 0))⟩]) (.seq (.block 0 (.loop [1,1,1,0,0,0,0,1,1,0,0,0,0,0,0,0,0,0,0,0,0,0,0,0,0,0,0,0,0,0,0,0,0,0,0,0,0,0,0,0,0,0,0,0,0,0,0,0,0,0,0,0,0,0,0,0,0,0,0] (.seq (.seq (.reg [⟨some 10,none,.mv (.t 8)⟩,⟨some 11,none,.mv (.t 0)⟩,⟨some 12,none,.len false (.t 11)⟩,⟨some 13,none,.bin .lss false (.t 10) (.t 12)⟩,⟨some 14,none,.mv (.t 13)⟩,⟨(some 15),(some (14,true)),(.mv (.t 0))⟩,⟨(some 16),(some (14,true)),(.mv (.t 8))⟩,⟨(some 17),(some (14,true)),(.iaddr 2 (.t 15) (.t 16))⟩,⟨(some 18),(some (14,true)),(.faddr 0 (.t 17))⟩,⟨(some 19),(some (14,true)),(.load false 1 (.t 18))⟩,⟨(some 20),(some (14,true)),(.mv (.t 1))⟩,⟨(some 21),(some (14,true)),(.bin .lss false (.t 19) (.t 20))⟩,⟨some 22,none,.pick (.t 14) (.t 21) (.c (.bool false))⟩]) (.cond (.t 22) .skip (.exit 0))) (.block 1 (.seq (.reg [⟨some 23,none,.mv (.t 7)⟩,⟨some 24,none,.mv (.t 0)⟩,⟨some 25,none,.mv (.t 8)⟩,⟨some 26,none,.iaddr 2 (.t 24) (.t 25)⟩,⟨some 27,none,.load true 2 (.t 26)⟩,⟨(some 28),none,(.mkrow 76 2 [(.str ⟨#[]⟩),(.int .i64 0)] 1 [(0,(.t 27))])⟩,⟨(some 29),none,(.append 76 2 24 [(.str ⟨#[]⟩),(.int .i64 0)] (.t 23) (.t 28))⟩,⟨some 7,none,.mv (.t 29)⟩]) (.reg [⟨some 30,none,.mv (.t 8)⟩,⟨some 31,none,.bin .add false (.t 30) (.c (.int .i64 1))⟩,⟨some 8,none,.mv (.t 31)⟩])))))) (.seq (.reg [⟨some 32,none,.mv (.t 7)⟩,⟨some 33,none,.mv (.t 1)⟩,⟨some 34,none,.mv (.t 2)⟩,⟨(some 35),none,(.build [(.str ⟨#[]⟩),(.int .i64 0)] [(0,(1,(.t 33))),(1,(1,(.t 34)))])⟩,⟨(some 36),none,(.mkrow 76 2 [(.str ⟨#[]⟩),(.int .i64 0)] 1 [(0,(.t 35))])⟩,⟨(some 37),none,(.append 76 2 24 [(.str ⟨#[]⟩),(.int .i64 0)] (.t 32) (.t 36))⟩,⟨some 7,none,.mv (.t 37)⟩]) (.seq (.block 2 (.loop [1,1,0,0,0,0,0,1,1,0,0,0,0,0,0,0,0,0,0,0,0,0,0,0,0,0,0,0,0,0,0,0,0,0,0,0,0,0,0,0,0,0,0,0,0,0,0,0,0,0,0,0,0,0,0,0,0,0,0] (.seq (.seq (.reg [⟨some 38,none,.mv (.t 8)⟩,⟨some 39,none,.mv (.t 0)⟩,⟨some 40,none,.len false (.t 39)⟩,⟨some 41,none,.bin .lss false (.t 38) (.t 40)⟩]) (.cond (.t 41) .skip (.exit 2))) (.seq (.block 3 (.seq (.reg [⟨some 44,none,.mv (.t 0)⟩,⟨some 45,none,.mv (.t 8)⟩,⟨some 46,none,.iaddr 2 (.t 44) (.t 45)⟩,⟨some 47,none,.faddr 0 (.t 46)⟩,⟨some 48,none,.load false 1 (.t 47)⟩,⟨some 49,none,.mv (.t 1)⟩,⟨some 50,none,.bin .neq false (.t 48) (.t 49)⟩]) (.cond (.t 50) (.reg [⟨some 51,none,.mv (.t 7)⟩,⟨some 52,none,.mv (.t 0)⟩,⟨some 53,none,.mv (.t 8)⟩,⟨some 54,none,.iaddr 2 (.t 52) (.t 53)⟩,⟨some 55,none,.load true 2 (.t 54)⟩,⟨(some 56),none,(.mkrow 76 2 [(.str ⟨#[]⟩),(.int .i64 0)] 1 [(0,(.t 55))])⟩,⟨(some 57),none,(.append 76 2 24 [(.str ⟨#[]⟩),(.int .i64 0)] (.t 51) (.t 56))⟩,⟨some 7,none,.mv (.t 57)⟩]) .skip))) (.reg [⟨some 42,none,.mv (.t 8)⟩,⟨some 43,none,.bin .add false (.t 42) (.c (.int .i64 1))⟩,⟨some 8,none,.mv (.t 43)⟩]))))) (.seq (.reg [⟨some 58,none,.mv (.t 7)⟩,⟨some 6,none,.mv (.t 58)⟩]) .ret)))))))
theorem O1:Aq Tryz.prog 99=some ⟨59,Ju,[(.tmp 6)]⟩:=by kernel_rfl
theorem GS:modes 99=⟨[],.frz,none,false⟩:=by unfold modes; rfl
def AB:SC:=(.seq (.reg [⟨some 3,none,.boxv 26 2 (.t 0)⟩,⟨some 5,none,.boxv 33 5 (.t 2)⟩,⟨some 6,none,.mv (.c (.bool false))⟩,⟨some 7,none,.mv (.c (.bool false))⟩]) (.seq (.seq (.reg [⟨some 14,none,.faddr 0 (.t 5)⟩,⟨some 15,none,.load false 1 (.t 14)⟩]) (.block 0 (.seq (.seq (.reg [⟨some 17,none,.bin .eql false (.t 15) (.c (.int .i64 1))⟩,⟨some 16,none,.mv (.t 17)⟩]) (.cond (.t 16) .skip (.reg [⟨some 18,none,.bin .eql false (.t 15) (.c (.int .i64 2))⟩,⟨some 16,none,.mv (.t 18)⟩]))) (.cond (.t 16) (.seq (.reg [⟨some 19,none,.faddr 0 (.t 5)⟩,⟨some 20,none,.load false 1 (.t 19)⟩,⟨some 21,none,.bin .eql false (.t 20) (.c (.int .i64 1))⟩,⟨some 6,none,.mv (.t 21)⟩,⟨some 7,none,.mv (.c (.bool true))⟩]) .ret) (.seq (.reg [⟨some 23,none,.bin .eql false (.t 15) (.c (.int .i64 3))⟩,⟨some 22,none,.mv (.t 23)⟩]) (.cond (.t 22) (.seq (.reg [⟨some 25,none,.load true 2 (.t 3)⟩,⟨some 26,none,.mv (.t 1)⟩,⟨some 27,none,.faddr 1 (.t 5)⟩,⟨some 28,none,.load true 2 (.t 27)⟩,⟨some 29,none,.call 65 [(.t 25),(.t 26),(.t 28),(.c (.bool true))]⟩,⟨some 24,none,.mv (.t 29)⟩,⟨some 30,none,.ext (.t 24) 0⟩,⟨some 31,none,.ext (.t 24) 1⟩,⟨some 8,none,.mv (.t 30)⟩,⟨some 9,none,.mv (.t 31)⟩]) (.seq (.reg [⟨some 32,none,.mv (.t 9)⟩,⟨some 33,none,.mv (.t 32)⟩,⟨(some 34),(some (33,true)),(.mv (.t 8))⟩,⟨(some 35),(some (33,true)),(.bin .eql false (.t 34) (.c (.int .i64 1)))⟩,⟨some 36,none,.pick (.t 33) (.t 35) (.c (.bool false))⟩,⟨some 37,none,.mv (.t 9)⟩,⟨some 6,none,.mv (.t 36)⟩,⟨some 7,none,.mv (.t 37)⟩]) .ret)) (.seq (.seq (.reg [⟨some 39,none,.bin .eql false (.t 15) (.c (.int .i64 8))⟩,⟨some 38,none,.mv (.t 39)⟩]) (.cond (.t 38) .skip (.reg [⟨some 40,none,.bin .eql false (.t 15) (.c (.int .i64 9))⟩,⟨some 38,none,.mv (.t 40)⟩]))) (.cond (.t 38) (.seq (.reg [⟨some 41,none,.load true 2 (.t 3)⟩,⟨some 42,none,.mv (.t 1)⟩,⟨some 43,none,.load true 5 (.t 5)⟩,⟨some 44,none,.call 66 [(.t 41),(.t 42),(.t 43)]⟩,⟨some 45,none,.ext (.t 44) 0⟩,⟨some 46,none,.ext (.t 44) 1⟩,⟨some 6,none,.mv (.t 45)⟩,⟨some 7,none,.mv (.t 46)⟩]) .ret) .skip)))))))) (.seq (.dreg [[],[],[],[2],[3,2],[4,3,2],[0,1,5,4,3,2],[6,0,1,5,4,3,2],[7,6,0,1,5,4,3,2],[7,6,0,1,5,4,3,2],[8,7,6,0,1,5,4,3,2],[9,7,6,0,1,5,4,3,2,10,8]] [⟨some 48,none,.load true 2 (.t 3)⟩,⟨some 49,none,.mv (.t 1)⟩,⟨some 50,none,.faddr 4 (.t 5)⟩,⟨some 51,none,.load false 1 (.t 50)⟩,⟨some 52,none,.iaddr 5 (.t 51) (.c (.int .i64 0))⟩,⟨some 53,none,.load true 5 (.t 52)⟩,⟨some 54,none,.call 27 [(.t 48),(.t 49),(.t 53)]⟩,⟨some 47,none,.mv (.t 54)⟩,⟨some 55,none,.ext (.t 47) 0⟩,⟨some 56,none,.ext (.t 47) 1⟩,⟨some 10,none,.mv (.t 55)⟩,⟨some 11,none,.mv (.t 56)⟩]) (.seq (.seq (.reg [⟨some 57,none,.mv (.t 11)⟩,⟨some 58,none,.un .not (.t 57)⟩]) (.cond (.t 58) (.seq (.reg [⟨some 6,none,.mv (.c (.bool false))⟩,⟨some 7,none,.mv (.c (.bool false))⟩]) .ret) .skip)) (.seq (.seq (.reg [⟨some 59,none,.faddr 0 (.t 5)⟩,⟨some 60,none,.load false 1 (.t 59)⟩,⟨some 61,none,.bin .eql false (.t 60) (.c (.int .i64 4))⟩]) (.cond (.t 61) (.seq (.reg [⟨some 62,none,.mv (.t 10)⟩,⟨some 63,none,.un .not (.t 62)⟩,⟨some 6,none,.mv (.t 63)⟩,⟨some 7,none,.mv (.c (.bool true))⟩]) .ret) .skip)) (.seq (.dreg [[],[],[],[2],[3,2],[4,3,2],[0,1,5,4,3,2],[6,0,1,5,4,3,2],[7,6,0,1,5,4,3,2],[7,6,0,1,5,4,3,2],[8,7,6,0,1,5,4,3,2],[9,7,6,0,1,5,4,3,2,10,8]] [⟨some 65,none,.load true 2 (.t 3)⟩,⟨some 66,none,.mv (.t 1)⟩,⟨some 67,none,.faddr 4 (.t 5)⟩,⟨some 68,none,.load false 1 (.t 67)⟩,⟨some 69,none,.iaddr 5 (.t 68) (.c (.int .i64 1))⟩,⟨some 70,none,.load true 5 (.t 69)⟩,⟨some 71,none,.call 27 [(.t 65),(.t 66),(.t 70)]⟩,⟨some 64,none,.mv (.t 71)⟩,⟨some 72,none,.ext (.t 64) 0⟩,⟨some 73,none,.ext (.t 64) 1⟩,⟨some 12,none,.mv (.t 72)⟩,⟨some 13,none,.mv (.t 73)⟩]) (.seq (.seq (.reg [⟨some 74,none,.mv (.t 13)⟩,⟨some 75,none,.un .not (.t 74)⟩]) (.cond (.t 75) (.seq (.reg [⟨some 6,none,.mv (.c (.bool false))⟩,⟨some 7,none,.mv (.c (.bool false))⟩]) .ret) .skip)) (.seq (.seq (.reg [⟨some 76,none,.faddr 0 (.t 5)⟩,⟨some 77,none,.load false 1 (.t 76)⟩]) (.block 1 (.seq (.reg [⟨some 79,none,.bin .eql false (.t 77) (.c (.int .i64 5))⟩,⟨some 78,none,.mv (.t 79)⟩]) (.cond (.t 78) (.seq (.reg [⟨some 80,none,.mv (.t 10)⟩,⟨some 81,none,.mv (.t 80)⟩,⟨(some 82),(some (81,true)),(.mv (.t 12))⟩,⟨some 83,none,.pick (.t 81) (.t 82) (.c (.bool false))⟩,⟨some 6,none,.mv (.t 83)⟩,⟨some 7,none,.mv (.c (.bool true))⟩]) .ret) (.seq (.reg [⟨some 85,none,.bin .eql false (.t 77) (.c (.int .i64 6))⟩,⟨some 84,none,.mv (.t 85)⟩]) (.cond (.t 84) (.seq (.reg [⟨some 86,none,.mv (.t 10)⟩,⟨some 87,none,.mv (.t 86)⟩,⟨(some 88),(some (87,false)),(.mv (.t 12))⟩,⟨some 89,none,.pick (.t 87) (.c (.bool true)) (.t 88)⟩,⟨some 6,none,.mv (.t 89)⟩,⟨some 7,none,.mv (.c (.bool true))⟩]) .ret) .skip)))))) (.seq (.reg [⟨some 90,none,.mv (.t 10)⟩,⟨some 91,none,.un .not (.t 90)⟩,⟨some 92,none,.mv (.t 91)⟩,⟨(some 93),(some (92,false)),(.mv (.t 12))⟩,⟨some 94,none,.pick (.t 92) (.c (.bool true)) (.t 93)⟩,⟨some 6,none,.mv (.t 94)⟩,⟨some 7,none,.mv (.c (.bool true))⟩]) .ret)))))))))
theorem AF:Aq Tryz.prog 27=some ⟨95,AB,[(.tmp 6),(.tmp 7)]⟩:=by kernel_rfl
theorem Ak:modes 27=⟨[],.asis,none,false⟩:=by unfold modes; rfl
def FZ:SC:=(.seq (.reg [⟨some 3,none,.boxv 26 2 (.t 0)⟩,⟨some 5,none,.boxv 33 5 (.t 2)⟩,⟨some 6,none,.mv (.c (.bool false))⟩,⟨some 7,none,.mv (.c (.bool false))⟩]) (.seq (.reg [⟨some 8,none,.mv (.c (.bool true))⟩,⟨some 9,none,.mv (.c (.bool false))⟩]) (.seq (.seq (.reg [⟨some 10,none,.mv (.c (.int .i64 0))⟩]) (.block 0 (.loop [0,1,0,1,0,1,0,0,1,1,1,0,0,0,0,0,0,0,0,0,0,0,0,0,0,0,0,0,0,0,0,0,0,0,0,0,0,0,0,0,0,0,0,0,0,0,0,0] (.seq (.seq (.reg [⟨some 13,none,.mv (.t 10)⟩,⟨some 14,none,.faddr 0 (.t 3)⟩,⟨some 15,none,.load false 1 (.t 14)⟩,⟨some 16,none,.bin .lss false (.t 13) (.t 15)⟩]) (.cond (.t 16) .skip (.exit 0))) (.seq (.block 1 (.seq (.dreg [[],[],[],[2],[],[1,3,2,4],[],[6],[7,6],[8,7,6],[0,5,1,3,2,4,9,8,7,6],[10,0,5,1,3,2,4,9,8,7,6],[11,10,0,5,1,3,2,4,9,8,7,6],[11,10,0,5,1,3,2,4,9,8,7,6],[12,11,10,0,5,1,3,2,4,9,8,7,6],[13,11,10,0,5,1,3,2,4,9,8,7,6,14,12]] [⟨some 20,none,.load true 2 (.t 3)⟩,⟨some 21,none,.mv (.t 1)⟩,⟨some 22,none,.faddr 3 (.t 5)⟩,⟨some 23,none,.load false 1 (.t 22)⟩,⟨some 24,none,.mv (.t 10)⟩,⟨some 25,none,.call 99 [(.t 21),(.t 23),(.t 24)]⟩,⟨some 26,none,.faddr 4 (.t 5)⟩,⟨some 27,none,.load false 1 (.t 26)⟩,⟨some 28,none,.iaddr 5 (.t 27) (.c (.int .i64 0))⟩,⟨some 29,none,.load true 5 (.t 28)⟩,⟨some 30,none,.call 27 [(.t 20),(.t 25),(.t 29)]⟩,⟨some 19,none,.mv (.t 30)⟩,⟨some 31,none,.ext (.t 19) 0⟩,⟨some 32,none,.ext (.t 19) 1⟩,⟨some 11,none,.mv (.t 31)⟩,⟨some 12,none,.mv (.t 32)⟩]) (.seq (.seq (.reg [⟨some 33,none,.mv (.t 12)⟩,⟨some 34,none,.un .not (.t 33)⟩]) (.cond (.t 34) (.seq (.reg [⟨some 6,none,.mv (.c (.bool false))⟩,⟨some 7,none,.mv (.c (.bool false))⟩]) .ret) .skip)) (.seq (.reg [⟨some 35,none,.mv (.t 8)⟩,⟨some 36,none,.mv (.t 35)⟩,⟨(some 37),(some (36,true)),(.mv (.t 11))⟩,⟨some 38,none,.pick (.t 36) (.t 37) (.c (.bool false))⟩,⟨some 8,none,.mv (.t 38)⟩]) (.reg [⟨some 39,none,.mv (.t 9)⟩,⟨some 40,none,.mv (.t 39)⟩,⟨(some 41),(some (40,false)),(.mv (.t 11))⟩,⟨some 42,none,.pick (.t 40) (.c (.bool true)) (.t 41)⟩,⟨some 9,none,.mv (.t 42)⟩]))))) (.reg [⟨some 17,none,.mv (.t 10)⟩,⟨some 18,none,.bin .add false (.t 17) (.c (.int .i64 1))⟩,⟨some 10,none,.mv (.t 18)⟩])))))) (.seq (.seq (.reg [⟨some 43,none,.faddr 0 (.t 5)⟩,⟨some 44,none,.load false 1 (.t 43)⟩,⟨some 45,none,.bin .eql false (.t 44) (.c (.int .i64 8))⟩]) (.cond (.t 45) (.seq (.reg [⟨some 46,none,.mv (.t 8)⟩,⟨some 6,none,.mv (.t 46)⟩,⟨some 7,none,.mv (.c (.bool true))⟩]) .ret) .skip)) (.seq (.reg [⟨some 47,none,.mv (.t 9)⟩,⟨some 6,none,.mv (.t 47)⟩,⟨some 7,none,.mv (.c (.bool true))⟩]) .ret)))))
theorem Jv:Aq Tryz.prog 66=some ⟨48,FZ,[(.tmp 6),(.tmp 7)]⟩:=by kernel_rfl
theorem Bz:modes 66=⟨[],.asis,none,false⟩:=by unfold modes; rfl
noncomputable def Fv:List Ag→ByteArray→Int→List Ag
 | [],n,z=>[⟨n,z⟩]
 | x :: r,n,z=>bif strLt x.var n then x :: Fv r n z else ⟨n,z⟩ :: (x :: r).filter fun y=>!dec (y.var=n)
theorem Mh (n:ByteArray) (z:Int):∀ a:List Ag,(Fv a n z).length≤a.length+1
 | []=>by rw [Fv]; exact yQ _
 | x :: r=>by
  rw [Fv]
  cases strLt x.var n with
  | true=>have:=Mh n z r; simp only [cond_true,yJ]; omega
  | false=>have:=List.length_filter_le (fun y:Ag=>!dec (y.var=n)) (x :: r); simp only [cond_false,yJ] at *; omega
theorem O2 (n s:ByteArray) (h:s≠n):∀ a:List Ag,asg (a.filter fun y=>!dec (y.var=n)) s=asg a s
 | []=>rfl
 | x :: r=>by
  have ih:=O2 n s h r
  rw [yD,asg]
  by_cases hx:x.var=n
  ·have hs:¬ x.var=s:=fun e=>h (e.symm.trans hx)
   rw [Aw hx,Aj hs,cond_false]
   exact ih
  ·rw [Aj hx]
   simp only [yR,if_true]
   rw [asg,ih]
theorem L3 (n:ByteArray) (z:Int):∀ a:List Ag,asg (Fv a n z)=C4 (asg a) n z
 | []=>by
  funext s
  rw [Fv,asg,C4]
  have e:(n=s)=(s=n):=propext ⟨Eq.symm,Eq.symm⟩
  rw [e]
 | x :: r=>by
  have ih:=L3 n z r
  funext s
  rw [Fv]
  cases hx:strLt x.var n with
  | true =>
   rw [cond_true,asg,ih,C4,C4,asg]
   by_cases hs:s=n
   ·have hn:¬ x.var=s:=fun e=>Jg hx (e.trans hs)
    rw [Aw hs,Aj hn]; rfl
   ·rw [Aj hs]; rfl
  | false =>
   rw [cond_false,asg,C4]
   have e:(n=s)=(s=n):=propext ⟨Eq.symm,Eq.symm⟩
   simp only [e]
   by_cases hs:s=n
   ·rw [Aw hs]; rfl
   ·rw [Aj hs,cond_false,cond_false]
    exact O2 n s hs _
theorem VA (a:List Ag) (hl:a.length≤2097152) (n:ByteArray) (z:Int):E 99 [.arr (a.map Ag.d),.str n,.int .i64 z] []=some (.arr ((Fv a n z).map Ag.d),[]):=by
 refine Al O1 GS (of_decide_eq_true rfl) ?_
 simp (disch:=omega) only [Ju,go_sem,Ab]
 refine go_loop (α:=Int) (fun i=>⟨slots 59 0 [(0,.arr (a.map Ag.d)),(1,.str n),(2,.int .i64 z),(7,.ref 0),(8,.int .i64 i)],[.row 76 2 ((a.take i.toNat).map Ag.o)]⟩) (fun i=>∃ k:Nat,i=k∧k≤a.length∧Fv a n z=a.take k++Fv (a.drop k) n z) (fun i=>a.length-i.toNat) 0 ⟨0,rfl,zP _,by simp⟩ (by simp (disch:=omega) only [go_sem,Ab,yS]) ?_
 rintro i ⟨k,hi,hk,hR⟩
 have hni:i.toNat=k:=by omega
 have hni1:(i+1).toNat=k+1:=by omega
 have key:∀ rest,Fv a n z=a.take k++(⟨n,z⟩ :: rest)→rest=(a.drop k).filter (fun y=>!dec (y.var=n))→Fv a n z=(a.take k++[⟨n,z⟩])++(a.drop k).filter (fun y=>!dec (y.var=n)):=fun rest h1 h2=>by rw [h1,h2,yA]; rfl
 have hap:∀ l:List Ag,l.map Ag.o++[[OT.str n,OT.int z]]=(l++[(⟨n,z⟩:Ag)]).map Ag.o:=fun l=>by rw [zV]; rfl
 have hle:((a.take k).map Ag.o).length=k:=by rw [zR,yK]; omega
 rcases zM k a.length with hlt | hge
 ·have hg:=get_at Ag.d hlt
  rw [Ag.d_eq] at hg
  have hap2:(a.take k).map Ag.o++[[OT.str a[k].var,OT.int a[k].elem]]=(a.take (k+1)).map Ag.o:=by rw [yB hlt,zV]; rfl
  cases hs:strLt a[k].var n with
  | true =>
   rw [zG hlt,Fv,hs,cond_true] at hR
   simp (disch:=omega) only [go_sem,Ab,hni,hg,hs,hle,hap2]
   refine ⟨i+1,⟨k+1,by omega,hlt,?_⟩,by omega,?_⟩
   ·rw [hR,yB hlt,yA]; rfl
   ·simp (disch:=omega) only [go_sem,Ab,hni1]
  | false =>
   have hR0:=hR
   rw [zG hlt,Fv,hs,cond_false,← zG hlt] at hR0
   have hW:=key _ hR0 rfl
   simp (disch:=omega) only [go_sem,Ab,hni,hg,hs,hle,hap]
   refine go_loop (α:=Int × List Ag) (fun b=>⟨slots 59 0 [(0,.arr (a.map Ag.d)),(1,.str n),(7,.ref 0),(8,.int .i64 b.1)],[.row 76 2 (b.2.map Ag.o)]⟩) (fun b=>∃ j:Nat,b.1=j∧j≤a.length∧b.2.length≤j+1∧Fv a n z=b.2++(a.drop j).filter (fun y=>!dec (y.var=n))) (fun b=>a.length-b.1.toNat) (i,a.take k++[⟨n,z⟩]) ⟨k,hi,hk,by simp; omega,hW⟩ (by simp (disch:=omega) only [go_sem,Ab]) ?_
   rintro ⟨i2,dn⟩ ⟨j,hj,hjl,hdl,hD⟩
   dsimp only at hj hdl hD
   have hnj:i2.toNat=j:=by omega
   rcases zM j a.length with hlt2 | hge2
   ·have hg2:=get_at Ag.d hlt2
    rw [Ag.d_eq] at hg2
    rw [zG hlt2,yD] at hD
    have hap3:dn.map Ag.o++[[OT.str a[j].var,OT.int a[j].elem]]=(dn++[a[j]]).map Ag.o:=by rw [zV]; rfl
    cases hd:dec (a[j].var=n) with
    | true =>
     rw [hd] at hD
     simp only [Bool.not_true,yF,if_false] at hD
     simp (disch:=omega) only [go_sem,Ab,hnj,hg2,hd,hap3]
     refine ⟨(i2+1,dn),⟨j+1,by dsimp only; omega,hlt2,by dsimp only; omega,hD⟩,by dsimp only; omega,?_⟩
     first | trivial | rfl | (simp only [and_self])
    | false =>
     rw [hd] at hD
     simp only [yR,if_true] at hD
     simp (disch:=omega) only [go_sem,Ab,hnj,hg2,hd,hap3]
     refine ⟨(i2+1,dn++[a[j]]),⟨j+1,by dsimp only; omega,hlt2,by simp; omega,by rw [hD,yA]; rfl⟩,by dsimp only; omega,?_⟩
     first | trivial | rfl | (simp only [and_self])
   ·rw [zJ hge2,List.filter_nil,List.append_nil] at hD
    rw [hD]
    simp (disch:=omega) only [go_sem,Ab,hnj,Ag.erss,Ag.noss]
 ·have hR0:=hR
  rw [zJ hge,Fv] at hR0
  have hW:=key [] hR0 (by rw [zJ hge]; rfl)
  simp (disch:=omega) only [go_sem,Ab,hni,hle,hap]
  refine go_loop (α:=Int × List Ag) (fun b=>⟨slots 59 0 [(0,.arr (a.map Ag.d)),(1,.str n),(7,.ref 0),(8,.int .i64 b.1)],[.row 76 2 (b.2.map Ag.o)]⟩) (fun b=>∃ j:Nat,b.1=j∧j≤a.length∧b.2.length≤j+1∧Fv a n z=b.2++(a.drop j).filter (fun y=>!dec (y.var=n))) (fun b=>a.length-b.1.toNat) (i,a.take k++[⟨n,z⟩]) ⟨k,hi,hk,by simp; omega,hW⟩ (by simp (disch:=omega) only [go_sem,Ab]) ?_
  rintro ⟨i2,dn⟩ ⟨j,hj,hjl,hdl,hD⟩
  dsimp only at hj hdl hD
  have hnj:i2.toNat=j:=by omega
  rcases zM j a.length with hlt2 | hge2
  ·have hg2:=get_at Ag.d hlt2
   rw [Ag.d_eq] at hg2
   rw [zG hlt2,yD] at hD
   have hap3:dn.map Ag.o++[[OT.str a[j].var,OT.int a[j].elem]]=(dn++[a[j]]).map Ag.o:=by rw [zV]; rfl
   cases hd:dec (a[j].var=n) with
   | true =>
    rw [hd] at hD
    simp only [Bool.not_true,yF,if_false] at hD
    simp (disch:=omega) only [go_sem,Ab,hnj,hg2,hd,hap3]
    refine ⟨(i2+1,dn),⟨j+1,by dsimp only; omega,hlt2,by dsimp only; omega,hD⟩,by dsimp only; omega,?_⟩
    first | trivial | rfl | (simp only [and_self])
   | false =>
    rw [hd] at hD
    simp only [yR,if_true] at hD
    simp (disch:=omega) only [go_sem,Ab,hnj,hg2,hd,hap3]
    refine ⟨(i2+1,dn++[a[j]]),⟨j+1,by dsimp only; omega,hlt2,by simp; omega,by rw [hD,yA]; rfl⟩,by dsimp only; omega,?_⟩
    first | trivial | rfl | (simp only [and_self])
  ·rw [zJ hge2,List.filter_nil,List.append_nil] at hD
   rw [hD]
   simp (disch:=omega) only [go_sem,Ab,hnj,Ag.erss,Ag.noss]
theorem VB (m:Ip) (hm:m.ok=true) (ht:m.tame) (as_:List Ag) (hal:as_.length≤1099511627776) (he:InE m.size (asg as_)) (x:Tm) (hx:x.atom=true):E 65 [m.sv,.arr (as_.map Ag.d),x.sv,.bool true] []=some (Zk (x.tru m (asg as_)),[]):=by
 have hnn:=Tm.Iu hx
 have hnq:=Tm.nodes_eq x
 have hxl:x.args.length≤29:=by have:=Tm.length_le x.args; omega
 have ih:∀ y∈x.args,LvC m as_ y:=fun y hy=>Ox m hm ht.1 (fun t h=>ht.2 t h) as_ hal he y (by have:=Tm.nodes_mem hy; omega)
 have hml:=ht.1
 have hvl:=ht.2
 have hnv:Cc x.name=false:=by
  cases hv:Cc x.name with
  | false=>rfl
  | true =>
   have ha:=hx
   unfold Tm.atom at ha
   cases hq:x.eqn with
   | true=>exact absurd hv (by rw [Tm.Ub hq]; decide)
   | false =>
    rw [hq,if_neg (by simp),zZ] at ha
    rw [PC hv] at ha; cases ha.1
 have h1:=EY x.name
 rw [hnv] at h1
 obtain ⟨⟨s1,s3⟩,hT,_⟩:=Ip.Cx hm
 have hf:=PO m.tables hml x.name x.args.length
 refine Al Gg Bk (of_decide_eq_true rfl) ?_
 simp (disch:=omega) only [EH,go_sem,Ab,h1,An]
 refine go_loop (α:=Int × (Int)) (fun a=>⟨slots 108 0 [(1,.arr (as_.map Ag.d)),(3,.bool true),(4,.ptr 0 0),(6,.ptr 1 0),(11,.int .i64 (a.2)),(12,.int .i64 (a.1))],[.box 26 [.int .i64 m.size,.arr (m.tables.map Tl.d)],.box 30 [.str x.name,.arr (x.args.map Tm.d)]]⟩) (fun a=>∃ k:Nat,a.1=k∧k≤(x.args).length∧0≤(a.2)∧(a.2)<pw m.size k∧Tm.Cv m (asg as_) (x.args.drop k) (a.2)=Tm.Cv m (asg as_) x.args 0) (fun a=>(x.args).length-(a.1).toNat) (0,0) ⟨0,rfl,zP _,⟨Int.le_refl 0,by rw [pw]; omega,by rw [zT]⟩⟩ (by simp (disch:=omega) only [go_sem,Ab]) ?_
 rintro ⟨i,at_⟩ ⟨k,hi,hk,hR⟩
 dsimp only at hi hR
 have hni:i.toNat=k:=by omega
 have hni1:(i+1).toNat=k+1:=by omega
 rcases zM k (x.args).length with hlt | hge
 ·have hg:=get_at Tm.d hlt
  rw [Tm.d_eq] at hg
  obtain ⟨r0,r1,r2⟩:=hR
  have hc:=ih x.args[k] (zQ hlt)
  rw [zG hlt,Tm.Cv] at r2
  have hps:=Th s1 s3 (k:=k+1) (by omega)
  cases hv:x.args[k].val m (asg as_) with
  | none =>
   rw [hv] at r2
   unfold LvC at hc
   rw [hv] at hc
   have hrn:x.tru m (asg as_)=none:=by
    unfold Tm.tru
    rw [←r2]
    cases x.eqn with
    | true=>rfl
    | false =>
     simp only [yF,if_false]
     unfold CT
     split <;> first | rfl | (rename_i h; cases h)
   rw [hrn]
   simp (disch:=omega) only [go_sem,Ab,hni,hg,hc,zD,zB,zC,zA,Bk]
   try first | rfl | exact ⟨rfl,rfl⟩
  | some v =>
   rw [hv] at r2
   unfold LvC at hc
   rw [hv] at hc
   obtain ⟨v0,v1⟩:=Tm.H0 hm he _ v hv
   obtain ⟨q0,q1,q2,q3⟩:=at_next s1 r0 r1 v0 v1
   rw [pw] at hps
   simp (disch:=omega) only [go_sem,Ab,hni,hg,hc,zD,zB,zC,zA,Bk]
   refine ⟨(i+1,at_*m.size+v),⟨k+1,by dsimp only; omega,hlt,q0,(by rw [pw]; exact q1),r2⟩,by dsimp only; omega,?_⟩
   first | trivial | rfl | exact ⟨rfl,rfl⟩
 ·obtain rfl:k=x.args.length:=by omega
  obtain ⟨r0,r1,r2⟩:=hR
  rw [zJ hge,Tm.Cv] at r2
  have hps:=Th s1 s3 (k:=x.args.length) (by omega)
  have hdv0:0≤at_.tdiv m.size:=by rw [yG r0]; exact Int.ediv_nonneg r0 (by omega)
  have hdv1:at_.tdiv m.size≤at_:=by rw [yG r0]; exact Int.ediv_le_self _ r0
  cases hq:x.eqn with
  | true =>
   have hrn:x.tru m (asg as_)=some (bif dec (at_.tmod m.size=at_.tdiv m.size) then 1 else 0):=by unfold Tm.tru; rw [hq,if_pos rfl,← r2]
   rw [hrn]
   unfold Tm.eqn at hq
   cases hd:dec (at_.tmod m.size=at_.tdiv m.size) with
   | true =>
    simp (disch:=omega) only [go_sem,Ab,hni,hq,hd,zC,zA]
    try first | rfl | exact ⟨rfl,rfl⟩
   | false =>
    simp (disch:=omega) only [go_sem,Ab,hni,hq,hd,zC,zA]
    try first | rfl | exact ⟨rfl,rfl⟩
  | false =>
   have hrn0:x.tru m (asg as_)=CT m.tables x.name x.args.length true (some at_):=by unfold Tm.tru; rw [hq,if_neg (by simp),← r2]
   rw [hrn0]
   unfold Tm.eqn at hq
   have hTF:=KH (n:=x.name) (z:=x.args.length) (p:=true) (PM hT)
   rcases JH (fun t:Tl=>dec (t.name=x.name)&&dec (t.arity=(x.args.length:Int))) m.tables 0 with ⟨h2,h3⟩ | ⟨j,t,hj,h2,h3,h4⟩
   ·rw [h2] at hTF
    rw [h3] at hf
    have hrn:CT m.tables x.name x.args.length true (some at_)=none:=by unfold CT; rw [hTF]
    rw [hrn]
    simp (disch:=omega) only [go_sem,Ab,hni,hq,hf,CV]
    try first | rfl | exact ⟨rfl,rfl⟩
   ·rw [h2] at hTF
    rw [h3,Int.zero_add] at hf
    have hg:=get_at Tl.d hj
    rw [h4,Tl.d_eq] at hg
    obtain ⟨jj,hjj⟩:∃ jj:Int,jj=(j:Int):=⟨_,rfl⟩
    rw [←hjj] at hf
    have hnj:jj.toNat=j:=by omega
    simp only at hTF
    have hbt:(false == true)=false:=rfl
    have hbf:(true == true)=true:=rfl
    cases hpr:t.pred with
    | false =>
     rw [hpr] at hTF
     have hrn:CT m.tables x.name x.args.length true (some at_)=none:=by unfold CT; rw [hTF]; rfl
     rw [hrn]
     simp (disch:=omega) only [go_sem,Ab,hni,hq,hf,hnj,hg,hpr,hbt,CV]
     try first | rfl | exact ⟨rfl,rfl⟩
    | true =>
     rw [hpr] at hTF
     have hTF:Jh m.tables x.name x.args.length true=some t:=hTF
     have hrn:CT m.tables x.name x.args.length true (some at_)=some (t.vals.getD at_.toNat 0):=by unfold CT; rw [hTF]
     obtain ⟨g1,g2,_,_⟩:=Ng hm hTF r0 r1
     have hgv:=get_at (fun n=>[D.int n]) g1
     have hvt:=hvl t (Gy hTF).1
     rw [hrn,g2]
     simp (disch:=omega) only [go_sem,Ab,hni,hq,hf,hnj,hg,hgv,hpr,hbf,zC,zA,CV]
     try first | rfl | exact ⟨rfl,rfl⟩
theorem T4 {p:Int→Option Bool} {k:Nat} {a s v:Bool} (h:Db p k=some (a,s)) (hv:p k=some v):Db p (k+1)=some (a&&v,s || v):=by rw [Db,h,hv]
abbrev XA (o:Option Bool):SV:=.tup [.bool (o.getD false),.bool o.isSome]
abbrev TrC (m:Ip) (a:List Ag) (x:Fm):Prop:=E 27 [m.sv,.arr (a.map Ag.d),x.sv] []=some (XA (x.tr m (asg a)),[])
theorem Ic (m:Ip) (hm:m.ok=true) (x p:Fm) (ho:x.op=8∨x.op=9) (hp:x.parts=[p]) (a:List Ag) (hal:a.length≤2097151) (he:InE m.size (asg a)) (ih:∀ k:Int,0≤k→k<m.size→TrC m (Fv a x.var k) p):E 66 [m.sv,.arr (a.map Ag.d),x.sv] []=some (XA (x.tr m (asg a)),[]):=by
 obtain ⟨⟨s1,s3⟩,_,_⟩:=Ip.Cx hm
 have hpl1:0<x.parts.length:=by rw [hp]; simp
 have hpe:x.parts[0]=p:=by simp [hp]
 have hgp:=get_at Fm.d hpl1
 rw [Fm.d_eq,hpe] at hgp
 have hms:(m.size.toNat:Int)=m.size:=by omega
 rw [Fm.RS ho hp]
 generalize hT:(fun k:Int=>p.tr m (C4 (asg a) x.var k))=T
 have hTk:∀ k:Int,p.tr m (C4 (asg a) x.var k)=T k:=fun k=>by rw [←hT]
 have hxs:x.sv=.agg [.int .i64 x.op,.str x.atom.name,.arr (x.atom.args.map Tm.d),.str x.var,.arr (x.parts.map Fm.d)]:=rfl
 refine Al Jv Bz (of_decide_eq_true rfl) ?_
 simp (disch:=omega) only [FZ,go_sem,Ab]
 refine go_loop (α:=Int × Bool × Bool) (fun b=>⟨slots 48 0 [(1,.arr (a.map Ag.d)),(3,.ptr 0 0),(5,.ptr 1 0),(8,.bool b.2.1),(9,.bool b.2.2),(10,.int .i64 b.1)],[.box 26 [.int .i64 m.size,.arr (m.tables.map Tl.d)],.box 33 [.int .i64 x.op,.str x.atom.name,.arr (x.atom.args.map Tm.d),.str x.var,.arr (x.parts.map Fm.d)]]⟩) (fun b=>∃ k:Nat,b.1=k∧k≤m.size.toNat∧Db T k=some (b.2.1,b.2.2)) (fun b=>m.size.toNat-b.1.toNat) (0,true,false) ⟨0,rfl,zP _,rfl⟩ (by simp (disch:=omega) only [go_sem,Ab]) ?_
 rintro ⟨i,al,so⟩ ⟨k,hi,hk,hR⟩
 dsimp only at hi hR
 rcases Int.lt_or_le i m.size with hlt | hge
 ·have hwi:=VA a (by omega) x.var i
  have hc:=ih i (by omega) hlt
  unfold TrC at hc
  rw [L3,hTk] at hc
  rw [hi] at hc
  cases hv:T k with
  | none =>
   rw [hv] at hc
   rw [←hi] at hc
   have hno:Db T m.size.toNat=none:=by
    cases h:Db T m.size.toNat with
    | none=>rfl
    | some q =>
     have:=GP.1 (by rw [h]; rfl:(Db T m.size.toNat).isSome=true) k (by omega)
     rw [hv] at this; cases this
   rw [hno]
   simp (disch:=omega) only [go_sem,Ab,hgp,hwi,hc,GS,Ak,zD,zB,zC,zA]
   try first | rfl | exact ⟨rfl,rfl⟩
  | some v =>
   rw [hv] at hc
   rw [←hi] at hc
   have hRs:=T4 hR hv
   cases al <;> cases so
   all_goals
    simp (disch:=omega) only [go_sem,Ab,hgp,hwi,hc,GS,Ak,zD,zB,zC,zA]
    refine ⟨(i+1,_,_),⟨k+1,?_,by omega,hRs⟩,?_,?_⟩
    ·dsimp only; omega
    ·dsimp only; omega
    dsimp only
    first | trivial | rfl | (cases v <;> first | trivial | rfl | exact ⟨rfl,rfl⟩)
 ·obtain rfl:k=m.size.toNat:=by omega
  rw [hR]
  rcases ho with ho | ho
  ·have d8:dec (x.op=8)=true:=Aw ho
   unfold Xk
   rw [d8]
   simp (disch:=omega) only [go_sem,Ab,d8,zC,zA]
   try first | rfl | exact ⟨rfl,rfl⟩
  ·have d8:dec (x.op=8)=false:=Aj (by omega)
   unfold Xk
   rw [d8]
   simp (disch:=omega) only [go_sem,Ab,d8,zC,zA]
   try first | rfl | exact ⟨rfl,rfl⟩
abbrev XB (m:Ip) (x:Fm):Prop:=∀ a:List Ag,a.length+x.nodes≤2097152→InE m.size (asg a)→TrC m a x
theorem Sg (m:Ip) (hm:m.ok=true) (ht:m.tame) (x:Fm) (hx:x.forms=true) (ih:∀ y∈x.parts,XB m y):XB m x:=by
 intro a hal he
 have hfo:=Fm.Dq hx
 obtain ⟨⟨s1,s3⟩,_,_⟩:=Ip.Cx hm
 have hxs:x.sv=.agg [.int .i64 x.op,.str x.atom.name,.arr (x.atom.args.map Tm.d),.str x.var,.arr (x.parts.map Fm.d)]:=rfl
 have has:x.atom.sv=.agg [.str x.atom.name,.arr (x.atom.args.map Tm.d)]:=rfl
 have hpl:=Fm.length_le x.parts
 have hnq:=Fm.nodes_eq x
 have hps:=Fm.nodes_pos x
 unfold TrC
 rcases Fm.Jp hfo with ho | ho | ho | ho | ho | ho | ho | ho | ho
 ·have d1:dec (x.op=1)=true:=Aw (by omega)
  have d2:dec (x.op=2)=false:=Aj (by omega)
  have d3:dec (x.op=3)=false:=Aj (by omega)
  have d4:dec (x.op=4)=false:=Aj (by omega)
  have d5:dec (x.op=5)=false:=Aj (by omega)
  have d6:dec (x.op=6)=false:=Aj (by omega)
  have d7:dec (x.op=7)=false:=Aj (by omega)
  have d8:dec (x.op=8)=false:=Aj (by omega)
  have d9:dec (x.op=9)=false:=Aj (by omega)
  rw [Fm.Tv ho]
  refine Al AF Ak (of_decide_eq_true rfl) ?_
  simp (disch:=omega) only [AB,go_sem,d1,d2,d3,d4,d5,d6,d7,d8,d9,zD,zB,zC,zA,zE,zF]
  repeat ((first | (refine At ?_ ?_; (focus (simp (disch:=omega) only [go_sem,d1,d2,d3,d4,d5,d6,d7,d8,d9,zD,zB,zC,zA,zE,zF]; done))) | (refine Au ?_ ?_; (focus (simp (disch:=omega) only [go_sem,d1,d2,d3,d4,d5,d6,d7,d8,d9,zD,zB,zC,zA,zE,zF]; done)))); (try simp (disch:=omega) only [go_sem,d1,d2,d3,d4,d5,d6,d7,d8,d9,zD,zB,zC,zA,zE,zF]))
  try first | rfl | exact ⟨rfl,rfl⟩
 ·have d1:dec (x.op=1)=false:=Aj (by omega)
  have d2:dec (x.op=2)=true:=Aw (by omega)
  have d3:dec (x.op=3)=false:=Aj (by omega)
  have d4:dec (x.op=4)=false:=Aj (by omega)
  have d5:dec (x.op=5)=false:=Aj (by omega)
  have d6:dec (x.op=6)=false:=Aj (by omega)
  have d7:dec (x.op=7)=false:=Aj (by omega)
  have d8:dec (x.op=8)=false:=Aj (by omega)
  have d9:dec (x.op=9)=false:=Aj (by omega)
  rw [Fm.Tw ho]
  refine Al AF Ak (of_decide_eq_true rfl) ?_
  simp (disch:=omega) only [AB,go_sem,d1,d2,d3,d4,d5,d6,d7,d8,d9,zD,zB,zC,zA,zE,zF]
  repeat ((first | (refine At ?_ ?_; (focus (simp (disch:=omega) only [go_sem,d1,d2,d3,d4,d5,d6,d7,d8,d9,zD,zB,zC,zA,zE,zF]; done))) | (refine Au ?_ ?_; (focus (simp (disch:=omega) only [go_sem,d1,d2,d3,d4,d5,d6,d7,d8,d9,zD,zB,zC,zA,zE,zF]; done)))); (try simp (disch:=omega) only [go_sem,d1,d2,d3,d4,d5,d6,d7,d8,d9,zD,zB,zC,zA,zE,zF]))
  try first | rfl | exact ⟨rfl,rfl⟩
 ·have d1:dec (x.op=1)=false:=Aj (by omega)
  have d2:dec (x.op=2)=false:=Aj (by omega)
  have d3:dec (x.op=3)=true:=Aw (by omega)
  have d4:dec (x.op=4)=false:=Aj (by omega)
  have d5:dec (x.op=5)=false:=Aj (by omega)
  have d6:dec (x.op=6)=false:=Aj (by omega)
  have d7:dec (x.op=7)=false:=Aj (by omega)
  have d8:dec (x.op=8)=false:=Aj (by omega)
  have d9:dec (x.op=9)=false:=Aj (by omega)
  rw [Fm.Iz ho]
  have hct:=VB m hm ht a (by omega) he x.atom (Fm.F8 hfo ho).2.1
  cases hv:x.atom.tru m (asg a) with
  | none =>
   rw [hv] at hct
   refine Al AF Ak (of_decide_eq_true rfl) ?_
   simp (disch:=omega) only [AB,go_sem,d1,d2,d3,d4,d5,d6,d7,d8,d9,zD,zB,zC,zA,zE,zF,hct,Bk]
   repeat ((first | (refine At ?_ ?_; (focus (simp (disch:=omega) only [go_sem,d1,d2,d3,d4,d5,d6,d7,d8,d9,zD,zB,zC,zA,zE,zF,hct,Bk]; done))) | (refine Au ?_ ?_; (focus (simp (disch:=omega) only [go_sem,d1,d2,d3,d4,d5,d6,d7,d8,d9,zD,zB,zC,zA,zE,zF,hct,Bk]; done)))); (try simp (disch:=omega) only [go_sem,d1,d2,d3,d4,d5,d6,d7,d8,d9,zD,zB,zC,zA,zE,zF,hct,Bk]))
   try first | rfl | exact ⟨rfl,rfl⟩
  | some n =>
   rw [hv] at hct
   refine Al AF Ak (of_decide_eq_true rfl) ?_
   simp (disch:=omega) only [AB,go_sem,d1,d2,d3,d4,d5,d6,d7,d8,d9,zD,zB,zC,zA,zE,zF,hct,Bk]
   repeat ((first | (refine At ?_ ?_; (focus (simp (disch:=omega) only [go_sem,d1,d2,d3,d4,d5,d6,d7,d8,d9,zD,zB,zC,zA,zE,zF,hct,Bk]; done))) | (refine Au ?_ ?_; (focus (simp (disch:=omega) only [go_sem,d1,d2,d3,d4,d5,d6,d7,d8,d9,zD,zB,zC,zA,zE,zF,hct,Bk]; done)))); (try simp (disch:=omega) only [go_sem,d1,d2,d3,d4,d5,d6,d7,d8,d9,zD,zB,zC,zA,zE,zF,hct,Bk]))
   try first | rfl | exact ⟨rfl,rfl⟩
 ·have d1:dec (x.op=1)=false:=Aj (by omega)
  have d2:dec (x.op=2)=false:=Aj (by omega)
  have d3:dec (x.op=3)=false:=Aj (by omega)
  have d4:dec (x.op=4)=true:=Aw (by omega)
  have d5:dec (x.op=5)=false:=Aj (by omega)
  have d6:dec (x.op=6)=false:=Aj (by omega)
  have d7:dec (x.op=7)=false:=Aj (by omega)
  have d8:dec (x.op=8)=false:=Aj (by omega)
  have d9:dec (x.op=9)=false:=Aj (by omega)
  obtain ⟨p,hp⟩:=Fm.Jo hfo ho
  have hp:x.parts=[p]:=by rw [hp]; rfl
  have hpl1:0<x.parts.length:=by rw [hp]; simp
  have hpe:x.parts[0]=p:=by simp [hp]
  have hgp:=get_at Fm.d hpl1
  rw [Fm.d_eq,hpe] at hgp
  have hpn:=Fm.nodes_mem (y:=p) (xs:=x.parts) (by rw [hp]; simp)
  have hc:=ih p (by rw [hp]; simp) a (by omega) he
  unfold TrC at hc
  rw [Fm.KG ho hp]
  cases hv:p.tr m (asg a) with
  | none =>
   rw [hv] at hc
   refine Al AF Ak (of_decide_eq_true rfl) ?_
   simp (disch:=omega) only [AB,go_sem,d1,d2,d3,d4,d5,d6,d7,d8,d9,zD,zB,zC,zA,zE,zF,hgp,hc,Ak]
   repeat ((first | (refine At ?_ ?_; (focus (simp (disch:=omega) only [go_sem,d1,d2,d3,d4,d5,d6,d7,d8,d9,zD,zB,zC,zA,zE,zF,hgp,hc,Ak]; done))) | (refine Au ?_ ?_; (focus (simp (disch:=omega) only [go_sem,d1,d2,d3,d4,d5,d6,d7,d8,d9,zD,zB,zC,zA,zE,zF,hgp,hc,Ak]; done)))); (try simp (disch:=omega) only [go_sem,d1,d2,d3,d4,d5,d6,d7,d8,d9,zD,zB,zC,zA,zE,zF,hgp,hc,Ak]))
   try first | rfl | exact ⟨rfl,rfl⟩
  | some n =>
   rw [hv] at hc
   refine Al AF Ak (of_decide_eq_true rfl) ?_
   simp (disch:=omega) only [AB,go_sem,d1,d2,d3,d4,d5,d6,d7,d8,d9,zD,zB,zC,zA,zE,zF,hgp,hc,Ak]
   repeat ((first | (refine At ?_ ?_; (focus (simp (disch:=omega) only [go_sem,d1,d2,d3,d4,d5,d6,d7,d8,d9,zD,zB,zC,zA,zE,zF,hgp,hc,Ak]; done))) | (refine Au ?_ ?_; (focus (simp (disch:=omega) only [go_sem,d1,d2,d3,d4,d5,d6,d7,d8,d9,zD,zB,zC,zA,zE,zF,hgp,hc,Ak]; done)))); (try simp (disch:=omega) only [go_sem,d1,d2,d3,d4,d5,d6,d7,d8,d9,zD,zB,zC,zA,zE,zF,hgp,hc,Ak]))
   try first | rfl | exact ⟨rfl,rfl⟩
 ·have d1:dec (x.op=1)=false:=Aj (by omega)
  have d2:dec (x.op=2)=false:=Aj (by omega)
  have d3:dec (x.op=3)=false:=Aj (by omega)
  have d4:dec (x.op=4)=false:=Aj (by omega)
  have d5:dec (x.op=5)=true:=Aw (by omega)
  have d6:dec (x.op=6)=false:=Aj (by omega)
  have d7:dec (x.op=7)=false:=Aj (by omega)
  have d8:dec (x.op=8)=false:=Aj (by omega)
  have d9:dec (x.op=9)=false:=Aj (by omega)
  obtain ⟨p,q,hp⟩:=Fm.Fj hfo (by omega)
  have hp:x.parts=[p,q]:=by rw [hp]; rfl
  have hpl2:1<x.parts.length:=by rw [hp]; simp
  have hpl1:0<x.parts.length:=by omega
  have hpe:x.parts[0]=p:=by simp [hp]
  have hqe:x.parts[1]=q:=by simp [hp]
  have hgp:=get_at Fm.d hpl1
  have hgq:=get_at Fm.d hpl2
  rw [Fm.d_eq,hpe] at hgp
  rw [Fm.d_eq,hqe] at hgq
  have hpn:=Fm.nodes_mem (y:=p) (xs:=x.parts) (by rw [hp]; simp)
  have hqn:=Fm.nodes_mem (y:=q) (xs:=x.parts) (by rw [hp]; simp)
  have hc1:=ih p (by rw [hp]; simp) a (by omega) he
  have hc2:=ih q (by rw [hp]; simp) a (by omega) he
  unfold TrC at hc1 hc2
  rw [Fm.GO (by omega) hp]
  cases hv1:p.tr m (asg a) with
  | none =>
   rw [hv1] at hc1
   refine Al AF Ak (of_decide_eq_true rfl) ?_
   simp (disch:=omega) only [AB,go_sem,d1,d2,d3,d4,d5,d6,d7,d8,d9,zD,zB,zC,zA,zE,zF,hgp,hgq,hc1,hc2,Ak]
   repeat ((first | (refine At ?_ ?_; (focus (simp (disch:=omega) only [go_sem,d1,d2,d3,d4,d5,d6,d7,d8,d9,zD,zB,zC,zA,zE,zF,hgp,hgq,hc1,hc2,Ak]; done))) | (refine Au ?_ ?_; (focus (simp (disch:=omega) only [go_sem,d1,d2,d3,d4,d5,d6,d7,d8,d9,zD,zB,zC,zA,zE,zF,hgp,hgq,hc1,hc2,Ak]; done)))); (try simp (disch:=omega) only [go_sem,d1,d2,d3,d4,d5,d6,d7,d8,d9,zD,zB,zC,zA,zE,zF,hgp,hgq,hc1,hc2,Ak]))
   try first | rfl | exact ⟨rfl,rfl⟩
  | some u =>
   rw [hv1] at hc1
   cases hv2:q.tr m (asg a) with
   | none =>
    rw [hv2] at hc2
    refine Al AF Ak (of_decide_eq_true rfl) ?_
    simp (disch:=omega) only [AB,go_sem,d1,d2,d3,d4,d5,d6,d7,d8,d9,zD,zB,zC,zA,zE,zF,hgp,hgq,hc1,hc2,Ak]
    repeat ((first | (refine At ?_ ?_; (focus (simp (disch:=omega) only [go_sem,d1,d2,d3,d4,d5,d6,d7,d8,d9,zD,zB,zC,zA,zE,zF,hgp,hgq,hc1,hc2,Ak]; done))) | (refine Au ?_ ?_; (focus (simp (disch:=omega) only [go_sem,d1,d2,d3,d4,d5,d6,d7,d8,d9,zD,zB,zC,zA,zE,zF,hgp,hgq,hc1,hc2,Ak]; done)))); (try simp (disch:=omega) only [go_sem,d1,d2,d3,d4,d5,d6,d7,d8,d9,zD,zB,zC,zA,zE,zF,hgp,hgq,hc1,hc2,Ak]))
    try first | rfl | exact ⟨rfl,rfl⟩
   | some v =>
    rw [hv2] at hc2
    unfold two conn
    rw [d5,d6]
    cases u
    ·refine Al AF Ak (of_decide_eq_true rfl) ?_
     simp (disch:=omega) only [AB,go_sem,d1,d2,d3,d4,d5,d6,d7,d8,d9,zD,zB,zC,zA,zE,zF,hgp,hgq,hc1,hc2,Ak]
     repeat ((first | (refine At ?_ ?_; (focus (simp (disch:=omega) only [go_sem,d1,d2,d3,d4,d5,d6,d7,d8,d9,zD,zB,zC,zA,zE,zF,hgp,hgq,hc1,hc2,Ak]; done))) | (refine Au ?_ ?_; (focus (simp (disch:=omega) only [go_sem,d1,d2,d3,d4,d5,d6,d7,d8,d9,zD,zB,zC,zA,zE,zF,hgp,hgq,hc1,hc2,Ak]; done)))); (try simp (disch:=omega) only [go_sem,d1,d2,d3,d4,d5,d6,d7,d8,d9,zD,zB,zC,zA,zE,zF,hgp,hgq,hc1,hc2,Ak]))
     try first | rfl | exact ⟨rfl,rfl⟩
    ·refine Al AF Ak (of_decide_eq_true rfl) ?_
     simp (disch:=omega) only [AB,go_sem,d1,d2,d3,d4,d5,d6,d7,d8,d9,zD,zB,zC,zA,zE,zF,hgp,hgq,hc1,hc2,Ak]
     repeat ((first | (refine At ?_ ?_; (focus (simp (disch:=omega) only [go_sem,d1,d2,d3,d4,d5,d6,d7,d8,d9,zD,zB,zC,zA,zE,zF,hgp,hgq,hc1,hc2,Ak]; done))) | (refine Au ?_ ?_; (focus (simp (disch:=omega) only [go_sem,d1,d2,d3,d4,d5,d6,d7,d8,d9,zD,zB,zC,zA,zE,zF,hgp,hgq,hc1,hc2,Ak]; done)))); (try simp (disch:=omega) only [go_sem,d1,d2,d3,d4,d5,d6,d7,d8,d9,zD,zB,zC,zA,zE,zF,hgp,hgq,hc1,hc2,Ak]))
     try first | rfl | exact ⟨rfl,rfl⟩
 ·have d1:dec (x.op=1)=false:=Aj (by omega)
  have d2:dec (x.op=2)=false:=Aj (by omega)
  have d3:dec (x.op=3)=false:=Aj (by omega)
  have d4:dec (x.op=4)=false:=Aj (by omega)
  have d5:dec (x.op=5)=false:=Aj (by omega)
  have d6:dec (x.op=6)=true:=Aw (by omega)
  have d7:dec (x.op=7)=false:=Aj (by omega)
  have d8:dec (x.op=8)=false:=Aj (by omega)
  have d9:dec (x.op=9)=false:=Aj (by omega)
  obtain ⟨p,q,hp⟩:=Fm.Fj hfo (by omega)
  have hp:x.parts=[p,q]:=by rw [hp]; rfl
  have hpl2:1<x.parts.length:=by rw [hp]; simp
  have hpl1:0<x.parts.length:=by omega
  have hpe:x.parts[0]=p:=by simp [hp]
  have hqe:x.parts[1]=q:=by simp [hp]
  have hgp:=get_at Fm.d hpl1
  have hgq:=get_at Fm.d hpl2
  rw [Fm.d_eq,hpe] at hgp
  rw [Fm.d_eq,hqe] at hgq
  have hpn:=Fm.nodes_mem (y:=p) (xs:=x.parts) (by rw [hp]; simp)
  have hqn:=Fm.nodes_mem (y:=q) (xs:=x.parts) (by rw [hp]; simp)
  have hc1:=ih p (by rw [hp]; simp) a (by omega) he
  have hc2:=ih q (by rw [hp]; simp) a (by omega) he
  unfold TrC at hc1 hc2
  rw [Fm.GO (by omega) hp]
  cases hv1:p.tr m (asg a) with
  | none =>
   rw [hv1] at hc1
   refine Al AF Ak (of_decide_eq_true rfl) ?_
   simp (disch:=omega) only [AB,go_sem,d1,d2,d3,d4,d5,d6,d7,d8,d9,zD,zB,zC,zA,zE,zF,hgp,hgq,hc1,hc2,Ak]
   repeat ((first | (refine At ?_ ?_; (focus (simp (disch:=omega) only [go_sem,d1,d2,d3,d4,d5,d6,d7,d8,d9,zD,zB,zC,zA,zE,zF,hgp,hgq,hc1,hc2,Ak]; done))) | (refine Au ?_ ?_; (focus (simp (disch:=omega) only [go_sem,d1,d2,d3,d4,d5,d6,d7,d8,d9,zD,zB,zC,zA,zE,zF,hgp,hgq,hc1,hc2,Ak]; done)))); (try simp (disch:=omega) only [go_sem,d1,d2,d3,d4,d5,d6,d7,d8,d9,zD,zB,zC,zA,zE,zF,hgp,hgq,hc1,hc2,Ak]))
   try first | rfl | exact ⟨rfl,rfl⟩
  | some u =>
   rw [hv1] at hc1
   cases hv2:q.tr m (asg a) with
   | none =>
    rw [hv2] at hc2
    refine Al AF Ak (of_decide_eq_true rfl) ?_
    simp (disch:=omega) only [AB,go_sem,d1,d2,d3,d4,d5,d6,d7,d8,d9,zD,zB,zC,zA,zE,zF,hgp,hgq,hc1,hc2,Ak]
    repeat ((first | (refine At ?_ ?_; (focus (simp (disch:=omega) only [go_sem,d1,d2,d3,d4,d5,d6,d7,d8,d9,zD,zB,zC,zA,zE,zF,hgp,hgq,hc1,hc2,Ak]; done))) | (refine Au ?_ ?_; (focus (simp (disch:=omega) only [go_sem,d1,d2,d3,d4,d5,d6,d7,d8,d9,zD,zB,zC,zA,zE,zF,hgp,hgq,hc1,hc2,Ak]; done)))); (try simp (disch:=omega) only [go_sem,d1,d2,d3,d4,d5,d6,d7,d8,d9,zD,zB,zC,zA,zE,zF,hgp,hgq,hc1,hc2,Ak]))
    try first | rfl | exact ⟨rfl,rfl⟩
   | some v =>
    rw [hv2] at hc2
    unfold two conn
    rw [d5,d6]
    cases u
    ·refine Al AF Ak (of_decide_eq_true rfl) ?_
     simp (disch:=omega) only [AB,go_sem,d1,d2,d3,d4,d5,d6,d7,d8,d9,zD,zB,zC,zA,zE,zF,hgp,hgq,hc1,hc2,Ak]
     repeat ((first | (refine At ?_ ?_; (focus (simp (disch:=omega) only [go_sem,d1,d2,d3,d4,d5,d6,d7,d8,d9,zD,zB,zC,zA,zE,zF,hgp,hgq,hc1,hc2,Ak]; done))) | (refine Au ?_ ?_; (focus (simp (disch:=omega) only [go_sem,d1,d2,d3,d4,d5,d6,d7,d8,d9,zD,zB,zC,zA,zE,zF,hgp,hgq,hc1,hc2,Ak]; done)))); (try simp (disch:=omega) only [go_sem,d1,d2,d3,d4,d5,d6,d7,d8,d9,zD,zB,zC,zA,zE,zF,hgp,hgq,hc1,hc2,Ak]))
     try first | rfl | exact ⟨rfl,rfl⟩
    ·refine Al AF Ak (of_decide_eq_true rfl) ?_
     simp (disch:=omega) only [AB,go_sem,d1,d2,d3,d4,d5,d6,d7,d8,d9,zD,zB,zC,zA,zE,zF,hgp,hgq,hc1,hc2,Ak]
     repeat ((first | (refine At ?_ ?_; (focus (simp (disch:=omega) only [go_sem,d1,d2,d3,d4,d5,d6,d7,d8,d9,zD,zB,zC,zA,zE,zF,hgp,hgq,hc1,hc2,Ak]; done))) | (refine Au ?_ ?_; (focus (simp (disch:=omega) only [go_sem,d1,d2,d3,d4,d5,d6,d7,d8,d9,zD,zB,zC,zA,zE,zF,hgp,hgq,hc1,hc2,Ak]; done)))); (try simp (disch:=omega) only [go_sem,d1,d2,d3,d4,d5,d6,d7,d8,d9,zD,zB,zC,zA,zE,zF,hgp,hgq,hc1,hc2,Ak]))
     try first | rfl | exact ⟨rfl,rfl⟩
 ·have d1:dec (x.op=1)=false:=Aj (by omega)
  have d2:dec (x.op=2)=false:=Aj (by omega)
  have d3:dec (x.op=3)=false:=Aj (by omega)
  have d4:dec (x.op=4)=false:=Aj (by omega)
  have d5:dec (x.op=5)=false:=Aj (by omega)
  have d6:dec (x.op=6)=false:=Aj (by omega)
  have d7:dec (x.op=7)=true:=Aw (by omega)
  have d8:dec (x.op=8)=false:=Aj (by omega)
  have d9:dec (x.op=9)=false:=Aj (by omega)
  obtain ⟨p,q,hp⟩:=Fm.Fj hfo (by omega)
  have hp:x.parts=[p,q]:=by rw [hp]; rfl
  have hpl2:1<x.parts.length:=by rw [hp]; simp
  have hpl1:0<x.parts.length:=by omega
  have hpe:x.parts[0]=p:=by simp [hp]
  have hqe:x.parts[1]=q:=by simp [hp]
  have hgp:=get_at Fm.d hpl1
  have hgq:=get_at Fm.d hpl2
  rw [Fm.d_eq,hpe] at hgp
  rw [Fm.d_eq,hqe] at hgq
  have hpn:=Fm.nodes_mem (y:=p) (xs:=x.parts) (by rw [hp]; simp)
  have hqn:=Fm.nodes_mem (y:=q) (xs:=x.parts) (by rw [hp]; simp)
  have hc1:=ih p (by rw [hp]; simp) a (by omega) he
  have hc2:=ih q (by rw [hp]; simp) a (by omega) he
  unfold TrC at hc1 hc2
  rw [Fm.GO (by omega) hp]
  cases hv1:p.tr m (asg a) with
  | none =>
   rw [hv1] at hc1
   refine Al AF Ak (of_decide_eq_true rfl) ?_
   simp (disch:=omega) only [AB,go_sem,d1,d2,d3,d4,d5,d6,d7,d8,d9,zD,zB,zC,zA,zE,zF,hgp,hgq,hc1,hc2,Ak]
   repeat ((first | (refine At ?_ ?_; (focus (simp (disch:=omega) only [go_sem,d1,d2,d3,d4,d5,d6,d7,d8,d9,zD,zB,zC,zA,zE,zF,hgp,hgq,hc1,hc2,Ak]; done))) | (refine Au ?_ ?_; (focus (simp (disch:=omega) only [go_sem,d1,d2,d3,d4,d5,d6,d7,d8,d9,zD,zB,zC,zA,zE,zF,hgp,hgq,hc1,hc2,Ak]; done)))); (try simp (disch:=omega) only [go_sem,d1,d2,d3,d4,d5,d6,d7,d8,d9,zD,zB,zC,zA,zE,zF,hgp,hgq,hc1,hc2,Ak]))
   try first | rfl | exact ⟨rfl,rfl⟩
  | some u =>
   rw [hv1] at hc1
   cases hv2:q.tr m (asg a) with
   | none =>
    rw [hv2] at hc2
    refine Al AF Ak (of_decide_eq_true rfl) ?_
    simp (disch:=omega) only [AB,go_sem,d1,d2,d3,d4,d5,d6,d7,d8,d9,zD,zB,zC,zA,zE,zF,hgp,hgq,hc1,hc2,Ak]
    repeat ((first | (refine At ?_ ?_; (focus (simp (disch:=omega) only [go_sem,d1,d2,d3,d4,d5,d6,d7,d8,d9,zD,zB,zC,zA,zE,zF,hgp,hgq,hc1,hc2,Ak]; done))) | (refine Au ?_ ?_; (focus (simp (disch:=omega) only [go_sem,d1,d2,d3,d4,d5,d6,d7,d8,d9,zD,zB,zC,zA,zE,zF,hgp,hgq,hc1,hc2,Ak]; done)))); (try simp (disch:=omega) only [go_sem,d1,d2,d3,d4,d5,d6,d7,d8,d9,zD,zB,zC,zA,zE,zF,hgp,hgq,hc1,hc2,Ak]))
    try first | rfl | exact ⟨rfl,rfl⟩
   | some v =>
    rw [hv2] at hc2
    unfold two conn
    rw [d5,d6]
    cases u
    ·refine Al AF Ak (of_decide_eq_true rfl) ?_
     simp (disch:=omega) only [AB,go_sem,d1,d2,d3,d4,d5,d6,d7,d8,d9,zD,zB,zC,zA,zE,zF,hgp,hgq,hc1,hc2,Ak]
     repeat ((first | (refine At ?_ ?_; (focus (simp (disch:=omega) only [go_sem,d1,d2,d3,d4,d5,d6,d7,d8,d9,zD,zB,zC,zA,zE,zF,hgp,hgq,hc1,hc2,Ak]; done))) | (refine Au ?_ ?_; (focus (simp (disch:=omega) only [go_sem,d1,d2,d3,d4,d5,d6,d7,d8,d9,zD,zB,zC,zA,zE,zF,hgp,hgq,hc1,hc2,Ak]; done)))); (try simp (disch:=omega) only [go_sem,d1,d2,d3,d4,d5,d6,d7,d8,d9,zD,zB,zC,zA,zE,zF,hgp,hgq,hc1,hc2,Ak]))
     try first | rfl | exact ⟨rfl,rfl⟩
    ·refine Al AF Ak (of_decide_eq_true rfl) ?_
     simp (disch:=omega) only [AB,go_sem,d1,d2,d3,d4,d5,d6,d7,d8,d9,zD,zB,zC,zA,zE,zF,hgp,hgq,hc1,hc2,Ak]
     repeat ((first | (refine At ?_ ?_; (focus (simp (disch:=omega) only [go_sem,d1,d2,d3,d4,d5,d6,d7,d8,d9,zD,zB,zC,zA,zE,zF,hgp,hgq,hc1,hc2,Ak]; done))) | (refine Au ?_ ?_; (focus (simp (disch:=omega) only [go_sem,d1,d2,d3,d4,d5,d6,d7,d8,d9,zD,zB,zC,zA,zE,zF,hgp,hgq,hc1,hc2,Ak]; done)))); (try simp (disch:=omega) only [go_sem,d1,d2,d3,d4,d5,d6,d7,d8,d9,zD,zB,zC,zA,zE,zF,hgp,hgq,hc1,hc2,Ak]))
     try first | rfl | exact ⟨rfl,rfl⟩
 ·have d1:dec (x.op=1)=false:=Aj (by omega)
  have d2:dec (x.op=2)=false:=Aj (by omega)
  have d3:dec (x.op=3)=false:=Aj (by omega)
  have d4:dec (x.op=4)=false:=Aj (by omega)
  have d5:dec (x.op=5)=false:=Aj (by omega)
  have d6:dec (x.op=6)=false:=Aj (by omega)
  have d7:dec (x.op=7)=false:=Aj (by omega)
  have d8:dec (x.op=8)=true:=Aw (by omega)
  have d9:dec (x.op=9)=false:=Aj (by omega)
  obtain ⟨p,hp⟩:=Fm.KF hfo (by omega)
  have hp:x.parts=[p]:=by rw [hp]; rfl
  have hpn:=Fm.nodes_mem (y:=p) (xs:=x.parts) (by rw [hp]; simp)
  have hc:=Ic m hm x p (by omega) hp a (by omega) he fun k k0 k1=>ih p (by rw [hp]; simp) _ (by have:=Mh x.var k a; omega) (by rw [L3]; exact JE he k0 k1 _)
  generalize x.tr m (asg a)=r at *
  refine Al AF Ak (of_decide_eq_true rfl) ?_
  simp (disch:=omega) only [AB,go_sem,d1,d2,d3,d4,d5,d6,d7,d8,d9,zD,zB,zC,zA,zE,zF,hc,Bz]
  repeat ((first | (refine At ?_ ?_; (focus (simp (disch:=omega) only [go_sem,d1,d2,d3,d4,d5,d6,d7,d8,d9,zD,zB,zC,zA,zE,zF,hc,Bz]; done))) | (refine Au ?_ ?_; (focus (simp (disch:=omega) only [go_sem,d1,d2,d3,d4,d5,d6,d7,d8,d9,zD,zB,zC,zA,zE,zF,hc,Bz]; done)))); (try simp (disch:=omega) only [go_sem,d1,d2,d3,d4,d5,d6,d7,d8,d9,zD,zB,zC,zA,zE,zF,hc,Bz]))
  try first | rfl | exact ⟨rfl,rfl⟩
 ·have d1:dec (x.op=1)=false:=Aj (by omega)
  have d2:dec (x.op=2)=false:=Aj (by omega)
  have d3:dec (x.op=3)=false:=Aj (by omega)
  have d4:dec (x.op=4)=false:=Aj (by omega)
  have d5:dec (x.op=5)=false:=Aj (by omega)
  have d6:dec (x.op=6)=false:=Aj (by omega)
  have d7:dec (x.op=7)=false:=Aj (by omega)
  have d8:dec (x.op=8)=false:=Aj (by omega)
  have d9:dec (x.op=9)=true:=Aw (by omega)
  obtain ⟨p,hp⟩:=Fm.KF hfo (by omega)
  have hp:x.parts=[p]:=by rw [hp]; rfl
  have hpn:=Fm.nodes_mem (y:=p) (xs:=x.parts) (by rw [hp]; simp)
  have hc:=Ic m hm x p (by omega) hp a (by omega) he fun k k0 k1=>ih p (by rw [hp]; simp) _ (by have:=Mh x.var k a; omega) (by rw [L3]; exact JE he k0 k1 _)
  generalize x.tr m (asg a)=r at *
  refine Al AF Ak (of_decide_eq_true rfl) ?_
  simp (disch:=omega) only [AB,go_sem,d1,d2,d3,d4,d5,d6,d7,d8,d9,zD,zB,zC,zA,zE,zF,hc,Bz]
  repeat ((first | (refine At ?_ ?_; (focus (simp (disch:=omega) only [go_sem,d1,d2,d3,d4,d5,d6,d7,d8,d9,zD,zB,zC,zA,zE,zF,hc,Bz]; done))) | (refine Au ?_ ?_; (focus (simp (disch:=omega) only [go_sem,d1,d2,d3,d4,d5,d6,d7,d8,d9,zD,zB,zC,zA,zE,zF,hc,Bz]; done)))); (try simp (disch:=omega) only [go_sem,d1,d2,d3,d4,d5,d6,d7,d8,d9,zD,zB,zC,zA,zE,zF,hc,Bz]))
  try first | rfl | exact ⟨rfl,rfl⟩
theorem O3 (m:Ip) (hm:m.ok=true) (ht:m.tame) (x:Fm) (hx:x.forms=true):XB m x :=
 Sg m hm ht x hx fun y hy=>O3 m hm ht y (Fm.C1 hx hy)
termination_by SizeOf.sizeOf x
decreasing_by exact Fm.lt_of_mem hy
def BR:SC:=(.seq (.reg [⟨some 3,none,.boxv 26 2 (.t 0)⟩,⟨some 5,none,.boxv 33 5 (.t 2)⟩,⟨some 6,none,.mv (.c (.bool false))⟩,⟨some 7,none,.mv (.c (.bool false))⟩]) (.seq (.reg [⟨some 11,none,.load true 2 (.t 3)⟩,⟨some 12,none,.mv (.t 1)⟩,⟨some 13,none,.call 19 [(.t 11),(.t 12)]⟩,⟨some 10,none,.mv (.t 13)⟩,⟨some 14,none,.ext (.t 10) 0⟩,⟨some 15,none,.ext (.t 10) 1⟩,⟨some 8,none,.mv (.t 14)⟩,⟨some 9,none,.mv (.t 15)⟩]) (.seq (.seq (.reg [⟨some 16,none,.load true 2 (.t 3)⟩,⟨some 17,none,.call 20 [(.t 16)]⟩,⟨some 18,none,.un .not (.t 17)⟩,⟨some 19,none,.mv (.t 18)⟩,⟨(some 20),(some (19,false)),(.mv (.t 9))⟩,⟨(some 21),(some (19,false)),(.un .not (.t 20))⟩,⟨some 22,none,.pick (.t 19) (.c (.bool true)) (.t 21)⟩,⟨some 23,none,.mv (.t 22)⟩,⟨(some 24),(some (23,false)),(.load true 5 (.t 5))⟩,⟨(some 25),(some (23,false)),(.call 21 [(.t 24)])⟩,⟨(some 26),(some (23,false)),(.un .not (.t 25))⟩,⟨some 27,none,.pick (.t 23) (.c (.bool true)) (.t 26)⟩,⟨some 28,none,.mv (.t 27)⟩,⟨(some 29),(some (28,false)),(.load true 2 (.t 3))⟩,⟨(some 30),(some (28,false)),(.load true 5 (.t 5))⟩,⟨(some 31),(some (28,false)),(.mv (.t 8))⟩,⟨(some 32),(some (28,false)),(.call 22 [(.t 29),(.t 30),(.t 31)])⟩,⟨(some 33),(some (28,false)),(.un .not (.t 32))⟩,⟨some 34,none,.pick (.t 28) (.c (.bool true)) (.t 33)⟩]) (.cond (.t 34) (.seq (.reg [⟨some 6,none,.mv (.c (.bool false))⟩,⟨some 7,none,.mv (.c (.bool false))⟩]) .ret) .skip)) (.seq (.reg [⟨some 35,none,.load true 2 (.t 3)⟩,⟨some 36,none,.load true 5 (.t 5)⟩,⟨some 37,none,.mv (.t 8)⟩,⟨some 38,none,.call 23 [(.t 35),(.t 36),(.t 37)]⟩,⟨some 6,none,.mv (.t 38)⟩,⟨some 7,none,.mv (.c (.bool true))⟩]) .ret))))
theorem Cq:Aq Tryz.prog 7=some ⟨39,BR,[(.tmp 6),(.tmp 7)]⟩:=by kernel_rfl
theorem AD:modes 7=⟨[],.asis,none,false⟩:=by unfold modes; rfl
def Cr:SC:=(.seq (.reg [⟨some 3,none,.boxv 26 2 (.t 0)⟩,⟨some 5,none,.boxv 33 5 (.t 2)⟩,⟨some 6,none,.mv (.c (.bool false))⟩,⟨some 7,none,.mv (.c (.bool false))⟩]) (.seq (.seq (.reg [⟨some 8,none,.load true 2 (.t 3)⟩,⟨some 9,none,.call 24 [(.t 8)]⟩,⟨some 10,none,.un .not (.t 9)⟩,⟨some 11,none,.mv (.t 10)⟩,⟨(some 12),(some (11,false)),(.load true 2 (.t 3))⟩,⟨(some 13),(some (11,false)),(.mv (.t 1))⟩,⟨(some 14),(some (11,false)),(.call 25 [(.t 12),(.t 13)])⟩,⟨(some 15),(some (11,false)),(.un .not (.t 14))⟩,⟨some 16,none,.pick (.t 11) (.c (.bool true)) (.t 15)⟩,⟨some 17,none,.mv (.t 16)⟩,⟨(some 18),(some (17,false)),(.load true 5 (.t 5))⟩,⟨(some 19),(some (17,false)),(.call 26 [(.t 18)])⟩,⟨(some 20),(some (17,false)),(.un .not (.t 19))⟩,⟨some 21,none,.pick (.t 17) (.c (.bool true)) (.t 20)⟩]) (.cond (.t 21) (.seq (.reg [⟨some 6,none,.mv (.c (.bool false))⟩,⟨some 7,none,.mv (.c (.bool false))⟩]) .ret) .skip)) (.seq (.reg [⟨some 22,none,.load true 2 (.t 3)⟩,⟨some 23,none,.mv (.t 1)⟩,⟨some 24,none,.load true 5 (.t 5)⟩,⟨some 25,none,.call 27 [(.t 22),(.t 23),(.t 24)]⟩,⟨some 26,none,.ext (.t 25) 0⟩,⟨some 27,none,.ext (.t 25) 1⟩,⟨some 6,none,.mv (.t 26)⟩,⟨some 7,none,.mv (.t 27)⟩]) .ret)))
theorem CM:Aq Tryz.prog 8=some ⟨28,Cr,[(.tmp 6),(.tmp 7)]⟩:=by kernel_rfl
theorem AI:modes 8=⟨[],.asis,none,false⟩:=by unfold modes; rfl
noncomputable def evF (m:Ip) (xs:List Ag) (x:Fm):Option Bool:=bif m.ok&&(JJ m.size xs&&x.valid) then x.tr m (asg xs) else none
theorem Fm.MC {x:Fm} (h:x.valid=true):x.nodes≤40∧x.forms=true:=by
 unfold Fm.valid at h
 rw [zZ,decide_eq_true_eq] at h
 exact h
theorem Hs (m:Ip) (hm:m.tame) (xs:List Ag) (hl:xs.length≤1048576) (x:Fm) (hta:x.tame) (hn:x.nodes≤1099511627776):E 7 [m.sv,.arr (xs.map Ag.d),x.sv] []=some (XA (evF m xs x),[]):=by
 have v:=ES m hm
 have vt:=Mg x hta hn
 have hxs:x.sv=.agg [.int .i64 x.op,.str x.atom.name,.arr (x.atom.args.map Tm.d),.str x.var,.arr (x.parts.map Fm.d)]:=rfl
 unfold evF
 cases hk:m.ok with
 | false =>
  rw [hk] at v
  obtain ⟨f,b,ha⟩:=MR m xs (by omega)
  refine Al Cq AD (of_decide_eq_true rfl) ?_
  simp (disch:=omega) only [BR,go_sem,Ab,v,vt,ha,A6,AZ,BG]
  try first | rfl | exact ⟨rfl,rfl⟩
 | true =>
  rw [hk] at v
  have ha:=OP m (Ip.Cx hk).1 xs (by omega)
  cases hg:JJ m.size xs with
  | false =>
   rw [hg] at ha
   refine Al Cq AD (of_decide_eq_true rfl) ?_
   simp (disch:=omega) only [BR,go_sem,Ab,v,vt,ha,A6,AZ,BG]
   try first | rfl | exact ⟨rfl,rfl⟩
  | true =>
   rw [hg] at ha
   cases ht:x.valid with
   | false =>
    rw [ht] at vt
    refine Al Cq AD (of_decide_eq_true rfl) ?_
    simp (disch:=omega) only [BR,go_sem,Ab,v,vt,ha,A6,AZ,BG]
    try first | rfl | exact ⟨rfl,rfl⟩
   | true =>
    rw [ht] at vt
    obtain ⟨hn40,hfo⟩:=Fm.MC ht
    have he:=Tk (Q0 hg).2
    have hc:=Kj m hk hm x hfo (by omega) (asg xs) he (FinE.asg xs)
    have hh:=Uw m hk hm x hfo (by omega) (asg xs) he (FinE.asg xs)
    unfold CaC at hc
    unfold HoC at hh
    cases hv:x.tr m (asg xs) with
    | none =>
     rw [hv] at hc
     refine Al Cq AD (of_decide_eq_true rfl) ?_
     simp (disch:=omega) only [BR,go_sem,Ab,v,vt,ha,A6,AZ,BG,hc,Ba,zB,zA,zC,zD]
     try first | rfl | exact ⟨rfl,rfl⟩
    | some b =>
     rw [hv] at hc
     have hh:=hh b hv
     refine Al Cq AD (of_decide_eq_true rfl) ?_
     simp (disch:=omega) only [BR,go_sem,Ab,v,vt,ha,A6,AZ,BG,hc,hh,Ba,Ah,zB,zA,zC,zD]
     try first | rfl | exact ⟨rfl,rfl⟩
theorem Jw (m:Ip) (hm:m.tame) (xs:List Ag) (hl:xs.length≤1048576) (x:Fm) (hta:x.tame) (hn:x.nodes≤1099511627776):E 8 [m.sv,.arr (xs.map Ag.d),x.sv] []=some (XA (evF m xs x),[]):=by
 have v:=PL m hm
 have vt:=Oz x hta hn
 have hxs:x.sv=.agg [.int .i64 x.op,.str x.atom.name,.arr (x.atom.args.map Tm.d),.str x.var,.arr (x.parts.map Fm.d)]:=rfl
 unfold evF
 cases hk:m.ok with
 | false =>
  rw [hk] at v
  refine Al CM AI (of_decide_eq_true rfl) ?_
  simp (disch:=omega) only [Cr,go_sem,Ab,v,vt,BX,CC,C5]
  try first | rfl | exact ⟨rfl,rfl⟩
 | true =>
  rw [hk] at v
  have ha:=MQ m (Ip.Cx hk).1 xs (by omega)
  cases hg:JJ m.size xs with
  | false =>
   rw [hg] at ha
   refine Al CM AI (of_decide_eq_true rfl) ?_
   simp (disch:=omega) only [Cr,go_sem,Ab,v,vt,ha,BX,CC,C5]
   try first | rfl | exact ⟨rfl,rfl⟩
  | true =>
   rw [hg] at ha
   cases ht:x.valid with
   | false =>
    rw [ht] at vt
    refine Al CM AI (of_decide_eq_true rfl) ?_
    simp (disch:=omega) only [Cr,go_sem,Ab,v,vt,ha,BX,CC,C5]
    try first | rfl | exact ⟨rfl,rfl⟩
   | true =>
    rw [ht] at vt
    obtain ⟨hn40,hfo⟩:=Fm.MC ht
    have hc:=O3 m hk hm x hfo xs (by omega) (Tk (Q0 hg).2)
    unfold TrC at hc
    generalize x.tr m (asg xs)=r at *
    refine Al CM AI (of_decide_eq_true rfl) ?_
    simp (disch:=omega) only [Cr,go_sem,Ab,v,vt,ha,BX,CC,C5,hc,Ak]
    try first | rfl | exact ⟨rfl,rfl⟩
def MD:SC:=(.seq (.reg [⟨some 4,none,.mv (.c (.bool false))⟩]) (.seq (.seq (.reg [⟨some 5,none,.mv (.c (.int .i64 0))⟩]) (.block 0 (.loop [1,1,0,0,0,1,0,0,0,0,0,0,0,0,0,0,0,0] (.seq (.seq (.reg [⟨some 6,none,.mv (.t 5)⟩,⟨some 7,none,.mv (.t 0)⟩,⟨some 8,none,.len false (.t 7)⟩,⟨some 9,none,.bin .lss false (.t 6) (.t 8)⟩]) (.cond (.t 9) .skip (.exit 0))) (.seq (.block 1 (.seq (.reg [⟨some 12,none,.mv (.t 0)⟩,⟨some 13,none,.mv (.t 5)⟩,⟨some 14,none,.iaddr 1 (.t 12) (.t 13)⟩,⟨some 15,none,.load false 1 (.t 14)⟩,⟨some 16,none,.mv (.t 1)⟩,⟨some 17,none,.bin .eql false (.t 15) (.t 16)⟩]) (.cond (.t 17) (.seq (.reg [⟨some 4,none,.mv (.c (.bool true))⟩]) .ret) .skip))) (.reg [⟨some 10,none,.mv (.t 5)⟩,⟨some 11,none,.bin .add false (.t 10) (.c (.int .i64 1))⟩,⟨some 5,none,.mv (.t 11)⟩])))))) (.seq (.reg [⟨some 4,none,.mv (.c (.bool false))⟩]) .ret)))
theorem Sh:Aq Tryz.prog 120=some ⟨18,MD,[(.tmp 4)]⟩:=by kernel_rfl
theorem Jx:modes 120=⟨[],.asis,none,false⟩:=by unfold modes; rfl
theorem Qaz (xs:List ByteArray) (n:ByteArray) (hl:xs.length≤1099511627776):E 120 [.arr (xs.map fun s=>[D.str s]),.str n] []=some (.bool (dec (n∈xs)),[]):=by
 refine Al Sh Jx (of_decide_eq_true rfl) ?_
 simp (disch:=omega) only [MD,go_sem,Ab]
 refine go_loop (α:=Int) (fun a=>⟨slots 18 0 [(0,.arr (xs.map fun s=>[D.str s])),(1,.str n),(5,.int .i64 a)],[]⟩) (fun a=>∃ k:Nat,a=k∧k≤(xs).length∧dec (n∈xs.drop k)=dec (n∈xs)) (fun a=>(xs).length-(a).toNat) 0 ⟨0,rfl,zP _,by rw [zT]⟩ (by simp (disch:=omega) only [go_sem,Ab]) ?_
 rintro i ⟨k,hi,hk,hR⟩
 have hni:i.toNat=k:=by omega
 have hni1:(i+1).toNat=k+1:=by omega
 rcases zM k (xs).length with hlt | hge
 ·have hg:=get_at (fun s=>[D.str s]) hlt
  rw [zG hlt] at hR
  by_cases hp:xs[k]=n
  ·have hq:=eq_true hp
   have ht:dec (n∈xs)=true:=Aw (hp▸zQ hlt)
   simp (disch:=omega) only [go_sem,Ab,hni,hg,hq]
   exact ht.symm
  ·have hq:=eq_false hp
   have hR:dec (n∈xs.drop (k+1))=dec (n∈xs):=by
    rw [←hR]
    exact Qan (by simp only [List.mem_cons]; exact ⟨.inr,fun h=>h.elim (fun e=>absurd e.symm hp) id⟩)
   simp (disch:=omega) only [go_sem,Ab,hni,hg,hq]
   exact ⟨i+1,⟨k+1,by omega,hlt,hR⟩,by omega,by first | trivial | rfl⟩
 ·rw [zJ hge,Aj (by simp)] at hR
  simp (disch:=omega) only [go_sem,Ab,hni]
  exact hR
def FI:SC:=(.seq (.reg [⟨some 4,none,.boxv 33 5 (.t 1)⟩,⟨some 6,none,.mv (.c .nil)⟩]) (.seq (.seq (.reg [⟨some 10,none,.faddr 0 (.t 4)⟩,⟨some 11,none,.load false 1 (.t 10)⟩,⟨some 12,none,.bin .eql false (.t 11) (.c (.int .i64 3))⟩]) (.cond (.t 12) (.seq (.reg [⟨some 13,none,.faddr 1 (.t 4)⟩,⟨some 14,none,.load true 2 (.t 13)⟩,⟨some 15,none,.call 119 [(.t 14)]⟩,⟨some 7,none,.mv (.t 15)⟩]) (.seq (.reg [⟨some 8,none,.mv (.c (.int .i64 0))⟩]) (.block 0 (.loop [1,0,1,0,1,0,0,1,1,0,0,0,0,0,0,0,0,0,0,0,0,0,0,0,0,0,0,0,0,0,0,0,0,0,0,0,0,0,0,0,0,0,0,0,0,0,0,0,0,0,0,0,0,0,0,0,0,0,0,0,0,0,0,0,0,0] (.seq (.seq (.reg [⟨some 16,none,.mv (.t 8)⟩,⟨some 17,none,.mv (.t 7)⟩,⟨some 18,none,.len false (.t 17)⟩,⟨some 19,none,.bin .lss false (.t 16) (.t 18)⟩]) (.cond (.t 19) .skip (.exit 0))) (.seq (.block 1 (.seq (.reg [⟨some 22,none,.mv (.t 2)⟩,⟨some 23,none,.mv (.t 7)⟩,⟨some 24,none,.mv (.t 8)⟩,⟨some 25,none,.iaddr 1 (.t 23) (.t 24)⟩,⟨some 26,none,.load false 1 (.t 25)⟩,⟨some 27,none,.call 120 [(.t 22),(.t 26)]⟩,⟨some 28,none,.un .not (.t 27)⟩]) (.cond (.t 28) (.reg [⟨some 29,none,.mv (.t 0)⟩,⟨some 30,none,.mv (.t 7)⟩,⟨some 31,none,.mv (.t 8)⟩,⟨some 32,none,.iaddr 1 (.t 30) (.t 31)⟩,⟨some 33,none,.load false 1 (.t 32)⟩,⟨some 34,none,.call 121 [(.t 29),(.t 33)]⟩,⟨some 0,none,.mv (.t 34)⟩]) .skip))) (.reg [⟨some 20,none,.mv (.t 8)⟩,⟨some 21,none,.bin .add false (.t 20) (.c (.int .i64 1))⟩,⟨some 8,none,.mv (.t 21)⟩]))))))) .skip)) (.seq (.seq (.reg [⟨some 35,none,.faddr 0 (.t 4)⟩,⟨some 36,none,.load false 1 (.t 35)⟩,⟨some 37,none,.bin .eql false (.t 36) (.c (.int .i64 8))⟩,⟨some 38,none,.mv (.t 37)⟩,⟨(some 39),(some (38,false)),(.faddr 0 (.t 4))⟩,⟨(some 40),(some (38,false)),(.load false 1 (.t 39))⟩,⟨(some 41),(some (38,false)),(.bin .eql false (.t 40) (.c (.int .i64 9)))⟩,⟨some 42,none,.pick (.t 38) (.c (.bool true)) (.t 41)⟩]) (.cond (.t 42) (.dreg [[],[],[0,1],[],[3],[4,3],[2,0,1,5,4,3],[6,2,0,1,5,4,3]] [⟨(some 43),none,(.mkrow 9 1 [(.str ⟨#[]⟩)] 0 [])⟩,⟨some 44,none,.mv (.t 2)⟩,⟨(some 45),none,(.append 9 1 16 [(.str ⟨#[]⟩)] (.t 43) (.t 44))⟩,⟨some 46,none,.faddr 3 (.t 4)⟩,⟨some 47,none,.load false 1 (.t 46)⟩,⟨(some 48),none,(.mkrow 9 1 [(.str ⟨#[]⟩)] 1 [(0,(.t 47))])⟩,⟨(some 49),none,(.append 9 1 16 [(.str ⟨#[]⟩)] (.t 45) (.t 48))⟩,⟨some 2,none,.mv (.t 49)⟩]) .skip)) (.seq (.seq (.reg [⟨some 9,none,.mv (.c (.int .i64 0))⟩]) (.block 2 (.loop [1,0,1,0,1,0,0,0,0,1,0,0,0,0,0,0,0,0,0,0,0,0,0,0,0,0,0,0,0,0,0,0,0,0,0,0,0,0,0,0,0,0,0,0,0,0,0,0,0,0,0,0,0,0,0,0,0,0,0,0,0,0,0,0,0,0] (.seq (.seq (.reg [⟨some 50,none,.mv (.t 9)⟩,⟨some 51,none,.faddr 4 (.t 4)⟩,⟨some 52,none,.load false 1 (.t 51)⟩,⟨some 53,none,.len false (.t 52)⟩,⟨some 54,none,.bin .lss false (.t 50) (.t 53)⟩]) (.cond (.t 54) .skip (.exit 2))) (.seq (.block 3 (.reg [⟨some 57,none,.mv (.t 0)⟩,⟨some 58,none,.faddr 4 (.t 4)⟩,⟨some 59,none,.load false 1 (.t 58)⟩,⟨some 60,none,.mv (.t 9)⟩,⟨some 61,none,.iaddr 5 (.t 59) (.t 60)⟩,⟨some 62,none,.load true 5 (.t 61)⟩,⟨some 63,none,.mv (.t 2)⟩,⟨some 64,none,.call 101 [(.t 57),(.t 62),(.t 63)]⟩,⟨some 0,none,.mv (.t 64)⟩])) (.reg [⟨some 55,none,.mv (.t 9)⟩,⟨some 56,none,.bin .add false (.t 55) (.c (.int .i64 1))⟩,⟨some 9,none,.mv (.t 56)⟩])))))) (.seq (.reg [⟨some 65,none,.mv (.t 0)⟩,⟨some 6,none,.mv (.t 65)⟩]) .ret)))))
theorem H8:Aq Tryz.prog 101=some ⟨66,FI,[(.tmp 6)]⟩:=by kernel_rfl
theorem DR:modes 101=⟨[],.asis,none,false⟩:=by unfold modes; rfl
def Kk:SC:=(.seq (.reg [⟨some 1,none,.boxv 33 5 (.t 0)⟩,⟨some 2,none,.mv (.c .nil)⟩]) (.seq (.reg [⟨(some 3),none,(.mkrow 9 1 [(.str ⟨#[]⟩)] 0 [])⟩,⟨some 4,none,.load true 5 (.t 1)⟩,⟨(some 5),none,(.mkrow 9 1 [(.str ⟨#[]⟩)] 0 [])⟩,⟨some 6,none,.call 101 [(.t 3),(.t 4),(.t 5)]⟩,⟨some 2,none,.mv (.t 6)⟩]) .ret))
theorem OS:Aq Tryz.prog 71=some ⟨7,Kk,[(.tmp 2)]⟩:=by kernel_rfl
theorem Kl:modes 71=⟨[],.asis,none,false⟩:=by unfold modes; rfl
theorem Si (b acc:List ByteArray) (n:ByteArray) (ns:List ByteArray):DF acc ((n :: ns).filter fun m=>!dec (m∈b))=DF (bif dec (n∈b) then acc else Fp acc n) (ns.filter fun m=>!dec (m∈b)):=by
 rw [yD]
 cases dec (n∈b) with
 | true=>rfl
 | false=>rfl
abbrev Qa0 (x:Fm):Prop:=∀ l b:List ByteArray,l.length+x.vn≤1048576→b.length+x.nodes≤1048576→E 101 [.arr (l.map fun s=>[D.str s]),x.sv,.arr (b.map fun s=>[D.str s])] []=some (.arr ((DF l (x.fv b)).map fun s=>[D.str s]),[])
theorem VC (x:Fm) (hx:x.forms=true) (ih:∀ y∈x.parts,Qa0 y):Qa0 x:=by
 intro l b hn hb
 have hfo:=Fm.Dq hx
 have hvn:=Fm.M9 x
 have hnd:=Fm.nodes_eq x
 have hpl:=Fm.length_le x.parts
 have hfv:=Fm.PI x b
 have hat:=Fm.Nh hfo
 have hxs:x.sv=.agg [.int .i64 x.op,.str x.atom.name,.arr (x.atom.args.map Tm.d),.str x.var,.arr (x.parts.map Fm.d)]:=rfl
 cases ho:dec (x.op=3) with
 | true =>
  rw [ho] at hfv
  simp only [cond_true] at hfv
  have ho3:=Ar.1 ho
  have hp0:=(Fm.F8 hfo ho3).1
  have o8:dec (x.op=8)=false:=Aj (by omega)
  have o9:dec (x.op=9)=false:=Aj (by omega)
  have hv:=Xf x.atom (by omega)
  have hil:=E9 x.atom.vs []
  have hvl:=Tm.KE x.atom
  simp only [zX] at hil
  obtain ⟨ns,hns⟩:∃ ns,ns=DF [] x.atom.vs:=⟨_,rfl⟩
  rw [←hns] at hv hfv hil
  rw [hfv]
  refine Al H8 DR (of_decide_eq_true rfl) ?_
  simp (disch:=omega) only [FI,go_sem,Ab,ho,hv,Kd]
  refine go_loop (α:=Int × (List ByteArray)) (fun a=>⟨slots 66 0 [(0,.arr ((a.2).map fun s=>[D.str s])),(2,.arr (b.map fun s=>[D.str s])),(4,.ptr 0 0),(7,.arr (ns.map fun s=>[D.str s])),(8,.int .i64 (a.1))],[.box 33 [.int .i64 x.op,.str x.atom.name,.arr (x.atom.args.map Tm.d),.str x.var,.arr (x.parts.map Fm.d)]]⟩) (fun a=>∃ k:Nat,a.1=k∧k≤(ns).length∧DF (a.2) ((ns.drop k).filter fun m=>!dec (m∈b))=DF l (ns.filter fun m=>!dec (m∈b))∧(a.2).length+(ns.length-k)≤1048576) (fun a=>(ns).length-(a.1).toNat) (0,l) ⟨0,rfl,zP _,by rw [zT],by dsimp only; omega⟩ (by simp (disch:=omega) only [go_sem,Ab]) ?_
  rintro ⟨i,acc⟩ ⟨k,hi,hk,hR⟩
  dsimp only at hi hR
  have hni:i.toNat=k:=by omega
  have hni1:(i+1).toNat=k+1:=by omega
  rcases zM k (ns).length with hlt | hge
  ·have hg:=get_at (fun s=>[D.str s]) hlt
   obtain ⟨hR1,hR2⟩:=hR
   rw [zG hlt,Si] at hR1
   have c1:=Qaz b ns[k] (by omega)
   have c2:=Uh acc ns[k] (by omega)
   have hul:=Ok acc ns[k]
   cases hq:dec (ns[k]∈b) with
   | true =>
    rw [hq] at c1 hR1
    simp only [cond_true] at hR1
    simp (disch:=omega) only [go_sem,Ab,hni,hg,c1,c2,Jx,Gs]
    exact ⟨(i+1,acc),⟨k+1,by dsimp only; omega,hlt,hR1,by dsimp only; omega⟩,by dsimp only; omega,by first | trivial | rfl⟩
   | false =>
    rw [hq] at c1 hR1
    simp only [cond_false] at hR1
    simp (disch:=omega) only [go_sem,Ab,hni,hg,c1,c2,Jx,Gs]
    exact ⟨(i+1,Fp acc ns[k]),⟨k+1,by dsimp only; omega,hlt,hR1,by dsimp only; omega⟩,by dsimp only; omega,by first | trivial | rfl⟩
  ·rw [zJ hge] at hR
   obtain ⟨hR1,hR2⟩:=hR
   have hR1:acc=_:=hR1
   rw [←hR1]
   simp (disch:=omega) only [go_sem,Ab,hni,o8,o9]
   refine go_loop (α:=Int) (fun a=>⟨slots 66 0 [(0,.arr (acc.map fun s=>[D.str s])),(2,.arr (b.map fun s=>[D.str s])),(4,.ptr 0 0),(9,.int .i64 a)],[.box 33 [.int .i64 x.op,.str x.atom.name,.arr (x.atom.args.map Tm.d),.str x.var,.arr (x.parts.map Fm.d)]]⟩) (fun a=>∃ k:Nat,a=k∧k≤(x.parts).length) (fun a=>(x.parts).length-(a).toNat) 0 ⟨0,rfl,zP _⟩ (by simp (disch:=omega) only [go_sem,Ab]) ?_
   rintro i ⟨k,hi,hk⟩
   have hni:i.toNat=k:=by omega
   have hni1:(i+1).toNat=k+1:=by omega
   rcases zM k (x.parts).length with hlt | hge
   ·rw [hp0] at hlt
    simp at hlt
   ·simp (disch:=omega) only [go_sem,Ab,hni]
 | false =>
  rw [ho] at hfv
  simp only [cond_false] at hfv
  cases o8:dec (x.op=8) <;> cases o9:dec (x.op=9)
  all_goals
   have hq:qB x.op=(dec (x.op=8) || dec (x.op=9)):=rfl
   rw [o8,o9] at hq
   simp only [Bool.or_self,Bool.or_true,Bool.or_false,Bool.true_or,Bool.false_or] at hq
   rw [hq] at hfv
   simp only [cond_true,cond_false] at hfv
   rw [hfv]
  ·obtain ⟨b',hb'⟩:∃ b',b'=b:=⟨_,rfl⟩
   have hbl:b'.length≤b.length+1:=by rw [hb']; omega
   rw [←hb']
   refine Al H8 DR (of_decide_eq_true rfl) ?_
   simp (disch:=omega) only [FI,go_sem,Ab,ho,o8,o9]
   refine go_loop (α:=Int × (List ByteArray)) (fun a=>⟨slots 66 0 [(0,.arr ((a.2).map fun s=>[D.str s])),(2,.arr (b'.map fun s=>[D.str s])),(4,.ptr 0 0),(9,.int .i64 (a.1))],[.box 33 [.int .i64 x.op,.str x.atom.name,.arr (x.atom.args.map Tm.d),.str x.var,.arr (x.parts.map Fm.d)]]⟩) (fun a=>∃ k:Nat,a.1=k∧k≤(x.parts).length∧DF (a.2) (Fm.fvL (x.parts.drop k) b')=DF l (Fm.fvL x.parts b')∧(a.2).length+Fm.vnS (x.parts.drop k)≤1048576) (fun a=>(x.parts).length-(a.1).toNat) (0,l) ⟨0,rfl,zP _,by rw [zT],by rw [zT]; dsimp only; omega⟩ (by simp (disch:=omega) only [go_sem,Ab]) ?_
   rintro ⟨i,acc⟩ ⟨k,hi,hk,hR⟩
   dsimp only at hi hR
   have hni:i.toNat=k:=by omega
   have hni1:(i+1).toNat=k+1:=by omega
   rcases zM k (x.parts).length with hlt | hge
   ·have hg:=get_at Fm.d hlt
    rw [Fm.d_eq] at hg
    obtain ⟨hR1,hR2⟩:=hR
    rw [zG hlt,Fm.fvL,On] at hR1
    rw [zG hlt,Fm.vnS] at hR2
    have hnm:=Fm.nodes_le x.parts k hlt
    have hc:=ih x.parts[k] (zQ hlt) acc b' (by omega) (by omega)
    have hlen:=E9 (x.parts[k].fv b') acc
    have hvl:=Fm.Ix x.parts[k] b'
    simp (disch:=omega) only [go_sem,Ab,hni,hg,hc,DR]
    exact ⟨(i+1,DF acc (x.parts[k].fv b')),⟨k+1,by dsimp only; omega,hlt,hR1,by dsimp only; omega⟩,by dsimp only; omega,by first | trivial | rfl⟩
   ·rw [zJ hge,Fm.fvL] at hR
    obtain ⟨hR1,hR2⟩:=hR
    have hR1:acc=_:=hR1
    rw [←hR1]
    simp (disch:=omega) only [go_sem,Ab,hni]
  all_goals
   have hbm:((b.map fun s=>[D.str s]).map fun x=>x.map D.ot)=b.map fun s=>[OT.str s]:=by rw [yO]; rfl
   have hal:=RO b
   have hal2:=Q7 b
   have hl1:(b.map fun s=>[OT.str s])++[[OT.str x.var]]=(b++[x.var]).map fun s=>[OT.str s]:=by simp
   obtain ⟨b',hb'⟩:∃ b',b'=b++[x.var]:=⟨_,rfl⟩
   have hbl:b'.length≤b.length+1:=by rw [hb']; simp
   rw [←hb'] at hl1
   rw [←hb']
   have hp1:x.parts.length=1:=by
    obtain ⟨_,p,hp⟩:=Fm.Of hfo hq
    rw [hp]; rfl
   have h10:((1:Int)=0)=False:=by simp
   refine Al H8 DR (of_decide_eq_true rfl) ?_
   simp (disch:=omega) only [FI,go_sem,Ab,ho,o8,o9,hbm,hal,hal2,hl1,yP]
   refine go_loop (α:=Int × (List ByteArray)) (fun a=>⟨slots 66 0 [(0,.arr ((a.2).map fun s=>[D.str s])),(2,(if (a.1)=0 then .ref 0 else .any)),(4,(if (a.1)=0 then .ptr 1 0 else .ptr 0 0)),(9,.int .i64 (a.1))],(if (a.1)=0 then [.row 9 1 (b'.map fun s=>[OT.str s]),.box 33 [.int .i64 x.op,.str x.atom.name,.arr (x.atom.args.map Tm.d),.str x.var,.arr (x.parts.map Fm.d)]] else [.box 33 [.int .i64 x.op,.str x.atom.name,.arr (x.atom.args.map Tm.d),.str x.var,.arr (x.parts.map Fm.d)]])⟩) (fun a=>∃ k:Nat,a.1=k∧k≤(x.parts).length∧DF (a.2) (Fm.fvL (x.parts.drop k) b')=DF l (Fm.fvL x.parts b')∧(a.2).length+Fm.vnS (x.parts.drop k)≤1048576) (fun a=>(x.parts).length-(a.1).toNat) (0,l) ⟨0,rfl,zP _,by rw [zT],by rw [zT]; dsimp only; omega⟩ (by simp (disch:=omega) only [go_sem,Ab,eq_self,if_true]) ?_
   rintro ⟨i,acc⟩ ⟨k,hi,hk,hR⟩
   dsimp only at hi hR
   have hni:i.toNat=k:=by omega
   have hni1:(i+1).toNat=k+1:=by omega
   rcases zM k (x.parts).length with hlt | hge
   ·have hg:=get_at Fm.d hlt
    rw [Fm.d_eq] at hg
    obtain rfl:k=0:=by omega
    obtain rfl:i=0:=by omega
    obtain ⟨hR1,hR2⟩:=hR
    rw [zG hlt,Fm.fvL,On] at hR1
    rw [zG hlt,Fm.vnS] at hR2
    rw [Nat.zero_add] at hR1 hR2
    have hnm:=Fm.nodes_le x.parts 0 hlt
    have hc:=ih x.parts[0] (zQ hlt) acc b' (by omega) (by omega)
    have hlen:=E9 (x.parts[0].fv b') acc
    have hvl:=Fm.Ix x.parts[0] b'
    simp (disch:=omega) only [go_sem,Ab,hni,hg,hc,DR,eq_self,if_true]
    refine ⟨(1,DF acc (x.parts[0].fv b')),⟨1,rfl,hlt,hR1,by dsimp only; omega⟩,by dsimp only; omega,?_⟩
    simp (disch:=omega) only [go_sem,Ab,h10,if_false]
   ·rw [zJ hge,Fm.fvL] at hR
    obtain ⟨hR1,hR2⟩:=hR
    have hR1:acc=_:=hR1
    rw [←hR1]
    have hi0:(i=0)=False:=by simp; omega
    simp (disch:=omega) only [go_sem,Ab,hni,hi0,if_false]
theorem Sj (x:Fm) (hx:x.forms=true):Qa0 x :=
 VC x hx fun y hy=>Sj y (Fm.C1 hx hy)
termination_by SizeOf.sizeOf x
decreasing_by exact Fm.lt_of_mem hy
theorem XC (x:Fm) (hx:x.forms=true) (hv:x.vn≤1048576) (hn:x.nodes≤1048576):E 71 [x.sv] []=some (.arr (x.free.map fun s=>[D.str s]),[]):=by
 have h1:=Sj x hx [] [] (by simpa using hv) (by simpa using hn)
 rw [zK] at h1
 unfold Fm.free
 have hxs:x.sv=.agg [.int .i64 x.op,.str x.atom.name,.arr (x.atom.args.map Tm.d),.str x.var,.arr (x.parts.map Fm.d)]:=rfl
 refine Al OS Kl (of_decide_eq_true rfl) ?_
 simp (disch:=omega) only [Kk,go_sem,Ab,h1,DR]
theorem XD (x:Tm) (hn:x.nodes≤1099511627776) (ih:∀ y∈x.args,E 100 [y.sv] []=some (y.sv,[])):E 100 [x.sv] []=some (x.sv,[]):=by
 have hl:=Tm.length_le x.args
 have hne:=Tm.nodes_eq x
 have h10:((1:Int)=0)=False:=by simp
 have hfu:=Tm.osh_full x.args
 have her:=Tm.osh_er x.args
 refine Al Qv Gp (of_decide_eq_true rfl) ?_
 simp (disch:=omega) only [Ld,go_sem,Ab]
 refine go_loop (α:=Int) (fun a=>⟨slots 27 0 [(1,.ptr 0 0),(2,.ptr 1 0),(3,.ptr 2 0),(4,.int .i64 a)],(if a=0 then [.box 30 [.str x.name,.arr (x.args.map Tm.d)],.box 30 [.str ⟨#[]⟩,.nil],.box 30 [.str x.name,.nil]] else [.box 30 [.str x.name,.arr (x.args.map Tm.d)],.box 30 [.str ⟨#[]⟩,.nil],.box 30 [.str x.name,.ref 3],.row 30 2 ((x.args.take a.toNat).map Tm.osh)])⟩) (fun a=>∃ k:Nat,a=k∧k≤(x.args).length) (fun a=>(x.args).length-(a).toNat) 0 ⟨0,rfl,zP _⟩ (by simp (disch:=omega) only [go_sem,Ab,eq_self,if_true]) ?_
 rintro i ⟨k,hi,hk⟩
 have hni:i.toNat=k:=by omega
 have hni1:(i+1).toNat=k+1:=by omega
 rcases zM k (x.args).length with hlt | hge
 ·have hg:=get_at Tm.d hlt
  rw [Tm.d_eq] at hg
  have hc:=ih x.args[k] (zQ hlt)
  have hs:=NU Tm.osh hlt
  rw [Tm.osh_eq] at hs
  rcases zN k with h0 | h0
  ·subst h0
   obtain rfl:i=0:=hi
   rw [yT,zK,yP] at hs
   simp (disch:=omega) only [go_sem,Ab,hni,hg,hc,Gp,eq_self,if_true]
   refine ⟨1,⟨1,rfl,hlt⟩,by omega,?_⟩
   simp (disch:=omega) only [go_sem,Ab,h10,if_false,hs]
  ·have hi0:(i=0)=False:=by simp; omega
   have hi1:(i+1=0)=False:=by simp; omega
   have htl:(x.args.take k).length=k:=by rw [yK]; omega
   simp (disch:=omega) only [go_sem,Ab,hni,hg,hc,Gp,hi0,if_false,htl]
   refine ⟨i+1,⟨k+1,by omega,hlt⟩,by omega,?_⟩
   simp (disch:=omega) only [go_sem,Ab,hni1,hi1,if_false,hs]
 ·obtain rfl:k=x.args.length:=by omega
  have ht:x.args.take x.args.length=x.args:=yL
  rcases zN x.args.length with h0 | h0
  ·have hx:x.args=[]:=zW h0
   obtain rfl:i=0:=by omega
   simp (disch:=omega) only [go_sem,Ab,hni,hx,eq_self,if_true,zK,zX]
  ·have hi0:(i=0)=False:=by simp; omega
   simp (disch:=omega) only [go_sem,Ab,hni,hi0,if_false,ht,hfu,her]
theorem Ux (x:Tm) (hn:x.nodes≤1099511627776):E 100 [x.sv] []=some (x.sv,[]) :=
 XD x hn fun y hy=>Ux y (by have:=Tm.nodes_mem hy; have:=Tm.nodes_eq x; omega)
termination_by SizeOf.sizeOf x
decreasing_by exact Tm.lt_of_mem hy
def Fm.osh (x:Fm):List OT:=[.int x.op,.str x.atom.name,.sh (x.atom.args.map Tm.d),.str x.var,.sh (x.parts.map Fm.d)]
theorem Fm.osh_eq (x:Fm):x.osh=[.int x.op,.str x.atom.name,.sh (x.atom.args.map Tm.d),.str x.var,.sh (x.parts.map Fm.d)]:=rfl
theorem Fm.osh_full:∀ xs:List Fm,OT.AC (xs.map Fm.osh)=true
 | []=>rfl
 | x :: xs=>by simp only [zH,OT.AC,Fm.osh,OT.CN,OT.full,Fm.osh_full xs,z6]
theorem Fm.osh_er:∀ xs:List Fm,OT.erss (xs.map Fm.osh)=xs.map Fm.d
 | []=>rfl
 | x :: xs=>by simp only [zH,OT.erss,Fm.osh,OT.ers,OT.er,Fm.osh_er xs,Fm.d_eq]
def L4:SC:=(.seq (.reg [⟨some 1,none,.boxv 33 5 (.t 0)⟩,⟨(some 2),none,(.alloc 33 [(.int .i64 0),(.str ⟨#[]⟩),.nil,(.str ⟨#[]⟩),.nil])⟩]) (.seq (.dreg [[],[0],[],[2],[3,2],[],[5],[1,0,4,3,2,6,5],[],[8,7,1,0,4,3,2,6,5]] [⟨some 5,none,.faddr 0 (.t 1)⟩,⟨some 6,none,.load false 1 (.t 5)⟩,⟨some 7,none,.faddr 1 (.t 1)⟩,⟨some 8,none,.load true 2 (.t 7)⟩,⟨some 9,none,.call 100 [(.t 8)]⟩,⟨some 10,none,.faddr 3 (.t 1)⟩,⟨some 11,none,.load false 1 (.t 10)⟩,⟨(some 12),none,(.build [(.int .i64 0),(.str ⟨#[]⟩),.nil,(.str ⟨#[]⟩),.nil] [(0,(1,(.t 6))),(1,(2,(.t 9))),(3,(1,(.t 11)))])⟩,⟨(some 3),none,(.alloc 33 [(.int .i64 0),(.str ⟨#[]⟩),.nil,(.str ⟨#[]⟩),.nil])⟩,⟨none,none,(.store 5 (.t 3) (.t 12))⟩]) (.seq (.seq (.reg [⟨some 4,none,.mv (.c (.int .i64 0))⟩]) (.block 0 (.loop [0,1,1,1,1,0,0,0,0,0,0,0,0,0,0,0,0,0,0,0,0,0,0,0,0,0,0,0,0,0,0,0] (.seq (.seq (.reg [⟨some 13,none,.mv (.t 4)⟩,⟨some 14,none,.faddr 4 (.t 1)⟩,⟨some 15,none,.load false 1 (.t 14)⟩,⟨some 16,none,.len false (.t 15)⟩,⟨some 17,none,.bin .lss false (.t 13) (.t 16)⟩]) (.cond (.t 17) .skip (.exit 0))) (.seq (.block 1 (.dreg [[],[0],[],[2],[],[3,2,4],[5,3,2,4],[6,5,3,2,4],[7,6,5,3,2,4],[1,0,8,7,6,5,3,2,4],[0,1,2,3,4,5,6,7,8,9],[10,0,1,2,3,4,5,6,7,8,9]] [⟨some 20,none,.faddr 4 (.t 3)⟩,⟨some 21,none,.load false 1 (.t 20)⟩,⟨some 22,none,.faddr 4 (.t 1)⟩,⟨some 23,none,.load false 1 (.t 22)⟩,⟨some 24,none,.mv (.t 4)⟩,⟨some 25,none,.iaddr 5 (.t 23) (.t 24)⟩,⟨some 26,none,.load true 5 (.t 25)⟩,⟨some 27,none,.call 70 [(.t 26)]⟩,⟨(some 28),none,(.mkrow 33 5 [(.int .i64 0),(.str ⟨#[]⟩),.nil,(.str ⟨#[]⟩),.nil] 1 [(0,(.t 27))])⟩,⟨(some 29),none,(.append 33 5 88 [(.int .i64 0),(.str ⟨#[]⟩),.nil,(.str ⟨#[]⟩),.nil] (.t 21) (.t 28))⟩,⟨some 30,none,.faddr 4 (.t 3)⟩,⟨none,none,(.store 1 (.t 30) (.t 29))⟩])) (.reg [⟨some 18,none,.mv (.t 4)⟩,⟨some 19,none,.bin .add false (.t 18) (.c (.int .i64 1))⟩,⟨some 4,none,.mv (.t 19)⟩])))))) (.seq (.reg [⟨some 31,none,.load true 5 (.t 3)⟩,⟨none,none,(.store 5 (.t 2) (.t 31))⟩]) .ret))))
theorem QD:Aq Tryz.prog 70=some ⟨32,L4,[(.cell 2 true 5)]⟩:=by kernel_rfl
theorem Gv:modes 70=⟨[],.frz,none,false⟩:=by unfold modes; rfl
theorem XE (x:Fm) (ht:x.tame) (hn:x.nodes≤1099511627776) (ih:∀ y∈x.parts,E 70 [y.sv] []=some (y.sv,[])):E 70 [x.sv] []=some (x.sv,[]):=by
 have hx0:=Fm.nodes_eq x
 have hl:=Fm.length_le x.parts
 have hat:=Fm.Lv ht
 have hct:=Ux x.atom (by omega)
 have h10:((1:Int)=0)=False:=by simp
 have hfu:=Fm.osh_full x.parts
 have her:=Fm.osh_er x.parts
 refine Al QD Gv (of_decide_eq_true rfl) ?_
 simp (disch:=omega) only [L4,go_sem,Ab,hct,Gp]
 refine go_loop (α:=Int) (fun a=>⟨slots 32 0 [(1,.ptr 0 0),(2,.ptr 1 0),(3,.ptr 2 0),(4,.int .i64 a)],(if a=0 then [.box 33 [.int .i64 x.op,.str x.atom.name,.arr (x.atom.args.map Tm.d),.str x.var,.arr (x.parts.map Fm.d)],.box 33 [.int .i64 0,.str ⟨#[]⟩,.nil,.str ⟨#[]⟩,.nil],.box 33 [.int .i64 x.op,.str x.atom.name,.arr (x.atom.args.map Tm.d),.str x.var,.nil]] else [.box 33 [.int .i64 x.op,.str x.atom.name,.arr (x.atom.args.map Tm.d),.str x.var,.arr (x.parts.map Fm.d)],.box 33 [.int .i64 0,.str ⟨#[]⟩,.nil,.str ⟨#[]⟩,.nil],.box 33 [.int .i64 x.op,.str x.atom.name,.arr (x.atom.args.map Tm.d),.str x.var,.ref 3],.row 33 5 ((x.parts.take a.toNat).map Fm.osh)])⟩) (fun a=>∃ k:Nat,a=k∧k≤(x.parts).length) (fun a=>(x.parts).length-(a).toNat) 0 ⟨0,rfl,zP _⟩ (by simp (disch:=omega) only [go_sem,Ab,eq_self,if_true]) ?_
 rintro i ⟨k,hi,hk⟩
 have hni:i.toNat=k:=by omega
 have hni1:(i+1).toNat=k+1:=by omega
 rcases zM k (x.parts).length with hlt | hge
 ·have hg:=get_at Fm.d hlt
  rw [Fm.d_eq] at hg
  have hc:=ih x.parts[k] (zQ hlt)
  have hs:=NU Fm.osh hlt
  rw [Fm.osh_eq] at hs
  rcases zN k with h0 | h0
  ·subst h0
   obtain rfl:i=0:=hi
   rw [yT,zK,yP] at hs
   simp (disch:=omega) only [go_sem,Ab,hni,hg,hc,Gv,eq_self,if_true]
   refine ⟨1,⟨1,rfl,hlt⟩,by omega,?_⟩
   simp (disch:=omega) only [go_sem,Ab,h10,if_false,hs]
  ·have hi0:(i=0)=False:=by simp; omega
   have hi1:(i+1=0)=False:=by simp; omega
   have htl:(x.parts.take k).length=k:=by rw [yK]; omega
   simp (disch:=omega) only [go_sem,Ab,hni,hg,hc,Gv,hi0,if_false,htl]
   refine ⟨i+1,⟨k+1,by omega,hlt⟩,by omega,?_⟩
   simp (disch:=omega) only [go_sem,Ab,hni1,hi1,if_false,hs]
 ·obtain rfl:k=x.parts.length:=by omega
  have ht2:x.parts.take x.parts.length=x.parts:=yL
  rcases zN x.parts.length with h0 | h0
  ·have hx:x.parts=[]:=zW h0
   obtain rfl:i=0:=by omega
   simp (disch:=omega) only [go_sem,Ab,hni,hx,eq_self,if_true,zK,zX]
  ·have hi0:(i=0)=False:=by simp; omega
   simp (disch:=omega) only [go_sem,Ab,hni,hi0,if_false,ht2,hfu,her]
theorem Uy (x:Fm) (ht:x.tame) (hn:x.nodes≤1099511627776):E 70 [x.sv] []=some (x.sv,[]) :=
 XE x ht hn fun y hy=>Uy y (Fm.Ma ht hy) (by have:=Fm.nodes_mem hy; have:=Fm.nodes_eq x; omega)
termination_by SizeOf.sizeOf x
decreasing_by exact Fm.lt_of_mem hy
theorem Fm.Sk (x:Fm):x.free.length≤x.vn:=by
 have h2:=E9 (x.fv []) []
 have h3:=Fm.Ix x []
 simp only [zX] at h2
 show (DF [] (x.fv [])).length≤_
 omega
theorem Fm.O4 (n:ByteArray) (ns:List ByteArray) (x:Fm):Fm.cls (n :: ns) x=.all n (Fm.cls ns x):=rfl
theorem Fm.PT (x:Fm):∀ ns,(Fm.cls ns x).nodes=ns.length+x.nodes
 | []=>by show x.nodes=0+x.nodes; omega
 | n :: ns=>by
  rw [Fm.O4,Fm.nodes_eq]
  show 1+Fm.nodeS [Fm.cls ns x]=_
  rw [Fm.nodeS,Fm.nodeS,Fm.PT x ns,yJ]; omega
theorem Fm.Sl {x:Fm} (h:x.tame):∀ ns,(Fm.cls ns x).tame
 | []=>h
 | n :: ns=>by
  rw [Fm.O4,Fm.It]
  refine ⟨?_,?_⟩
  ·show (Tm.mk ⟨#[]⟩ []).nodes≤_
   rw [Tm.nodes_eq]; show 1+Tm.nodeS []≤_; rw [Tm.nodeS]; omega
  ·show Fm.D9 [Fm.cls ns x]
   rw [Fm.D9,Fm.D9]; exact ⟨Fm.Sl h ns,trivial⟩
noncomputable def VD (x:Fm):Fm:=Fm.cls x.free x
noncomputable def PU (x:Fm):Bool:=x.valid&&(VD x).valid
noncomputable def PV (x:Fm):Fm:=bif PU x then VD x else Fm.zero
def Jy:SC:=(.seq (.reg [⟨some 1,none,.boxv 33 5 (.t 0)⟩,⟨(some 2),none,(.alloc 33 [(.int .i64 0),(.str ⟨#[]⟩),.nil,(.str ⟨#[]⟩),.nil])⟩]) (.seq (.reg [⟨some 6,none,.load true 5 (.t 1)⟩,⟨some 7,none,.call 70 [(.t 6)]⟩,⟨(some 3),none,(.alloc 33 [(.int .i64 0),(.str ⟨#[]⟩),.nil,(.str ⟨#[]⟩),.nil])⟩,⟨none,none,(.store 5 (.t 3) (.t 7))⟩]) (.seq (.reg [⟨some 8,none,.load true 5 (.t 1)⟩,⟨some 9,none,.call 71 [(.t 8)]⟩,⟨some 4,none,.mv (.t 9)⟩]) (.seq (.seq (.reg [⟨some 10,none,.mv (.t 4)⟩,⟨some 11,none,.len false (.t 10)⟩,⟨some 12,none,.bin .sub false (.t 11) (.c (.int .i64 1))⟩,⟨some 5,none,.mv (.t 12)⟩]) (.block 0 (.loop [0,0,1,1,1,1,0,0,0,0,0,0,0,0,0,0,0,0,0,0,0,0,0,0,0] (.seq (.seq (.reg [⟨some 13,none,.mv (.t 5)⟩,⟨some 14,none,.bin .geq false (.t 13) (.c (.int .i64 0))⟩]) (.cond (.t 14) .skip (.exit 0))) (.seq (.block 1 (.dreg [[],[],[0,1],[2,0,1],[],[4],[3,2,0,1,5,4],[6,3,2,0,1,5,4]] [⟨some 17,none,.mv (.t 4)⟩,⟨some 18,none,.mv (.t 5)⟩,⟨some 19,none,.iaddr 1 (.t 17) (.t 18)⟩,⟨some 20,none,.load false 1 (.t 19)⟩,⟨some 21,none,.load true 5 (.t 3)⟩,⟨(some 22),none,(.mkrow 33 5 [(.int .i64 0),(.str ⟨#[]⟩),.nil,(.str ⟨#[]⟩),.nil] 1 [(0,(.t 21))])⟩,⟨(some 23),none,(.build [(.int .i64 0),(.str ⟨#[]⟩),.nil,(.str ⟨#[]⟩),.nil] [(0,(1,(.c (.int .i64 8)))),(3,(1,(.t 20))),(4,(1,(.t 22)))])⟩,⟨none,none,(.store 5 (.t 3) (.t 23))⟩])) (.reg [⟨some 15,none,.mv (.t 5)⟩,⟨some 16,none,.bin .sub false (.t 15) (.c (.int .i64 1))⟩,⟨some 5,none,.mv (.t 16)⟩])))))) (.seq (.reg [⟨some 24,none,.load true 5 (.t 3)⟩,⟨none,none,(.store 5 (.t 2) (.t 24))⟩]) .ret)))))
theorem O5:Aq Tryz.prog 34=some ⟨25,Jy,[(.cell 2 true 5)]⟩:=by kernel_rfl
theorem GT:modes 34=⟨[],.frz,none,false⟩:=by unfold modes; rfl
def clo:List ByteArray→Fm→List OT
 | [],x=>x.osh
 | n :: ns,x=>[.int 8,.str ⟨#[]⟩,.ow [],.str n,.ow [clo ns x]]
theorem Sm (x:Fm):∀ ns,OT.CN (clo ns x)=true
 | []=>by simp only [clo,Fm.osh,OT.CN,OT.full,z6]
 | n :: ns=>by simp only [clo,OT.CN,OT.full,OT.AC,Sm x ns,z6]
theorem XF (x:Fm):∀ ns,OT.ers (clo ns x)=(Fm.cls ns x).d
 | []=>by
  show OT.ers x.osh=x.d
  rw [Fm.d_eq,Fm.osh_eq]
  simp only [OT.ers,OT.er]
 | n :: ns=>by
  rw [Fm.O4,Fm.d_eq,clo]
  simp only [OT.ers,OT.er,OT.erss,XF x ns]
  rfl
theorem Zm {ns:List ByteArray} {k:Nat} (h:k<ns.length) (x:Fm):[.int 8,.str ⟨#[]⟩,.ow [],.str (ns.getD k ⟨#[]⟩),.ow [clo (ns.drop (k+1)) x]]=clo (ns.drop k) x:=by
 rw [zG h,clo,yH,zO h]
 rfl
theorem VE (x:Fm) (hx:x.forms=true) (hn:x.nodes≤1048576) (hv:x.vn≤1048576):E 34 [x.sv] []=some ((VD x).sv,[]):=by
 have h1:=Uy x (Fm.KD x hx) (by omega)
 have h2:=XC x hx hv hn
 have hfl:=Fm.Sk x
 have hxs:x.sv=.agg [.int .i64 x.op,.str x.atom.name,.arr (x.atom.args.map Tm.d),.str x.var,.arr (x.parts.map Fm.d)]:=rfl
 unfold VD
 obtain ⟨ns,hns⟩:∃ ns,ns=x.free:=⟨_,rfl⟩
 rw [←hns] at h2 hfl ⊢
 refine Al O5 GT (of_decide_eq_true rfl) ?_
 simp (disch:=omega) only [Jy,go_sem,Ab,h1,h2,Gv,Kl]
 refine go_loop (α:=Nat) (fun k=>⟨slots 25 0 [(2,.ptr 0 0),(3,.ptr 1 0),(4,.arr (ns.map fun s=>[D.str s])),(5,.int .i64 ((k:Int)-1))],(if k=ns.length then [.box 33 [.int .i64 0,.str ⟨#[]⟩,.nil,.str ⟨#[]⟩,.nil],.box 33 [.int .i64 x.op,.str x.atom.name,.arr (x.atom.args.map Tm.d),.str x.var,.arr (x.parts.map Fm.d)]] else [.box 33 [.int .i64 0,.str ⟨#[]⟩,.nil,.str ⟨#[]⟩,.nil],.box 33 [.int .i64 8,.str ⟨#[]⟩,.nil,.str (ns.getD k ⟨#[]⟩),.ref 2],.row 33 5 [clo (ns.drop (k+1)) x]])⟩) (fun k=>k≤ns.length) (fun k=>k) ns.length (yQ _) (by simp (disch:=omega) only [go_sem,Ab,eq_self,if_true]) ?_
 intro k hk
 rcases zN k with h0 | h0
 ·subst h0
  have q1:(((0:Nat):Int)-1<0)=True:=eq_true (by omega)
  have q2:(0≤((0:Nat):Int)-1)=False:=eq_false (by omega)
  rcases zN ns.length with hl | hl
  ·have hnil:ns=[]:=zW hl
   have hl':(0=ns.length)=True:=eq_true hl.symm
   have e1:(Fm.cls ns x).sv=x.sv:=by rw [hnil]; rfl
   rw [e1]
   simp (disch:=omega) only [go_sem,Ab,q1,q2,hl',if_true]
  ·have hl':(0=ns.length)=False:=eq_false (by omega)
   have e1:(Fm.cls ns x).sv=.agg [.int .i64 8,.str ⟨#[]⟩,.arr [],.str (ns.getD 0 ⟨#[]⟩),.arr [OT.ers (clo (ns.drop 1) x)]]:=by
    rw [XF]
    obtain ⟨n,r,rfl⟩:∃ n r,ns=n :: r:=by
     cases ns with
     | nil=>simp at hl
     | cons n r=>exact ⟨n,r,rfl⟩
    rfl
   have e2:=Sm x (ns.drop 1)
   rw [e1]
   simp (disch:=omega) only [go_sem,Ab,q1,q2,hl',if_false,e2]
 ·obtain ⟨k,rfl⟩:∃ k',k=k'+1:=⟨k-1,by omega⟩
  have hlt:k<ns.length:=by omega
  have hni:(((k+1:Nat):Int)-1).toNat=k:=by omega
  have q2:(0≤((k+1:Nat):Int)-1)=True:=eq_true (by omega)
  have hg:(ns.map fun s=>[D.str s])[k]?=some [D.str (ns.getD k ⟨#[]⟩)]:=by
   rw [yC,zO hlt,yH,zO hlt]; rfl
  have hk':(k=ns.length)=False:=eq_false (by omega)
  have hb:((k+1:Nat):Int)-1<((ns.map fun s=>[D.str s]).length:Int):=by rw [zR]; omega
  have hii:((k+1:Nat):Int)-1-1=(k:Int)-1:=by omega
  by_cases hl:k+1=ns.length
  ·have hl':(k+1=ns.length)=True:=eq_true hl
   have hd:clo (ns.drop (k+1)) x=[.int x.op,.str x.atom.name,.sh (x.atom.args.map Tm.d),.str x.var,.sh (x.parts.map Fm.d)]:=by rw [zJ (by omega)]; rfl
   simp (disch:=omega) only [go_sem,Ab,q2,hl',if_true,if_false,hni,hg]
   refine ⟨k,by omega,by omega,?_⟩
   simp (disch:=omega) only [go_sem,Ab,hk',if_false,hd,hii]
  ·have hl':(k+1=ns.length)=False:=eq_false hl
   have hd:=Zm (show k+1<ns.length by omega) x
   simp (disch:=omega) only [go_sem,Ab,q2,hl',if_true,if_false,hni,hg]
   refine ⟨k,by omega,by omega,?_⟩
   simp (disch:=omega) only [go_sem,Ab,hk',if_false,hd,hii]
def Dv:SC:=(.seq (.reg [⟨some 1,none,.boxv 33 5 (.t 0)⟩,⟨(some 2),none,(.alloc 33 [(.int .i64 0),(.str ⟨#[]⟩),.nil,(.str ⟨#[]⟩),.nil])⟩,⟨some 3,none,.mv (.c (.bool false))⟩]) (.seq (.seq (.reg [⟨some 5,none,.load true 5 (.t 1)⟩,⟨some 6,none,.call 26 [(.t 5)]⟩,⟨some 7,none,.un .not (.t 6)⟩]) (.cond (.t 7) (.seq (.reg [⟨(some 8),none,(.build [(.int .i64 0),(.str ⟨#[]⟩),.nil,(.str ⟨#[]⟩),.nil] [])⟩,⟨none,none,(.store 5 (.t 2) (.t 8))⟩,⟨some 3,none,.mv (.c (.bool false))⟩]) .ret) .skip)) (.seq (.reg [⟨some 9,none,.load true 5 (.t 1)⟩,⟨some 10,none,.call 34 [(.t 9)]⟩,⟨(some 4),none,(.alloc 33 [(.int .i64 0),(.str ⟨#[]⟩),.nil,(.str ⟨#[]⟩),.nil])⟩,⟨none,none,(.store 5 (.t 4) (.t 10))⟩]) (.seq (.seq (.reg [⟨some 11,none,.load true 5 (.t 4)⟩,⟨some 12,none,.call 26 [(.t 11)]⟩,⟨some 13,none,.un .not (.t 12)⟩]) (.cond (.t 13) (.seq (.reg [⟨(some 14),none,(.build [(.int .i64 0),(.str ⟨#[]⟩),.nil,(.str ⟨#[]⟩),.nil] [])⟩,⟨none,none,(.store 5 (.t 2) (.t 14))⟩,⟨some 3,none,.mv (.c (.bool false))⟩]) .ret) .skip)) (.seq (.reg [⟨some 15,none,.load true 5 (.t 4)⟩,⟨none,none,(.store 5 (.t 2) (.t 15))⟩,⟨some 3,none,.mv (.c (.bool true))⟩]) .ret)))))
theorem E1:Aq Tryz.prog 13=some ⟨16,Dv,[(.cell 2 true 5),(.tmp 3)]⟩:=by kernel_rfl
theorem Bm:modes 13=⟨[],.frz,none,false⟩:=by unfold modes; rfl
theorem Mi (x:Fm) (hta:x.tame) (hn:x.nodes≤1099511627776):E 13 [x.sv] []=some (.tup [(PV x).sv,.bool (PU x)],[]):=by
 have h1:=Oz x hta hn
 have hz3:Fm.zero.sv=.agg [.int .i64 0,.str ⟨#[]⟩,.arr [],.str ⟨#[]⟩,.arr []]:=rfl
 unfold PV PU
 cases hv:x.valid with
 | false =>
  rw [hv] at h1
  rw [Bool.false_and,cond_false,hz3]
  refine Al E1 Bm (of_decide_eq_true rfl) ?_
  simp (disch:=omega) only [Dv,go_sem,Ab,h1,C5]
 | true =>
  rw [hv] at h1
  rw [Bool.true_and]
  obtain ⟨hva1,hva2⟩:=Jn hv
  have hvn:=Fm.Uk x hva2
  have hs:=VE x hva2 (by omega) (by omega)
  have hp1:=Fm.Sl hta x.free
  have hp2:=Fm.PT x x.free
  have hp3:=Fm.Sk x
  have e0:Fm.cls x.free x=VD x:=rfl
  rw [e0] at hp1 hp2
  generalize VD x=y at *
  have h3:=Oz y hp1 (by omega)
  have hys:y.sv=.agg [.int .i64 y.op,.str y.atom.name,.arr (y.atom.args.map Tm.d),.str y.var,.arr (y.parts.map Fm.d)]:=rfl
  cases hq:y.valid with
  | true =>
   rw [hq] at h3
   rw [cond_true]
   refine Al E1 Bm (of_decide_eq_true rfl) ?_
   simp (disch:=omega) only [Dv,go_sem,Ab,h1,hs,h3,C5,GT]
  | false =>
   rw [hq] at h3
   rw [cond_false,hz3]
   refine Al E1 Bm (of_decide_eq_true rfl) ?_
   simp (disch:=omega) only [Dv,go_sem,Ab,h1,hs,h3,C5,GT]
def CW:SC:=(.seq (.reg [⟨(some 4),none,(.alloc 30 [(.str ⟨#[]⟩),.nil])⟩]) (.seq (.seq (.reg [⟨some 5,none,.mv (.t 1)⟩,⟨some 6,none,.bin .leq false (.t 5) (.c (.int .i64 1))⟩,⟨some 7,none,.mv (.t 6)⟩,⟨(some 8),(some (7,false)),(.mv (.t 0))⟩,⟨(some 9),(some (7,false)),(.call 29 [(.t 8),(.c (.int .i64 3))])⟩,⟨some 10,none,.pick (.t 7) (.c (.bool true)) (.t 9)⟩]) (.cond (.t 10) (.seq (.reg [⟨some 11,none,.mv (.t 0)⟩,⟨(some 12),none,(.mkrow 9 1 [(.str ⟨#[]⟩)] 7 [(0,(.c (.str ⟨#[88]⟩))),(1,(.c (.str ⟨#[89]⟩))),(2,(.c (.str ⟨#[90]⟩))),(3,(.c (.str ⟨#[97]⟩))),(4,(.c (.str ⟨#[98]⟩))),(5,(.c (.str ⟨#[88]⟩))),(6,(.c (.str ⟨#[97]⟩)))])⟩,⟨some 13,none,.call 37 [(.t 11),(.t 12)]⟩,⟨(some 14),none,(.build [(.str ⟨#[]⟩),.nil] [(0,(1,(.t 13)))])⟩,⟨none,none,(.store 2 (.t 4) (.t 14))⟩]) .ret) .skip)) (.seq (.seq (.reg [⟨some 15,none,.mv (.t 0)⟩,⟨some 16,none,.call 29 [(.t 15),(.c (.int .i64 2))]⟩]) (.cond (.t 16) (.seq (.reg [⟨some 17,none,.mv (.t 0)⟩,⟨some 18,none,.mv (.t 1)⟩,⟨some 19,none,.bin .sub false (.t 18) (.c (.int .i64 1))⟩,⟨some 20,none,.call 103 [(.t 17),(.t 19)]⟩,⟨(some 21),none,(.mkrow 30 2 [(.str ⟨#[]⟩),.nil] 1 [(0,(.t 20))])⟩,⟨(some 22),none,(.build [(.str ⟨#[]⟩),.nil] [(0,(1,(.c (.str ⟨#[102]⟩)))),(1,(1,(.t 21)))])⟩,⟨none,none,(.store 2 (.t 4) (.t 22))⟩]) .ret) .skip)) (.seq (.reg [⟨some 23,none,.mv (.t 0)⟩,⟨some 24,none,.mv (.t 1)⟩,⟨some 25,none,.bin .sub false (.t 24) (.c (.int .i64 1))⟩,⟨some 26,none,.call 103 [(.t 23),(.t 25)]⟩,⟨some 27,none,.mv (.t 0)⟩,⟨some 28,none,.mv (.t 1)⟩,⟨some 29,none,.bin .sub false (.t 28) (.c (.int .i64 1))⟩,⟨some 30,none,.call 103 [(.t 27),(.t 29)]⟩,⟨(some 31),none,(.mkrow 30 2 [(.str ⟨#[]⟩),.nil] 2 [(0,(.t 26)),(1,(.t 30))])⟩,⟨(some 32),none,(.build [(.str ⟨#[]⟩),.nil] [(0,(1,(.c (.str ⟨#[103]⟩)))),(1,(1,(.t 31)))])⟩,⟨none,none,(.store 2 (.t 4) (.t 32))⟩]) .ret))))
theorem DG:Aq Tryz.prog 103=some ⟨33,CW,[(.cell 4 true 2)]⟩:=by kernel_rfl
theorem AX:modes 103=⟨[],.half [none,some (30,2)],none,false⟩:=by unfold modes; rfl
def Ht:SC:=(.seq (.reg [⟨(some 2),none,(.alloc 30 [(.str ⟨#[]⟩),.nil])⟩]) (.seq (.reg [⟨some 3,none,.mv (.t 0)⟩,⟨some 4,none,.mv (.t 0)⟩,⟨some 5,none,.call 28 [(.t 4),(.c (.int .i64 3))]⟩,⟨some 6,none,.bin .add false (.c (.int .i64 1)) (.t 5)⟩,⟨some 7,none,.call 103 [(.t 3),(.t 6)]⟩,⟨none,none,(.store 2 (.t 2) (.t 7))⟩]) .ret))
theorem L5:Aq Tryz.prog 74=some ⟨8,Ht,[(.cell 2 true 2)]⟩:=by kernel_rfl
theorem AU:modes 74=⟨[],.half [none,some (30,2)],none,false⟩:=by unfold modes; rfl
def Cs:SC:=(.seq (.reg [⟨(some 2),none,(.alloc 30 [(.str ⟨#[]⟩),.nil])⟩]) (.seq (.seq (.reg [⟨some 3,none,.mv (.t 0)⟩,⟨some 4,none,.call 28 [(.t 3),(.c (.int .i64 8))]⟩]) (.block 0 (.seq (.seq (.reg [⟨some 6,none,.bin .eql false (.t 4) (.c (.int .i64 0))⟩,⟨some 5,none,.mv (.t 6)⟩]) (.cond (.t 5) .skip (.reg [⟨some 7,none,.bin .eql false (.t 4) (.c (.int .i64 1))⟩,⟨some 5,none,.mv (.t 7)⟩]))) (.cond (.t 5) (.seq (.reg [⟨some 8,none,.mv (.t 0)⟩,⟨some 9,none,.call 74 [(.t 8)]⟩,⟨some 10,none,.mv (.t 0)⟩,⟨some 11,none,.call 74 [(.t 10)]⟩,⟨(some 12),none,(.mkrow 30 2 [(.str ⟨#[]⟩),.nil] 2 [(0,(.t 9)),(1,(.t 11))])⟩,⟨(some 13),none,(.build [(.str ⟨#[]⟩),.nil] [(0,(1,(.c (.str ⟨#[61]⟩)))),(1,(1,(.t 12)))])⟩,⟨none,none,(.store 2 (.t 2) (.t 13))⟩]) .ret) (.seq (.reg [⟨some 15,none,.bin .eql false (.t 4) (.c (.int .i64 2))⟩,⟨some 14,none,.mv (.t 15)⟩]) (.cond (.t 14) (.seq (.reg [⟨(some 16),none,(.build [(.str ⟨#[]⟩),.nil] [(0,(1,(.c (.str ⟨#[114]⟩))))])⟩,⟨none,none,(.store 2 (.t 2) (.t 16))⟩]) .ret) (.seq (.seq (.reg [⟨some 18,none,.bin .eql false (.t 4) (.c (.int .i64 3))⟩,⟨some 17,none,.mv (.t 18)⟩]) (.cond (.t 17) .skip (.reg [⟨some 19,none,.bin .eql false (.t 4) (.c (.int .i64 4))⟩,⟨some 17,none,.mv (.t 19)⟩]))) (.cond (.t 17) (.seq (.reg [⟨some 20,none,.mv (.t 0)⟩,⟨some 21,none,.call 103 [(.t 20),(.c (.int .i64 2))]⟩,⟨some 22,none,.mv (.t 0)⟩,⟨some 23,none,.call 103 [(.t 22),(.c (.int .i64 2))]⟩,⟨(some 24),none,(.mkrow 30 2 [(.str ⟨#[]⟩),.nil] 2 [(0,(.t 21)),(1,(.t 23))])⟩,⟨(some 25),none,(.build [(.str ⟨#[]⟩),.nil] [(0,(1,(.c (.str ⟨#[113]⟩)))),(1,(1,(.t 24)))])⟩,⟨none,none,(.store 2 (.t 2) (.t 25))⟩]) .ret) .skip)))))))) (.seq (.reg [⟨some 26,none,.mv (.t 0)⟩,⟨some 27,none,.call 103 [(.t 26),(.c (.int .i64 2))]⟩,⟨(some 28),none,(.mkrow 30 2 [(.str ⟨#[]⟩),.nil] 1 [(0,(.t 27))])⟩,⟨(some 29),none,(.build [(.str ⟨#[]⟩),.nil] [(0,(1,(.c (.str ⟨#[112]⟩)))),(1,(1,(.t 28)))])⟩,⟨none,none,(.store 2 (.t 2) (.t 29))⟩]) .ret)))
theorem CF:Aq Tryz.prog 102=some ⟨30,Cs,[(.cell 2 true 2)]⟩:=by kernel_rfl
theorem B9:modes 102=⟨[],.half [none,some (30,2)],none,false⟩:=by unfold modes; rfl
def Tm.oh (x:Tm):List OT:=[.str x.name,.ow (x.args.map Tm.osh)]
theorem Tm.XG (x:Tm):x.oh=[.str x.name,.ow (x.args.map Tm.osh)]:=rfl
theorem Tm.Sn:∀ xs:List Tm,OT.Cj (xs.map Tm.osh)=xs.map Tm.osh
 | []=>rfl
 | x :: xs=>by rw [zH,Tm.osh_eq]; simp only [OT.Cj,OT.Hf,OT.half,Tm.Sn xs]
theorem Tm.Uz:∀ xs:List Tm,OT.AC (xs.map Tm.oh)=true
 | []=>rfl
 | x :: xs=>by rw [zH,Tm.XG]; simp only [OT.AC,OT.CN,OT.full,Tm.osh_full,Tm.Uz xs,z6]
theorem Tm.U0:∀ xs:List Tm,OT.Cj (xs.map Tm.oh)=xs.map Tm.osh
 | []=>rfl
 | x :: xs=>by rw [zH,zH,Tm.XG,Tm.osh_eq]; simp only [OT.Cj,OT.Hf,OT.half,Tm.osh_er,Tm.U0 xs]
theorem Tm.Zz:∀ xs:List Tm,OT.erss (xs.map Tm.oh)=xs.map Tm.d
 | []=>rfl
 | x :: xs=>by rw [zH,zH,Tm.XG,Tm.d_eq]; simp only [OT.erss,OT.ers,OT.er,Tm.osh_er,Tm.Zz xs]
theorem Tm.o_half:∀ xs:List Tm,OT.Cj (xs.map Tm.o)=xs.map Tm.osh
 | []=>rfl
 | x :: xs=>by rw [zH,zH,Tm.o_eq,Tm.osh_eq]; simp only [OT.Cj,OT.Hf,OT.half,Tm.erss,Tm.o_half xs]
theorem OT.fullss_app:∀ a b:List (List OT),OT.AC (a++b)=(OT.AC a&&OT.AC b)
 | [],b=>by simp [OT.AC]
 | x :: a,b=>by simp only [zS,OT.AC,OT.fullss_app a b,Bool.and_assoc]
theorem OT.O6:∀ a b:List (List OT),OT.Cj (a++b)=OT.Cj a++OT.Cj b
 | [],b=>by simp [OT.Cj]
 | x :: a,b=>by simp only [zS,OT.Cj,OT.O6 a b]
theorem OT.erss_app:∀ a b:List (List OT),OT.erss (a++b)=OT.erss a++OT.erss b
 | [],b=>by simp [OT.erss]
 | x :: a,b=>by simp only [zS,OT.erss,OT.erss_app a b]
attribute [go_sem] OT.fullss_app OT.O6 OT.erss_app Tm.osh_full Tm.osh_er Tm.Sn Tm.Uz Tm.Zz Tm.U0 Tm.o_half
abbrev tmH (t:Tm) (g:Nat):SV:=.agg [.str t.name,.ref g]
abbrev MU (t:Tm):Ob:=.row 30 2 (t.args.map Tm.osh)
theorem QE (l:List Int) (hl:Bytes l) (hn:l.length≤1099511627776):∀ (d:Nat) (m:Int),m=d→1≤d→d≤20→∀ p s:Int,0≤p→p+(4*2 ^ d:Nat)≤1099000000000→∃ t p' s',E 103 [.ptr 0 0,.int .i64 m] [cur l p s]=some (tmH t 1,[cur l p' s',MU t])∧(p≤p'∧p'+2≤p+(4*2 ^ d:Nat))∧t.nodes+1≤2 ^ d:=by
 intro d
 have leaf:∀ (p1 s1:Int),0≤p1→p1≤1099500000000→∃ x p2 s2,E 37 [.ptr 0 0,.arr [[D.str ⟨#[88]⟩],[D.str ⟨#[89]⟩],[D.str ⟨#[90]⟩],[D.str ⟨#[97]⟩],[D.str ⟨#[98]⟩],[D.str ⟨#[88]⟩],[D.str ⟨#[97]⟩]]] [cur l p1 s1]=some (.str x,[cur l p2 s2])∧p1≤p2∧p2≤p1+1:=fun p1 s1 a b=>by
  obtain ⟨x,p2,s2,ho,_,h2,h3⟩:=R9 l hl hn [⟨#[88]⟩,⟨#[89]⟩,⟨#[90]⟩,⟨#[97]⟩,⟨#[98]⟩,⟨#[88]⟩,⟨#[97]⟩] (by decide) (by decide) p1 s1 a (by omega)
  simp only [zH,zK] at ho
  exact ⟨x,p2,s2,ho,h2,h3⟩
 have n1:∀ x,(Tm.mk x []).nodes=1:=fun x=>by rw [Tm.nodes_eq]; rfl
 induction d with
 | zero=>exact fun _ _ h=>absurd h (by omega)
 | succ e ih =>
  intro m hm _ hd p s h0 h1
  have hpe:2 ^ (e+1)=2*2 ^ e:=by rw [Nat.pow_succ,Nat.mul_comm]
  have hp1:1≤2 ^ e:=Nat.one_le_two_pow
  have hp2:2 ^ e≤2 ^ 20:=zY (by omega) (by omega)
  have hp3:(2:Nat) ^ 20=1048576:=by decide
  have ih:=fun h1e=>ih (m-1) (by omega) h1e (by omega)
  rw [hpe] at h1 ⊢
  generalize 2 ^ e=q at *
  generalize hq2:2*q=q2 at *
  obtain ⟨Q,hQ⟩:∃ Q:SV × List Ob→Prop,Q=fun out=>∃ t p' s',out=(tmH t 1,[cur l p' s',MU t])∧(p≤p'∧p'+2≤p+(4*q2:Nat))∧t.nodes+1≤q2:=⟨_,rfl⟩
  suffices hq0:∃ out,E 103 [.ptr 0 0,.int .i64 m] [cur l p s]=some out∧Q out by
   obtain ⟨out,hq1,hq2⟩:=hq0
   rw [hQ] at hq2
   obtain ⟨t,p',s',rfl,hq3⟩:=hq2
   exact ⟨t,p',s',hq1,hq3⟩
  by_cases hm1:m≤1
  ·have q1:(m≤1)=True:=eq_true hm1
   obtain ⟨x,p1,s1,ho,h2,h3⟩:=leaf p s h0 (by omega)
   refine AM DG AX (of_decide_eq_true rfl) ?_
   simp (disch:=omega) only [CW,go_sem,Ab,ho,q1,Ax]
   rw [hQ]
   exact ⟨.mk x [],p1,s1,rfl,by omega,by rw [n1]; omega⟩
  ·have q1:(m≤1)=False:=eq_false hm1
   have ih:=ih (by omega)
   obtain ⟨b1,p1,s1,hb1,g1,g2⟩:=JT l hl hn 3 (by omega) (by omega) p s h0 (by omega)
   cases b1 with
   | true =>
    obtain ⟨x,p2,s2,ho,h2,h3⟩:=leaf p1 s1 (by omega) (by omega)
    refine AM DG AX (of_decide_eq_true rfl) ?_
    simp (disch:=omega) only [CW,go_sem,Ab,q1,hb1,ho,Ax,A2]
    rw [hQ]
    exact ⟨.mk x [],p2,s2,rfl,by omega,by rw [n1]; omega⟩
   | false =>
    obtain ⟨b2,p2,s2,hb2,g3,g4⟩:=JT l hl hn 2 (by omega) (by omega) p1 s1 (by omega) (by omega)
    obtain ⟨t3,p3,s3,h3,⟨g5,g6⟩,g7⟩:=ih p2 s2 (by omega) (by omega)
    cases b2 with
    | true =>
     have e1:(Tm.mk ⟨#[102]⟩ [t3]).nodes=1+(t3.nodes+0):=by rw [Tm.nodes_eq]; rfl
     refine AM DG AX (of_decide_eq_true rfl) ?_
     simp (disch:=omega) only [CW,go_sem,Ab,q1,hb1,hb2,h3,Ax,A2,AX]
     rw [hQ]
     exact ⟨.mk ⟨#[102]⟩ [t3],p3,s3,rfl,by omega,by rw [e1]; omega⟩
    | false =>
     obtain ⟨t4,p4,s4,h4,⟨g8,g9⟩,g10⟩:=ih p3 s3 (by omega) (by omega)
     have e1:(Tm.mk ⟨#[103]⟩ [t3,t4]).nodes=1+(t3.nodes+(t4.nodes+0)):=by rw [Tm.nodes_eq]; rfl
     refine AM DG AX (of_decide_eq_true rfl) ?_
     simp (disch:=omega) only [CW,go_sem,Ab,q1,hb1,hb2,h3,h4,Ax,A2,AX]
     rw [hQ]
     exact ⟨.mk ⟨#[103]⟩ [t3,t4],p4,s4,rfl,by omega,by rw [e1]; omega⟩
theorem Mj (l:List Int) (hl:Bytes l) (hn:l.length≤1099511627776) (p s:Int) (h0:0≤p) (h1:p≤1098000000000):∃ t p' s',E 74 [.ptr 0 0] [cur l p s]=some (tmH t 1,[cur l p' s',MU t])∧(p≤p'∧p'≤p+40)∧t.nodes≤7:=by
 obtain ⟨v,p1,s1,hv,⟨v0,v1⟩,g1,g2⟩:=CS l hl hn 3 (by omega) (by omega) p s h0 (by omega)
 have hp3:(2:Nat) ^ (1+v).toNat≤2 ^ 3:=zY (by omega) (by omega)
 obtain ⟨t,p2,s2,ht,⟨g3,g4⟩,g5⟩:=QE l hl hn (1+v).toNat (1+v) (by omega) (by omega) (by omega) p1 s1 (by omega) (by omega)
 have hp4:(2:Nat) ^ 3=8:=by decide
 refine ⟨t,p2,s2,?_,by omega,by omega⟩
 have hi:dec (inK .i64 (1+v))=true:=Er (by omega) (by omega)
 refine Al L5 AU (of_decide_eq_true rfl) ?_
 simp (disch:=omega) only [Ht,go_sem,Ab,hv,ht,hi,Am,AX]
theorem Qa1 (l:List Int) (hl:Bytes l) (hn:l.length≤1099511627776) (p s:Int) (h0:0≤p) (h1:p≤1097000000000):∃ t p' s',E 102 [.ptr 0 0] [cur l p s]=some (tmH t 1,[cur l p' s',MU t])∧(p≤p'∧p'≤p+100)∧t.nodes≤15:=by
 obtain ⟨Q,hQ⟩:∃ Q:SV × List Ob→Prop,Q=fun out=>∃ t p' s',out=(tmH t 1,[cur l p' s',MU t])∧(p≤p'∧p'≤p+100)∧t.nodes≤15:=⟨_,rfl⟩
 suffices hq0:∃ out,E 102 [.ptr 0 0] [cur l p s]=some out∧Q out by
  obtain ⟨out,hq1,hq2⟩:=hq0
  rw [hQ] at hq2
  obtain ⟨t,p',s',rfl,hq3⟩:=hq2
  exact ⟨t,p',s',hq1,hq3⟩
 have hp4:(2:Nat) ^ 2=4:=by decide
 have e1:∀ x a,(Tm.mk x [a]).nodes=1+(a.nodes+0):=fun x a=>by rw [Tm.nodes_eq]; rfl
 have e2:∀ x a b,(Tm.mk x [a,b]).nodes=1+(a.nodes+(b.nodes+0)):=fun x a b=>by rw [Tm.nodes_eq]; rfl
 obtain ⟨v,p1,s1,hv,⟨v0,v1⟩,g1,g2⟩:=CS l hl hn 8 (by omega) (by omega) p s h0 (by omega)
 obtain ⟨ta,p2,s2,ha,⟨a3,a4⟩,a5⟩:=Mj l hl hn p1 s1 (by omega) (by omega)
 obtain ⟨tb,p3,s3,hb,⟨b3,b4⟩,b5⟩:=Mj l hl hn p2 s2 (by omega) (by omega)
 obtain ⟨tc,p4,s4,hc,⟨c3,c4⟩,c5⟩:=QE l hl hn 2 2 rfl (by omega) (by omega) p1 s1 (by omega) (by omega)
 obtain ⟨td,p5,s5,hd,⟨d3,d4⟩,d5⟩:=QE l hl hn 2 2 rfl (by omega) (by omega) p4 s4 (by omega) (by omega)
 rw [hp4] at c4 c5 d4 d5
 rcases (show v=0∨v=1∨v=2∨v=3∨v=4∨(¬ v=0∧¬ v=1∧¬ v=2∧¬ v=3∧¬ v=4) by omega) with rfl | rfl | rfl | rfl | rfl | ⟨k0,k1,k2,k3,k4⟩
 ·refine AM CF B9 (of_decide_eq_true rfl) ?_
  simp (disch:=omega) only [Cs,go_sem,Ab,hv,ha,hb,hc,hd,Am,AX,AU]
  rw [hQ]
  exact ⟨.mk ⟨#[61]⟩ [ta,tb],p3,s3,rfl,by omega,by rw [e2]; omega⟩
 ·refine AM CF B9 (of_decide_eq_true rfl) ?_
  simp (disch:=omega) only [Cs,go_sem,Ab,hv,ha,hb,hc,hd,Am,AX,AU]
  rw [hQ]
  exact ⟨.mk ⟨#[61]⟩ [ta,tb],p3,s3,rfl,by omega,by rw [e2]; omega⟩
 ·refine AM CF B9 (of_decide_eq_true rfl) ?_
  simp (disch:=omega) only [Cs,go_sem,Ab,hv,ha,hb,hc,hd,Am,AX,AU]
  rw [hQ]
  exact ⟨.mk ⟨#[114]⟩ [],p1,s1,rfl,by omega,by rw [Tm.nodes_eq]; show 1+0≤_; omega⟩
 ·refine AM CF B9 (of_decide_eq_true rfl) ?_
  simp (disch:=omega) only [Cs,go_sem,Ab,hv,ha,hb,hc,hd,Am,AX,AU]
  rw [hQ]
  exact ⟨.mk ⟨#[113]⟩ [tc,td],p5,s5,rfl,by omega,by rw [e2]; omega⟩
 ·refine AM CF B9 (of_decide_eq_true rfl) ?_
  simp (disch:=omega) only [Cs,go_sem,Ab,hv,ha,hb,hc,hd,Am,AX,AU]
  rw [hQ]
  exact ⟨.mk ⟨#[113]⟩ [tc,td],p5,s5,rfl,by omega,by rw [e2]; omega⟩
 ·have k0:=eq_false k0
  have k1:=eq_false k1
  have k2:=eq_false k2
  have k3:=eq_false k3
  have k4:=eq_false k4
  refine AM CF B9 (of_decide_eq_true rfl) ?_
  simp (disch:=omega) only [Cs,go_sem,Ab,hv,hc,k0,k1,k2,k3,k4,Am,AX,AU]
  rw [hQ]
  exact ⟨.mk ⟨#[112]⟩ [tc],p4,s4,rfl,by omega,by rw [e1]; omega⟩
def GU:SC:=(.seq (.reg [⟨(some 4),none,(.alloc 30 [(.str ⟨#[]⟩),.nil])⟩]) (.seq (.reg [⟨some 6,none,.mv (.t 0)⟩,⟨(some 7),none,(.mkrow 9 1 [(.str ⟨#[]⟩)] 2 [(0,(.c (.str ⟨#[88]⟩))),(1,(.c (.str ⟨#[97]⟩)))])⟩,⟨some 8,none,.call 37 [(.t 6),(.t 7)]⟩,⟨(some 9),none,(.build [(.str ⟨#[]⟩),.nil] [(0,(1,(.t 8)))])⟩,⟨(some 5),none,(.alloc 30 [(.str ⟨#[]⟩),.nil])⟩,⟨none,none,(.store 2 (.t 5) (.t 9))⟩]) (.seq (.block 0 (.loop [0,1,0,0,1,1,0,0,0,0,0,0,0,0,0,0,0,0] (.seq (.seq (.reg [⟨some 10,none,.mv (.t 1)⟩,⟨some 11,none,.bin .gtr false (.t 10) (.c (.int .i64 1))⟩]) (.cond (.t 11) .skip (.exit 0))) (.seq (.block 1 (.reg [⟨some 14,none,.load true 2 (.t 5)⟩,⟨(some 15),none,(.mkrow 30 2 [(.str ⟨#[]⟩),.nil] 1 [(0,(.t 14))])⟩,⟨(some 16),none,(.build [(.str ⟨#[]⟩),.nil] [(0,(1,(.c (.str ⟨#[102]⟩)))),(1,(1,(.t 15)))])⟩,⟨none,none,(.store 2 (.t 5) (.t 16))⟩])) (.reg [⟨some 12,none,.mv (.t 1)⟩,⟨some 13,none,.bin .sub false (.t 12) (.c (.int .i64 1))⟩,⟨some 1,none,.mv (.t 13)⟩]))))) (.seq (.reg [⟨some 17,none,.load true 2 (.t 5)⟩,⟨none,none,(.store 2 (.t 4) (.t 17))⟩]) .ret))))
theorem KJ:Aq Tryz.prog 75=some ⟨18,GU,[(.cell 4 true 2)]⟩:=by kernel_rfl
theorem BN:modes 75=⟨[],.half [none,some (30,2)],none,false⟩:=by unfold modes; rfl
def Hu:SC:=(.seq (.reg [⟨(some 2),none,(.alloc 30 [(.str ⟨#[]⟩),.nil])⟩]) (.seq (.reg [⟨(some 7),none,(.build [(.str ⟨#[]⟩),.nil] [(0,(1,(.c (.str ⟨#[103]⟩))))])⟩,⟨(some 3),none,(.alloc 30 [(.str ⟨#[]⟩),.nil])⟩,⟨none,none,(.store 2 (.t 3) (.t 7))⟩]) (.seq (.seq (.reg [⟨some 4,none,.mv (.c (.int .i64 0))⟩]) (.block 0 (.loop [1,0,1,1,1,0,0,0,0,0,0,0,0,0,0,0,0,0,0,0,0,0,0,0,0,0,0,0,0,0,0,0,0,0,0,0,0,0,0,0,0,0,0,0,0,0,0,0,0,0,0,0,0,0] (.seq (.seq (.reg [⟨some 8,none,.mv (.t 4)⟩,⟨some 9,none,.bin .lss false (.t 8) (.c (.int .i64 4))⟩]) (.cond (.t 9) .skip (.exit 0))) (.seq (.block 1 (.seq (.reg [⟨(some 12),none,(.build [(.str ⟨#[]⟩),.nil] [(0,(1,(.c (.str ⟨#[104]⟩))))])⟩,⟨(some 5),none,(.alloc 30 [(.str ⟨#[]⟩),.nil])⟩,⟨none,none,(.store 2 (.t 5) (.t 12))⟩]) (.seq (.seq (.reg [⟨some 6,none,.mv (.c (.int .i64 0))⟩]) (.block 2 (.loop [1,0,1,1,1,1,1,0,0,0,0,0,0,0,0,0,0,0,0,0,0,0,0,0,0,0,0,0,0,0,0,0,0,0,0,0,0,0,0,0,0,0,0,0,0,0,0,0,0,0,0,0,0,0] (.seq (.seq (.reg [⟨some 13,none,.mv (.t 6)⟩,⟨some 14,none,.bin .lss false (.t 13) (.c (.int .i64 4))⟩]) (.cond (.t 14) .skip (.exit 2))) (.seq (.block 3 (.reg [⟨some 17,none,.faddr 1 (.t 5)⟩,⟨some 18,none,.load false 1 (.t 17)⟩,⟨(some 19),none,(.build [(.str ⟨#[]⟩),.nil] [(0,(1,(.c (.str ⟨#[97]⟩))))])⟩,⟨(some 20),none,(.mkrow 30 2 [(.str ⟨#[]⟩),.nil] 1 [(0,(.t 19))])⟩,⟨(some 21),none,(.build [(.str ⟨#[]⟩),.nil] [(0,(1,(.c (.str ⟨#[102]⟩)))),(1,(1,(.t 20)))])⟩,⟨(some 22),none,(.mkrow 30 2 [(.str ⟨#[]⟩),.nil] 1 [(0,(.t 21))])⟩,⟨(some 23),none,(.append 30 2 40 [(.str ⟨#[]⟩),.nil] (.t 18) (.t 22))⟩,⟨some 24,none,.faddr 1 (.t 5)⟩,⟨none,none,(.store 1 (.t 24) (.t 23))⟩])) (.reg [⟨some 15,none,.mv (.t 6)⟩,⟨some 16,none,.bin .add false (.t 15) (.c (.int .i64 1))⟩,⟨some 6,none,.mv (.t 16)⟩])))))) (.reg [⟨some 25,none,.faddr 1 (.t 3)⟩,⟨some 26,none,.load false 1 (.t 25)⟩,⟨some 27,none,.load true 2 (.t 5)⟩,⟨(some 28),none,(.mkrow 30 2 [(.str ⟨#[]⟩),.nil] 1 [(0,(.t 27))])⟩,⟨(some 29),none,(.append 30 2 40 [(.str ⟨#[]⟩),.nil] (.t 26) (.t 28))⟩,⟨some 30,none,.faddr 1 (.t 3)⟩,⟨none,none,(.store 1 (.t 30) (.t 29))⟩])))) (.reg [⟨some 10,none,.mv (.t 4)⟩,⟨some 11,none,.bin .add false (.t 10) (.c (.int .i64 1))⟩,⟨some 4,none,.mv (.t 11)⟩])))))) (.seq (.seq (.reg [⟨some 31,none,.mv (.t 0)⟩,⟨some 32,none,.call 29 [(.t 31),(.c (.int .i64 2))]⟩]) (.cond (.t 32) (.reg [⟨some 33,none,.faddr 1 (.t 3)⟩,⟨some 34,none,.load false 1 (.t 33)⟩,⟨some 35,none,.slice false 2 (.t 34) none (some (.c (.int .i64 3)))⟩,⟨some 36,none,.faddr 1 (.t 3)⟩,⟨none,none,(.store 1 (.t 36) (.t 35))⟩]) .skip)) (.seq (.seq (.reg [⟨some 37,none,.mv (.t 0)⟩,⟨some 38,none,.call 29 [(.t 37),(.c (.int .i64 2))]⟩,⟨some 39,none,.mv (.t 38)⟩,⟨(some 40),(some (39,true)),(.faddr 1 (.t 3))⟩,⟨(some 41),(some (39,true)),(.load false 1 (.t 40))⟩,⟨(some 42),(some (39,true)),(.len false (.t 41))⟩,⟨(some 43),(some (39,true)),(.bin .eql false (.t 42) (.c (.int .i64 3)))⟩,⟨some 44,none,.pick (.t 39) (.t 43) (.c (.bool false))⟩]) (.cond (.t 44) (.reg [⟨some 45,none,.faddr 1 (.t 3)⟩,⟨some 46,none,.load false 1 (.t 45)⟩,⟨(some 47),none,(.build [(.str ⟨#[]⟩),.nil] [(0,(1,(.c (.str ⟨#[98]⟩))))])⟩,⟨(some 48),none,(.mkrow 30 2 [(.str ⟨#[]⟩),.nil] 1 [(0,(.t 47))])⟩,⟨(some 49),none,(.build [(.str ⟨#[]⟩),.nil] [(0,(1,(.c (.str ⟨#[102]⟩)))),(1,(1,(.t 48)))])⟩,⟨(some 50),none,(.mkrow 30 2 [(.str ⟨#[]⟩),.nil] 1 [(0,(.t 49))])⟩,⟨(some 51),none,(.append 30 2 40 [(.str ⟨#[]⟩),.nil] (.t 46) (.t 50))⟩,⟨some 52,none,.faddr 1 (.t 3)⟩,⟨none,none,(.store 1 (.t 52) (.t 51))⟩]) .skip)) (.seq (.reg [⟨some 53,none,.load true 2 (.t 3)⟩,⟨none,none,(.store 2 (.t 2) (.t 53))⟩]) .ret))))))
theorem L6:Aq Tryz.prog 76=some ⟨54,Hu,[(.cell 2 true 2)]⟩:=by kernel_rfl
theorem BU:modes 76=⟨[],.half [none,some (30,2)],none,false⟩:=by unfold modes; rfl
def BB:SC:=(.seq (.reg [⟨(some 2),none,(.alloc 30 [(.str ⟨#[]⟩),.nil])⟩]) (.seq (.reg [⟨some 4,none,.mv (.t 0)⟩,⟨some 5,none,.call 74 [(.t 4)]⟩,⟨(some 3),none,(.alloc 30 [(.str ⟨#[]⟩),.nil])⟩,⟨none,none,(.store 2 (.t 3) (.t 5))⟩]) (.seq (.seq (.reg [⟨some 6,none,.mv (.t 0)⟩,⟨some 7,none,.call 28 [(.t 6),(.c (.int .i64 24))]⟩]) (.block 0 (.seq (.reg [⟨some 9,none,.bin .eql false (.t 7) (.c (.int .i64 0))⟩,⟨some 8,none,.mv (.t 9)⟩]) (.cond (.t 8) (.reg [⟨some 10,none,.mv (.t 0)⟩,⟨(some 11),none,(.mkrow 9 1 [(.str ⟨#[]⟩)] 14 [(0,(.c (.str ⟨#[]⟩))),(1,(.c (.str ⟨#[116,114,117,101]⟩))),(2,(.c (.str ⟨#[116,114,117,116,104]⟩))),(3,(.c (.str ⟨#[105,102]⟩))),(4,(.c (.str ⟨#[88,121,122,57]⟩))),(5,(.c (.str ⟨#[88,121,122,57,57]⟩))),(6,(.c (.str ⟨#[120,65]⟩))),(7,(.c (.str ⟨#[97,95,98]⟩))),(8,(.c (.str ⟨#[97,98,99,100,101,102]⟩))),(9,(.c (.str ⟨#[97,98,99,100,101,102,103]⟩))),(10,(.c (.str ⟨#[95,97]⟩))),(11,(.c (.str ⟨#[57]⟩))),(12,(.c (.str ⟨#[88,95]⟩))),(13,(.c (.str ⟨#[61]⟩)))])⟩,⟨some 12,none,.call 37 [(.t 10),(.t 11)]⟩,⟨some 13,none,.faddr 0 (.t 3)⟩,⟨none,none,(.store 1 (.t 13) (.t 12))⟩]) (.seq (.reg [⟨some 15,none,.bin .eql false (.t 7) (.c (.int .i64 1))⟩,⟨some 14,none,.mv (.t 15)⟩]) (.cond (.t 14) (.seq (.reg [⟨some 16,none,.mv (.t 0)⟩,⟨some 17,none,.mv (.t 0)⟩,⟨some 18,none,.call 28 [(.t 17),(.c (.int .i64 3))]⟩,⟨some 19,none,.bin .add false (.c (.int .i64 7)) (.t 18)⟩,⟨some 20,none,.call 75 [(.t 16),(.t 19)]⟩,⟨none,none,(.store 2 (.t 2) (.t 20))⟩]) .ret) (.seq (.reg [⟨some 22,none,.bin .eql false (.t 7) (.c (.int .i64 2))⟩,⟨some 21,none,.mv (.t 22)⟩]) (.cond (.t 21) (.seq (.reg [⟨some 23,none,.mv (.t 0)⟩,⟨some 24,none,.call 76 [(.t 23)]⟩,⟨none,none,(.store 2 (.t 2) (.t 24))⟩]) .ret) (.seq (.reg [⟨some 26,none,.bin .eql false (.t 7) (.c (.int .i64 3))⟩,⟨some 25,none,.mv (.t 26)⟩]) (.cond (.t 25) (.dreg [[],[0],[],[2],[],[4,3,2],[],[6,5,4,3,2],[3,2,5,4,7,6],[1,0,8,3,2,5,4,7,6],[0,1,2,3,4,5,6,7,8,9],[10,0,1,2,3,4,5,6,7,8,9]] [⟨some 27,none,.faddr 1 (.t 3)⟩,⟨some 28,none,.load false 1 (.t 27)⟩,⟨some 29,none,.mv (.t 0)⟩,⟨some 30,none,.call 74 [(.t 29)]⟩,⟨some 31,none,.mv (.t 0)⟩,⟨some 32,none,.call 74 [(.t 31)]⟩,⟨some 33,none,.mv (.t 0)⟩,⟨some 34,none,.call 74 [(.t 33)]⟩,⟨(some 35),none,(.mkrow 30 2 [(.str ⟨#[]⟩),.nil] 3 [(0,(.t 30)),(1,(.t 32)),(2,(.t 34))])⟩,⟨(some 36),none,(.append 30 2 40 [(.str ⟨#[]⟩),.nil] (.t 28) (.t 35))⟩,⟨some 37,none,.faddr 1 (.t 3)⟩,⟨none,none,(.store 1 (.t 37) (.t 36))⟩]) (.seq (.reg [⟨some 39,none,.bin .eql false (.t 7) (.c (.int .i64 4))⟩,⟨some 38,none,.mv (.t 39)⟩]) (.cond (.t 38) (.seq (.reg [⟨some 40,none,.faddr 1 (.t 3)⟩,⟨some 41,none,.load false 1 (.t 40)⟩,⟨some 42,none,.len false (.t 41)⟩,⟨some 43,none,.bin .gtr false (.t 42) (.c (.int .i64 0))⟩]) (.cond (.t 43) (.dreg [[],[0],[],[],[2,3],[],[5],[6,5],[7,6,5],[8,7,6,5],[4,2,3,9,8,7,6,5],[1,0,2,3,4,5,6,7,8,9,10],[11,1,0,2,3,4,5,6,7,8,9,10]] [⟨some 44,none,.faddr 1 (.t 3)⟩,⟨some 45,none,.load false 1 (.t 44)⟩,⟨some 46,none,.mv (.t 0)⟩,⟨(some 47),none,(.mkrow 9 1 [(.str ⟨#[]⟩)] 4 [(0,(.c (.str ⟨#[61]⟩))),(1,(.c (.str ⟨#[]⟩))),(2,(.c (.str ⟨#[81,49]⟩))),(3,(.c (.str ⟨#[98,50]⟩)))])⟩,⟨some 48,none,.call 37 [(.t 46),(.t 47)]⟩,⟨some 49,none,.faddr 1 (.t 3)⟩,⟨some 50,none,.load false 1 (.t 49)⟩,⟨some 51,none,.iaddr 2 (.t 50) (.c (.int .i64 0))⟩,⟨some 52,none,.faddr 1 (.t 51)⟩,⟨some 53,none,.load false 1 (.t 52)⟩,⟨(some 54),none,(.build [(.str ⟨#[]⟩),.nil] [(0,(1,(.t 48))),(1,(1,(.t 53)))])⟩,⟨some 55,none,.iaddr 2 (.t 45) (.c (.int .i64 0))⟩,⟨none,none,(.store 2 (.t 55) (.t 54))⟩]) .skip)) .skip)))))))))))) (.seq (.reg [⟨some 56,none,.load true 2 (.t 3)⟩,⟨none,none,(.store 2 (.t 2) (.t 56))⟩]) .ret))))
theorem BO:Aq Tryz.prog 40=some ⟨57,BB,[(.cell 2 true 2)]⟩:=by kernel_rfl
theorem AA:modes 40=⟨[],.half [none,some (30,2)],none,false⟩:=by unfold modes; rfl
def twr (x:ByteArray):Nat→Tm
 | 0=>.mk x []
 | k+1=>.mk ⟨#[102]⟩ [twr x k]
theorem PW (x:ByteArray):∀ k,(twr x k).nodes=k+1
 | 0=>by rw [twr,Tm.nodes_eq]; rfl
 | k+1=>by
  have:(twr x (k+1)).nodes=1+((twr x k).nodes+0):=by rw [twr,Tm.nodes_eq]; rfl
  rw [this,PW x k]; omega
theorem Z0 (x:ByteArray):[[OT.str x,OT.ow []]]=[Tm.mk x []].map Tm.o:=by rw [zH,zK,Tm.o_eq]; rfl
theorem QaT (x:ByteArray) (l:List Tm):[[OT.str x,OT.ow (l.map Tm.o)]]=[Tm.mk x l].map Tm.o:=by rw [zH,zK,Tm.o_eq]; rfl
theorem Tm.Zn (x:Tm):OT.Hf x.o=x.osh:=by
 have:=Tm.o_half [x]
 simp only [zH,zK,OT.Cj,yE,and_true] at this
 exact this
theorem Tm.Zo (x:Tm):OT.CN x.o=true:=by
 have:=Tm.fus [x]
 simp only [zH,zK,OT.AC,Bool.and_true] at this
 exact this
theorem Tm.Gk (x:Tm):x.o.length=2:=by rw [Tm.o_eq]; rfl
abbrev tZ:Ob:=.box 30 [.str ⟨#[]⟩,.nil]
theorem Zp (l:List Int) (hl:Bytes l) (hn:l.length≤1099511627776) (m:Int) (hm:1≤m) (hm2:m≤100) (p s:Int) (h0:0≤p) (h1:p≤1099000000000):∃ t p' s',E 75 [.ptr 0 0,.int .i64 m] [cur l p s]=some (tmH t 1,[cur l p' s',MU t])∧(p≤p'∧p'≤p+1)∧t.nodes≤150:=by
 obtain ⟨Q,hQ⟩:∃ Q:SV × List Ob→Prop,Q=fun out=>∃ t p' s',out=(tmH t 1,[cur l p' s',MU t])∧(p≤p'∧p'≤p+1)∧t.nodes≤150:=⟨_,rfl⟩
 suffices hq0:∃ out,E 75 [.ptr 0 0,.int .i64 m] [cur l p s]=some out∧Q out by
  obtain ⟨out,hq1,hq2⟩:=hq0
  rw [hQ] at hq2
  obtain ⟨t,p',s',rfl,hq3⟩:=hq2
  exact ⟨t,p',s',hq1,hq3⟩
 obtain ⟨x,p1,s1,ho,_,g1,g2⟩:=R9 l hl hn [⟨#[88]⟩,⟨#[97]⟩] (by decide) (by decide) p s h0 (by omega)
 simp only [zH,zK] at ho
 refine AM KJ BN (of_decide_eq_true rfl) ?_
 simp (disch:=omega) only [GU,go_sem,Ab,ho,Ax]
 refine go_loop (α:=Nat) (fun k=>⟨slots 18 0 [(1,.int .i64 (m-(k:Nat))),(4,.ptr 1 0),(5,.ptr 2 0)],(if k=0 then [cur l p1 s1,tZ,.box 30 [.str x,.nil]] else [cur l p1 s1,tZ,.box 30 [.str ⟨#[102]⟩,.ref 3],.row 30 2 ([twr x (k-1)].map Tm.o)])⟩) (fun k=>(k:Int)≤m-1) (fun k=>(m-k).toNat) 0 (by omega) (by simp (disch:=omega) only [go_sem,Ab,eq_self,if_true,Int.natCast_zero,Int.sub_zero]) ?_
 intro k hk
 by_cases hlt:1<m-(k:Int)
 ·have q1:(1<m-(k:Int))=True:=eq_true hlt
  have hi:dec (inK .i64 (m-(k:Int)-1))=true:=Er (by omega) (by omega)
  have q4:m-(k:Int)-1=m-((k+1:Nat):Int):=by omega
  have q5:(k+1=0)=False:=by simp
  have q6:k+1-1=k:=by omega
  rcases zN k with hk0 | hk0
  ·subst hk0
   have hs:=Z0 x
   have q7:m-((0:Nat):Int)-1=m-((0+1:Nat):Int):=by omega
   simp (disch:=omega) only [go_sem,Ab,q1,hi,eq_self,if_true]
   refine ⟨0+1,by omega,by omega,?_⟩
   simp (disch:=omega) only [go_sem,Ab,q5,if_false,q7]
   first | rfl | (rw [hs]; rfl)
  ·obtain ⟨j,rfl⟩:∃ j,k=j+1:=⟨k-1,by omega⟩
   have hs:=QaT ⟨#[102]⟩ [twr x j]
   have q8:(j+1=0)=False:=by simp
   have q9:j+1-1=j:=by omega
   simp (disch:=omega) only [go_sem,Ab,q1,hi,q8,q9,if_false]
   refine ⟨j+1+1,by omega,by omega,?_⟩
   simp (disch:=omega) only [go_sem,Ab,q5,q6,if_false,q4]
   first | rfl | (rw [hs]; rfl)
 ·have q1:(1<m-(k:Int))=False:=eq_false hlt
  have hnd:=PW x k
  rcases zN k with hk0 | hk0
  ·subst hk0
   simp (disch:=omega) only [go_sem,Ab,q1,eq_self,if_true]
   rw [hQ]
   exact ⟨twr x 0,p1,s1,rfl,by omega,by omega⟩
  ·obtain ⟨j,rfl⟩:∃ j,k=j+1:=⟨k-1,by omega⟩
   have q8:(j+1=0)=False:=by simp
   have q9:j+1-1=j:=by omega
   have hh:=Tm.Zn (twr x j)
   have hf:=Tm.Zo (twr x j)
   simp (disch:=omega) only [go_sem,Ab,q1,q8,q9,if_false,hh,hf]
   rw [hQ]
   exact ⟨twr x (j+1),p1,s1,rfl,by omega,by omega⟩
def wdF:Tm:=.mk ⟨#[102]⟩ [.mk ⟨#[97]⟩ []]
def wdP:Tm:=.mk ⟨#[104]⟩ (zL 4 wdF)
theorem Gl:[OT.str ⟨#[102]⟩,OT.ow [[OT.str ⟨#[97]⟩,OT.ow []]]]=wdF.o:=by
 rw [wdF,Tm.o_eq]
 show _=[OT.str ⟨#[102]⟩,OT.ow ([Tm.mk ⟨#[97]⟩ []].map Tm.o)]
 rw [←Z0]
theorem Gm:[OT.str ⟨#[104]⟩,OT.ow [wdF.o,wdF.o,wdF.o,wdF.o]]=wdP.o:=by rw [wdP,Tm.o_eq]; rfl
theorem O7 {α β:Type} (f:α→β) (x:α) (n:Nat):(zL n x).map f++[f x]=(zL (n+1) x).map f:=by
 rw [List.replicate_succ',zV]; rfl
theorem VF:wdF.nodes=2:=by rw [wdF,Tm.nodes_eq]; show 1+((Tm.mk _ []).nodes+0)=2; rw [Tm.nodes_eq]; rfl
theorem Mk:wdP.nodes=9:=by
 rw [wdP,Tm.nodes_eq]
 show 1+(wdF.nodes+(wdF.nodes+(wdF.nodes+(wdF.nodes+0))))=9
 rw [VF]
theorem Qa2 (l:List Int) (hl:Bytes l) (hn:l.length≤1099511627776) (p s:Int) (h0:0≤p) (h1:p≤1099000000000):∃ t p' s',E 76 [.ptr 0 0] [cur l p s]=some (tmH t 1,[cur l p' s',MU t])∧(p≤p'∧p'≤p+2)∧t.nodes≤150:=by
 obtain ⟨Q,hQ⟩:∃ Q:SV × List Ob→Prop,Q=fun out=>∃ t p' s',out=(tmH t 1,[cur l p' s',MU t])∧(p≤p'∧p'≤p+2)∧t.nodes≤150:=⟨_,rfl⟩
 suffices hq0:∃ out,E 76 [.ptr 0 0] [cur l p s]=some out∧Q out by
  obtain ⟨out,hq1,hq2⟩:=hq0
  rw [hQ] at hq2
  obtain ⟨t,p',s',rfl,hq3⟩:=hq2
  exact ⟨t,p',s',hq1,hq3⟩
 have h10:((1:Int)=0)=False:=by simp
 refine AM L6 BU (of_decide_eq_true rfl) ?_
 simp (disch:=omega) only [Hu,go_sem,Ab]
 refine go_loop (α:=Int) (fun i=>⟨slots 54 0 [(0,.ptr 0 0),(2,.ptr 1 0),(3,.ptr 2 0),(4,.int .i64 i)],(if i=0 then [cur l p s,tZ,.box 30 [.str ⟨#[103]⟩,.nil]] else [cur l p s,tZ,.box 30 [.str ⟨#[103]⟩,.ref 3],.row 30 2 ((zL i.toNat wdP).map Tm.o)])⟩) (fun i=>∃ k:Nat,i=k∧k≤4) (fun i=>(4-i).toNat) 0 ⟨0,rfl,by omega⟩ (by simp (disch:=omega) only [go_sem,Ab,eq_self,if_true]) ?_
 rintro i ⟨k,hi,hk⟩
 have hni:i.toNat=k:=by omega
 have hni1:(i+1).toNat=k+1:=by omega
 rcases zM k 4 with hlt | hge
 ·have q1:(i<4)=True:=eq_true (by omega)
  have hi1:(i+1=0)=False:=by simp; omega
  have hsP:=O7 Tm.o wdP k
  rcases zN k with hk0 | hk0
  ·subst hk0
   obtain rfl:i=0:=hi
   simp (disch:=omega) only [go_sem,Ab,q1,eq_self,if_true,Gl,Gm,zI,Tm.Gk]
   refine go_loop (α:=Int) (fun j=>⟨slots 54 0 [(0,.ptr 0 0),(2,.ptr 1 0),(3,.ptr 2 0),(4,.int .i64 0),(5,.ptr 3 0),(6,.int .i64 j)],(if (0:Int)=0 then (if j=0 then [cur l p s,tZ,.box 30 [.str ⟨#[103]⟩,.nil],.box 30 [.str ⟨#[104]⟩,.nil]] else [cur l p s,tZ,.box 30 [.str ⟨#[103]⟩,.nil],.box 30 [.str ⟨#[104]⟩,.ref 4],.row 30 2 ((zL j.toNat wdF).map Tm.o)]) else (if j=0 then [cur l p s,tZ,.box 30 [.str ⟨#[103]⟩,.ref 4],.box 30 [.str ⟨#[104]⟩,.nil],.row 30 2 ((zL (0:Int).toNat wdP).map Tm.o)] else [cur l p s,tZ,.box 30 [.str ⟨#[103]⟩,.ref 4],.box 30 [.str ⟨#[104]⟩,.ref 5],.row 30 2 ((zL (0:Int).toNat wdP).map Tm.o),.row 30 2 ((zL j.toNat wdF).map Tm.o)]))⟩) (fun j=>∃ k:Nat,j=k∧k≤4) (fun j=>(4-j).toNat) 0 ⟨0,rfl,by omega⟩ (by simp (disch:=omega) only [go_sem,Ab,eq_self,if_true,Gl,Gm,zI,Tm.Gk]) ?_
   rintro j ⟨n,hj,hn4⟩
   have hnj:j.toNat=n:=by omega
   have hnj1:(j+1).toNat=n+1:=by omega
   have hj1:(j+1=0)=False:=by simp; omega
   rcases zM n 4 with hlt2 | hge2
   ·have q2:(j<4)=True:=eq_true (by omega)
    have hsF:=O7 Tm.o wdF n
    rcases zN n with hn0 | hn0
    ·subst hn0
     obtain rfl:j=0:=hj
     simp (disch:=omega) only [go_sem,Ab,q2,eq_self,if_true,Gl,Gm,zI,Tm.Gk]
     refine ⟨1,⟨1,rfl,by omega⟩,by omega,?_⟩
     simp (disch:=omega) only [go_sem,Ab,eq_self,if_true,h10,if_false,Gl,Gm,zI,Tm.Gk]
    ·have hj0:(j=0)=False:=by simp; omega
     simp (disch:=omega) only [go_sem,Ab,q2,eq_self,if_true,hj0,if_false,hnj,Gl,Gm,zI,Tm.Gk]
     refine ⟨j+1,⟨n+1,by omega,by omega⟩,by omega,?_⟩
     simp (disch:=omega) only [go_sem,Ab,eq_self,if_true,hj1,if_false,hnj,hnj1,hsF,Gl,Gm,zI,Tm.Gk]
   ·obtain rfl:n=4:=by omega
    have hj4:j=4:=hj
    subst hj4
    have q2:((4:Int)=0)=False:=by simp
    simp (disch:=omega) only [go_sem,Ab,q2,eq_self,if_true,if_false,Gl,Gm,zI,Tm.Gk]
    refine ⟨1,⟨1,rfl,by omega⟩,by omega,?_⟩
    simp (disch:=omega) only [go_sem,Ab,h10,if_false,Gl,Gm,zI,Tm.Gk]
  ·have hi0:(i=0)=False:=by simp; omega
   simp (disch:=omega) only [go_sem,Ab,q1,hi0,if_false,Gl,Gm,zI,Tm.Gk]
   refine go_loop (α:=Int) (fun j=>⟨slots 54 0 [(0,.ptr 0 0),(2,.ptr 1 0),(3,.ptr 2 0),(4,.int .i64 i),(5,.ptr 3 0),(6,.int .i64 j)],(if i=0 then (if j=0 then [cur l p s,tZ,.box 30 [.str ⟨#[103]⟩,.nil],.box 30 [.str ⟨#[104]⟩,.nil]] else [cur l p s,tZ,.box 30 [.str ⟨#[103]⟩,.nil],.box 30 [.str ⟨#[104]⟩,.ref 4],.row 30 2 ((zL j.toNat wdF).map Tm.o)]) else (if j=0 then [cur l p s,tZ,.box 30 [.str ⟨#[103]⟩,.ref 4],.box 30 [.str ⟨#[104]⟩,.nil],.row 30 2 ((zL i.toNat wdP).map Tm.o)] else [cur l p s,tZ,.box 30 [.str ⟨#[103]⟩,.ref 4],.box 30 [.str ⟨#[104]⟩,.ref 5],.row 30 2 ((zL i.toNat wdP).map Tm.o),.row 30 2 ((zL j.toNat wdF).map Tm.o)]))⟩) (fun j=>∃ k:Nat,j=k∧k≤4) (fun j=>(4-j).toNat) 0 ⟨0,rfl,by omega⟩ (by simp (disch:=omega) only [go_sem,Ab,hi0,if_false,eq_self,if_true,Gl,Gm,zI,Tm.Gk]) ?_
   rintro j ⟨n,hj,hn4⟩
   have hnj:j.toNat=n:=by omega
   have hnj1:(j+1).toNat=n+1:=by omega
   have hj1:(j+1=0)=False:=by simp; omega
   rcases zM n 4 with hlt2 | hge2
   ·have q2:(j<4)=True:=eq_true (by omega)
    have hsF:=O7 Tm.o wdF n
    rcases zN n with hn0 | hn0
    ·subst hn0
     obtain rfl:j=0:=hj
     simp (disch:=omega) only [go_sem,Ab,q2,hi0,if_false,eq_self,if_true,Gl,Gm,zI,Tm.Gk]
     refine ⟨1,⟨1,rfl,by omega⟩,by omega,?_⟩
     simp (disch:=omega) only [go_sem,Ab,hi0,h10,if_false,Gl,Gm,zI,Tm.Gk]
    ·have hj0:(j=0)=False:=by simp; omega
     simp (disch:=omega) only [go_sem,Ab,q2,hi0,hj0,if_false,hnj,Gl,Gm,zI,Tm.Gk]
     refine ⟨j+1,⟨n+1,by omega,by omega⟩,by omega,?_⟩
     simp (disch:=omega) only [go_sem,Ab,hi0,hj1,if_false,hnj,hnj1,hsF,Gl,Gm,zI,Tm.Gk]
   ·obtain rfl:n=4:=by omega
    have hj4:j=4:=hj
    subst hj4
    have q2:((4:Int)=0)=False:=by simp
    simp (disch:=omega) only [go_sem,Ab,q2,hi0,if_false,hni,Gl,Gm,zI,Tm.Gk]
    refine ⟨i+1,⟨k+1,by omega,by omega⟩,by omega,?_⟩
    simp (disch:=omega) only [go_sem,Ab,hi1,if_false,hni1,hsP,Gl,Gm,zI,Tm.Gk]
 ·obtain rfl:k=4:=by omega
  have hi4:i=4:=hi
  subst hi4
  have q2:((4:Int)=0)=False:=by simp
  obtain ⟨b1,p1,s1,hb1,g1,g2⟩:=JT l hl hn 2 (by omega) (by omega) p s h0 (by omega)
  obtain ⟨b2,p2,s2,hb2,g3,g4⟩:=JT l hl hn 2 (by omega) (by omega) p1 s1 (by omega) (by omega)
  have n4:(Tm.mk ⟨#[103]⟩ (zL 4 wdP)).nodes=37:=by
   rw [Tm.nodes_eq]
   show 1+(wdP.nodes+(wdP.nodes+(wdP.nodes+(wdP.nodes+0))))=37
   rw [Mk]
  have n3:(Tm.mk ⟨#[103]⟩ (zL 3 wdP)).nodes=28:=by
   rw [Tm.nodes_eq]
   show 1+(wdP.nodes+(wdP.nodes+(wdP.nodes+0)))=28
   rw [Mk]
  have n5:(Tm.mk ⟨#[103]⟩ (zL 3 wdP++[.mk ⟨#[102]⟩ [.mk ⟨#[98]⟩ []]])).nodes=30:=by
   rw [Tm.nodes_eq]
   show 1+(wdP.nodes+(wdP.nodes+(wdP.nodes+((Tm.mk _ [.mk _ []]).nodes+0))))=30
   rw [Mk,Tm.nodes_eq]
   show 1+(9+(9+(9+(1+((Tm.mk _ []).nodes+0)+0))))=30
   rw [Tm.nodes_eq]; rfl
  cases b1 <;> cases b2
  ·simp (disch:=omega) only [go_sem,Ab,q2,if_false,hb1,hb2,A2]
   rw [hQ]
   exact ⟨.mk ⟨#[103]⟩ (zL 4 wdP),p2,s2,rfl,by omega,by omega⟩
  ·simp (disch:=omega) only [go_sem,Ab,q2,if_false,hb1,hb2,A2]
   rw [hQ]
   exact ⟨.mk ⟨#[103]⟩ (zL 4 wdP),p2,s2,rfl,by omega,by omega⟩
  ·simp (disch:=omega) only [go_sem,Ab,q2,if_false,hb1,hb2,A2]
   rw [hQ]
   exact ⟨.mk ⟨#[103]⟩ (zL 3 wdP),p2,s2,rfl,by omega,by omega⟩
  ·simp (disch:=omega) only [go_sem,Ab,q2,if_false,hb1,hb2,A2]
   rw [hQ]
   exact ⟨.mk ⟨#[103]⟩ (zL 3 wdP++[.mk ⟨#[102]⟩ [.mk ⟨#[98]⟩ []]]),p2,s2,rfl,by omega,by omega⟩
theorem Tm.L7 (x:ByteArray) (l:List Tm):(Tm.mk x l).nodes=1+Tm.nodeS l:=Tm.nodes_eq _
theorem Tm.nodeS_app:∀ (a b:List Tm),Tm.nodeS (a++b)=Tm.nodeS a+Tm.nodeS b
 | [],b=>by simp [Tm.nodeS]
 | x :: a,b=>by simp only [zS,Tm.nodeS,Tm.nodeS_app a b]; omega
theorem Tm.Qa3 (a b c:Tm):Tm.nodeS [a,b,c]=a.nodes+(b.nodes+(c.nodes+0)):=rfl
theorem Tm.XH (t:Tm):t.args.length+1≤t.nodes:=by
 rw [Tm.nodes_eq]
 have:=Tm.length_le t.args
 omega
theorem VG (l:List Int) (hl:Bytes l) (hn:l.length≤1099511627776) (p s:Int) (h0:0≤p) (h1:p≤1096000000000):∃ t p' s',E 40 [.ptr 0 0] [cur l p s]=some (tmH t 1,[cur l p' s',MU t])∧(p≤p'∧p'≤p+400)∧t.nodes≤150:=by
 obtain ⟨Q,hQ⟩:∃ Q:SV × List Ob→Prop,Q=fun out=>∃ t p' s',out=(tmH t 1,[cur l p' s',MU t])∧(p≤p'∧p'≤p+400)∧t.nodes≤150:=⟨_,rfl⟩
 suffices hq0:∃ out,E 40 [.ptr 0 0] [cur l p s]=some out∧Q out by
  obtain ⟨out,hq1,hq2⟩:=hq0
  rw [hQ] at hq2
  obtain ⟨t,p',s',rfl,hq3⟩:=hq2
  exact ⟨t,p',s',hq1,hq3⟩
 obtain ⟨t,p1,s1,ht,⟨g1,g2⟩,g3⟩:=Mj l hl hn p s h0 (by omega)
 obtain ⟨v,p2,s2,hv,⟨v0,v1⟩,g4,g5⟩:=CS l hl hn 24 (by omega) (by omega) p1 s1 (by omega) (by omega)
 have hal:=Tm.XH t
 rcases (show v=0∨v=1∨v=2∨v=3∨v=4∨(¬ v=0∧¬ v=1∧¬ v=2∧¬ v=3∧¬ v=4) by omega) with rfl | rfl | rfl | rfl | rfl | ⟨k0,k1,k2,k3,k4⟩
 ·obtain ⟨x,p3,s3,ho,_,g6,g7⟩:=R9 l hl hn [⟨#[]⟩,⟨#[116,114,117,101]⟩,⟨#[116,114,117,116,104]⟩,⟨#[105,102]⟩,⟨#[88,121,122,57]⟩,⟨#[88,121,122,57,57]⟩,⟨#[120,65]⟩,⟨#[97,95,98]⟩,⟨#[97,98,99,100,101,102]⟩,⟨#[97,98,99,100,101,102,103]⟩,⟨#[95,97]⟩,⟨#[57]⟩,⟨#[88,95]⟩,⟨#[61]⟩] (by decide) (by decide) p2 s2 (by omega) (by omega)
  simp only [zH,zK] at ho
  refine AM BO AA (of_decide_eq_true rfl) ?_
  simp (disch:=omega) only [BB,go_sem,Ab,ht,hv,ho,Am,AU,Ax,BN,BU]
  rw [hQ]
  exact ⟨.mk x t.args,p3,s3,rfl,by omega,by rw [Tm.L7]; have:=Tm.nodes_eq t; omega⟩
 ·obtain ⟨u,p3,s3,hu,⟨u0,u1⟩,g6,g7⟩:=CS l hl hn 3 (by omega) (by omega) p2 s2 (by omega) (by omega)
  have hi:dec (inK .i64 (7+u))=true:=Er (by omega) (by omega)
  obtain ⟨t2,p4,s4,ho,⟨g8,g9⟩,g10⟩:=Zp l hl hn (7+u) (by omega) (by omega) p3 s3 (by omega) (by omega)
  refine AM BO AA (of_decide_eq_true rfl) ?_
  simp (disch:=omega) only [BB,go_sem,Ab,ht,hv,hu,hi,ho,Am,AU,Ax,BN,BU]
  rw [hQ]
  exact ⟨t2,p4,s4,rfl,by omega,g10⟩
 ·obtain ⟨t2,p3,s3,ho,⟨g8,g9⟩,g10⟩:=Qa2 l hl hn p2 s2 (by omega) (by omega)
  refine AM BO AA (of_decide_eq_true rfl) ?_
  simp (disch:=omega) only [BB,go_sem,Ab,ht,hv,ho,Am,AU,Ax,BN,BU]
  rw [hQ]
  exact ⟨t2,p3,s3,rfl,by omega,g10⟩
 ·obtain ⟨t2,p3,s3,hu,⟨a1,a2⟩,a3⟩:=Mj l hl hn p2 s2 (by omega) (by omega)
  obtain ⟨t3,p4,s4,hw,⟨b1,b2⟩,b3⟩:=Mj l hl hn p3 s3 (by omega) (by omega)
  obtain ⟨t4,p5,s5,hx,⟨c1,c2⟩,c3⟩:=Mj l hl hn p4 s4 (by omega) (by omega)
  refine AM BO AA (of_decide_eq_true rfl) ?_
  simp (disch:=omega) only [BB,go_sem,Ab,ht,hv,hu,hw,hx,Am,AU,Ax,BN,BU]
  rw [hQ]
  refine ⟨.mk t.name (t.args++[t2,t3,t4]),p5,s5,?_,by omega,by rw [Tm.L7,Tm.nodeS_app,Tm.Qa3]; have:=Tm.nodes_eq t; omega⟩
  show _=(tmH (.mk t.name (t.args++[t2,t3,t4])) 1,[cur l p5 s5,.row 30 2 ((t.args++[t2,t3,t4]).map Tm.osh)])
  rw [zV]
  rfl
 ·rcases hc:t.args with _ | ⟨a0,ar⟩
  ·have q0:((0:Int)<(t.args.length:Int))=False:=eq_false (by rw [hc]; simp)
   rw [←hc] at *
   refine AM BO AA (of_decide_eq_true rfl) ?_
   simp (disch:=omega) only [BB,go_sem,Ab,ht,hv,q0,Am,AU,Ax,BN,BU]
   rw [hQ]
   exact ⟨t,p2,s2,rfl,by omega,by omega⟩
  ·have q0:((0:Int)<(t.args.length:Int))=True:=eq_true (by rw [hc]; simp)
   obtain ⟨x,p3,s3,ho,_,g6,g7⟩:=R9 l hl hn [⟨#[61]⟩,⟨#[]⟩,⟨#[81,49]⟩,⟨#[98,50]⟩] (by decide) (by decide) p2 s2 (by omega) (by omega)
   simp only [zH,zK] at ho
   have hm:t.args.map Tm.osh=[.str a0.name,.sh (a0.args.map Tm.d)] :: ar.map Tm.osh:=by rw [hc]; rfl
   have hgl:(t.args.map Tm.osh)[0]?=some [.str a0.name,.sh (a0.args.map Tm.d)]:=by rw [hm]; rfl
   have hst:∀ y,(t.args.map Tm.osh).set 0 y=y :: ar.map Tm.osh:=fun y=>by rw [hm]; rfl
   have q1:0<t.args.length:=by rw [hc]; simp
   have hnn:t.nodes=1+(a0.nodes+Tm.nodeS ar):=by rw [Tm.nodes_eq,hc]; rfl
   refine AM BO AA (of_decide_eq_true rfl) ?_
   simp (disch:=omega) only [BB,go_sem,Ab,ht,hv,q0,ho,hgl,hst,q1,Am,AU,Ax,BN,BU]
   rw [hQ]
   refine ⟨.mk t.name (.mk x a0.args :: ar),p3,s3,?_,by omega,?_⟩
   ·rfl
   ·rw [Tm.L7]
    show 1+((Tm.mk x a0.args).nodes+Tm.nodeS ar)≤_
    rw [Tm.L7]
    have:=Tm.nodes_eq a0
    omega
 ·have k0:=eq_false k0
  have k1:=eq_false k1
  have k2:=eq_false k2
  have k3:=eq_false k3
  have k4:=eq_false k4
  refine AM BO AA (of_decide_eq_true rfl) ?_
  simp (disch:=omega) only [BB,go_sem,Ab,ht,hv,k0,k1,k2,k3,k4,Am,AU,Ax,BN,BU]
  rw [hQ]
  exact ⟨t,p2,s2,rfl,by omega,by omega⟩
def BC:SC:=(.seq (.reg [⟨(some 4),none,(.alloc 33 [(.int .i64 0),(.str ⟨#[]⟩),.nil,(.str ⟨#[]⟩),.nil])⟩]) (.seq (.seq (.reg [⟨some 6,none,.mv (.t 1)⟩,⟨some 7,none,.bin .leq false (.t 6) (.c (.int .i64 1))⟩,⟨some 8,none,.mv (.t 7)⟩,⟨(some 9),(some (8,false)),(.mv (.t 0))⟩,⟨(some 10),(some (8,false)),(.call 29 [(.t 9),(.c (.int .i64 4))])⟩,⟨some 11,none,.pick (.t 8) (.c (.bool true)) (.t 10)⟩]) (.cond (.t 11) (.seq (.seq (.reg [⟨some 12,none,.mv (.t 0)⟩,⟨some 13,none,.call 29 [(.t 12),(.c (.int .i64 16))]⟩]) (.cond (.t 13) (.seq (.reg [⟨some 14,none,.mv (.t 0)⟩,⟨some 15,none,.call 28 [(.t 14),(.c (.int .i64 2))]⟩,⟨some 16,none,.bin .add false (.c (.int .i64 1)) (.t 15)⟩,⟨(some 17),none,(.build [(.int .i64 0),(.str ⟨#[]⟩),.nil,(.str ⟨#[]⟩),.nil] [(0,(1,(.t 16)))])⟩,⟨none,none,(.store 5 (.t 4) (.t 17))⟩]) .ret) .skip)) (.seq (.reg [⟨some 18,none,.mv (.t 0)⟩,⟨some 19,none,.call 102 [(.t 18)]⟩,⟨(some 20),none,(.build [(.int .i64 0),(.str ⟨#[]⟩),.nil,(.str ⟨#[]⟩),.nil] [(0,(1,(.c (.int .i64 3)))),(1,(2,(.t 19)))])⟩,⟨none,none,(.store 5 (.t 4) (.t 20))⟩]) .ret)) .skip)) (.seq (.reg [⟨some 21,none,.mv (.t 0)⟩,⟨some 22,none,.mkrow 3 1 [(.int .i64 0)] 10 [(0,(.c (.int .i64 4))),(1,(.c (.int .i64 5))),(2,(.c (.int .i64 6))),(3,(.c (.int .i64 7))),(4,(.c (.int .i64 8))),(5,(.c (.int .i64 9))),(6,(.c (.int .i64 8))),(7,(.c (.int .i64 9))),(8,(.c (.int .i64 5))),(9,(.c (.int .i64 7)))]⟩,⟨some 23,none,.call 36 [(.t 21),(.t 22)]⟩,⟨some 5,none,.mv (.t 23)⟩]) (.seq (.seq (.reg [⟨some 24,none,.mv (.t 5)⟩,⟨some 25,none,.bin .eql false (.t 24) (.c (.int .i64 4))⟩]) (.cond (.t 25) (.seq (.reg [⟨some 26,none,.mv (.t 5)⟩,⟨some 27,none,.mv (.t 0)⟩,⟨some 28,none,.mv (.t 1)⟩,⟨some 29,none,.bin .sub false (.t 28) (.c (.int .i64 1))⟩,⟨some 30,none,.call 73 [(.t 27),(.t 29)]⟩,⟨(some 31),none,(.mkrow 33 5 [(.int .i64 0),(.str ⟨#[]⟩),.nil,(.str ⟨#[]⟩),.nil] 1 [(0,(.t 30))])⟩,⟨(some 32),none,(.build [(.int .i64 0),(.str ⟨#[]⟩),.nil,(.str ⟨#[]⟩),.nil] [(0,(1,(.t 26))),(4,(1,(.t 31)))])⟩,⟨none,none,(.store 5 (.t 4) (.t 32))⟩]) .ret) .skip)) (.seq (.seq (.reg [⟨some 33,none,.mv (.t 5)⟩,⟨some 34,none,.bin .eql false (.t 33) (.c (.int .i64 8))⟩,⟨some 35,none,.mv (.t 34)⟩,⟨(some 36),(some (35,false)),(.mv (.t 5))⟩,⟨(some 37),(some (35,false)),(.bin .eql false (.t 36) (.c (.int .i64 9)))⟩,⟨some 38,none,.pick (.t 35) (.c (.bool true)) (.t 37)⟩]) (.cond (.t 38) (.seq (.reg [⟨some 39,none,.mv (.t 5)⟩,⟨some 40,none,.mv (.t 0)⟩,⟨(some 41),none,(.mkrow 9 1 [(.str ⟨#[]⟩)] 4 [(0,(.c (.str ⟨#[88]⟩))),(1,(.c (.str ⟨#[89]⟩))),(2,(.c (.str ⟨#[90]⟩))),(3,(.c (.str ⟨#[88]⟩)))])⟩,⟨some 42,none,.call 37 [(.t 40),(.t 41)]⟩,⟨some 43,none,.mv (.t 0)⟩,⟨some 44,none,.mv (.t 1)⟩,⟨some 45,none,.bin .sub false (.t 44) (.c (.int .i64 1))⟩,⟨some 46,none,.call 73 [(.t 43),(.t 45)]⟩,⟨(some 47),none,(.mkrow 33 5 [(.int .i64 0),(.str ⟨#[]⟩),.nil,(.str ⟨#[]⟩),.nil] 1 [(0,(.t 46))])⟩,⟨(some 48),none,(.build [(.int .i64 0),(.str ⟨#[]⟩),.nil,(.str ⟨#[]⟩),.nil] [(0,(1,(.t 39))),(3,(1,(.t 42))),(4,(1,(.t 47)))])⟩,⟨none,none,(.store 5 (.t 4) (.t 48))⟩]) .ret) .skip)) (.seq (.reg [⟨some 49,none,.mv (.t 5)⟩,⟨some 50,none,.mv (.t 0)⟩,⟨some 51,none,.mv (.t 1)⟩,⟨some 52,none,.bin .sub false (.t 51) (.c (.int .i64 1))⟩,⟨some 53,none,.call 73 [(.t 50),(.t 52)]⟩,⟨some 54,none,.mv (.t 0)⟩,⟨some 55,none,.mv (.t 1)⟩,⟨some 56,none,.bin .sub false (.t 55) (.c (.int .i64 1))⟩,⟨some 57,none,.call 73 [(.t 54),(.t 56)]⟩,⟨(some 58),none,(.mkrow 33 5 [(.int .i64 0),(.str ⟨#[]⟩),.nil,(.str ⟨#[]⟩),.nil] 2 [(0,(.t 53)),(1,(.t 57))])⟩,⟨(some 59),none,(.build [(.int .i64 0),(.str ⟨#[]⟩),.nil,(.str ⟨#[]⟩),.nil] [(0,(1,(.t 49))),(4,(1,(.t 58)))])⟩,⟨none,none,(.store 5 (.t 4) (.t 59))⟩]) .ret))))))
theorem BP:Aq Tryz.prog 73=some ⟨60,BC,[(.cell 4 true 5)]⟩:=by kernel_rfl
theorem AY:modes 73=⟨[],.half [none,none,some (30,2),none,some (33,5)],none,false⟩:=by unfold modes; rfl
def Ga:SC:=(.seq (.reg [⟨(some 2),none,(.alloc 33 [(.int .i64 0),(.str ⟨#[]⟩),.nil,(.str ⟨#[]⟩),.nil])⟩]) (.seq (.reg [⟨some 3,none,.mv (.t 0)⟩,⟨some 4,none,.mv (.t 0)⟩,⟨some 5,none,.call 28 [(.t 4),(.c (.int .i64 4))]⟩,⟨some 6,none,.bin .add false (.c (.int .i64 1)) (.t 5)⟩,⟨some 7,none,.call 73 [(.t 3),(.t 6)]⟩,⟨none,none,(.store 5 (.t 2) (.t 7))⟩]) .ret))
theorem Jz:Aq Tryz.prog 39=some ⟨8,Ga,[(.cell 2 true 5)]⟩:=by kernel_rfl
theorem B3:modes 39=⟨[],.half [none,none,some (30,2),none,some (33,5)],none,false⟩:=by unfold modes; rfl
def Fm.hs (x:Fm):List OT:=[.int x.op,.str x.atom.name,.sh (x.atom.args.map Tm.d),.str x.var,.sh (x.parts.map Fm.d)]
theorem Fm.hs_full:∀ xs:List Fm,OT.AC (xs.map Fm.hs)=true
 | []=>rfl
 | x :: xs=>by simp only [zH,OT.AC,Fm.hs,OT.CN,OT.full,Fm.hs_full xs,z6]
theorem Fm.hs_er:∀ xs:List Fm,OT.erss (xs.map Fm.hs)=xs.map Fm.d
 | []=>rfl
 | x :: xs=>by simp only [zH,OT.erss,Fm.hs,OT.ers,OT.er,Fm.hs_er xs,Fm.d_eq]
theorem Fm.hs_half:∀ xs:List Fm,OT.Cj (xs.map Fm.hs)=xs.map Fm.hs
 | []=>rfl
 | x :: xs=>by simp only [zH,OT.Cj,Fm.hs,OT.Hf,OT.half,Fm.hs_half xs]
attribute [go_sem] Fm.hs_full Fm.hs_er Fm.hs_half
abbrev fmH (x:Fm) (g h:Nat):SV:=.agg [.int .i64 x.op,.str x.atom.name,.ref g,.str x.var,.ref h]
abbrev So (x:Fm):Ob:=.row 30 2 (x.atom.args.map Tm.osh)
abbrev T5 (x:Fm):Ob:=.row 33 5 (x.parts.map Fm.hs)
theorem Fm.C2 (op:Int) (a:Tm) (v:ByteArray) (l:List Fm):(Fm.mk op a v l).nodes=1+Fm.nodeS l:=Fm.nodes_eq _
theorem Fm.EO (op:Int) (a:Tm) (v:ByteArray) (l:List Fm):(Fm.mk op a v l).vn=a.nodes+Fm.vnS l:=Fm.M9 _
theorem Fm.CX {op:Int} {a:Tm} {v:ByteArray} {l:List Fm} (h1:a.nodes≤1099511627776) (h2:Fm.D9 l):(Fm.mk op a v l).tame:=by rw [Fm.It]; exact ⟨h1,h2⟩
theorem Fm.O8 {a:Fm} (h:a.tame):Fm.D9 [a]:=by simp only [Fm.D9]; exact ⟨h,trivial⟩
theorem Fm.Qa4 {a b:Fm} (h:a.tame) (k:b.tame):Fm.D9 [a,b]:=by simp only [Fm.D9]; exact ⟨h,k,trivial⟩
theorem Dn:Tm.zero.nodes=1:=by rw [Tm.nodes_eq]; rfl
theorem Zq (l:List Int) (hl:Bytes l) (hn:l.length≤1099511627776):∀ (d:Nat) (m:Int),m=d→1≤d→d≤20→∀ p s:Int,0≤p→p+(120*2 ^ d:Nat)≤1080000000000→∃ x p' s',E 73 [.ptr 0 0,.int .i64 m] [cur l p s]=some (fmH x 1 2,[cur l p' s',So x,T5 x])∧(p≤p'∧p'+10≤p+(120*2 ^ d:Nat))∧x.nodes+1≤2*2 ^ d∧x.tame∧x.vn+1≤8*2 ^ d:=by
 intro d
 have base:∀ (p1 s1:Int),0≤p1→p1≤1090000000000→∃ b2 p2 s2,E 29 [.ptr 0 0,.int .i64 16] [cur l p1 s1]=some (.bool b2,[cur l p2 s2])∧(p1≤p2∧p2≤p1+1)∧(∃ v p3 s3,E 28 [.ptr 0 0,.int .i64 2] [cur l p2 s2]=some (.int .i64 v,[cur l p3 s3])∧(0≤v∧v<2)∧p2≤p3∧p3≤p2+1)∧∃ t p4 s4,E 102 [.ptr 0 0] [cur l p2 s2]=some (tmH t 1,[cur l p4 s4,MU t])∧(p2≤p4∧p4≤p2+100)∧t.nodes≤15:=fun p1 s1 a b=>by
  obtain ⟨b2,p2,s2,h1,h2,h3⟩:=JT l hl hn 16 (by omega) (by omega) p1 s1 a (by omega)
  exact ⟨b2,p2,s2,h1,⟨h2,h3⟩,CS l hl hn 2 (by omega) (by omega) p2 s2 (by omega) (by omega),Qa1 l hl hn p2 s2 (by omega) (by omega)⟩
 induction d with
 | zero=>exact fun _ _ h=>absurd h (by omega)
 | succ e ih =>
  intro m hm _ hd p s h0 h1
  have hpe:2 ^ (e+1)=2*2 ^ e:=by rw [Nat.pow_succ,Nat.mul_comm]
  have hp1:1≤2 ^ e:=Nat.one_le_two_pow
  have hp2:2 ^ e≤2 ^ 20:=zY (by omega) (by omega)
  have hp3:(2:Nat) ^ 20=1048576:=by decide
  have ih:=fun h1e=>ih (m-1) (by omega) h1e (by omega)
  rw [hpe] at h1 ⊢
  generalize 2 ^ e=q at *
  generalize hq2:2*q=q2 at *
  obtain ⟨Q,hQ⟩:∃ Q:SV × List Ob→Prop,Q=fun out=>∃ x p' s',out=(fmH x 1 2,[cur l p' s',So x,T5 x])∧(p≤p'∧p'+10≤p+(120*q2:Nat))∧x.nodes+1≤2*q2∧x.tame∧x.vn+1≤8*q2:=⟨_,rfl⟩
  suffices hq0:∃ out,E 73 [.ptr 0 0,.int .i64 m] [cur l p s]=some out∧Q out by
   obtain ⟨out,hq1,hq2⟩:=hq0
   rw [hQ] at hq2
   obtain ⟨x,p',s',rfl,hq3⟩:=hq2
   exact ⟨x,p',s',hq1,hq3⟩
  by_cases hm1:m≤1
  ·have q1:(m≤1)=True:=eq_true hm1
   obtain ⟨b2,p2,s2,hb2,⟨g3,g4⟩,⟨v,p3,s3,hv,⟨v0,v1⟩,g5,g6⟩,t,p4,s4,ht,⟨g7,g8⟩,g9⟩:=base p s (by omega) (by omega)
   cases b2 with
   | true =>
    have hi:dec (inK .i64 (1+v))=true:=Er (by omega) (by omega)
    refine AM BP AY (of_decide_eq_true rfl) ?_
    simp (disch:=omega) only [BC,go_sem,Ab,q1,hb2,hv,hi,A2,Am,B9]
    rw [hQ]
    exact ⟨.mk (1+v) Tm.zero ⟨#[]⟩ [],p3,s3,rfl,by omega,by rw [Fm.C2]; show 1+0+1≤_; omega,Fm.CX (by rw [Dn]; omega) trivial,by rw [Fm.EO,Dn]; show 1+0+1≤_; omega⟩
   | false =>
    refine AM BP AY (of_decide_eq_true rfl) ?_
    simp (disch:=omega) only [BC,go_sem,Ab,q1,hb2,ht,A2,Am,B9]
    rw [hQ]
    exact ⟨.mk 3 t ⟨#[]⟩ [],p4,s4,rfl,by omega,by rw [Fm.C2]; show 1+0+1≤_; omega,Fm.CX (by omega) trivial,by rw [Fm.EO]; show t.nodes+0+1≤_; omega⟩
  ·have q1:(m≤1)=False:=eq_false hm1
   have ih:=ih (by omega)
   obtain ⟨b1,p1,s1,hb1,g1,g2⟩:=JT l hl hn 4 (by omega) (by omega) p s h0 (by omega)
   cases b1 with
   | true =>
    obtain ⟨b2,p2,s2,hb2,⟨g3,g4⟩,⟨v,p3,s3,hv,⟨v0,v1⟩,g5,g6⟩,t,p4,s4,ht,⟨g7,g8⟩,g9⟩:=base p1 s1 (by omega) (by omega)
    cases b2 with
    | true =>
     have hi:dec (inK .i64 (1+v))=true:=Er (by omega) (by omega)
     refine AM BP AY (of_decide_eq_true rfl) ?_
     simp (disch:=omega) only [BC,go_sem,Ab,q1,hb1,hb2,hv,hi,A2,Am,B9]
     rw [hQ]
     exact ⟨.mk (1+v) Tm.zero ⟨#[]⟩ [],p3,s3,rfl,by omega,by rw [Fm.C2]; show 1+0+1≤_; omega,Fm.CX (by rw [Dn]; omega) trivial,by rw [Fm.EO,Dn]; show 1+0+1≤_; omega⟩
    | false =>
     refine AM BP AY (of_decide_eq_true rfl) ?_
     simp (disch:=omega) only [BC,go_sem,Ab,q1,hb1,hb2,ht,A2,Am,B9]
     rw [hQ]
     exact ⟨.mk 3 t ⟨#[]⟩ [],p4,s4,rfl,by omega,by rw [Fm.C2]; show 1+0+1≤_; omega,Fm.CX (by omega) trivial,by rw [Fm.EO]; show t.nodes+0+1≤_; omega⟩
   | false =>
    obtain ⟨op,p2,s2,hop,hmem,g3,g4⟩:=Le l hl hn [4,5,6,7,8,9,8,9,5,7] (by decide) (by decide) p1 s1 (by omega) (by omega)
    simp only [zH,zK] at hop
    have hi:dec (inK .i64 (m-1))=true:=Er (by omega) (by omega)
    by_cases ho4:op=4
    ·subst ho4
     obtain ⟨y,p3,s3,hy,⟨g5,g6⟩,g7,g8,gv⟩:=ih p2 s2 (by omega) (by omega)
     refine AM BP AY (of_decide_eq_true rfl) ?_
     simp (disch:=omega) only [BC,go_sem,Ab,q1,hb1,hop,hi,hy,A2,AV,AY]
     rw [hQ]
     exact ⟨.mk 4 Tm.zero ⟨#[]⟩ [y],p3,s3,rfl,by omega,by rw [Fm.C2]; show 1+(y.nodes+0)+1≤_; omega,Fm.CX (by rw [Dn]; omega) (Fm.O8 g8),by rw [Fm.EO,Dn]; show 1+(y.vn+0)+1≤_; omega⟩
    ·have o4:(op=4)=False:=eq_false ho4
     by_cases ho8:op=8
     ·subst ho8
      obtain ⟨x,p3,s3,hx,_,g5,g6⟩:=R9 l hl hn [⟨#[88]⟩,⟨#[89]⟩,⟨#[90]⟩,⟨#[88]⟩] (by decide) (by decide) p2 s2 (by omega) (by omega)
      simp only [zH,zK] at hx
      obtain ⟨y,p4,s4,hy,⟨g7,g8⟩,g9,g10,gv⟩:=ih p3 s3 (by omega) (by omega)
      refine AM BP AY (of_decide_eq_true rfl) ?_
      simp (disch:=omega) only [BC,go_sem,Ab,q1,hb1,hop,hi,hx,hy,A2,AV,Ax,AY]
      rw [hQ]
      exact ⟨.mk 8 Tm.zero x [y],p4,s4,rfl,by omega,by rw [Fm.C2]; show 1+(y.nodes+0)+1≤_; omega,Fm.CX (by rw [Dn]; omega) (Fm.O8 g10),by rw [Fm.EO,Dn]; show 1+(y.vn+0)+1≤_; omega⟩
     ·have o8:(op=8)=False:=eq_false ho8
      by_cases ho9:op=9
      ·subst ho9
       obtain ⟨x,p3,s3,hx,_,g5,g6⟩:=R9 l hl hn [⟨#[88]⟩,⟨#[89]⟩,⟨#[90]⟩,⟨#[88]⟩] (by decide) (by decide) p2 s2 (by omega) (by omega)
       simp only [zH,zK] at hx
       obtain ⟨y,p4,s4,hy,⟨g7,g8⟩,g9,g10,gv⟩:=ih p3 s3 (by omega) (by omega)
       refine AM BP AY (of_decide_eq_true rfl) ?_
       simp (disch:=omega) only [BC,go_sem,Ab,q1,hb1,hop,hi,hx,hy,A2,AV,Ax,AY]
       rw [hQ]
       exact ⟨.mk 9 Tm.zero x [y],p4,s4,rfl,by omega,by rw [Fm.C2]; show 1+(y.nodes+0)+1≤_; omega,Fm.CX (by rw [Dn]; omega) (Fm.O8 g10),by rw [Fm.EO,Dn]; show 1+(y.vn+0)+1≤_; omega⟩
      ·have o9:(op=9)=False:=eq_false ho9
       obtain ⟨y,p3,s3,hy,⟨g5,g6⟩,g7,g8,gv⟩:=ih p2 s2 (by omega) (by omega)
       obtain ⟨z,p4,s4,hz,⟨g9,g10⟩,g11,g12,gw⟩:=ih p3 s3 (by omega) (by omega)
       refine AM BP AY (of_decide_eq_true rfl) ?_
       simp (disch:=omega) only [BC,go_sem,Ab,q1,hb1,hop,hi,hy,hz,o4,o8,o9,A2,AV,AY]
       rw [hQ]
       exact ⟨.mk op Tm.zero ⟨#[]⟩ [y,z],p4,s4,rfl,by omega,by rw [Fm.C2]; show 1+(y.nodes+(z.nodes+0))+1≤_; omega,Fm.CX (by rw [Dn]; omega) (Fm.Qa4 g8 g12),by rw [Fm.EO,Dn]; show 1+(y.vn+(z.vn+0))+1≤_; omega⟩
theorem O9 (l:List Int) (hl:Bytes l) (hn:l.length≤1099511627776) (p s:Int) (h0:0≤p) (h1:p≤1070000000000):∃ x p' s',E 39 [.ptr 0 0] [cur l p s]=some (fmH x 1 2,[cur l p' s',So x,T5 x])∧(p≤p'∧p'≤p+2000)∧x.nodes≤31∧x.tame∧x.vn≤127:=by
 obtain ⟨v,p1,s1,hv,⟨v0,v1⟩,g1,g2⟩:=CS l hl hn 4 (by omega) (by omega) p s h0 (by omega)
 have hp3:(2:Nat) ^ (1+v).toNat≤2 ^ 4:=zY (by omega) (by omega)
 have hp4:(2:Nat) ^ 4=16:=by decide
 obtain ⟨x,p2,s2,hx,⟨g3,g4⟩,g5,g6,g7⟩:=Zq l hl hn (1+v).toNat (1+v) (by omega) (by omega) (by omega) p1 s1 (by omega) (by omega)
 refine ⟨x,p2,s2,?_,by omega,by omega,g6,by omega⟩
 have hi:dec (inK .i64 (1+v))=true:=Er (by omega) (by omega)
 refine Al Jz B3 (of_decide_eq_true rfl) ?_
 simp (disch:=omega) only [Ga,go_sem,Ab,hv,hx,hi,Am,AY]
def Km:SC:=(.seq (.reg [⟨some 1,none,.boxv 33 5 (.t 0)⟩,⟨some 2,none,.mv (.c (.int .i64 0))⟩]) (.seq (.reg [⟨some 3,none,.mv (.c (.int .i64 1))⟩]) (.seq (.seq (.reg [⟨some 4,none,.mv (.c (.int .i64 0))⟩]) (.block 0 (.loop [0,1,0,1,1,0,0,0,0,0,0,0,0,0,0,0,0,0,0,0,0] (.seq (.seq (.reg [⟨some 5,none,.mv (.t 4)⟩,⟨some 6,none,.faddr 4 (.t 1)⟩,⟨some 7,none,.load false 1 (.t 6)⟩,⟨some 8,none,.len false (.t 7)⟩,⟨some 9,none,.bin .lss false (.t 5) (.t 8)⟩]) (.cond (.t 9) .skip (.exit 0))) (.seq (.block 1 (.reg [⟨some 12,none,.mv (.t 3)⟩,⟨some 13,none,.faddr 4 (.t 1)⟩,⟨some 14,none,.load false 1 (.t 13)⟩,⟨some 15,none,.mv (.t 4)⟩,⟨some 16,none,.iaddr 5 (.t 14) (.t 15)⟩,⟨some 17,none,.load true 5 (.t 16)⟩,⟨some 18,none,.call 41 [(.t 17)]⟩,⟨some 19,none,.bin .add false (.t 12) (.t 18)⟩,⟨some 3,none,.mv (.t 19)⟩])) (.reg [⟨some 10,none,.mv (.t 4)⟩,⟨some 11,none,.bin .add false (.t 10) (.c (.int .i64 1))⟩,⟨some 4,none,.mv (.t 11)⟩])))))) (.seq (.reg [⟨some 20,none,.mv (.t 3)⟩,⟨some 2,none,.mv (.t 20)⟩]) .ret))))
theorem OU:Aq Tryz.prog 41=some ⟨21,Km,[(.tmp 2)]⟩:=by kernel_rfl
theorem BE:modes 41=⟨[],.asis,none,false⟩:=by unfold modes; rfl
def Bf:SC:=(.seq (.reg [⟨(some 2),none,(.alloc 33 [(.int .i64 0),(.str ⟨#[]⟩),.nil,(.str ⟨#[]⟩),.nil])⟩]) (.seq (.reg [⟨some 5,none,.mv (.t 0)⟩,⟨some 6,none,.call 39 [(.t 5)]⟩,⟨(some 3),none,(.alloc 33 [(.int .i64 0),(.str ⟨#[]⟩),.nil,(.str ⟨#[]⟩),.nil])⟩,⟨none,none,(.store 5 (.t 3) (.t 6))⟩]) (.seq (.seq (.reg [⟨some 7,none,.mv (.t 0)⟩,⟨some 8,none,.call 28 [(.t 7),(.c (.int .i64 24))]⟩]) (.block 0 (.seq (.reg [⟨some 10,none,.bin .eql false (.t 8) (.c (.int .i64 0))⟩,⟨some 9,none,.mv (.t 10)⟩]) (.cond (.t 9) (.reg [⟨some 11,none,.mv (.t 0)⟩,⟨some 12,none,.call 28 [(.t 11),(.c (.int .i64 11))]⟩,⟨some 13,none,.faddr 0 (.t 3)⟩,⟨none,none,(.store 1 (.t 13) (.t 12))⟩]) (.seq (.reg [⟨some 15,none,.bin .eql false (.t 8) (.c (.int .i64 1))⟩,⟨some 14,none,.mv (.t 15)⟩]) (.cond (.t 14) (.reg [⟨some 16,none,.mv (.t 0)⟩,⟨(some 17),none,(.mkrow 9 1 [(.str ⟨#[]⟩)] 3 [(0,(.c (.str ⟨#[88]⟩))),(1,(.c (.str ⟨#[97]⟩))),(2,(.c (.str ⟨#[]⟩)))])⟩,⟨some 18,none,.call 37 [(.t 16),(.t 17)]⟩,⟨some 19,none,.faddr 3 (.t 3)⟩,⟨none,none,(.store 1 (.t 19) (.t 18))⟩]) (.seq (.reg [⟨some 21,none,.bin .eql false (.t 8) (.c (.int .i64 2))⟩,⟨some 20,none,.mv (.t 21)⟩]) (.cond (.t 20) (.reg [⟨some 22,none,.mv (.t 0)⟩,⟨some 23,none,.call 40 [(.t 22)]⟩,⟨some 24,none,.faddr 1 (.t 3)⟩,⟨none,none,(.store 2 (.t 24) (.t 23))⟩]) (.seq (.reg [⟨some 26,none,.bin .eql false (.t 8) (.c (.int .i64 3))⟩,⟨some 25,none,.mv (.t 26)⟩]) (.cond (.t 25) (.dreg [[],[0],[],[2],[3,2],[1,0,4,3,2],[0,1,2,3,4,5],[6,0,1,2,3,4,5]] [⟨some 27,none,.faddr 4 (.t 3)⟩,⟨some 28,none,.load false 1 (.t 27)⟩,⟨some 29,none,.mv (.t 0)⟩,⟨some 30,none,.call 39 [(.t 29)]⟩,⟨(some 31),none,(.mkrow 33 5 [(.int .i64 0),(.str ⟨#[]⟩),.nil,(.str ⟨#[]⟩),.nil] 1 [(0,(.t 30))])⟩,⟨(some 32),none,(.append 33 5 88 [(.int .i64 0),(.str ⟨#[]⟩),.nil,(.str ⟨#[]⟩),.nil] (.t 28) (.t 31))⟩,⟨some 33,none,.faddr 4 (.t 3)⟩,⟨none,none,(.store 1 (.t 33) (.t 32))⟩]) (.seq (.reg [⟨some 35,none,.bin .eql false (.t 8) (.c (.int .i64 4))⟩,⟨some 34,none,.mv (.t 35)⟩]) (.cond (.t 34) (.seq (.reg [⟨some 36,none,.mv (.t 0)⟩,⟨some 37,none,.call 28 [(.t 36),(.c (.int .i64 5))]⟩,⟨some 38,none,.bin .add false (.c (.int .i64 36)) (.t 37)⟩,⟨some 4,none,.mv (.t 38)⟩]) (.block 1 (.loop [0,0,1,1,1,0,0,0,0,0,0,0,0,0,0,0,0,0,0,0,0,0,0,0,0,0,0,0,0,0,0,0,0,0,0,0,0,0,0,0,0,0,0,0,0,0,0,0,0,0,0,0,0,0,0,0,0,0,0] (.seq (.seq (.reg [⟨some 39,none,.load true 5 (.t 3)⟩,⟨some 40,none,.call 41 [(.t 39)]⟩,⟨some 41,none,.mv (.t 4)⟩,⟨some 42,none,.bin .lss false (.t 40) (.t 41)⟩]) (.cond (.t 42) .skip (.exit 1))) (.block 2 (.reg [⟨some 43,none,.load true 5 (.t 3)⟩,⟨(some 44),none,(.mkrow 33 5 [(.int .i64 0),(.str ⟨#[]⟩),.nil,(.str ⟨#[]⟩),.nil] 1 [(0,(.t 43))])⟩,⟨(some 45),none,(.build [(.int .i64 0),(.str ⟨#[]⟩),.nil,(.str ⟨#[]⟩),.nil] [(0,(1,(.c (.int .i64 4)))),(4,(1,(.t 44)))])⟩,⟨none,none,(.store 5 (.t 3) (.t 45))⟩])))))) (.seq (.reg [⟨some 47,none,.bin .eql false (.t 8) (.c (.int .i64 5))⟩,⟨some 46,none,.mv (.t 47)⟩]) (.cond (.t 46) (.seq (.reg [⟨some 48,none,.faddr 4 (.t 3)⟩,⟨some 49,none,.load false 1 (.t 48)⟩,⟨some 50,none,.len false (.t 49)⟩,⟨some 51,none,.bin .gtr false (.t 50) (.c (.int .i64 0))⟩]) (.cond (.t 51) (.dreg [[],[0],[],[2],[1,0,2,3],[4,1,0,2,3],[5,4,1,0,2,3]] [⟨some 52,none,.faddr 4 (.t 3)⟩,⟨some 53,none,.load false 1 (.t 52)⟩,⟨some 54,none,.mv (.t 0)⟩,⟨some 55,none,.call 28 [(.t 54),(.c (.int .i64 11))]⟩,⟨some 56,none,.iaddr 5 (.t 53) (.c (.int .i64 0))⟩,⟨some 57,none,.faddr 0 (.t 56)⟩,⟨none,none,(.store 1 (.t 57) (.t 55))⟩]) .skip)) .skip)))))))))))))) (.seq (.reg [⟨some 58,none,.load true 5 (.t 3)⟩,⟨none,none,(.store 5 (.t 2) (.t 58))⟩]) .ret))))
theorem Bu:Aq Tryz.prog 18=some ⟨59,Bf,[(.cell 2 true 5)]⟩:=by kernel_rfl
theorem Bg:modes 18=⟨[],.half [none,none,some (30,2),none,some (33,5)],none,false⟩:=by unfold modes; rfl
theorem VH (x:Fm) (hn:x.nodes≤1099511627776) (ih:∀ y∈x.parts,E 41 [y.sv] []=some (.int .i64 y.nodes,[])):E 41 [x.sv] []=some (.int .i64 x.nodes,[]):=by
 have hl:=Fm.length_le x.parts
 have hne:=Fm.nodes_eq x
 refine Al OU BE (of_decide_eq_true rfl) ?_
 simp (disch:=omega) only [Km,go_sem,Ab]
 refine go_loop (α:=Int × (Int)) (fun a=>⟨slots 21 0 [(1,.ptr 0 0),(3,.int .i64 (a.2)),(4,.int .i64 (a.1))],[.box 33 [.int .i64 x.op,.str x.atom.name,.arr (x.atom.args.map Tm.d),.str x.var,.arr (x.parts.map Fm.d)]]⟩) (fun a=>∃ k:Nat,a.1=k∧k≤(x.parts).length∧(a.2)=((1+Fm.nodeS (x.parts.take k):Nat):Int)) (fun a=>(x.parts).length-(a.1).toNat) (0,1) ⟨0,rfl,zP _,by rw [yT]; rfl⟩ (by simp (disch:=omega) only [go_sem,Ab]) ?_
 rintro ⟨i,n⟩ ⟨k,hi,hk,hR⟩
 dsimp only at hi hR
 have hni:i.toNat=k:=by omega
 have hni1:(i+1).toNat=k+1:=by omega
 rcases zM k (x.parts).length with hlt | hge
 ·have hg:=get_at Fm.d hlt
  rw [Fm.d_eq] at hg
  have hc:=ih x.parts[k] (zQ hlt)
  have ht:=Fm.Od x.parts k hlt
  have htl:=Fm.ON x.parts (k+1)
  have hi2:dec (inK .i64 (n+(x.parts[k].nodes:Int)))=true:=Er (by omega) (by omega)
  simp (disch:=omega) only [go_sem,Ab,hni,hg,hc,hi2,BE]
  exact ⟨(i+1,n+(x.parts[k].nodes:Int)),⟨k+1,by dsimp only; omega,hlt,by dsimp only; omega⟩,by dsimp only; omega,by first | trivial | rfl⟩
 ·obtain rfl:k=x.parts.length:=by omega
  rw [yL,← hne] at hR
  rw [←hR]
  simp (disch:=omega) only [go_sem,Ab,hni]
theorem Sp (x:Fm) (hn:x.nodes≤1099511627776):E 41 [x.sv] []=some (.int .i64 x.nodes,[]) :=
 VH x hn fun y hy=>Sp y (by have:=Fm.nodes_mem hy; have:=Fm.nodes_eq x; omega)
termination_by SizeOf.sizeOf x
decreasing_by exact Fm.lt_of_mem hy
def Fo (x:Fm):Nat→Fm
 | 0=>x
 | k+1=>.mk 4 Tm.zero ⟨#[]⟩ [Fo x k]
theorem I4 (x:Fm):∀ k,(Fo x k).nodes=x.nodes+k
 | 0=>rfl
 | k+1=>by
  have:(Fo x (k+1)).nodes=1+((Fo x k).nodes+0):=by rw [Fo,Fm.C2]; rfl
  rw [this,I4 x k]; omega
theorem U1 (x:Fm):∀ k,(Fo x k).vn=x.vn+k
 | 0=>rfl
 | k+1=>by
  have:(Fo x (k+1)).vn=1+((Fo x k).vn+0):=by rw [Fo,Fm.EO,Dn]; rfl
  rw [this,U1 x k]; omega
theorem PX {x:Fm} (h:x.tame):∀ k,(Fo x k).tame
 | 0=>h
 | k+1=>Fm.CX (by rw [Dn]; omega) (Fm.O8 (PX h k))
theorem Fm.nodeS_app:∀ (a b:List Fm),Fm.nodeS (a++b)=Fm.nodeS a+Fm.nodeS b
 | [],b=>by simp [Fm.nodeS]
 | x :: a,b=>by simp only [zS,Fm.nodeS,Fm.nodeS_app a b]; omega
theorem Fm.U2:∀ a b:List Fm,Fm.vnS (a++b)=Fm.vnS a+Fm.vnS b
 | [],b=>by simp [Fm.vnS]
 | x :: a,b=>by simp only [zS,Fm.vnS,Fm.U2 a b]; omega
theorem Fm.PY:∀ {a b:List Fm},Fm.D9 a→Fm.D9 b→Fm.D9 (a++b)
 | [],b,_,h=>h
 | x :: a,b,h,k=>by
  simp only [Fm.D9] at h
  simp only [zS,Fm.D9]
  exact ⟨h.1,Fm.PY h.2 k⟩
theorem Fm.U3 {x:Fm} (h:x.tame):Fm.D9 x.parts:=by rw [Fm.It] at h; exact h.2
theorem OV (l:List Int) (hl:Bytes l) (hn:l.length≤1099511627776) (p s:Int) (h0:0≤p) (h1:p≤1060000000000):∃ x p' s',E 18 [.ptr 0 0] [cur l p s]=some (fmH x 1 2,[cur l p' s',So x,T5 x])∧(p≤p'∧p'≤p+5000)∧x.nodes≤100∧x.tame∧x.vn≤300:=by
 obtain ⟨Q,hQ⟩:∃ Q:SV × List Ob→Prop,Q=fun out=>∃ x p' s',out=(fmH x 1 2,[cur l p' s',So x,T5 x])∧(p≤p'∧p'≤p+5000)∧x.nodes≤100∧x.tame∧x.vn≤300:=⟨_,rfl⟩
 suffices hq0:∃ out,E 18 [.ptr 0 0] [cur l p s]=some out∧Q out by
  obtain ⟨out,hq1,hq2⟩:=hq0
  rw [hQ] at hq2
  obtain ⟨x,p',s',rfl,hq3⟩:=hq2
  exact ⟨x,p',s',hq1,hq3⟩
 obtain ⟨x,p1,s1,hf,⟨g1,g2⟩,g3,hta,hvn⟩:=O9 l hl hn p s h0 (by omega)
 obtain ⟨v,p2,s2,hv,⟨v0,v1⟩,g4,g5⟩:=CS l hl hn 24 (by omega) (by omega) p1 s1 (by omega) (by omega)
 have hlen:=Fm.length_le x.parts
 have hne:=Fm.nodes_eq x
 have hve:=Fm.M9 x
 have hat:=Fm.Lv hta
 have hps:=Fm.U3 hta
 rcases (show v=0∨v=1∨v=2∨v=3∨v=4∨v=5∨(¬ v=0∧¬ v=1∧¬ v=2∧¬ v=3∧¬ v=4∧¬ v=5) by omega) with rfl | rfl | rfl | rfl | rfl | rfl | ⟨k0,k1,k2,k3,k4,k5⟩
 ·obtain ⟨u,p3,s3,hu,_,g6,g7⟩:=CS l hl hn 11 (by omega) (by omega) p2 s2 (by omega) (by omega)
  refine AM Bu Bg (of_decide_eq_true rfl) ?_
  simp (disch:=omega) only [Bf,go_sem,Ab,hf,hv,hu,Am,B3,Ax,AA,BE]
  rw [hQ]
  exact ⟨.mk u x.atom x.var x.parts,p3,s3,rfl,by omega,by rw [Fm.C2]; omega,Fm.CX hat hps,by rw [Fm.EO]; omega⟩
 ·obtain ⟨y,p3,s3,hu,_,g6,g7⟩:=R9 l hl hn [⟨#[88]⟩,⟨#[97]⟩,⟨#[]⟩] (by decide) (by decide) p2 s2 (by omega) (by omega)
  simp only [zH,zK] at hu
  refine AM Bu Bg (of_decide_eq_true rfl) ?_
  simp (disch:=omega) only [Bf,go_sem,Ab,hf,hv,hu,Am,B3,Ax,AA,BE]
  rw [hQ]
  exact ⟨.mk x.op x.atom y x.parts,p3,s3,rfl,by omega,by rw [Fm.C2]; omega,Fm.CX hat hps,by rw [Fm.EO]; omega⟩
 ·obtain ⟨t,p3,s3,hu,⟨g6,g7⟩,g8⟩:=VG l hl hn p2 s2 (by omega) (by omega)
  refine AM Bu Bg (of_decide_eq_true rfl) ?_
  simp (disch:=omega) only [Bf,go_sem,Ab,hf,hv,hu,Am,B3,Ax,AA,BE]
  rw [hQ]
  exact ⟨.mk x.op t x.var x.parts,p3,s3,rfl,by omega,by rw [Fm.C2]; omega,Fm.CX (by omega) hps,by rw [Fm.EO]; omega⟩
 ·obtain ⟨y,p3,s3,hu,⟨g6,g7⟩,g8,hty,hvy⟩:=O9 l hl hn p2 s2 (by omega) (by omega)
  have hxl:x.parts.length≤31:=by omega
  refine AM Bu Bg (of_decide_eq_true rfl) ?_
  simp (disch:=omega) only [Bf,go_sem,Ab,hf,hv,hu,Am,B3,Ax,AA,BE]
  rw [hQ]
  refine ⟨.mk x.op x.atom x.var (x.parts++[y]),p3,s3,?_,by omega,by rw [Fm.C2,Fm.nodeS_app]; show 1+(_+(y.nodes+0))≤_; omega,Fm.CX hat (Fm.PY hps (Fm.O8 hty)),by rw [Fm.EO,Fm.U2]; show _+(_+(y.vn+0))≤_; omega⟩
  show _=(fmH (.mk x.op x.atom x.var (x.parts++[y])) 1 2,[cur l p3 s3,So x,.row 33 5 ((x.parts++[y]).map Fm.hs)])
  rw [zV]
  rfl
 ·obtain ⟨u,p3,s3,hu,⟨u0,u1⟩,g6,g7⟩:=CS l hl hn 5 (by omega) (by omega) p2 s2 (by omega) (by omega)
  have hi:dec (inK .i64 (36+u))=true:=Er (by omega) (by omega)
  refine AM Bu Bg (of_decide_eq_true rfl) ?_
  simp (disch:=omega) only [Bf,go_sem,Ab,hf,hv,hu,hi,Am,B3,Ax,AA,BE]
  refine go_loop (α:=Nat × List (List OT) × List (List OT)) (fun a=>⟨slots 59 0 [(2,.ptr 1 0),(3,.ptr 2 0),(4,.int .i64 (36+u))],(if a.1=0 then [cur l p3 s3,.box 33 [.int .i64 0,.str ⟨#[]⟩,.nil,.str ⟨#[]⟩,.nil],.box 33 [.int .i64 x.op,.str x.atom.name,.ref 3,.str x.var,.ref 4],So x,T5 x] else [cur l p3 s3,.box 33 [.int .i64 0,.str ⟨#[]⟩,.nil,.str ⟨#[]⟩,.nil],.box 33 [.int .i64 4,.str ⟨#[]⟩,.nil,.str ⟨#[]⟩,.ref 3],.row 33 5 [[.int (Fo x (a.1-1)).op,.str (Fo x (a.1-1)).atom.name,.ow a.2.1,.str (Fo x (a.1-1)).var,.ow a.2.2]]])⟩) (fun a=>(a.1=0∨(OT.erss a.2.1=(Fo x (a.1-1)).atom.args.map Tm.d∧OT.erss a.2.2=(Fo x (a.1-1)).parts.map Fm.d∧OT.AC a.2.1=true∧OT.AC a.2.2=true))∧a.1≤50) (fun a=>50-a.1) (0,[],[]) ⟨.inl rfl,by omega⟩ (by simp (disch:=omega) only [go_sem,Ab,eq_self,if_true]) ?_
  rintro ⟨k,A,B⟩ ⟨hR,hk⟩
  dsimp only at hR hk
  have hsz:=Sp (Fo x k) (by rw [I4]; omega)
  rw [I4] at hsz
  have hnn:=I4 x k
  rcases zN k with hk0 | hk0
  ·subst hk0
   have hsz:E 41 [.agg [.int .i64 x.op,.str x.atom.name,.arr (x.atom.args.map Tm.d),.str x.var,.arr (x.parts.map Fm.d)]] []=some (.int .i64 ((x.nodes+0:Nat):Int),[]):=hsz
   have q6:((0:Nat)+1=0)=False:=by simp
   by_cases hc:((x.nodes+0:Nat):Int)<36+u
   ·have q1:(((x.nodes+0:Nat):Int)<36+u)=True:=eq_true hc
    simp (disch:=omega) only [go_sem,Ab,hsz,q1,eq_self,if_true,BE]
    refine ⟨(0+1,x.atom.args.map Tm.osh,x.parts.map Fm.hs),⟨.inr ⟨Tm.osh_er _,Fm.hs_er _,Tm.osh_full _,Fm.hs_full _⟩,by dsimp only; omega⟩,by dsimp only; omega,?_⟩
    simp (disch:=omega) only [go_sem,Ab,q6,if_false,Nat.add_sub_cancel]
    first | rfl | exact ⟨rfl,rfl⟩
   ·exact absurd (show ((x.nodes+0:Nat):Int)<36+u by omega) hc
  ·obtain ⟨j,rfl⟩:∃ j,k=j+1:=⟨k-1,by omega⟩
   obtain ⟨e1,e2,e3,e4⟩:=hR.resolve_left (by omega)
   rw [Nat.add_sub_cancel] at e1 e2
   have hsv:(Fo x (j+1)).sv=.agg [.int .i64 4,.str ⟨#[]⟩,.arr [],.str ⟨#[]⟩,.arr [[.int (Fo x j).op,.str (Fo x j).atom.name,.arr ((Fo x j).atom.args.map Tm.d),.str (Fo x j).var,.arr ((Fo x j).parts.map Fm.d)]]]:=by
    show SV.agg [.int .i64 4,.str ⟨#[]⟩,.arr (([]:List Tm).map Tm.d),.str ⟨#[]⟩,.arr ([Fo x j].map Fm.d)]=_
    rw [zH,zK,zK,Fm.d_eq]
   rw [hsv] at hsz
   have q8:(j+1=0)=False:=by simp
   have q9:j+1-1=j:=by omega
   have q10:(j+1+1=0)=False:=by simp
   have q11:j+1+1-1=j+1:=by omega
   by_cases hc:((x.nodes+(j+1):Nat):Int)<36+u
   ·have q1:(((x.nodes+(j+1):Nat):Int)<36+u)=True:=eq_true hc
    simp (disch:=omega) only [go_sem,Ab,hsz,q1,q8,q9,if_false,e1,e2,e3,e4,BE]
    refine ⟨(j+1+1,[],[[.int (Fo x j).op,.str (Fo x j).atom.name,.ow A,.str (Fo x j).var,.ow B]]),⟨.inr ⟨?_,?_,rfl,?_⟩,by dsimp only; omega⟩,by dsimp only; omega,?_⟩
    ·dsimp only; rw [q11]; rfl
    ·dsimp only; rw [q11]
     simp only [OT.erss,OT.ers,OT.er,e1,e2]
     rw [show (Fo x (j+1)).parts=[Fo x j] from rfl,zH,zK,Fm.d_eq]
    ·simp only [OT.AC,OT.CN,OT.full,e3,e4,z6]
    ·simp (disch:=omega) only [go_sem,Ab,q10,q11,if_false]
     first | rfl | exact ⟨rfl,rfl⟩
   ·have q1:(((x.nodes+(j+1):Nat):Int)<36+u)=False:=eq_false hc
    simp (disch:=omega) only [go_sem,Ab,hsz,q1,q8,q9,if_false,e1,e2,e3,e4,BE]
    rw [hQ]
    exact ⟨Fo x (j+1),p3,s3,rfl,by omega,by omega,PX hta _,by rw [U1]; omega⟩
 ·rcases hc:x.parts with _ | ⟨a0,ar⟩
  ·have q0:((0:Int)<(x.parts.length:Int))=False:=eq_false (by rw [hc]; simp)
   rw [←hc] at *
   refine AM Bu Bg (of_decide_eq_true rfl) ?_
   simp (disch:=omega) only [Bf,go_sem,Ab,hf,hv,q0,Am,B3,Ax,AA,BE]
   rw [hQ]
   exact ⟨x,p2,s2,rfl,by omega,by omega,hta,by omega⟩
  ·have q0:((0:Int)<(x.parts.length:Int))=True:=eq_true (by rw [hc]; simp)
   obtain ⟨u,p3,s3,hu,_,g6,g7⟩:=CS l hl hn 11 (by omega) (by omega) p2 s2 (by omega) (by omega)
   have hm:x.parts.map Fm.hs=[.int a0.op,.str a0.atom.name,.sh (a0.atom.args.map Tm.d),.str a0.var,.sh (a0.parts.map Fm.d)] :: ar.map Fm.hs:=by rw [hc]; rfl
   have hgl:(x.parts.map Fm.hs)[0]?=some [.int a0.op,.str a0.atom.name,.sh (a0.atom.args.map Tm.d),.str a0.var,.sh (a0.parts.map Fm.d)]:=by rw [hm]; rfl
   have hst:∀ y,(x.parts.map Fm.hs).set 0 y=y :: ar.map Fm.hs:=fun y=>by rw [hm]; rfl
   have q1:0<x.parts.length:=by rw [hc]; simp
   have hnn:x.nodes=1+(a0.nodes+Fm.nodeS ar):=by rw [Fm.nodes_eq,hc]; rfl
   rw [hc] at hps
   simp only [Fm.D9] at hps
   refine AM Bu Bg (of_decide_eq_true rfl) ?_
   simp (disch:=omega) only [Bf,go_sem,Ab,hf,hv,q0,hu,hgl,hst,q1,Am,B3,Ax,AA,BE]
   rw [hQ]
   have hvv:x.vn=x.atom.nodes+(a0.vn+Fm.vnS ar):=by rw [Fm.M9,hc]; rfl
   refine ⟨.mk x.op x.atom x.var (.mk u a0.atom a0.var a0.parts :: ar),p3,s3,rfl,by omega,?_,Fm.CX hat ?_,?_⟩
   ·rw [Fm.C2]
    show 1+((Fm.mk u a0.atom a0.var a0.parts).nodes+Fm.nodeS ar)≤_
    rw [Fm.C2]
    have:=Fm.nodes_eq a0
    omega
   ·simp only [Fm.D9]
    exact ⟨Fm.CX (Fm.Lv hps.1) (Fm.U3 hps.1),hps.2⟩
   ·rw [Fm.EO]
    show _+((Fm.mk u a0.atom a0.var a0.parts).vn+Fm.vnS ar)≤_
    rw [Fm.EO]
    have:=Fm.M9 a0
    omega
 ·have k0:=eq_false k0
  have k1:=eq_false k1
  have k2:=eq_false k2
  have k3:=eq_false k3
  have k4:=eq_false k4
  have k5:=eq_false k5
  refine AM Bu Bg (of_decide_eq_true rfl) ?_
  simp (disch:=omega) only [Bf,go_sem,Ab,hf,hv,k0,k1,k2,k3,k4,k5,Am,B3,Ax,AA,BE]
  rw [hQ]
  exact ⟨x,p2,s2,rfl,by omega,by omega,hta,by omega⟩
theorem QF (l:List Int) (hl:Bytes l) (hn:l.length≤1099511627776) (p s:Int) (h0:0≤p) (h1:p≤1060000000000):∃ x p' s',E 18 [.ptr 0 0] [cur l p s]=some (fmH x 1 2,[cur l p' s',So x,T5 x])∧(p≤p'∧p'≤p+5000)∧x.nodes≤100∧x.tame:=by
 obtain ⟨x,p',s',h2,h3,h4,h5,_⟩:=OV l hl hn p s h0 h1
 exact ⟨x,p',s',h2,h3,h4,h5⟩
def ME:SC:=(.seq (.reg [⟨some 2,none,.mv (.c (.bool false))⟩]) (.seq (.reg [⟨some 3,none,.mv (.t 0)⟩,⟨some 4,none,.len false (.t 3)⟩,⟨some 5,none,.bin .gtr false (.t 4) (.c (.int .i64 65536))⟩,⟨some 2,none,.mv (.t 5)⟩]) .ret))
theorem Sq:Aq Tryz.prog 5=some ⟨6,ME,[(.tmp 2)]⟩:=by kernel_rfl
theorem Do:modes 5=⟨[],.asis,none,false⟩:=by unfold modes; rfl
def J0:SC:=(.seq (.reg [⟨some 4,none,.mv (.c .nil)⟩]) (.seq (.seq (.reg [⟨some 5,none,.mv (.t 1)⟩,⟨some 6,none,.mv (.t 0)⟩,⟨some 7,none,.len false (.t 6)⟩,⟨some 8,none,.bin .gtr false (.t 5) (.t 7)⟩]) (.cond (.t 8) (.reg [⟨some 9,none,.mv (.t 0)⟩,⟨some 10,none,.len false (.t 9)⟩,⟨some 1,none,.mv (.t 10)⟩]) .skip)) (.seq (.reg [⟨some 11,none,.mkrow 5 1 [(.int .u8 0)] 0 []⟩,⟨some 12,none,.mv (.t 0)⟩,⟨some 13,none,.mv (.t 1)⟩,⟨some 14,none,.slice false 1 (.t 12) (some (.t 13)) none⟩,⟨some 15,none,.append 5 1 1 [(.int .u8 0)] (.t 11) (.t 14)⟩,⟨some 16,none,.mv (.t 1)⟩,⟨some 17,none,.conv .u8 (.t 16)⟩,⟨some 18,none,.mkrow 5 1 [(.int .u8 0)] 1 [(0,(.t 17))]⟩,⟨some 19,none,.append 5 1 1 [(.int .u8 0)] (.t 15) (.t 18)⟩,⟨some 4,none,.mv (.t 19)⟩]) .ret)))
theorem MG:Aq Tryz.prog 15=some ⟨20,J0,[(.tmp 4)]⟩:=by kernel_rfl
theorem CQ:modes 15=⟨[],.frz,none,false⟩:=by unfold modes; rfl
theorem Qa5 (l:List Int):E 5 [.arr (l.map by_)] []=some (.bool (dec (65536<(l.length:Int))),[]):=by
 refine Al Sq Do (of_decide_eq_true rfl) ?_
 simp (disch:=omega) only [ME,go_sem,Ab]
def QG (l:List Int) (n:Int):List Int:=l.drop (min n.toNat l.length)++[((min n.toNat l.length:Nat):Int) % 256]
theorem T6 {l:List Int} (h:Bytes l) (n:Int):Bytes (QG l n):=by
 intro b hb
 rcases List.mem_append.1 hb with hb | hb
 ·exact h b (List.mem_of_mem_drop hb)
 ·simp only [List.mem_singleton] at hb
  omega
theorem XI (l:List Int) (n:Int):(QG l n).length≤l.length+1:=by
 unfold QG
 rw [List.length_append,yM,List.length_singleton]; omega
theorem Z1 (l:List Int):OT.erss ((l.map by_).map (·.map D.ot))=l.map by_:=by
 rw [OT.G2,yO,yO]
 exact List.map_congr_left fun b _=>rfl
theorem U4 (l:List Int):OT.AC ((l.map by_).map (·.map D.ot))=true:=by
 induction l with
 | nil=>rfl
 | cons x xs ih=>simp only [zH,OT.AC,ih]; rfl
theorem XJ (l:List Int):((l.map by_).all fun e=>e.length == 1)=true:=by rw [List.all_map,List.all_eq_true]; intro x _; rfl
theorem U5 (l:List Int):(((l.map by_).map (·.map D.ot)).all fun e=>e.length == 1)=true:=by rw [List.all_map,List.all_map,List.all_eq_true]; intro x _; rfl
theorem erss_app:∀ a b:List (List OT),OT.erss (a++b)=OT.erss a++OT.erss b
 | [],b=>by simp [OT.erss]
 | x :: a,b=>by simp only [zS,OT.erss,erss_app a b]
theorem fullss_app:∀ a b:List (List OT),OT.AC (a++b)=(OT.AC a&&OT.AC b)
 | [],b=>by simp [OT.AC]
 | x :: a,b=>by simp only [zS,OT.AC,fullss_app a b,Bool.and_assoc]
theorem Qa6 (l:List Int) (hn:l.length≤1099511627776) (n:Int) (h0:0≤n) (h1:n≤255):E 15 [.arr (l.map by_),.int .i64 n] []=some (.arr ((QG l n).map by_),[]):=by
 have ht:(l.map by_).take l.length=l.map by_:=List.take_of_length_le (by rw [zR]; exact yQ _)
 have hd:∀ n,(l.map by_).drop n=(l.drop n).map by_:=fun n=>List.map_drop.symm
 by_cases hc:(l.length:Int)<n
 ·have hn1:((l.length:Int)<n)=True:=eq_true hc
  have hw:IntKind.u8.wrap (l.length:Int)=(l.length:Int) % 256:=rfl
  have e1:QG l n=l.drop l.length++[((l.length:Nat):Int) % 256]:=by
   unfold QG
   rw [show min n.toNat l.length=l.length by omega]
  rw [e1,zV]
  refine Al MG CQ (of_decide_eq_true rfl) ?_
  simp (disch:=omega) only [J0,go_sem,Ab,hn1,zK,ht,hd,XJ,U5,Z1,U4,erss_app,fullss_app,hw,yM]
 ·have hn1:((l.length:Int)<n)=False:=eq_false hc
  have hw:IntKind.u8.wrap n=n % 256:=rfl
  have e1:QG l n=l.drop n.toNat++[n % 256]:=by
   unfold QG
   rw [show min n.toNat l.length=n.toNat by omega]
   congr 2
   omega
  rw [e1,zV]
  refine Al MG CQ (of_decide_eq_true rfl) ?_
  simp (disch:=omega) only [J0,go_sem,Ab,hn1,zK,ht,hd,XJ,U5,Z1,U4,erss_app,fullss_app,hw,yM]
def Dw:SC:=(.seq (.reg [⟨some 2,none,.mv (.c (.bool false))⟩]) (.seq (.seq (.reg [⟨some 22,none,.mv (.t 0)⟩,⟨some 23,none,.call 5 [(.t 22)]⟩]) (.cond (.t 23) (.seq (.reg [⟨some 2,none,.mv (.c (.bool true))⟩]) .ret) .skip)) (.seq (.reg [⟨some 25,none,.mv (.t 0)⟩,⟨some 26,none,.call 9 [(.t 25)]⟩,⟨some 24,none,.mv (.t 26)⟩,⟨some 27,none,.ext (.t 24) 0⟩,⟨some 28,none,.ext (.t 24) 1⟩,⟨some 3,none,.alloc 26 [(.int .i64 0),.nil]⟩,⟨none,none,(.store 2 (.t 3) (.t 27))⟩,⟨some 4,none,.mv (.t 28)⟩]) (.seq (.reg [⟨some 30,none,.load true 2 (.t 3)⟩,⟨some 31,none,.mv (.t 4)⟩,⟨some 32,none,.call 10 [(.t 30),(.t 31)]⟩,⟨some 29,none,.mv (.t 32)⟩,⟨some 33,none,.ext (.t 29) 0⟩,⟨some 34,none,.ext (.t 29) 1⟩,⟨some 5,none,.alloc 26 [(.int .i64 0),.nil]⟩,⟨none,none,(.store 2 (.t 5) (.t 33))⟩,⟨some 6,none,.mv (.t 34)⟩]) (.seq (.seq (.reg [⟨some 36,none,.load true 2 (.t 3)⟩,⟨some 37,none,.mv (.t 4)⟩,⟨some 38,none,.call 11 [(.t 36),(.t 37)]⟩,⟨some 35,none,.mv (.t 38)⟩,⟨some 39,none,.ext (.t 35) 0⟩,⟨some 40,none,.ext (.t 35) 1⟩,⟨some 7,none,.alloc 26 [(.int .i64 0),.nil]⟩,⟨none,none,(.store 2 (.t 7) (.t 39))⟩,⟨some 8,none,.mv (.t 40)⟩]) (.seq (.reg [⟨some 41,none,.mv (.t 6)⟩,⟨some 42,none,.mv (.t 8)⟩,⟨some 43,none,.bin .neq true (.t 41) (.t 42)⟩,⟨some 44,none,.mv (.t 43)⟩,⟨(some 45),(some (44,false)),(.mv (.t 6))⟩,⟨(some 46),(some (44,false)),(.un .not (.t 45))⟩,⟨some 47,none,.pick (.t 44) (.c (.bool true)) (.t 46)⟩]) (.cond (.t 47) (.seq (.reg [⟨some 48,none,.mv (.t 6)⟩,⟨some 49,none,.mv (.t 8)⟩,⟨some 50,none,.bin .eql true (.t 48) (.t 49)⟩,⟨some 51,none,.mv (.t 50)⟩,⟨(some 52),(some (51,true)),(.faddr 0 (.t 5))⟩,⟨(some 53),(some (51,true)),(.load false 1 (.t 52))⟩,⟨(some 54),(some (51,true)),(.bin .eql false (.t 53) (.c (.int .i64 0)))⟩,⟨some 55,none,.pick (.t 51) (.t 54) (.c (.bool false))⟩,⟨some 2,none,.mv (.t 55)⟩]) .ret) .skip))) (.seq (.reg [⟨some 56,none,.mv (.t 4)⟩,⟨some 57,none,.len false (.t 56)⟩,⟨some 58,none,.mkslice 3 1 8 [(.int .i64 0)] (.t 57)⟩,⟨some 9,none,.mv (.t 58)⟩]) (.seq (.seq (.reg [⟨some 10,none,.mv (.c (.int .i64 0))⟩]) (.block 0 (.loop [1,0,0,1,1,1,0,0,0,1,1,0,0,0,0,0,0,0,0,0,0,0,0,0,0,0,0,0,0,0,0,0,0,0,0,0,0,0,0,0,0,0,0,0,0,0,0,0,0,0,0,0,0,0,0,0,0,0,0,0,0,0,0,0,0,0,0,0,0,0,0,0,0,0,0,0,0,0,0,0,0,0,0,0,0,0,0,0,0,0,0,0,0,0,0,0,0,0,0,0,0,0,0,0,0,0,0,0,0,0,0,0,0,0,0,0,0,0,0,0,0,0,0,0,0,0,0,0,0,0,0,0,0,0,0,0,0,0,0,0,0,0,0,0,0,0,0,0,0,0,0,0,0,0,0,0,0,0,0,0,0,0,0,0,0,0,0,0,0,0,0,0,0,0,0] (.seq (.seq (.reg [⟨some 59,none,.mv (.t 10)⟩,⟨some 60,none,.mv (.t 4)⟩,⟨some 61,none,.len false (.t 60)⟩,⟨some 62,none,.bin .lss false (.t 59) (.t 61)⟩]) (.cond (.t 62) .skip (.exit 0))) (.seq (.block 1 (.reg [⟨some 65,none,.mv (.t 9)⟩,⟨some 66,none,.mv (.t 4)⟩,⟨some 67,none,.mv (.t 10)⟩,⟨some 68,none,.iaddr 1 (.t 66) (.t 67)⟩,⟨some 69,none,.load false 1 (.t 68)⟩,⟨some 70,none,.mv (.t 10)⟩,⟨some 71,none,.iaddr 1 (.t 65) (.t 69)⟩,⟨none,none,(.store 1 (.t 71) (.t 70))⟩])) (.reg [⟨some 63,none,.mv (.t 10)⟩,⟨some 64,none,.bin .add false (.t 63) (.c (.int .i64 1))⟩,⟨some 10,none,.mv (.t 64)⟩])))))) (.seq (.reg [⟨some 73,none,.load true 2 (.t 5)⟩,⟨some 74,none,.mv (.t 9)⟩,⟨some 75,none,.call 10 [(.t 73),(.t 74)]⟩,⟨some 72,none,.mv (.t 75)⟩,⟨some 76,none,.ext (.t 72) 0⟩,⟨some 77,none,.ext (.t 72) 1⟩,⟨some 11,none,.alloc 26 [(.int .i64 0),.nil]⟩,⟨none,none,(.store 2 (.t 11) (.t 76))⟩,⟨some 12,none,.mv (.t 77)⟩]) (.seq (.seq (.reg [⟨some 78,none,.mv (.t 12)⟩,⟨some 79,none,.un .not (.t 78)⟩,⟨some 80,none,.mv (.t 79)⟩,⟨(some 81),(some (80,false)),(.faddr 1 (.t 11))⟩,⟨(some 82),(some (80,false)),(.load false 1 (.t 81))⟩,⟨(some 83),(some (80,false)),(.len false (.t 82))⟩,⟨(some 84),(some (80,false)),(.faddr 1 (.t 3))⟩,⟨(some 85),(some (80,false)),(.load false 1 (.t 84))⟩,⟨(some 86),(some (80,false)),(.len false (.t 85))⟩,⟨(some 87),(some (80,false)),(.bin .neq false (.t 83) (.t 86))⟩,⟨some 88,none,.pick (.t 80) (.c (.bool true)) (.t 87)⟩,⟨some 89,none,.mv (.t 88)⟩,⟨(some 90),(some (89,false)),(.faddr 0 (.t 11))⟩,⟨(some 91),(some (89,false)),(.load false 1 (.t 90))⟩,⟨(some 92),(some (89,false)),(.faddr 0 (.t 3))⟩,⟨(some 93),(some (89,false)),(.load false 1 (.t 92))⟩,⟨(some 94),(some (89,false)),(.bin .neq false (.t 91) (.t 93))⟩,⟨some 95,none,.pick (.t 89) (.c (.bool true)) (.t 94)⟩]) (.cond (.t 95) (.seq (.reg [⟨some 2,none,.mv (.c (.bool false))⟩]) .ret) .skip)) (.seq (.seq (.reg [⟨some 13,none,.mv (.c (.int .i64 0))⟩]) (.block 2 (.loop [1,0,0,1,0,1,0,0,0,0,0,1,0,1,0,0,0,0,0,0,0,0,0,0,0,0,0,0,0,0,0,0,0,0,0,0,0,0,0,0,0,0,0,0,0,0,0,0,0,0,0,0,0,0,0,0,0,0,0,0,0,0,0,0,0,0,0,0,0,0,0,0,0,0,0,0,0,0,0,0,0,0,0,0,0,0,0,0,0,0,0,0,0,0,0,0,0,0,0,0,0,0,0,0,0,0,0,0,0,0,0,0,0,0,0,0,0,0,0,0,0,0,0,0,0,0,0,0,0,0,0,0,0,0,0,0,0,0,0,0,0,0,0,0,0,0,0,0,0,0,0,0,0,0,0,0,0,0,0,0,0,0,0,0,0,0,0,0,0,0,0,0,0,0,0] (.seq (.seq (.reg [⟨some 96,none,.mv (.t 13)⟩,⟨some 97,none,.faddr 1 (.t 3)⟩,⟨some 98,none,.load false 1 (.t 97)⟩,⟨some 99,none,.len false (.t 98)⟩,⟨some 100,none,.bin .lss false (.t 96) (.t 99)⟩]) (.cond (.t 100) .skip (.exit 2))) (.seq (.block 3 (.seq (.dreg [[],[0],[],[1,0,2],[3,1,0,2],[4,3,1,0,2],[],[6],[],[7,6,8],[9,7,6,8],[10,9,7,6,8],[5,4,3,1,0,2,11,10,9,7,6,8],[12,5,4,3,1,0,2,11,10,9,7,6,8],[13,12,5,4,3,1,0,2,11,10,9,7,6,8],[14,13,12,5,4,3,1,0,2,11,10,9,7,6,8],[13,12,5,4,3,1,0,2,11,10,9,7,6,8],[15,14,13,12,5,4,3,1,0,2,11,10,9,7,6,8,16],[17,15,14,13,12,5,4,3,1,0,2,11,10,9,7,6,8,16],[18,17,15,14,13,12,5,4,3,1,0,2,11,10,9,7,6,8,16],[13,12,5,4,3,1,0,2,11,10,9,7,6,8],[20,13,12,5,4,3,1,0,2,11,10,9,7,6,8],[13,12,5,4,3,1,0,2,11,10,9,7,6,8],[21,20,13,12,5,4,3,1,0,2,11,10,9,7,6,8,22],[23,21,20,13,12,5,4,3,1,0,2,11,10,9,7,6,8,22],[24,23,21,20,13,12,5,4,3,1,0,2,11,10,9,7,6,8,22],[19,18,17,15,14,13,12,5,4,3,1,0,2,11,10,9,7,6,8,16,25,24,23,21,20,22],[26,19,18,17,15,14,13,12,5,4,3,1,0,2,11,10,9,7,6,8,16,25,24,23,21,20,22],[13,12,5,4,3,1,0,2,11,10,9,7,6,8,27,26,19,18,17,15,14,16,25,24,23,21,20,22]] [⟨some 103,none,.faddr 1 (.t 11)⟩,⟨some 104,none,.load false 1 (.t 103)⟩,⟨some 105,none,.mv (.t 13)⟩,⟨some 106,none,.iaddr 4 (.t 104) (.t 105)⟩,⟨some 107,none,.faddr 0 (.t 106)⟩,⟨some 108,none,.load false 1 (.t 107)⟩,⟨some 109,none,.faddr 1 (.t 3)⟩,⟨some 110,none,.load false 1 (.t 109)⟩,⟨some 111,none,.mv (.t 13)⟩,⟨some 112,none,.iaddr 4 (.t 110) (.t 111)⟩,⟨some 113,none,.faddr 0 (.t 112)⟩,⟨some 114,none,.load false 1 (.t 113)⟩,⟨some 115,none,.bin .neq false (.t 108) (.t 114)⟩,⟨some 116,none,.mv (.t 115)⟩,⟨(some 117),(some (116,false)),(.faddr 1 (.t 11))⟩,⟨(some 118),(some (116,false)),(.load false 1 (.t 117))⟩,⟨(some 119),(some (116,false)),(.mv (.t 13))⟩,⟨(some 120),(some (116,false)),(.iaddr 4 (.t 118) (.t 119))⟩,⟨(some 121),(some (116,false)),(.faddr 3 (.t 120))⟩,⟨(some 122),(some (116,false)),(.load false 1 (.t 121))⟩,⟨(some 123),(some (116,false)),(.faddr 1 (.t 3))⟩,⟨(some 124),(some (116,false)),(.load false 1 (.t 123))⟩,⟨(some 125),(some (116,false)),(.mv (.t 13))⟩,⟨(some 126),(some (116,false)),(.iaddr 4 (.t 124) (.t 125))⟩,⟨(some 127),(some (116,false)),(.faddr 3 (.t 126))⟩,⟨(some 128),(some (116,false)),(.load false 1 (.t 127))⟩,⟨(some 129),(some (116,false)),(.call 12 [(.t 122),(.t 128)])⟩,⟨(some 130),(some (116,false)),(.un .not (.t 129))⟩,⟨some 131,none,.pick (.t 116) (.c (.bool true)) (.t 130)⟩]) (.cond (.t 131) (.seq (.reg [⟨some 2,none,.mv (.c (.bool false))⟩]) .ret) .skip))) (.reg [⟨some 101,none,.mv (.t 13)⟩,⟨some 102,none,.bin .add false (.t 101) (.c (.int .i64 1))⟩,⟨some 13,none,.mv (.t 102)⟩])))))) (.seq (.reg [⟨some 133,none,.mv (.t 0)⟩,⟨some 134,none,.call 15 [(.t 133),(.c (.int .i64 11))]⟩,⟨some 135,none,.call 14 [(.t 134)]⟩,⟨some 136,none,.call 13 [(.t 135)]⟩,⟨some 132,none,.mv (.t 136)⟩,⟨some 137,none,.ext (.t 132) 0⟩,⟨some 138,none,.ext (.t 132) 1⟩,⟨(some 14),none,(.alloc 33 [(.int .i64 0),(.str ⟨#[]⟩),.nil,(.str ⟨#[]⟩),.nil])⟩,⟨none,none,(.store 5 (.t 14) (.t 137))⟩,⟨some 15,none,.mv (.t 138)⟩]) (.seq (.seq (.reg [⟨some 139,none,.mv (.t 15)⟩,⟨some 140,none,.un .not (.t 139)⟩]) (.cond (.t 140) (.seq (.reg [⟨some 2,none,.mv (.c (.bool true))⟩]) .ret) .skip)) (.seq (.reg [⟨some 142,none,.load true 2 (.t 3)⟩,⟨(some 143),none,(.mkrow 76 2 [(.str ⟨#[]⟩),(.int .i64 0)] 0 [])⟩,⟨some 144,none,.load true 5 (.t 14)⟩,⟨some 145,none,.call 7 [(.t 142),(.t 143),(.t 144)]⟩,⟨some 141,none,.mv (.t 145)⟩,⟨some 146,none,.ext (.t 141) 0⟩,⟨some 147,none,.ext (.t 141) 1⟩,⟨some 16,none,.mv (.t 146)⟩,⟨some 17,none,.mv (.t 147)⟩]) (.seq (.reg [⟨some 149,none,.load true 2 (.t 5)⟩,⟨(some 150),none,(.mkrow 76 2 [(.str ⟨#[]⟩),(.int .i64 0)] 0 [])⟩,⟨some 151,none,.load true 5 (.t 14)⟩,⟨some 152,none,.call 7 [(.t 149),(.t 150),(.t 151)]⟩,⟨some 148,none,.mv (.t 152)⟩,⟨some 153,none,.ext (.t 148) 0⟩,⟨some 154,none,.ext (.t 148) 1⟩,⟨some 18,none,.mv (.t 153)⟩,⟨some 19,none,.mv (.t 154)⟩]) (.seq (.reg [⟨some 156,none,.load true 2 (.t 3)⟩,⟨(some 157),none,(.mkrow 76 2 [(.str ⟨#[]⟩),(.int .i64 0)] 0 [])⟩,⟨some 158,none,.load true 5 (.t 14)⟩,⟨some 159,none,.call 8 [(.t 156),(.t 157),(.t 158)]⟩,⟨some 155,none,.mv (.t 159)⟩,⟨some 160,none,.ext (.t 155) 0⟩,⟨some 161,none,.ext (.t 155) 1⟩,⟨some 20,none,.mv (.t 160)⟩,⟨some 21,none,.mv (.t 161)⟩]) (.seq (.reg [⟨some 162,none,.mv (.t 17)⟩,⟨some 163,none,.mv (.t 19)⟩,⟨some 164,none,.bin .eql true (.t 162) (.t 163)⟩,⟨some 165,none,.mv (.t 164)⟩,⟨(some 166),(some (165,true)),(.mv (.t 16))⟩,⟨(some 167),(some (165,true)),(.mv (.t 18))⟩,⟨(some 168),(some (165,true)),(.bin .eql true (.t 166) (.t 167))⟩,⟨some 169,none,.pick (.t 165) (.t 168) (.c (.bool false))⟩,⟨some 170,none,.mv (.t 169)⟩,⟨(some 171),(some (170,true)),(.mv (.t 17))⟩,⟨(some 172),(some (170,true)),(.mv (.t 21))⟩,⟨(some 173),(some (170,true)),(.bin .eql true (.t 171) (.t 172))⟩,⟨some 174,none,.pick (.t 170) (.t 173) (.c (.bool false))⟩,⟨some 2,none,.mv (.t 174)⟩]) .ret))))))))))))))))
theorem E2:Aq Tryz.prog 4=some ⟨175,Dw,[(.tmp 2)]⟩:=by kernel_rfl
theorem E3:modes 4=⟨[],.asis,none,false⟩:=by unfold modes; rfl
theorem Qa7 {m:Ip} {p:List Int} (h:Prm m p) (x:Fm):evF (m.rn p) [] x=evF m [] x:=by
 unfold evF
 rw [Uq h,h.ok]
 show (bif true&&(JJ m.size []&&x.valid) then x.tr (m.rn p) (asg []) else none)=bif true&&(JJ m.size []&&x.valid) then x.tr m (asg []) else none
 cases hv:x.valid with
 | false=>rw [Bool.and_false]; rfl
 | true=>rw [Qax h x (Jn hv).2]
def I5:SC:=(.seq (.reg [⟨some 4,none,.mv (.c (.bool false))⟩]) (.seq (.seq (.reg [⟨some 6,none,.mv (.t 0)⟩,⟨some 7,none,.len false (.t 6)⟩,⟨some 8,none,.mv (.t 1)⟩,⟨some 9,none,.len false (.t 8)⟩,⟨some 10,none,.bin .neq false (.t 7) (.t 9)⟩]) (.cond (.t 10) (.seq (.reg [⟨some 4,none,.mv (.c (.bool false))⟩]) .ret) .skip)) (.seq (.seq (.reg [⟨some 5,none,.mv (.c (.int .i64 0))⟩]) (.block 0 (.loop [1,1,0,0,0,1,0,0,0,0,0,0,0,0,0,0,0,0,0,0,0,0,0,0,0,0] (.seq (.seq (.reg [⟨some 11,none,.mv (.t 5)⟩,⟨some 12,none,.mv (.t 0)⟩,⟨some 13,none,.len false (.t 12)⟩,⟨some 14,none,.bin .lss false (.t 11) (.t 13)⟩]) (.cond (.t 14) .skip (.exit 0))) (.seq (.block 1 (.seq (.dreg [[],[],[0,1],[2,0,1],[],[],[4,5],[6,4,5],[3,2,0,1,7,6,4,5]] [⟨some 17,none,.mv (.t 0)⟩,⟨some 18,none,.mv (.t 5)⟩,⟨some 19,none,.iaddr 1 (.t 17) (.t 18)⟩,⟨some 20,none,.load false 1 (.t 19)⟩,⟨some 21,none,.mv (.t 1)⟩,⟨some 22,none,.mv (.t 5)⟩,⟨some 23,none,.iaddr 1 (.t 21) (.t 22)⟩,⟨some 24,none,.load false 1 (.t 23)⟩,⟨some 25,none,.bin .neq false (.t 20) (.t 24)⟩]) (.cond (.t 25) (.seq (.reg [⟨some 4,none,.mv (.c (.bool false))⟩]) .ret) .skip))) (.reg [⟨some 15,none,.mv (.t 5)⟩,⟨some 16,none,.bin .add false (.t 15) (.c (.int .i64 1))⟩,⟨some 5,none,.mv (.t 16)⟩])))))) (.seq (.reg [⟨some 4,none,.mv (.c (.bool true))⟩]) .ret))))
theorem L8:Aq Tryz.prog 12=some ⟨26,I5,[(.tmp 4)]⟩:=by kernel_rfl
theorem C6:modes 12=⟨[],.asis,none,false⟩:=by unfold modes; rfl
theorem Zr (xs ys:List Int) (hx:xs.length≤1099511627776) (hy:ys.length≤1099511627776):E 12 [.arr (xs.map fun n=>[D.int n]),.arr (ys.map fun n=>[D.int n])] []=some (.bool (dec (xs=ys)),[]):=by
 by_cases hl:xs.length=ys.length
 ·have hq:((xs.length:Int)=(ys.length:Int))=True:=eq_true (by omega)
  refine Al L8 C6 (of_decide_eq_true rfl) ?_
  simp (disch:=omega) only [I5,go_sem,Ab,hq]
  refine go_loop (α:=Int) (fun a=>⟨slots 26 0 [(0,.arr (xs.map fun n=>[D.int n])),(1,.arr (ys.map fun n=>[D.int n])),(5,.int .i64 a)],[]⟩) (fun a=>∃ k:Nat,a=k∧k≤(xs).length∧(xs.drop k=ys.drop k)=(xs=ys)) (fun a=>(xs).length-(a).toNat) 0 ⟨0,rfl,zP _,by rw [zT,zT]⟩ (by simp (disch:=omega) only [go_sem,Ab]) ?_
  rintro i ⟨k,hi,hk,hR⟩
  have hni:i.toNat=k:=by omega
  have hni1:(i+1).toNat=k+1:=by omega
  rcases zM k (xs).length with hlt | hge
  ·have hlt':k<ys.length:=by omega
   have hgx:=get_at (fun n=>[D.int n]) hlt
   have hgy:=get_at (fun n=>[D.int n]) hlt'
   rw [zG hlt,zG hlt',yE] at hR
   by_cases he:xs[k]=ys[k]
   ·have q1:(xs[k]=ys[k])=True:=eq_true he
    have hR':(xs.drop (k+1)=ys.drop (k+1))=(xs=ys):=by rw [←hR,q1]; simp
    simp (disch:=omega) only [go_sem,Ab,hni,hgx,hgy,q1]
    exact ⟨i+1,⟨k+1,by omega,hlt,hR'⟩,by omega,by first | trivial | rfl⟩
   ·have q1:(xs[k]=ys[k])=False:=eq_false he
    have hn:¬ xs=ys:=fun e=>by rw [←hR] at e; exact he e.1
    rw [Aj hn]
    simp (disch:=omega) only [go_sem,Ab,hni,hgx,hgy,q1]
  ·have hxy:xs=ys:=by
    rw [zJ hge,zJ (by omega)] at hR
    rw [←hR]
   rw [Aw hxy]
   simp (disch:=omega) only [go_sem,Ab,hni]
 ·have hq:((xs.length:Int)=(ys.length:Int))=False:=eq_false (by omega)
  rw [Aj (fun e=>hl (by rw [e]))]
  refine Al L8 C6 (of_decide_eq_true rfl) ?_
  simp (disch:=omega) only [I5,go_sem,Ab,hq]
def Ex:SC:=(.seq (.reg [⟨(some 2),none,(.alloc 33 [(.int .i64 0),(.str ⟨#[]⟩),.nil,(.str ⟨#[]⟩),.nil])⟩]) (.seq (.reg [⟨some 4,none,.mv (.t 0)⟩,⟨some 5,none,.build [.nil,(.int .i64 0),(.int .u64 0)] [(0,(1,(.t 4)))]⟩,⟨some 6,none,.boxv 53 3 (.t 5)⟩,⟨some 3,none,.mv (.t 6)⟩]) (.seq (.reg [⟨some 7,none,.mv (.t 3)⟩,⟨some 8,none,.call 18 [(.t 7)]⟩,⟨none,none,(.store 5 (.t 2) (.t 8))⟩]) .ret)))
theorem GX:Aq Tryz.prog 14=some ⟨9,Ex,[(.cell 2 true 5)]⟩:=by kernel_rfl
theorem AP:modes 14=⟨[],.frz,none,false⟩:=by unfold modes; rfl
theorem XK (l:List Int) (hl:Bytes l) (hn:l.length≤1099511627776):∃ x:Fm,E 14 [.arr (l.map by_)] []=some (x.sv,[])∧x.tame∧x.nodes≤100:=by
 obtain ⟨Q,hQ⟩:∃ Q:SV × List Ob→Prop,Q=fun out=>∃ x,out=(Fm.sv x,[])∧x.tame∧x.nodes≤100:=⟨_,rfl⟩
 suffices hq0:∃ out,E 14 [.arr (l.map by_)] []=some out∧Q out by
  obtain ⟨out,hq1,hq2⟩:=hq0
  rw [hQ] at hq2
  obtain ⟨x,rfl,hq3⟩:=hq2
  exact ⟨x,hq1,hq3⟩
 obtain ⟨x,p1,s1,hx,⟨g1,g2⟩,g3,hta⟩:=QF l hl hn 0 0 (by omega) (by omega)
 have hxs:x.sv=.agg [.int .i64 x.op,.str x.atom.name,.arr (x.atom.args.map Tm.d),.str x.var,.arr (x.parts.map Fm.d)]:=rfl
 refine AM GX AP (of_decide_eq_true rfl) ?_
 simp (disch:=omega) only [Ex,go_sem,Ab,hx,Bg]
 rw [hQ]
 exact ⟨x,rfl,hta,g3⟩
theorem VI (q:List Int):(backL q 0).map (fun n=>[OT.int n])=zL q.length [OT.int 0]:=by
 unfold backL
 rw [LX,List.map_replicate]
theorem VJ {q:List Int} {k:Nat} (hk:k<q.length):((backL q k).map fun n=>[OT.int n]).set (q[k]).toNat [OT.int (k:Int)]=(backL q (k+1)).map fun n=>[OT.int n]:=by
 have e:backL q (k+1)=(backL q k).set (q[k]).toNat (k:Int):=by
  unfold backL
  rw [LX,CH hk]
 rw [e,List.map_set]
theorem Sr (x:Fm):(PV x).tame∧(PV x).nodes≤1099511627776:=by
 unfold PV
 cases h:PU x with
 | false =>
  rw [cond_false]
  have hz:Tm.zero.nodes=1:=by rw [Tm.nodes_eq]; show 1+Tm.nodeS []=1; rw [Tm.nodeS]
  refine ⟨?_,?_⟩
  ·rw [Fm.It]
   refine ⟨by show Tm.zero.nodes≤_; omega,?_⟩
   show Fm.D9 []
   rw [Fm.D9]; trivial
  ·rw [Fm.nodes_eq]
   show 1+Fm.nodeS []≤_
   rw [Fm.nodeS]; omega
 | true =>
  rw [cond_true]
  unfold PU at h
  rw [zZ] at h
  obtain ⟨h1,h2⟩:=Jn h.2
  exact ⟨Fm.KD _ h2,by omega⟩
theorem evb (o:Option Bool):o=none∨o=some true∨o=some false:=by
 rcases o with _ | b
 ·exact .inl rfl
 ·cases b
  ·exact .inr (.inr rfl)
  ·exact .inr (.inl rfl)
theorem XL {S:List Tl} {k:Nat} (h:k<S.length):(S.map Tl.o)[k]?=some [.str S[k].name,.int S[k].arity,.bool S[k].pred,.ow (S[k].vals.map fun n=>[OT.int n])]:=by
 rw [yC,zO h]; rfl
theorem XM {S:List Tl} {k:Nat} (h:k<S.length) (y:List OT):((S.map Tl.o).set k y)[k]?=some y:=by
 rw [List.getElem?_set_self (by rw [zR]; exact h)]
theorem XN {S:List Tl} {k:Nat} (h:k<S.length) (y:List OT):((S.map Tl.o).set k y).set k [.str S[k].name,.int S[k].arity,.bool S[k].pred,.ow (S[k].vals.map fun n=>[OT.int n])]=S.map Tl.o:=by
 rw [List.set_set]
 apply List.ext_getElem?
 intro j
 by_cases e:k=j
 ·subst e
  rw [List.getElem?_set_self (by rw [zR]; exact h),XL h]
 ·rw [List.getElem?_set_ne e]
theorem Zs (l:List Int) (hl:Bytes l):E 4 [.arr (l.map by_)] []=some (.bool true,[]):=by
 have hbig:=Qa5 l
 by_cases hb:65536<(l.length:Int)
 ·rw [Aw hb] at hbig
  refine Al E2 E3 (of_decide_eq_true rfl) ?_
  simp (disch:=omega) only [Dw,go_sem,Ab,hbig,Do,C6,CQ,AO,AP,AR,AS,AD,AI,Bm]
 ·rw [Aj hb] at hbig
  obtain ⟨m,q,hd,hdm,hq6⟩:=Jk l hl (by omega)
  have hms:m.sv=.agg [.int .i64 m.size,.arr (m.tables.map Tl.d)]:=rfl
  have hmt:=hdm.tame
  have hsm:m.tables.length≤1048576∧∀ t∈m.tables,t.vals.length≤1048576:=⟨by have:=hdm.len; omega,fun t ht=>by have:=hdm.vals t ht; omega⟩
  have a1:=HZ m hmt hsm q (by omega)
  have b1:=JL m hmt q (by omega)
  rw [hms] at hd a1 b1
  cases hok:Ge m q with
  | false =>
   have hz:H2 m q=⟨0,[]⟩:=by unfold H2; rw [hok]; rfl
   rw [hok,hz] at a1 b1
   refine Al E2 E3 (of_decide_eq_true rfl) ?_
   simp (disch:=omega) only [Dw,go_sem,Ab,hbig,hd,a1,b1,zK,Do,C6,CQ,AO,AP,AR,AS,AD,AI,Bm]
  | true =>
   have hz:H2 m q=m.rn q:=by unfold H2; rw [hok]; rfl
   have hpm:Prm m q:=by unfold Ge at hok; rw [zZ] at hok; exact ⟨hok.1,hok.2⟩
   have hql:=hpm.len
   have hon:=hpm.on
   have rn2:Ge (m.rn q) (backL q q.length)=true:=by unfold Ge; rw [Uq hpm]; exact RV (m:=m) hpm
   have rz2:H2 (m.rn q) (backL q q.length)=(m.rn q).rn (backL q q.length):=by unfold H2; rw [rn2]; rfl
   have htt:∀ t∈(m.rn q).tables,t.vals.length≤10:=fun t ht=>by
    obtain ⟨u,hu,rfl⟩:=List.mem_map.1 ht
    show ((z7 u.vals.length).map _).length≤10
    rw [zR,List.length_range]
    exact hdm.vals u hu
   have hTl:(m.rn q).tables.length=m.tables.length:=zR _
   have a2:=HZ (m.rn q) ⟨by have:=hdm.len; omega,fun t ht=>by have:=htt t ht; omega⟩ ⟨by have:=hdm.len; omega,fun t ht=>by have:=htt t ht; omega⟩ (backL q q.length) (by rw [Gz]; omega)
   have hback:∀ (k:Nat) (h:k<m.tables.length) (h':k<((m.rn q).rn (backL q q.length)).tables.length),(((m.rn q).rn (backL q q.length)).tables[k]).name=m.tables[k].name∧(((m.rn q).rn (backL q q.length)).tables[k]).vals=m.tables[k].vals:=fun k h h'=>by
    have e:((m.rn q).rn (backL q q.length)).tables[k]=(m.tables[k].rn m.size q).rn m.size (backL q q.length):=by
     show (((m.tables.map (Tl.rn m.size q)).map (Tl.rn m.size (backL q q.length)))[k]'(by simpa using h))=_
     rw [yN,yN]
    rw [e]
    exact ⟨rfl,Zf hpm (zQ h)⟩
   have hSl:((m.rn q).rn (backL q q.length)).tables.length=m.tables.length:=by
    show ((m.tables.map (Tl.rn m.size q)).map _).length=_
    rw [zR,zR]
   rw [hok,hz] at a1 b1
   rw [rn2,rz2] at a2
   have hns:(m.rn q).sv=.agg [.int .i64 m.size,.arr ((m.rn q).tables.map Tl.d)]:=rfl
   have sz1:(m.rn q).size=m.size:=rfl
   have sz2:((m.rn q).rn (backL q q.length)).size=m.size:=rfl
   rw [sz1] at a1 b1
   rw [sz2,hns] at a2
   have hvc:=Qa6 l (by omega) 11 (by omega) (by omega)
   obtain ⟨g,hg,hgt,hgn⟩:=XK (QG l 11) (T6 hl 11) (by have:=XI l 11; omega)
   have hcl:=Mi g hgt (by omega)
   have hgs:g.sv=.agg [.int .i64 g.op,.str g.atom.name,.arr (g.atom.args.map Tm.d),.str g.var,.arr (g.parts.map Fm.d)]:=rfl
   rw [hgs] at hg hcl
   obtain ⟨F,hF⟩:∃ F,F=PV g:=⟨_,rfl⟩
   obtain ⟨hFt,hFn⟩:F.tame∧F.nodes≤1099511627776:=by rw [hF]; exact Sr g
   rw [←hF] at hcl
   have hFs:F.sv=.agg [.int .i64 F.op,.str F.atom.name,.arr (F.atom.args.map Tm.d),.str F.var,.arr (F.parts.map Fm.d)]:=rfl
   have e1:=Hs m hmt [] (by simp) F hFt hFn
   have e2:=Hs (m.rn q) ⟨by have:=hdm.len; omega,fun t ht=>by have:=htt t ht; omega⟩ [] (by simp) F hFt hFn
   have e3:=Jw m hmt [] (by simp) F hFt hFn
   rw [Qa7 hpm] at e2
   rw [hms,hFs,zK] at e1 e3
   rw [hns,hFs,zK] at e2
   rw [hFs] at hcl
   generalize hT:(m.rn q).tables=T at *
   generalize hS:((m.rn q).rn (backL q q.length)).tables=S at *
   unfold XA at e1 e2 e3
   have hbz:=VI q
   refine Al E2 E3 (of_decide_eq_true rfl) ?_
   simp (disch:=omega) only [Dw,go_sem,Ab,hbig,hd,a1,b1,Do,C6,CQ,AO,AP,AR,AS,AD,AI,Bm]
   refine go_loop (α:=Int) (fun i=>⟨slots 175 0 [(0,.arr (l.map by_)),(3,.ptr 0 0),(4,.arr (q.map fun n=>[D.int n])),(5,.ptr 1 0),(9,.ref 2),(10,.int .i64 i)],[.box 26 [.int .i64 m.size,.arr (m.tables.map Tl.d)],.box 26 [.int .i64 m.size,.ref 3],.row 3 1 ((backL q i.toNat).map fun n=>[OT.int n]),.tree (T.map Tl.o) []]⟩) (fun i=>∃ k:Nat,i=k∧k≤q.length) (fun i=>(q.length-i).toNat) 0 ⟨0,rfl,zP _⟩ (by simp (disch:=omega) only [go_sem,Ab,hbz,yS]) ?_
   rintro i ⟨k,hi,hk⟩
   have hni:i.toNat=k:=by omega
   have hni1:(i+1).toNat=k+1:=by omega
   rcases zM k q.length with hlt | hge
   ·have hgq:=get_at (fun n=>[D.int n]) hlt
    have hr:=hon k (by omega) (by omega)
    unfold pf at hr
    rw [Int.toNat_natCast,CH hlt] at hr
    have hbl:=Gz q k
    have hnx:=VJ hlt
    rw [←hi] at hnx
    obtain ⟨u,hu⟩:∃ u,(backL q k)[(q[k]).toNat]?=some u:=⟨(backL q k)[(q[k]).toNat]'(by rw [hbl]; omega),zO _⟩
    have hgo:((backL q k).map fun n=>[OT.int n])[(q[k]).toNat]?=some [OT.int u]:=by rw [yC,hu]; rfl
    have q1:(i<(q.length:Int))=True:=eq_true (by omega)
    have hlt2:(q[k]).toNat<(backL q k).length:=by omega
    simp (disch:=omega) only [go_sem,Ab,hni,hgq,q1,hbl,hgo,hnx,Do,C6,CQ,AO,AP,AR,AS,AD,AI,Bm]
    exact ⟨i+1,⟨k+1,by omega,hlt⟩,by omega,by rw [hni1]; exact ⟨rfl,rfl⟩⟩
   ·obtain rfl:k=q.length:=by omega
    have q1:(i<(q.length:Int))=False:=eq_false (by omega)
    simp (disch:=omega) only [go_sem,Ab,hni,q1,a2,hTl,hSl,Gz,Do,C6,CQ,AO,AP,AR,AS,AD,AI,Bm]
    refine go_loop (α:=Int) (fun i=>⟨slots 175 0 [(0,.arr (l.map by_)),(3,.ptr 0 0),(5,.ptr 1 0),(11,.ptr 2 0),(13,.int .i64 i)],[.box 26 [.int .i64 m.size,.arr (m.tables.map Tl.d)],.box 26 [.int .i64 m.size,.ref 3],.box 26 [.int .i64 m.size,.ref 4],.tree (T.map Tl.o) [],.tree (S.map Tl.o) []]⟩) (fun i=>∃ k:Nat,i=k∧k≤m.tables.length) (fun i=>(m.tables.length-i).toNat) 0 ⟨0,rfl,zP _⟩ (by simp (disch:=omega) only [go_sem,Ab,hbz,yS]) ?_
    rintro j ⟨k,hj,hkm⟩
    have hnj:j.toNat=k:=by omega
    rcases zM k m.tables.length with hlt | hge
    ·have hlS:k<S.length:=by omega
     have hgm:=get_at Tl.d hlt
     rw [Tl.d_eq] at hgm
     have hgS:=XL hlS
     obtain ⟨hbn,hbv⟩:=hback k hlt hlS
     have hho:=XM hlS
     have hbk:=XN hlS
     have hvi:=Zr m.tables[k].vals m.tables[k].vals (by have:=hdm.vals _ (zQ hlt); omega) (by have:=hdm.vals _ (zQ hlt); omega)
     rw [Aw rfl] at hvi
     rw [hbn,hbv] at hgS hbk
     have q2:(j<(m.tables.length:Int))=True:=eq_true (by omega)
     simp (disch:=omega) only [go_sem,Ab,hnj,q2,hgm,hgS,hho,hbk,hvi,Do,C6,CQ,AO,AP,AR,AS,AD,AI,Bm]
     exact ⟨j+1,⟨k+1,by omega,hlt⟩,by omega,by first | trivial | rfl⟩
    ·have q2:(j<(m.tables.length:Int))=False:=eq_false (by omega)
     cases hc:PU g with
     | false =>
      rw [hc] at hcl
      simp (disch:=omega) only [go_sem,Ab,q2,hvc,hg,hcl,Do,C6,CQ,AO,AP,AR,AS,AD,AI,Bm]
     | true =>
      rw [hc] at hcl
      rcases evb (evF m [] F) with ho | ho | ho
      all_goals
       rw [ho] at e1 e2 e3
       simp (disch:=omega) only [go_sem,Ab,q2,hvc,hg,hcl,e1,e2,e3,zC,zD,zA,zB,Do,C6,CQ,AO,AP,AR,AS,AD,AI,Bm]
end Go.Proofs.YtoglfpfdhojaaaaGreat
set_option maxRecDepth 100000
set_option linter.unusedSimpArgs false
set_option linter.unusedVariables false
set_option linter.unusedSectionVars false
namespace Go.Proofs.YtoglfpfdhojaaaaGreat
open Go.RowKit Go.ChangeShapes Go.WideShapes Go.ChangeAt Go.Deep
section
variable {H:Type} {enc:TypeId × Value→H} {P:Program} {w:World} {base:Nat} {spare:Nat→Bool} {held:Bool}
theorem J1 {b o k:Nat}:(⟨b,o,none⟩:Addr).add k=⟨b,o+k,none⟩:=by
 unfold Addr.add; split
 ·subst_vars; rfl
 ·rfl
theorem Zt {a:Addr} {v:Value} (h:w.cell? a=some v):a.block<w.heap.size:=by
 unfold World.cell? at h
 cases hb:w.heap[a.block]? with
 | none=>rw [hb] at h; cases h
 | some o=>exact (Array.getElem?_eq_some_iff.1 hb).1
end
section
variable {H:Type} {enc:TypeId × Value→H} {w:World} {base:Nat} {spare:Nat→Bool} {held:Bool}
end
end Go.Proofs.YtoglfpfdhojaaaaGreat
set_option maxRecDepth 100000
set_option linter.unusedSimpArgs false
set_option linter.unusedVariables false
set_option linter.unusedSectionVars false
namespace Go.Proofs.YtoglfpfdhojaaaaGreat
open Go.RowKit Go.ChangeShapes Go.WideShapes Go.ChangeAt Go.Deep
section
variable {H:Type} {enc:TypeId × Value→H} {P:Program} {w:World} {base:Nat} {spare:Nat→Bool} {held:Bool}
theorem XO {t e:TypeId} {fuel:Nat} {v:Value} {x:DataW H × List MemPlace} (sz:Nat) (hsz:P.cellsOf e=sz) (h0:0<sz) (ht:P.underlying t=some (.slice e)) (h:DataW.trod enc P w base spare held fuel t [v]=some x) :
  ∃ (a:Option Addr) (len cap:Nat) (f:Nat→Nat→Value),v=.slice a len cap∧len≤cap∧cap≤9223372036854775807∧SlA w 0 sz len f a ∧
   ∀ i,i<len→∃ n x',n<fuel∧DataW.trod enc P w base spare held n e ((z7 sz).map (f i))=some x':=by
 rcases DataW.trod_slice ht h with ⟨hcs,_⟩ | ⟨a,len,cap,elems,rest,n,hf,hcs,hx,hb,hl,hm,hlen,hel,_,_⟩
 ·simp only [yE,and_true] at hcs
  exact ⟨none,0,0,fun _ _=>undef,hcs,yQ _,by omega,.inl rfl,fun i hi=>absurd hi (by omega)⟩
 ·have hi:∀ i,i<len→∃ cs' x',w.cells? base (a.add (i*sz)) sz=some cs'∧DataW.trod enc P w base spare held n e cs'=some x':=by
   intro i hi
   have h1:=hel i hi
   rw [hsz,zO (by omega)] at h1
   obtain ⟨cs',h2,h3⟩:=Option.bind_eq_some_iff.1 h1
   exact ⟨cs',_,h2,h3⟩
  have hcell:∀ i j,i<len→j<sz→∃ v,w.cell? (a.add (i*sz+j))=some v:=by
   intro i j hil hj
   obtain ⟨cs',x',hc,_⟩:=hi i hil
   obtain ⟨_,hcl,hat⟩:=World.cells?_some hc
   have h1:=hat j hj
   rw [Go.Deep.add_add,zO (by omega)] at h1
   exact ⟨_,h1⟩
  simp only [yE,and_true] at hcs
  refine ⟨some a,len,cap,fun i j=>(w.cell? (a.add (i*sz+j))).getD undef,hcs,hl,hm,?_,?_⟩
  ·rcases zN len with h | h
   ·exact .inl h
   ·obtain ⟨v,hv⟩:=hcell 0 0 h h0
    rw [Nat.zero_mul,Nat.zero_add] at hv
    have hsp:a.spot=none:=by simpa [Addr.add] using World.cell?_spot hv
    have hlt:=Zt hv
    obtain ⟨b,off,spot⟩:=a
    simp only at hsp
    subst hsp
    refine .inr ⟨b,off,rfl,zP _,by simpa [Addr.add] using hlt,fun i j hil hj=>?_⟩
    obtain ⟨v',hv'⟩:=hcell i j hil hj
    rw [J1] at hv'
    show _=some ((w.cell? ((⟨b,off,none⟩:Addr).add (i*sz+j))).getD undef)
    rw [J1,Nat.add_assoc,hv']
    rfl
  ·intro i hil
   obtain ⟨cs',x',hc,ht'⟩:=hi i hil
   obtain ⟨_,hcl,hat⟩:=World.cells?_some hc
   refine ⟨n,x',by omega,?_⟩
   have hcs':(z7 sz).map (fun j=>(w.cell? (a.add (i*sz+j))).getD undef)=cs':=by
    apply List.ext_getElem?
    intro j
    by_cases hj:j<sz
    ·rw [yC,List.getElem?_range hj]
     have h1:=hat j hj
     rw [Go.Deep.add_add] at h1
     rw [zO (by omega:j<cs'.length)] at h1 ⊢
     simp [h1]
    ·rw [List.getElem?_eq_none (by simp; omega),List.getElem?_eq_none (by omega)]
   rw [hcs']
   exact ht'
end
inductive Lvs (w:World):List D→List Value→Prop
 |nil:Lvs w [] []
 |cons {d:D} {v:Value} {ds:List D} {vs:List Value} (h:DAt w d v) (hs:Lvs w ds vs):Lvs w (d :: ds) (v :: vs)
theorem Lvs.len {w:World} {ds:List D} {vs:List Value} (h:Lvs w ds vs):ds.length=vs.length:=by
 induction h with
 | nil=>rfl
 | cons h hs ih=>simp [ih]
theorem Lvs.get {w:World} {ds:List D} {vs:List Value} (h:Lvs w ds vs):∀ j (h1:j<ds.length) (h2:j<vs.length),DAt w ds[j] vs[j]:=by
 induction h with
 | nil=>intro j h1; simp at h1
 | cons h hs ih =>
  intro j h1 h2
  cases j with
  | zero=>exact h
  | succ j=>exact ih j (by simpa using h1) (by simpa using h2)
theorem XP {α:Type} [Inhabited α] (dd:α→List D) {w:World} {m len cap:Nat} {f:Nat→Nat→Value} {a:Option Addr} (hl:len≤cap) (hm:cap≤9223372036854775807) (hS:SlA w 0 m len f a)
  (hel:∀ i,i<len→∃ X:α,Lvs w (dd X) ((z7 m).map (f i))):∃ xs:List α,DAt w (.arr (xs.map dd)) (.slice a len cap):=by
 obtain ⟨g,hg⟩:∃ g:Nat→α,∀ i,i<len→Lvs w (dd (g i)) ((z7 m).map (f i)) :=
  ⟨fun i=>if h:i<len then (hel i h).choose else default,fun i hi=>by simp only [hi,dif_pos]; exact (hel i hi).choose_spec⟩
 refine ⟨(z7 len).map g,?_⟩
 have hlen:(((z7 len).map g).map dd).length=len:=by simp
 have:=DAt.Z2 (w:=w) (es:=((z7 len).map g).map dd) (sz:=m) (cap:=cap) (a:=a) (f:=f) (by rw [hlen]; exact hl) hm (by rw [hlen]; exact hS) (fun i hi=>by
  rw [hlen] at hi
  have:=(hg i hi).len
  simpa using this) (fun i j hi hj=>by
  rw [hlen] at hi
  have h1:=hg i hi
  have h2:=h1.len
  simp only [zR,List.length_range] at h2
  simp only [yN,List.getElem_range] at hj ⊢
  have:=h1.get j hj (by simp; omega)
  simpa using this)
 rw [hlen] at this
 exact this
instance:Inhabited Tm:=⟨Tm.zero⟩
instance:Inhabited Fm:=⟨Fm.zero⟩
section
variable {H:Type} {enc:TypeId × Value→H} {w:World} {base:Nat} {spare:Nat→Bool} {held:Bool}
end
end Go.Proofs.YtoglfpfdhojaaaaGreat
set_option maxRecDepth 100000
set_option linter.unusedSimpArgs false
set_option linter.unusedVariables false
set_option linter.unusedSectionVars false
namespace Go.Proofs.YtoglfpfdhojaaaaGreat
open Go.RowKit
theorem DRep.lt_ {own:Bool} {w:World} {S:Nat→Prop} {d:D} {v:Value} (h:DRep own w S d v):DRep own w (fun b=>S b∧b<w.heap.size) d v:=by
 induction h with
 | int S n=>exact .int _ n
 | byte S n=>exact .byte _ n
 | nl S=>exact .nl _
 | bool S b=>exact .bool _ b
 | str S s h=>exact .str _ s h
 | arr S sz es a cap f Sub h1 h2 h3 h4 h5 h6 h7 ih =>
  refine .arr _ sz es a cap f (fun i j x=>Sub i j x∧x<w.heap.size) h1 h2 ?_ h4 (fun i j x h=>⟨h5 i j x h.1,h.2⟩) (fun ho i j i' j' x h h'=>h6 ho i j i' j' x h.1 h'.1) ih
  rcases h3 with h3 | ⟨b,off,ha,hS,hl,hc,ho⟩
  ·exact .inl h3
  ·exact .inr ⟨b,off,ha,⟨hS,hl⟩,hl,hc,fun h=>⟨fun i j hx=>(ho h).1 i j hx.1,(ho h).2⟩⟩
theorem DAt.rep {w:World} {es:List (List D)} {v:Value} (h:DAt w (.arr es) v):RepV w (fun b=>b<w.heap.size) (fun _=>none) (.arr es) v:=by
 simp only [RepV]
 exact (DRep.lt_ h).up fun b hb=>hb.2
theorem Fun.yes {f:FuncId} {args:List SV} (h:Fun Tryz.prog f args [] (.bool true) []) {w:World} {vs:List Value} (hgl:GL w fun b=>b<w.heap.size) (hvs:RepVs w (fun b=>b<w.heap.size) (fun _=>none) args vs):Calls Tryz.prog f vs.toArray w (Ret w (.bool true)):=by
 have nl:∀ g,¬ (As [] g).live:=fun g hg=>by simp [As,Ob.live] at hg
 refine (h w (fun b=>b<w.heap.size) (fun _=>none) (fun _ _=>False) vs ⟨fun b hb=>hb,fun g hg=>absurd hg (nl g),fun g b hg=>absurd hg (nl g),fun g b hg=>absurd hg (nl g),fun g g' b hg=>absurd hg (nl g),fun g _=>rfl,hgl⟩ hvs).mono ?_
 rintro e w' ⟨v,I',V',B',rfl,hr,hp⟩
 simp only [RepV] at hr
 subst hr
 exact ⟨rfl,hp.fr.os,hp.fr.tape.1,hp.fr.output,hp.fr.size,fun b hb=>hp.fr.block b hb fun ⟨g,hg,_⟩=>absurd hg (nl g)⟩
theorem XQ {w:World} {I:Nat→Prop} {V:Nat→Option Value}:RepVs w I V [] []:=by simp [RepVs]
theorem VK {w:World} {I:Nat→Prop} {V:Nat→Option Value} {x:SV} {xs:List SV} {v:Value} {vs:List Value} (h:RepV w I V x v) (hs:RepVs w I V xs vs):RepVs w I V (x :: xs) (v :: vs):=by
 simp only [RepVs]; exact ⟨v,vs,rfl,h,hs⟩
section
variable {H:Type} {enc:TypeId × Value→H} {w:World} {base:Nat} {spare:Nat→Bool} {held:Bool}
end
end Go.Proofs.YtoglfpfdhojaaaaGreat
set_option maxRecDepth 100000
set_option linter.unusedSimpArgs false
set_option linter.unusedVariables false
set_option linter.unusedSectionVars false
namespace Go.Proofs.YtoglfpfdhojaaaaGreat
open Go.RowKit Go.ChangeShapes Go.WideShapes Go.ChangeAt Go.Deep
section
variable {H:Type} {enc:TypeId × Value→H} {w:World} {base:Nat} {spare:Nat→Bool} {held:Bool}
abbrev ByteZ:={ b:Int // 0≤b∧b≤255 }
instance:Inhabited ByteZ:=⟨⟨0,by omega⟩⟩
theorem VL {fuel:Nat} {v:Value} {x:DataW H × List MemPlace} (h:DataW.trod enc Tryz.prog w base spare held fuel 22 [v]=some x):∃ l:List Int,Bytes l∧DAt w (.arr (l.map by_)) v:=by
 obtain ⟨a,len,cap,f,rfl,hl,hm,hS,hr⟩:=XO (P:=Tryz.prog) 1 (by kernel_rfl) (by omega) Tryz.underlying22 h
 obtain ⟨xs,hx⟩:=XP (fun s:ByteZ=>[D.byte s.1]) hl hm hS fun i hi=>by
  obtain ⟨n,x',hn,h1⟩:=hr i hi
  obtain ⟨z,q,_,hw⟩:=DataW.trod_int Tryz.underlying5 h1
  have h2:(decide (IntKind.u8.min≤z)&&decide (z≤IntKind.u8.max))=true:=hw
  rw [zZ,decide_eq_true_eq,decide_eq_true_eq] at h2
  rw [q]
  exact ⟨⟨z,h2.1,h2.2⟩,.cons (.byte _ z) .nil⟩
 refine ⟨xs.map (·.1),fun b hb=>?_,?_⟩
 ·obtain ⟨s,_,rfl⟩:=List.mem_map.1 hb
  exact s.2
 ·rw [yO]
  exact hx
end
end Go.Proofs.YtoglfpfdhojaaaaGreat
